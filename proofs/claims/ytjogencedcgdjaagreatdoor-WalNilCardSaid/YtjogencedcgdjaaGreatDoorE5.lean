/- The evaluator is right: operations that read, one by one. Program-agnostic. -/
import Derived.Test.YtjogencedcgdjaaGreatDoorE4m
import Derived.Laws.BytesString
namespace Go.Proofs.YtjogencedcgdjaaGreatDoor.Ev
open Go.RowKit Go.Proofs.YtjogencedcgdjaaGreatDoor.W

section
variable {ω : Nat → Value} {s : Sg} {w0 w : World} {st : Stt} {A : AE} {E : Env} {P : Program} {o : Oper}
theorem rd_field {t : TypeId} {x : Operand} {i : Nat} {a : AV} {cs : List AV} {fs : Array Field} {f : Field} (ho : o.op = .field t x i) (hE : EnvOK ω s A E) (hx : opd A x = some (.agg cs)) (hu : P.underlying t = some (.struct fs)) (hf : fs[i]? = some f) (h : partA P f.type cs f.offset = some a) :
    ∃ v, OpV P o E w v ∧ Rel ω s a v := by
  have hr := opd_ok hx hE
  simp only [Rel] at hr
  obtain ⟨vs, hr, he⟩ := hr
  rcases part_ok h hr with ⟨v, hp, hv, hrel⟩ | ⟨sz, us, hp, hle, hus, hlen, hrel⟩
  · refine ⟨v, ?_, hrel⟩
    simp [OpV, execOp, ho, he, go_sem, Instr.field, underlying, hu, hf, asAgg, part, is_agg_no hp, hv]
  · refine ⟨_, ?_, hrel⟩
    have : vs.toArray.extract f.offset (f.offset + sz) = us.toArray := by
      subst hus; simp [List.extract_eq_take_drop]
    simp [OpV, execOp, ho, he, go_sem, Instr.field, underlying, hu, hf, asAgg, part, is_agg_yes hp, size_of hp.2, ← this]
theorem rd_load {t : TypeId} {x : Operand} {a : AV} {p : AV} (ho : o.op = .load t x) (hH : Hold ω s w0 st w) (hE : EnvOK ω s A E) (hx : opd A x = some p) (h : evRead P st t p = some a) :
    ∃ v, OpV P o E w v ∧ Rel ω s a v := by
  have hr := opd_ok hx hE
  unfold evRead at h
  split at h
  · rename_i l k
    split at h
    · rename_i b hl
      obtain ⟨bk, c, vs, h1, h2, h3⟩ := hH.cells hl
      obtain ⟨bk', c', h4, he⟩ := hr.ptr_of
      rw [h1] at h4; cases h4
      rcases part_ok h h2 with ⟨v, hp, hv, hrel⟩ | ⟨sz, us, hp, hle, hus, hlen, hrel⟩
      · exact ⟨v, V.load ho hp he (by have := h3 k v hv; rwa [Nat.zero_add] at this), hrel⟩
      · exact ⟨_, V.loadAgg ho hp he (At.part h3 hus) hlen, hrel⟩
    · cases h
  · cases h
theorem loadVar_ok {t : TypeId} {v : Value} {a p : AV} (hH : Hold ω s w0 st w) (hp : Rel ω s p v) (h : evRead P st t p = some a) : ∃ b k u, v = .pointer (some ⟨b, k, none⟩) ∧ (loadVar t ⟨b, k, none⟩).run P w = .ok u w ∧ Rel ω s a u := by
  unfold evRead at h
  split at h
  · rename_i l k
    split at h
    · rename_i b hl
      obtain ⟨bk, c, vs, h1, h2, h3⟩ := hH.cells hl
      obtain ⟨bk', c', h4, he⟩ := hp.ptr_of
      rw [h1] at h4; cases h4
      rcases part_ok h h2 with ⟨v, hp, hv, hrel⟩ | ⟨sz, us, hp, hle, hus, hlen, hrel⟩
      · exact ⟨bk, k, v, he, run_loadVar_one hp (by have := h3 k v hv; rwa [Nat.zero_add] at this), hrel⟩
      · exact ⟨bk, k, _, he, run_loadVar_agg hp (At.part h3 hus) hlen, hrel⟩
    · cases h
  · cases h
theorem rd_slice {t : TypeId} {x : Operand} {lo hi mx : Option Operand} {a : AV} (ho : o.op = .slice t x lo hi mx) (hH : Hold ω s w0 st w) (hE : EnvOK ω s A E) (h : evSlice P st A t x lo hi mx = some a) :
    ∃ v, OpV P o E w v ∧ Rel ω s a v := by
  unfold evSlice at h
  split at h
  · rename_i l k n c ex e hx hu
    have hr := opd_ok hx hE
    obtain ⟨b, cp, hb, he⟩ := hr.sl_of
    split at h
    · rename_i sz i j hsz hlo hhi
      have hlo' := bnd_ok hlo hE
      have hhi' := bnd_ok hhi hE
      cases mx with
      | none =>
        simp only at h
        cases hc : (Nat.ble i j && Nat.ble j n && (ex || Nat.blt i n || Nat.beq i 0) && fitsA st sz l c n ex) with
        | false => rw [hc] at h; simp at h
        | true =>
          rw [hc] at h
          simp only [cond_true, Option.some.injEq] at h
          subst h
          simp only [Bool.and_eq_true, Bool.or_eq_true] at hc
          obtain ⟨⟨⟨h1, h2⟩, h3⟩, h4⟩ := hc
          have h1 := ble_t h1; have h2 := ble_t h2
          have h4 := fits_ok hH h4 hb
          refine ⟨_, V.sliceSlice ho hu (szOf_sized hsz) he (by cases lo with | none => exact hlo'.1 rfl | some y => exact hlo'.2 y rfl) (by cases hi with | none => exact hhi'.1 rfl | some y => exact hhi'.2 y rfl) h1 (by omega), ?_⟩
          simp only [Rel]
          refine ⟨b, cp, hb, ?_⟩
          cases ex with
          | true =>
            simp only [cond_true, Bool.true_and]
            cases hq : Nat.beq c i with
            | true => rw [if_pos (beq_t hq)]; simp
            | false => rw [if_neg (beq_f hq)]; simp
          | false =>
            have hz : (if (bif false then c else cp - c) = i then 0 else i * sz) = i * sz := by
              split
              · rename_i e1
                rcases h3 with (h3 | h3) | h3
                · cases h3
                · have := blt_t h3; simp only [cond_false] at e1 h4; omega
                · rw [beq_t h3]; simp
              · rfl
            rw [hz]
            simp only [cond_false, Bool.false_and]; congr 1; omega
      | some m =>
        simp only at h
        split at h
        · rename_i y m' hm
          have hm' := bnd_ok hm hE
          cases hc : (Nat.ble i j && Nat.ble j m' && Nat.ble m' n && fitsA st sz l c n ex) with
          | false => rw [hc] at h; simp at h
          | true =>
            rw [hc] at h
            simp only [cond_true, Option.some.injEq] at h
            subst h
            simp only [Bool.and_eq_true, Bool.or_eq_true] at hc
            obtain ⟨⟨⟨h1, h2⟩, h5⟩, h4⟩ := hc
            have h1 := ble_t h1; have h2 := ble_t h2; have h5 := ble_t h5
            have h4 := fits_ok hH h4 hb
            refine ⟨_, V.slice3 ho hu (szOf_sized hsz) he (by cases lo with | none => exact hlo'.1 rfl | some y => exact hlo'.2 y rfl) (hhi'.2 _ rfl) (hm'.2 _ rfl) h1 h2 (by omega), ?_⟩
            simp only [Rel]
            refine ⟨b, cp, hb, ?_⟩
            cases hq : Nat.beq m' i with
            | true => rw [if_pos (beq_t hq)]; simp
            | false => rw [if_neg (beq_f hq)]; simp
        · cases h
    · cases h
  · rename_i l k n e hx hu
    have hr := opd_ok hx hE
    obtain ⟨b, cp, hb, he⟩ := hr.ptr_of
    split at h
    · rename_i sz i j m hsz hlo hhi hmx
      have hlo' := bnd_ok hlo hE
      have hhi' := bnd_ok hhi hE
      have hmx' := bnd_ok hmx hE
      cases hc : (maxOk mx hi && Nat.ble i j && Nat.ble j m && Nat.ble m n) with
      | false => rw [hc] at h; simp at h
      | true =>
        rw [hc] at h
        simp only [cond_true, Option.some.injEq] at h
        subst h
        simp only [Bool.and_eq_true, Bool.or_eq_true] at hc
        obtain ⟨⟨⟨h0, h1⟩, h2⟩, h3⟩ := hc
        have h1 := ble_t h1; have h2 := ble_t h2; have h3 := ble_t h3
        refine ⟨_, V.sliceArr ho hu (szOf_sized hsz) he (by cases lo with | none => exact hlo'.1 rfl | some y => exact hlo'.2 y rfl) (by cases hi with | none => exact hhi'.1 rfl | some y => exact hhi'.2 y rfl) (by cases mx with | none => exact hmx'.1 rfl | some y => exact hmx'.2 y rfl) (by cases mx <;> cases hi <;> simp [maxOk] at h0 ⊢) h1 h2 h3, ?_⟩
        simp only [Rel]
        refine ⟨b, cp, hb, ?_⟩
        cases hq : Nat.beq m i with
        | true => rw [if_pos (beq_t hq)]; simp
        | false => rw [if_neg (beq_f hq)]; simp
    · cases h
  · cases h
theorem elems_ok (hH : Hold ω s w0 st w) {sz l o' n d : Nat} {ex : Bool} {ys : List AV} {v : Value} (h : elemsA st sz (.sl l o' n d ex) = some ys) (hr : Rel ω s (.sl l o' n d ex) v) :
    ∃ b c us cap, v = .slice (some ⟨b, o', none⟩) n cap ∧ cap = (bif ex then d else c - d) ∧ s l = some (b, c) ∧ RelL ω s ys us ∧ us.length = n * sz ∧ (∀ j u, us[j]? = some u → w.cell? ((⟨b, o', none⟩ : Addr).add j) = some u) := by
  obtain ⟨b, c, hb, he⟩ := hr.sl_of
  simp only [elemsA] at h
  split at h
  · rename_i ob hl
    cases hc : Nat.ble (o' + n * sz) ob.cs.length with
    | false => rw [hc] at h; cases h
    | true =>
      rw [hc] at h
      cases h
      obtain ⟨bk, c', vs, h1, h2, h3⟩ := hH.cells hl
      rw [hb] at h1; cases h1
      have hle := ble_t hc
      rw [h2.len] at hle
      exact ⟨b, c, _, _, he, rfl, hb, (h2.drop o').take (n * sz), by rw [List.length_take, List.length_drop]; omega, At.cells (At.part h3 rfl)⟩
  · cases h
theorem ints_ok : ∀ {cs : List AV} {ns : List Int} {us : List Value}, intsA cs = some ns → RelL ω s cs us → us = ns.map (Value.int .u8)
  | [], ns, us, h, hr => by simp only [intsA, Option.some.injEq] at h; subst h; rw [hr.unnil]; rfl
  | a :: r, ns, us, h, hr => by
    obtain ⟨v, us', h1, h2, rfl⟩ := hr.uncons
    unfold intsA at h
    split at h
    · rename_i heq; cases heq
    · rename_i n r' heq
      cases heq
      split at h
      · rename_i ns' hns
        cases h
        rw [h1.v_of, ints_ok hns h2]; rfl
      · cases h
    · cases h
theorem bytes_size (ns : List Int) : (ns.foldl (fun (r : ByteArray) n => r.push (UInt8.ofNat n.toNat)) ByteArray.empty).size = ns.length := by
  have : ∀ (ns : List Int) (r : ByteArray), (ns.foldl (fun (r : ByteArray) n => r.push (UInt8.ofNat n.toNat)) r).size = r.size + ns.length := by
    intro ns
    induction ns with
    | nil => simp
    | cons n ns ih => intro r; rw [List.foldl_cons, ih, ByteArray.size_push, List.length_cons]; omega
  have := this ns ByteArray.empty
  simpa using this
theorem conv_bytes {sT dT e : TypeId} {x : Operand} {b k n c : Nat} {ns : List Int} (ho : o.op = .convert sT dT x) (hu : P.underlying sT = some (.slice e)) (hd : P.underlying dT = some .string) (he : P.underlying e = some (.int .u8)) (hx : ev E x = .slice (some ⟨b, k, none⟩) n c) (hl : (ns.map (Value.int .u8)).length = n)
    (hc : ∀ j v, (ns.map (Value.int .u8))[j]? = some v → w.cell? ((⟨b, k, none⟩ : Addr).add j) = some v) : OpV P o E w (.string (ns.foldl (fun r n => r.push (UInt8.ofNat n.toNat)) ByteArray.empty)) := by
  have hld : (loadCells ⟨b, k, none⟩ n).run P w = .ok (ns.map (Value.int .u8)).toArray w := by
    subst hl
    have := load_cells (P := P) (w := w) (b := b) (k := k) (ns.map (Value.int .u8)) 0 #[] (fun j v hj => by have := hc j v hj; rw [addr_add] at this; rw [Nat.zero_add]; exact this)
    simpa [loadCells] using this
  have := Go.run_bytesToString (P := P) w ⟨b, k, none⟩ n c ns hld
  simp [OpV, execOp, ho, hx, go_sem, convert, underlying, hu, hd, he, this]
theorem rd_ok (hω : OneW ω) (hH : Hold ω s w0 st w) (hE : EnvOK ω s A E) {a : AV} (h : evRdSp P st A o.op = some a) : ∃ v, OpV P o E w v ∧ Rel ω s a v := by
  unfold evRdSp at h
  split at h
  · rename_i x ho; exact ⟨_, V.move ho rfl, opd_ok h hE⟩
  · rename_i x ho; exact ⟨_, V.assign ho rfl, opd_ok h hE⟩
  · rename_i c x y ho
    split at h
    · rename_i b hc
      have hb : ev E c = .bool b := (opd_ok hc hE).v_of
      refine ⟨_, V.pick ho hb rfl, ?_⟩
      cases b
      · exact opd_ok h hE
      · exact opd_ok h hE
    · cases h
  · rename_i x i ho
    split at h
    · rename_i cs hx
      have hr := opd_ok hx hE
      simp only [Rel] at hr
      obtain ⟨vs, hr, he⟩ := hr
      obtain ⟨v, hv, hrel⟩ := hr.get h
      exact ⟨v, V.extract ho he (by simpa using hv), hrel⟩
    · rename_i vs hx
      have he : ev E x = .tuple vs := (opd_ok hx hE).v_of
      split at h
      · rename_i v hv; cases h; exact ⟨v, V.extract ho he hv, Rel.mkv v⟩
      · cases h
    · cases h
  · rename_i f fs cs ho
    cases hz : Nat.beq fs.size 0 with
    | false => rw [hz] at h; cases h
    | true =>
      rw [hz] at h
      simp only [cond_true] at h
      split at h
      · rename_i l hl
        cases h
        have hfs : fs = #[] := Array.eq_empty_of_size_eq_zero (beq_t hz)
        subst hfs
        refine ⟨_, V.makeFunc ho rfl rfl, ?_⟩
        simp only [Rel]
        exact ⟨_, opds_ok hl hE, by rw [show cs.map (ev E) = (cs.toList.map (ev E)).toArray from Array.ext' (by simp), show (#[] : Array Operand).map (ev E) = #[] from by simp]⟩
      · cases h
  · rename_i x ho
    split at h
    · rename_i l k hx
      cases h
      have hr := opd_ok hx hE
      obtain ⟨b, c, hb, he⟩ := hr.ptr_of
      exact ⟨_, V.nilCheck ho he, he ▸ hr⟩
    · rename_i f cs hx
      cases h
      have hr := opd_ok hx hE
      have hr' := hr
      simp only [Rel] at hr
      obtain ⟨vs, hr, he⟩ := hr
      refine ⟨.func (.func f) #[] vs.toArray, ?_, he ▸ hr'⟩
      simp [OpV, execOp, ho, he, go_sem]
    · cases h
  · rename_i t x i ho
    split at h
    · rename_i l k fs hx hu
      split at h
      · rename_i f hf
        split at h
        · rename_i n hn
          cases hz : Nat.beq n 0 with
          | true => rw [hz] at h; cases h
          | false =>
            rw [hz] at h
            cases h
            have hr := opd_ok hx hE
            obtain ⟨b, c, hb, he⟩ := hr.ptr_of
            refine ⟨_, V.fieldAddr ho ⟨⟨fs, f, hu, hf, rfl, rfl⟩, szOf_sized hn, beq_f hz⟩ he, ?_⟩
            simp only [Rel]; exact ⟨b, c, hb, rfl⟩
        · cases h
      · cases h
    · cases h
  · rename_i t x i ho
    split at h
    · rename_i l k n d ex ai e hx hi hu
      split at h
      · rename_i j sz hj hsz
        cases hz : Nat.blt j n with
        | false => rw [hz] at h; cases h
        | true =>
          rw [hz] at h
          cases h
          have hr := opd_ok hx hE
          obtain ⟨b, c, hb, he⟩ := hr.sl_of
          obtain ⟨ik, hik⟩ := natOf_ok hj (opd_ok hi hE)
          refine ⟨_, V.indexAddr ho hu (szOf_sized hsz) he hik rfl (blt_t hz), ?_⟩
          simp only [Rel]; exact ⟨b, c, hb, rfl⟩
      · cases h
    · rename_i l k ai n e hx hi hu
      split at h
      · rename_i j sz hj hsz
        cases hz : Nat.blt j n with
        | false => rw [hz] at h; cases h
        | true =>
          rw [hz] at h
          cases h
          have hr := opd_ok hx hE
          obtain ⟨b, c, hb, he⟩ := hr.ptr_of
          obtain ⟨ik, hik⟩ := natOf_ok hj (opd_ok hi hE)
          refine ⟨_, V.indexArr ho hu (szOf_sized hsz) he hik (blt_t hz), ?_⟩
          simp only [Rel]; exact ⟨b, c, hb, rfl⟩
      · cases h
    · cases h
  · rename_i t x i ho
    split at h
    · rename_i cs fs hx hu
      split at h
      · rename_i f hf; exact rd_field ho hE hx hu hf h
      · cases h
    · cases h
  · rename_i t ps ho
    cases hz : allV A (ps.toList.map (·.2)) with
    | true => rw [hz] at h; cases h
    | false =>
      rw [hz] at h
      simp only [cond_false] at h
      split at h
      · rename_i L it fs hL hit hu
        split at h
        · rename_i z places hzz hpl
          split at h
          · rename_i cs hcs
            cases h
            obtain ⟨hp1, hp2⟩ := parts_ok hL hE
            have hz0 : RelL ω s (cellsA (.v z)) z.cells.toList := Rel.cells hω (Rel.mkv z)
            obtain ⟨us, hus, hrel⟩ := fill_ok hω _ L (ps.toList.map fun x => (x.1, ev E x.2)) _ cs _ (by rw [partsM.1]; exact hp1) (by rw [partsM.2]; exact hp2) hz0 hcs
            refine ⟨_, V.build1 ho rfl (vs := us.toArray) ?_, Rel.mkAgg hrel⟩
            simp only [Program.built, hit, hu, hzz, hpl]
            simpa using hus
          · cases h
        · cases h
      · cases h
  · rename_i t x ho
    split at h
    · rename_i p hx; exact rd_load ho hH hE hx h
    · cases h
  · rename_i t x lo hi mx ho; exact rd_slice ho hH hE h
  · rename_i t x y u ho
    split at h
    · rename_i a' b' d hx hy hu
      split at h
      · rename_i r hr
        cases h
        obtain ⟨h1, h2⟩ := eql_ok (w := w) hu hr (opd_ok hx hE) (opd_ok hy hE) .eql (.inl rfl) x y
        refine ⟨_, ?_, Rel.mkv _⟩
        unfold OpV
        simp only [execOp, ho]
        exact run_v (by simp only [Sem.run_bind, h1, Result.andThen_ok]; exact h2)
      · cases h
    · cases h
  · rename_i t x y u ho
    split at h
    · rename_i a' b' d hx hy hu
      split at h
      · rename_i r hr
        cases h
        obtain ⟨h1, h2⟩ := eql_ok (w := w) hu hr (opd_ok hx hE) (opd_ok hy hE) .neq (.inr rfl) x y
        refine ⟨_, ?_, Rel.mkv _⟩
        unfold OpV
        simp only [execOp, ho]
        exact run_v (by simp only [Sem.run_bind, h1, Result.andThen_ok]; exact h2)
      · cases h
    · cases h
  · rename_i t m k ok ho
    split at h
    · rename_i l kv kt et hm hk ht
      split at h
      · rename_i es c hl
        have hmr := opd_ok hm hE
        have hkv := (opd_ok hk hE).v_of
        split at h
        · rename_i i hi
          split at h
          · rename_i kx a' bb hx
            cases h
            exact look_ok hH ho hmr hkv ht hl hi a' bb kx hx
          · cases h
        · rename_i hi
          split at h
          · rename_i z hz
            cases h
            refine ⟨_, look_ok hH ho hmr hkv ht hl hi z hz, ?_⟩
            cases ok <;> exact Rel.mkv _
          · cases h
        · cases h
      · cases h
    · cases h
  · rename_i it ho
    split at h
    · rename_i l hit
      split at h
      · rename_i m since seen stepped hl
        split at h
        · rename_i b0 es clock hb hm
          cases hc : Nat.beq clock stepped with
          | false => rw [hc] at h; cases h
          | true =>
            rw [hc] at h
            simp only [cond_true] at h
            split at h
            · rename_i e he
              cases h
              exact entry_ok hH ho (opd_ok hit hE) hl hm hb (beq_t hc) he
            · cases h
        · cases h
      · cases h
    · cases h
  · rename_i xs ts ho
    split at h
    · rename_i x t hxs hts
      split at h
      · rename_i l k n d ex e hx hu
        cases h
        have hr := opd_ok hx hE
        obtain ⟨b, c, hb, he⟩ := hr.sl_of
        rw [toList1 hxs] at ho
        exact ⟨_, V.lenSlice ho (by rw [toList1 hts]; rfl) hu he, Rel.mkv _⟩
      · rename_i n hx hu
        cases h
        have hr := opd_ok hx hE
        simp only [Rel] at hr
        obtain ⟨tx, he, hn⟩ := hr
        rw [toList1 hxs] at ho
        refine ⟨_, V.lenString ho (by rw [toList1 hts]; rfl) hu he, ?_⟩
        rw [hn]; exact Rel.mkv _
      · rename_i l kt et hx hu
        split at h
        · rename_i es c hl
          cases h
          obtain ⟨b, cp, hb, hmv⟩ := (opd_ok hx hE).mp_of
          obtain ⟨vs, h1, h2, h3, _⟩ := hH.map hl hb
          rw [toList1 hxs, toList1 hts] at ho
          refine ⟨.int .i64 es.length, ?_, Rel.mkv _⟩
          have hrun : (Builtin.len_ #[t] o.type #[ev E x]).run P w = .ok (.int .i64 es.length) w := by
            rw [hmv]
            unfold Builtin.len_
            simp [go_sem, run_underlying hu, run_getO h3 (by intro c t f; simp), mkEs_len h2]
          unfold OpV
          simp only [execOp, ho, resolve]
          rw [show #[x].map (ev E) = #[ev E x] from by simp]
          exact run_v hrun
        · cases h
      · cases h
    · cases h
  · rename_i sT dT x ho
    split at h
    · rename_i l o' n c ex e hx hu hd
      have hr := opd_ok hx hE
      split at h
      · rename_i et m hue hl
        cases hc : Nat.ble (o' + n) m with
        | false => rw [hc] at h; cases h
        | true =>
          rw [hc] at h
          cases h
          obtain ⟨b, cp, hb, he⟩ := hr.sl_of
          obtain ⟨b', c', e1, hob⟩ := hH.obj l _ hl
          rw [hb] at e1; cases e1
          have hheap : w.heap[b]? = some (.cells (Array.replicate m (.int .u8 0)) et (0, 0)) := hob.cur
          have hle := ble_t hc
          refine ⟨_, conv_bytes ho hu hd hue he (ns := List.replicate n 0) (by simp) ?_, ?_⟩
          · intro j v hj
            rw [addr_add]
            rw [List.map_replicate, List.getElem?_replicate] at hj
            split at hj
            · cases hj
              have hlt : o' + j < m := by omega
              simp [World.cell?, hheap, hlt]
            · cases hj
          · simp only [Rel]
            refine ⟨_, rfl, ?_⟩
            rw [bytes_size]; simp
      · rename_i ob hue hl
        split at h
        · rename_i cs hcs
          split at h
          · rename_i ns hns
            cases h
            obtain ⟨b, c2, us, cap, he, _, hb, hrel, hlen, hcell⟩ := elems_ok hH hcs hr
            have hus := ints_ok hns hrel
            rw [hus] at hcell hlen
            exact ⟨_, conv_bytes ho hu hd hue he (by simpa using hlen) hcell, Rel.mkv _⟩
          · cases h
        · cases h
      · cases h
    · cases h
  · cases h
theorem allV_ok {l : List Operand} (h : allV A l = true) (hE : EnvOK ω s A E) : ∀ x ∈ l, ev E x = rho A x := by
  induction l with
  | nil => simp
  | cons y r ih =>
    simp only [allV] at h
    split at h
    · rename_i v hv
      intro x hx
      rcases List.mem_cons.1 hx with rfl | hx
      · simp only [rho, hv]; exact (opd_ok hv hE).v_of
      · exact ih h x hx
    · cases h
theorem pure_ok (hE : EnvOK ω s A E) {a : AV} (h : evPure P A o = some a) : ∃ v, OpV P o E w v ∧ Rel ω s a v := by
  unfold evPure at h
  split at h
  · cases h
  · rename_i hns
    cases hz : allV A o.op.operands.toList with
    | false => rw [hz] at h; cases h
    | true =>
      rw [hz] at h
      simp only [cond_true] at h
      split at h
      · rename_i v hv
        cases h
        refine ⟨v, ?_, Rel.mkv v⟩
        have := execOp_congr (ρ := ev E) (ρ' := rho A) o (fun cs b e => hns cs b e) (fun x hx => allV_ok hz hE x (by simpa using hx))
        unfold OpV
        rw [this]
        exact pureRun_run P _ hv w
      · cases h
end
end Go.Proofs.YtjogencedcgdjaaGreatDoor.Ev
