/- The evaluator is right: operations that read, one by one. Program-agnostic. -/
import Derived.Test.YtkcnljgennehaaaE4m
import Derived.Laws.BytesString
import Derived.Lib.Overlaps
namespace Go.Proofs.Ytkcnljgennehaaa.Ev
open Go.RowKit Go.Proofs.Ytkcnljgennehaaa.W

section
variable {ω : Nat → Value} {s : Sg} {w0 w : World} {st : Stt} {A : AE} {E : Env} {P : Program} {o : Oper}
theorem rd_field {t : TypeId} {x : Operand} {i : Nat} {a : AV} {cs : List AV} {fs : Array Field} {f : Field} (ho : o.op = .field t x i) (hE : EnvOK ω s A E) (hx : opd A x = some (.agg cs)) (hu : P.underlying t = some (.struct fs)) (hf : fs[i]? = some f) (h : partA P f.type cs f.offset = some a) :
    ∃ v, OpV P o E w v ∧ Rel ω s a v := by
  have hr := opd_ok hx hE
  simp only [Rel] at hr
  obtain ⟨vs, hr, he⟩ := hr
  rcases part_ok h hr with ⟨v, hp, hv, hrel⟩ | ⟨sz, us, hp, hle, hus, hlen, hrel⟩
  · refine ⟨v, ?_, hrel⟩
    simp [OpV, execOp, ho, he, go_sem, Instr.field, underlying, hu, hf, asAgg, part, is_agg_no hp, hv]
  · refine ⟨_, ?_, hrel⟩
    have : vs.toArray.extract f.offset (f.offset + sz) = us.toArray := by
      subst hus; simp [List.extract_eq_take_drop]
    simp [OpV, execOp, ho, he, go_sem, Instr.field, underlying, hu, hf, asAgg, part, is_agg_yes hp, size_of hp.2, ← this]
theorem rd_load {t : TypeId} {x : Operand} {a : AV} {p : AV} (ho : o.op = .load t x) (hH : Hold ω s w0 st w) (hE : EnvOK ω s A E) (hx : opd A x = some p) (h : evRead P st t p = some a) :
    ∃ v, OpV P o E w v ∧ Rel ω s a v := by
  have hr := opd_ok hx hE
  unfold evRead at h
  split at h
  · rename_i l k
    split at h
    · rename_i b hl
      obtain ⟨bk, c, vs, h1, h2, h3⟩ := hH.cells hl
      obtain ⟨bk', c', h4, he⟩ := hr.ptr_of
      rw [h1] at h4; cases h4
      rcases part_ok h h2 with ⟨v, hp, hv, hrel⟩ | ⟨sz, us, hp, hle, hus, hlen, hrel⟩
      · exact ⟨v, V.load ho hp he (by have := h3 k v hv; rwa [Nat.zero_add] at this), hrel⟩
      · exact ⟨_, V.loadAgg ho hp he (At.part h3 hus) hlen, hrel⟩
    · cases h
  · cases h
theorem loadVar_ok {t : TypeId} {v : Value} {a p : AV} (hH : Hold ω s w0 st w) (hp : Rel ω s p v) (h : evRead P st t p = some a) : ∃ b k u, v = .pointer (some ⟨b, k, none⟩) ∧ (loadVar t ⟨b, k, none⟩).run P w = .ok u w ∧ Rel ω s a u := by
  unfold evRead at h
  split at h
  · rename_i l k
    split at h
    · rename_i b hl
      obtain ⟨bk, c, vs, h1, h2, h3⟩ := hH.cells hl
      obtain ⟨bk', c', h4, he⟩ := hp.ptr_of
      rw [h1] at h4; cases h4
      rcases part_ok h h2 with ⟨v, hp, hv, hrel⟩ | ⟨sz, us, hp, hle, hus, hlen, hrel⟩
      · exact ⟨bk, k, v, he, run_loadVar_one hp (by have := h3 k v hv; rwa [Nat.zero_add] at this), hrel⟩
      · exact ⟨bk, k, _, he, run_loadVar_agg hp (At.part h3 hus) hlen, hrel⟩
    · cases h
  · cases h
theorem rd_slice {t : TypeId} {x : Operand} {lo hi mx : Option Operand} {a : AV} (ho : o.op = .slice t x lo hi mx) (hH : Hold ω s w0 st w) (hE : EnvOK ω s A E) (h : evSlice P st A t x lo hi mx = some a) :
    ∃ v, OpV P o E w v ∧ Rel ω s a v := by
  unfold evSlice at h
  split at h
  · rename_i l k n c ex e hx hu
    have hr := opd_ok hx hE
    obtain ⟨b, cp, hb, he⟩ := hr.sl_of
    split at h
    · rename_i sz i j hsz hlo hhi
      have hlo' := bnd_ok hlo hE
      have hhi' := bnd_ok hhi hE
      cases mx with
      | none =>
        simp only at h
        cases hc : (Nat.ble i j && fitsA st sz l c j ex && fitsA st sz l c n ex) with
        | false => rw [hc] at h; simp at h
        | true =>
          rw [hc] at h
          simp only [cond_true] at h
          simp only [Bool.and_eq_true] at hc
          obtain ⟨⟨h1, h5⟩, h4⟩ := hc
          have h1 := ble_t h1
          have h5 := fits_ok hH h5 hb
          have h4 := fits_ok hH h4 hb
          refine ⟨_, V.sliceSlice ho hu (szOf_sized hsz) he (by cases lo with | none => exact hlo'.1 rfl | some y => exact hlo'.2 y rfl) (by cases hi with | none => exact hhi'.1 rfl | some y => exact hhi'.2 y rfl) h1 h5, ?_⟩
          cases h3 : (ex || Nat.blt i j || Nat.blt i n || Nat.beq i 0) with
          | false =>
            rw [h3] at h
            simp only [cond_false, Option.some.injEq] at h
            subst h
            simp only [Bool.or_eq_false_iff] at h3
            have h6 : ¬ i < j := fun hlt => by
              have : Nat.blt i j = true := Nat.ble_eq_true_of_le hlt
              rw [h3.1.1.2] at this; cases this
            simp only [Rel]
            exact ⟨b, _, _, by rw [show j - i = 0 from by omega]⟩
          | true =>
          rw [h3] at h
          simp only [cond_true, Option.some.injEq] at h
          subst h
          simp only [Bool.or_eq_true] at h3
          simp only [Rel]
          refine ⟨b, cp, hb, ?_⟩
          cases ex with
          | true =>
            simp only [cond_true, Bool.true_and]
            cases hq : Nat.beq c i with
            | true => rw [if_pos (beq_t hq)]; simp
            | false => rw [if_neg (beq_f hq)]; simp
          | false =>
            have hz : (if (bif false then c else cp - c) = i then 0 else i * sz) = i * sz := by
              split
              · rename_i e1
                rcases h3 with ((h3 | h3) | h3) | h3
                · cases h3
                · have := blt_t h3; simp only [cond_false] at e1 h5; omega
                · have := blt_t h3; simp only [cond_false] at e1 h4; omega
                · rw [beq_t h3]; simp
              · rfl
            rw [hz]
            simp only [cond_false, Bool.false_and]; congr 1; omega
      | some m =>
        simp only at h
        split at h
        · rename_i y m' hm
          have hm' := bnd_ok hm hE
          cases hc : (Nat.ble i j && Nat.ble j m' && Nat.ble m' n && fitsA st sz l c n ex) with
          | false => rw [hc] at h; simp at h
          | true =>
            rw [hc] at h
            simp only [cond_true, Option.some.injEq] at h
            subst h
            simp only [Bool.and_eq_true, Bool.or_eq_true] at hc
            obtain ⟨⟨⟨h1, h2⟩, h5⟩, h4⟩ := hc
            have h1 := ble_t h1; have h2 := ble_t h2; have h5 := ble_t h5
            have h4 := fits_ok hH h4 hb
            refine ⟨_, V.slice3 ho hu (szOf_sized hsz) he (by cases lo with | none => exact hlo'.1 rfl | some y => exact hlo'.2 y rfl) (hhi'.2 _ rfl) (hm'.2 _ rfl) h1 h2 (by omega), ?_⟩
            simp only [Rel]
            refine ⟨b, cp, hb, ?_⟩
            cases hq : Nat.beq m' i with
            | true => rw [if_pos (beq_t hq)]; simp
            | false => rw [if_neg (beq_f hq)]; simp
        · cases h
    · cases h
  · rename_i l k n e hx hu
    have hr := opd_ok hx hE
    obtain ⟨b, cp, hb, he⟩ := hr.ptr_of
    split at h
    · rename_i sz i j m hsz hlo hhi hmx
      have hlo' := bnd_ok hlo hE
      have hhi' := bnd_ok hhi hE
      have hmx' := bnd_ok hmx hE
      cases hc : (maxOk mx hi && Nat.ble i j && Nat.ble j m && Nat.ble m n) with
      | false => rw [hc] at h; simp at h
      | true =>
        rw [hc] at h
        simp only [cond_true, Option.some.injEq] at h
        subst h
        simp only [Bool.and_eq_true, Bool.or_eq_true] at hc
        obtain ⟨⟨⟨h0, h1⟩, h2⟩, h3⟩ := hc
        have h1 := ble_t h1; have h2 := ble_t h2; have h3 := ble_t h3
        refine ⟨_, V.sliceArr ho hu (szOf_sized hsz) he (by cases lo with | none => exact hlo'.1 rfl | some y => exact hlo'.2 y rfl) (by cases hi with | none => exact hhi'.1 rfl | some y => exact hhi'.2 y rfl) (by cases mx with | none => exact hmx'.1 rfl | some y => exact hmx'.2 y rfl) (by cases mx <;> cases hi <;> simp [maxOk] at h0 ⊢) h1 h2 h3, ?_⟩
        simp only [Rel]
        refine ⟨b, cp, hb, ?_⟩
        cases hq : Nat.beq m i with
        | true => rw [if_pos (beq_t hq)]; simp
        | false => rw [if_neg (beq_f hq)]; simp
    · cases h
  · cases h
theorem elems_ok (hH : Hold ω s w0 st w) {sz l o' n d : Nat} {ex : Bool} {ys : List AV} {v : Value} (h : elemsA st sz (.sl l o' n d ex) = some ys) (hr : Rel ω s (.sl l o' n d ex) v) :
    ∃ b c us cap, v = .slice (some ⟨b, o', none⟩) n cap ∧ cap = (bif ex then d else c - d) ∧ s l = some (b, c) ∧ RelL ω s ys us ∧ us.length = n * sz ∧ (∀ j u, us[j]? = some u → w.cell? ((⟨b, o', none⟩ : Addr).add j) = some u) := by
  obtain ⟨b, c, hb, he⟩ := hr.sl_of
  simp only [elemsA] at h
  split at h
  · rename_i ob hl
    cases hc : Nat.ble (o' + n * sz) ob.cs.length with
    | false => rw [hc] at h; cases h
    | true =>
      rw [hc] at h
      cases h
      obtain ⟨bk, c', vs, h1, h2, h3⟩ := hH.cells hl
      rw [hb] at h1; cases h1
      have hle := ble_t hc
      rw [h2.len] at hle
      exact ⟨b, c, _, _, he, rfl, hb, (h2.drop o').take (n * sz), by rw [List.length_take, List.length_drop]; omega, At.cells (At.part h3 rfl)⟩
  · cases h
theorem ints_ok : ∀ {cs : List AV} {ns : List Int} {us : List Value}, intsA cs = some ns → RelL ω s cs us → us = ns.map (Value.int .u8)
  | [], ns, us, h, hr => by simp only [intsA, Option.some.injEq] at h; subst h; rw [hr.unnil]; rfl
  | a :: r, ns, us, h, hr => by
    obtain ⟨v, us', h1, h2, rfl⟩ := hr.uncons
    unfold intsA at h
    split at h
    · rename_i heq; cases heq
    · rename_i n r' heq
      cases heq
      split at h
      · rename_i ns' hns
        cases h
        rw [h1.v_of, ints_ok hns h2]; rfl
      · cases h
    · cases h
theorem bytes_size (ns : List Int) : (ns.foldl (fun (r : ByteArray) n => r.push (UInt8.ofNat n.toNat)) ByteArray.empty).size = ns.length := by
  have : ∀ (ns : List Int) (r : ByteArray), (ns.foldl (fun (r : ByteArray) n => r.push (UInt8.ofNat n.toNat)) r).size = r.size + ns.length := by
    intro ns
    induction ns with
    | nil => simp
    | cons n ns ih => intro r; rw [List.foldl_cons, ih, ByteArray.size_push, List.length_cons]; omega
  have := this ns ByteArray.empty
  simpa using this
theorem conv_bytes {sT dT e : TypeId} {x : Operand} {b k n c : Nat} {ns : List Int} (ho : o.op = .convert sT dT x) (hu : P.underlying sT = some (.slice e)) (hd : P.underlying dT = some .string) (he : P.underlying e = some (.int .u8)) (hx : ev E x = .slice (some ⟨b, k, none⟩) n c) (hl : (ns.map (Value.int .u8)).length = n)
    (hc : ∀ j v, (ns.map (Value.int .u8))[j]? = some v → w.cell? ((⟨b, k, none⟩ : Addr).add j) = some v) : OpV P o E w (.string (ns.foldl (fun r n => r.push (UInt8.ofNat n.toNat)) ByteArray.empty)) := by
  have hld : (loadCells ⟨b, k, none⟩ n).run P w = .ok (ns.map (Value.int .u8)).toArray w := by
    subst hl
    have := load_cells (P := P) (w := w) (b := b) (k := k) (ns.map (Value.int .u8)) 0 #[] (fun j v hj => by have := hc j v hj; rw [addr_add] at this; rw [Nat.zero_add]; exact this)
    simpa [loadCells] using this
  have := Go.run_bytesToString (P := P) w ⟨b, k, none⟩ n c ns hld
  simp [OpV, execOp, ho, hx, go_sem, convert, underlying, hu, hd, he, this]
theorem txt_ok {a : AV} {n : Nat} {v : Value} (h : txtN a = some n) (hr : Rel ω s a v) : ∃ t : ByteArray, v = .string t ∧ t.size ≤ n := by
  unfold txtN at h
  split at h
  · cases h; exact ⟨_, hr.v_of, Nat.le_refl _⟩
  · cases h; simp only [Rel] at hr; obtain ⟨t, h1, h2⟩ := hr; exact ⟨t, h1, by omega⟩
  · cases h; simpa only [Rel] using hr
  · cases h
theorem text_add {t q : TypeId} {x y : Operand} {n m : Nat} (ho : o.op = .binOp .add t x y q) (hx : ∃ t : ByteArray, ev E x = .string t ∧ t.size ≤ n) (hy : ∃ t : ByteArray, ev E y = .string t ∧ t.size ≤ m) (hle : n + m ≤ 9223372036854775807) :
    ∃ v, OpV P o E w v ∧ Rel ω s (.txt (n + m)) v := by
  obtain ⟨tx, h1, h2⟩ := hx
  obtain ⟨ty, h3, h4⟩ := hy
  refine ⟨.string (tx ++ ty), ?_, by simp only [Rel]; exact ⟨_, rfl, by rw [ByteArray.size_append]; omega⟩⟩
  have hno : ¬ (((tx.size + ty.size : Nat) : Int) > IntKind.i64.max) := by
    have : IntKind.i64.max = 9223372036854775807 := rfl
    rw [this]; omega
  unfold OpV
  simp only [execOp, ho, h1, h3]
  refine run_v ?_
  simp only [Sem.run_bind, eqGuard, binOp, Op.stringOp, Sem.run_pure, Result.andThen_ok, if_neg hno]
  rfl
theorem look_none (hH : Hold ω s w0 st w) {t kt et : TypeId} {m k : Operand} {ok : Bool} {l c : Nat} {d : TypeDesc} {z : Value} (ho : o.op = .lookup t m k ok) (hm : Rel ω s (.mp l) (ev E m)) (ht : P.underlying t = some (.map kt et)) (hl : st.h.get l = some (.m [] c)) (hd : P.underlying kt = some d) (hp : plainKey d = true) (hz : zeroV P et = some z) :
    OpV P o E w (bif ok then .tuple #[z, .bool false] else z) := by
  obtain ⟨b, cp, hb, hmv⟩ := hm.mp_of
  obtain ⟨vs, h1, h2, h3, _⟩ := hH.map hl hb
  have hvs : vs = [] := List.eq_nil_of_length_eq_zero (by simpa using h2.symm)
  subst hvs
  have hget := run_getO (P := P) h3 (by intro c t f; simp)
  have hzr : (zeroValue et).run P w = .ok z w := zero_of (by
    unfold zeroV at hz
    unfold W.Zero
    cases hi : P.info? et with
    | none => rw [hi] at hz; cases hz
    | some i => rw [hi] at hz; simpa using hz)
  have hck : (Instr.checkKey true 10000 kt (ev E k)).run P w = .ok () w := by
    rw [Instr.checkKey]
    simp only [Sem.run_bind, run_underlying hd, Result.andThen_ok]
    cases d <;> first | rfl | simp [plainKey] at hp
  have hfk : (Instr.findKey kt (ev E k) []).run P w = .ok none w := by
    unfold Instr.findKey
    simp only [Sem.run_bind, run_underlying hd, Result.andThen_ok, Instr.findNow]
    rfl
  have hrun : (Instr.lookup t (ev E m) (ev E k) ok).run P w = .ok (if ok = true then .tuple #[z, .bool false] else z) w := by
    unfold Instr.lookup
    simp only [Sem.run_bind, run_underlying ht, Result.andThen_ok, hmv, hget, Sem.run_pure, mkEs]
    simp [hck, hfk, hzr, go_sem]
  simp only [OpV, execOp, ho]
  cases ok <;> exact run_v hrun
theorem gtr_ok (hH : Hold ω s w0 st w) {t q : TypeId} {x y : Operand} {k l d : Nat} {r : Bool} (ho : o.op = .binOp .gtr t x y q) (hx : ev E x = .int .i64 (k : Int)) (hy : Rel ω s (.cap l d) (ev E y)) (h : gtrCap st k l d = some r) : OpV P o E w (.bool r) := by
  simp only [Rel] at hy
  obtain ⟨b, c, hb, hyv⟩ := hy
  have key : decide ((k : Int) > ((c - d : Nat) : Int)) = r := by
    unfold gtrCap at h
    split at h
    case h_2 => cases h
    rename_i ob hl
    obtain ⟨b', c', e1, hob⟩ := hH.obj l _ hl
    rw [hb] at e1; cases e1
    cases hc : (ob.row && Nat.ble 1 ob.sz) with
    | false => rw [hc] at h; cases h
    | true =>
      rw [hc] at h
      simp only [cond_true] at h
      simp only [Bool.and_eq_true] at hc
      obtain ⟨cur, vs, _, hr, _, _, h7⟩ := hob.cur
      obtain ⟨n, h8, h9, _, _, h10, _⟩ := h7 hc.1
      have h1 := ble_t hc.2
      split at h
      · rename_i hh hhi
        cases h2 : (Nat.ble hh (k + d) && Nat.ble 1 k) with
        | true =>
          rw [h2] at h; cases h
          simp only [Bool.and_eq_true] at h2
          have := h10 hh hhi
          have := ble_t h2.1; have := ble_t h2.2
          simp; omega
        | false =>
          rw [h2] at h
          simp only [cond_false] at h
          cases h3 : Nat.ble ((k + d) * ob.sz) ob.cs.length with
          | false => rw [h3] at h; cases h
          | true =>
            rw [h3] at h; cases h
            have e4 := ble_t h3
            rw [hr.len, h8] at e4
            have : k + d ≤ n := Nat.le_of_mul_le_mul_right e4 h1
            simp; omega
      · simp only [cond_false] at h
        cases h3 : Nat.ble ((k + d) * ob.sz) ob.cs.length with
        | false => rw [h3] at h; cases h
        | true =>
          rw [h3] at h; cases h
          have e4 := ble_t h3
          rw [hr.len, h8] at e4
          have : k + d ≤ n := Nat.le_of_mul_le_mul_right e4 h1
          simp; omega
  unfold OpV
  simp only [execOp, ho, hx, hyv]
  refine run_v ?_
  simp only [Sem.run_bind, eqGuard, binOp, Op.intCmp, Sem.run_pure, Result.andThen_ok, ne_eq, not_true_eq_false, if_false, key]
  rfl
theorem V.capSlice {x : Operand} {t e : TypeId} {b : Option Addr} {n c : Nat} (ho : o.op = .call ⟨.builtin .cap, #[x], #[t]⟩) (ht : P.underlying t = some (.slice e)) (hx : ev E x = .slice b n c) : OpV P o E w (.int .i64 c) := by
  have hrun : (Builtin.cap_ #[t] o.type #[ev E x]).run P w = .ok (.int .i64 c) w := by
    rw [hx]
    unfold Builtin.cap_
    simp [go_sem, run_underlying ht]
  unfold OpV
  simp only [execOp, ho, resolve]
  rw [show #[x].map (ev E) = #[ev E x] from by simp]
  exact run_v hrun
theorem find_overlaps {fn : Func} (h : isOverlaps fn = true) : fn.body.isNone = true ∧ (fn.name == "runtime.NumGoroutine") = false ∧ Extern.findNext fn = none ∧ Extern.find fn = some (Extern.SlicesOverlaps.overlaps fn.params fn.resultTypes) := by
  simp only [isOverlaps, Bool.and_eq_true, Bool.not_eq_true', Option.isNone_iff_eq_none] at h
  obtain ⟨⟨⟨⟨⟨⟨h1, h2⟩, h3⟩, h4⟩, h5⟩, h6⟩, h7⟩ := h
  have h3' : fn.origin = "slices.overlaps" := by simpa using h3
  have g1 : Extern.allGenericRows.lookup "slices.overlaps" = none := by kernel_rfl
  have g2 : Extern.allTypedRows.lookup "slices.overlaps" = some Extern.SlicesOverlaps.overlaps := by kernel_rfl
  have g3 : Extern.allNextRows.lookup "slices.overlaps" = none := by kernel_rfl
  refine ⟨by simp [h1], h2, ?_, ?_⟩
  · simp [Extern.findNext, h7, h3', g3]
  · simp [Extern.find, h4, h5, h6, h3', g1, g2]
theorem overlaps_ok (hH : Hold ω s w0 st w) (hE : EnvOK ω s A E) {g : Operand} {xs : Array Operand} {ts : Array TypeId} {f : FuncId} {fn : Func} {l l' o1 o2 n1 n2 d1 d2 : Nat} {e1 e2 : Bool} {ob ob' : AO} (ho : o.op = .call ⟨.value g, xs, ts⟩) (hg : ev E g = .func (.func f) #[] #[]) (hxs : opds A xs.toList = some [.sl l o1 n1 d1 e1, .sl l' o2 n2 d2 e2]) (hfn : P.funcs[f]? = some fn)
    (hl : st.h.get l = some (.c ob)) (hl' : st.h.get l' = some (.c ob')) (hne : l ≠ l') (hcs : ob'.cs ≠ []) (hov : overlapsAt P fn = true) : OpV P o E w (.bool false) := by
  unfold overlapsAt at hov
  split at hov
  case h_2 => cases hov
  rename_i t u hps
  simp only [Bool.and_eq_true] at hov
  obtain ⟨⟨q1, q2⟩, q3⟩ := hov
  have := beq_t q1
  subst this
  split at q2
  case h_2 => cases q2
  rename_i e hte
  obtain ⟨sz, hsz⟩ := Option.isSome_iff_exists.1 q2
  obtain ⟨g1, g2, g3, g4⟩ := find_overlaps q3
  have hr := opds_ok hxs hE
  obtain ⟨v1, vs1, r1, r2, hv1⟩ := hr.uncons
  obtain ⟨v2, vs2, r3, r4, rfl⟩ := r2.uncons
  have := r4.unnil
  subst this
  obtain ⟨b1, c1, hb1, rfl⟩ := r1.sl_of
  obtain ⟨b2, c2, hb2, rfl⟩ := r3.sl_of
  have hb : b1 ≠ b2 := fun e => hne (by subst e; exact hH.inj l l' _ _ b1 c1 c2 hl hl' hb1 hb2)
  obtain ⟨b1', c1', e3, hob1⟩ := hH.obj l _ hl
  rw [hb1] at e3; cases e3
  obtain ⟨b2', c2', e4, hob2⟩ := hH.obj l' _ hl'
  rw [hb2] at e4; cases e4
  obtain ⟨cur1, us1, p1, _⟩ := hob1.cur
  obtain ⟨cur2, us2, p2, p3, p4, _⟩ := hob2.cur
  have hcur2 : cur2.size ≠ 0 := by
    intro e
    have e' : cur2.toList = [] := by rw [Array.eq_empty_of_size_eq_zero e]
    rw [e'] at p4
    have hus : us2 = [] := by rw [← p4]; simp
    have := p3.len
    rw [hus] at this
    exact hcs (List.eq_nil_of_length_eq_zero (by simpa using this))
  have hps' : fn.params = #[t, t] := toList2 hps
  have hrun : (callFunc f #[.slice (some ⟨b1, o1, none⟩) n1 (bif e1 then d1 else c1 - d1), .slice (some ⟨b2, o2, none⟩) n2 (bif e2 then d2 else c2 - d2)]).run P w = .ok (.value (.bool false)) w := by
    rw [Go.run_callFunc_extern hfn g2 g1 g3 g4, hps']
    rw [show Extern.SlicesOverlaps.overlaps #[t, t] fn.resultTypes = Extern.SlicesOverlaps.overlaps #[t, t] #[t] from rfl]
    have hsz' := Lib.run_overlaps_apart (P := P) w t t e hte sz (fun w => size_of (szOf_sized hsz)) ⟨b1, o1, none⟩ ⟨b2, o2, none⟩ n1 (bif e1 then d1 else c1 - d1) n2 (bif e2 then d2 else c2 - d2) hb ob.et ob'.et cur1.size cur2.size (by simp [World.shape?, p1]) (by simp [World.shape?, p2]) hcur2 (by simp [World.frozen?, p1]) (by simp [World.frozen?, p1])
    rw [hsz']; rfl
  unfold OpV
  have hargs : xs.map (ev E) = #[.slice (some ⟨b1, o1, none⟩) n1 (bif e1 then d1 else c1 - d1), .slice (some ⟨b2, o2, none⟩) n2 (bif e2 then d2 else c2 - d2)] := by
    apply Array.ext'
    simpa using hv1
  simp [execOp, ho, go_sem, hg, hargs, hrun]
theorem rd_ok (hω : OneW ω) (hH : Hold ω s w0 st w) (hE : EnvOK ω s A E) {a : AV} (h : evRdSp P st A o.op = some a) : ∃ v, OpV P o E w v ∧ Rel ω s a v := by
  unfold evRdSp at h
  split at h
  · rename_i x ho; exact ⟨_, V.move ho rfl, opd_ok h hE⟩
  · rename_i x ho; exact ⟨_, V.assign ho rfl, opd_ok h hE⟩
  · rename_i c x y ho
    split at h
    · rename_i b hc
      have hb : ev E c = .bool b := (opd_ok hc hE).v_of
      refine ⟨_, V.pick ho hb rfl, ?_⟩
      cases b
      · exact opd_ok h hE
      · exact opd_ok h hE
    · cases h
  · rename_i x i ho
    split at h
    · rename_i cs hx
      have hr := opd_ok hx hE
      simp only [Rel] at hr
      obtain ⟨vs, hr, he⟩ := hr
      obtain ⟨v, hv, hrel⟩ := hr.get h
      exact ⟨v, V.extract ho he (by simpa using hv), hrel⟩
    · rename_i vs hx
      have he : ev E x = .tuple vs := (opd_ok hx hE).v_of
      split at h
      · rename_i v hv; cases h; exact ⟨v, V.extract ho he hv, Rel.mkv v⟩
      · cases h
    · cases h
  · rename_i f fs cs ho
    cases hz : Nat.beq fs.size 0 with
    | false => rw [hz] at h; cases h
    | true =>
      rw [hz] at h
      simp only [cond_true] at h
      split at h
      · rename_i l hl
        cases h
        have hfs : fs = #[] := Array.eq_empty_of_size_eq_zero (beq_t hz)
        subst hfs
        refine ⟨_, V.makeFunc ho rfl rfl, ?_⟩
        simp only [Rel]
        exact ⟨_, opds_ok hl hE, by rw [show cs.map (ev E) = (cs.toList.map (ev E)).toArray from Array.ext' (by simp), show (#[] : Array Operand).map (ev E) = #[] from by simp]⟩
      · cases h
  · rename_i x ho
    split at h
    · rename_i l k hx
      cases h
      have hr := opd_ok hx hE
      obtain ⟨b, c, hb, he⟩ := hr.ptr_of
      exact ⟨_, V.nilCheck ho he, he ▸ hr⟩
    · rename_i f cs hx
      cases h
      have hr := opd_ok hx hE
      have hr' := hr
      simp only [Rel] at hr
      obtain ⟨vs, hr, he⟩ := hr
      refine ⟨.func (.func f) #[] vs.toArray, ?_, he ▸ hr'⟩
      simp [OpV, execOp, ho, he, go_sem]
    · cases h
  · rename_i t x i ho
    split at h
    · rename_i l k fs hx hu
      split at h
      · rename_i f hf
        split at h
        · rename_i n hn
          cases hz : Nat.beq n 0 with
          | true => rw [hz] at h; cases h
          | false =>
            rw [hz] at h
            cases h
            have hr := opd_ok hx hE
            obtain ⟨b, c, hb, he⟩ := hr.ptr_of
            refine ⟨_, V.fieldAddr ho ⟨⟨fs, f, hu, hf, rfl, rfl⟩, szOf_sized hn, beq_f hz⟩ he, ?_⟩
            simp only [Rel]; exact ⟨b, c, hb, rfl⟩
        · cases h
      · cases h
    · cases h
  · rename_i t x i ho
    split at h
    · rename_i l k n d ex ai e hx hi hu
      split at h
      · rename_i j sz hj hsz
        cases hz : Nat.blt j n with
        | false => rw [hz] at h; cases h
        | true =>
          rw [hz] at h
          cases h
          have hr := opd_ok hx hE
          obtain ⟨b, c, hb, he⟩ := hr.sl_of
          obtain ⟨ik, hik⟩ := natOf_ok hj (opd_ok hi hE)
          refine ⟨_, V.indexAddr ho hu (szOf_sized hsz) he hik rfl (blt_t hz), ?_⟩
          simp only [Rel]; exact ⟨b, c, hb, rfl⟩
      · cases h
    · rename_i l k ai n e hx hi hu
      split at h
      · rename_i j sz hj hsz
        cases hz : Nat.blt j n with
        | false => rw [hz] at h; cases h
        | true =>
          rw [hz] at h
          cases h
          have hr := opd_ok hx hE
          obtain ⟨b, c, hb, he⟩ := hr.ptr_of
          obtain ⟨ik, hik⟩ := natOf_ok hj (opd_ok hi hE)
          refine ⟨_, V.indexArr ho hu (szOf_sized hsz) he hik (blt_t hz), ?_⟩
          simp only [Rel]; exact ⟨b, c, hb, rfl⟩
      · cases h
    · cases h
  · rename_i t x i ho
    split at h
    · rename_i cs fs hx hu
      split at h
      · rename_i f hf; exact rd_field ho hE hx hu hf h
      · cases h
    · cases h
  · rename_i t ps ho
    cases hz : allV A (ps.toList.map (·.2)) with
    | true => rw [hz] at h; cases h
    | false =>
      rw [hz] at h
      simp only [cond_false] at h
      split at h
      · rename_i L it fs hL hit hu
        split at h
        · rename_i z places hzz hpl
          split at h
          · rename_i cs hcs
            cases h
            obtain ⟨hp1, hp2⟩ := parts_ok hL hE
            have hz0 : RelL ω s (cellsA (.v z)) z.cells.toList := Rel.cells hω (Rel.mkv z)
            obtain ⟨us, hus, hrel⟩ := fill_ok hω _ L (ps.toList.map fun x => (x.1, ev E x.2)) _ cs _ (by rw [partsM.1]; exact hp1) (by rw [partsM.2]; exact hp2) hz0 hcs
            refine ⟨_, V.build1 ho rfl (vs := us.toArray) ?_, Rel.mkAgg hrel⟩
            simp only [Program.built, hit, hu, hzz, hpl]
            simpa using hus
          · cases h
        · cases h
      · rename_i L it n e hL hit hu
        split at h
        · rename_i z sz hzz hsz
          split at h
          · rename_i cs hcs
            cases h
            obtain ⟨hp1, hp2⟩ := parts_ok hL hE
            have hz0 : RelL ω s (cellsA (.v z)) z.cells.toList := Rel.cells hω (Rel.mkv z)
            obtain ⟨us, hus, hrel⟩ := fill_ok hω _ L (ps.toList.map fun x => (x.1, ev E x.2)) _ cs _ (by rw [partsM.1]; exact hp1) (by rw [partsM.2]; exact hp2) hz0 hcs
            refine ⟨.agg us.toArray, ?_, Rel.mkAgg hrel⟩
            have hzr : (zeroValue t).run P w = .ok z w := zero_of (by simp [W.Zero, hit, hzz])
            have hus' : Instr.fill (fun i => some (i * sz, sz)) z.cells (ps.map fun x => (x.1, ev E x.2)).toList = some us.toArray := by simpa using hus
            unfold OpV
            simp only [execOp, ho]
            refine run_v ?_
            unfold Instr.build
            simp only [Sem.run_bind, hzr, Result.andThen_ok, run_underlying hu, size_of (szOf_sized hsz), hus', Sem.run_pure]
          · cases h
        · cases h
      · cases h
  · rename_i t x ho
    split at h
    · rename_i p hx; exact rd_load ho hH hE hx h
    · cases h
  · rename_i t x lo hi mx ho; exact rd_slice ho hH hE h
  · rename_i t x y u ho
    split at h
    · rename_i a' b' d hx hy hu
      split at h
      · rename_i r hr
        cases h
        obtain ⟨h1, h2⟩ := eql_ok (w := w) hu hr (opd_ok hx hE) (opd_ok hy hE) .eql (.inl rfl) x y
        refine ⟨_, ?_, Rel.mkv _⟩
        unfold OpV
        simp only [execOp, ho]
        exact run_v (by simp only [Sem.run_bind, h1, Result.andThen_ok]; exact h2)
      · cases h
    · cases h
  · rename_i t x y u ho
    split at h
    · rename_i a' b' d hx hy hu
      split at h
      · rename_i r hr
        cases h
        obtain ⟨h1, h2⟩ := eql_ok (w := w) hu hr (opd_ok hx hE) (opd_ok hy hE) .neq (.inr rfl) x y
        refine ⟨_, ?_, Rel.mkv _⟩
        unfold OpV
        simp only [execOp, ho]
        exact run_v (by simp only [Sem.run_bind, h1, Result.andThen_ok]; exact h2)
      · cases h
    · cases h
  · rename_i t x y u ho
    split at h
    · cases h
    · rename_i a' b' _ hx hy
      split at h
      · rename_i n m hn hm
        cases hc : Nat.ble (n + m) 9223372036854775807 with
        | false => rw [hc] at h; cases h
        | true =>
          rw [hc] at h
          cases h
          exact text_add ho (txt_ok hn (opd_ok hx hE)) (txt_ok hm (opd_ok hy hE)) (ble_t hc)
      · cases h
    · cases h
  · rename_i t m k ok ho
    split at h
    · rename_i l kv kt et hm hk ht
      split at h
      · rename_i es c hl
        have hmr := opd_ok hm hE
        have hkv := (opd_ok hk hE).v_of
        split at h
        · rename_i i hi
          split at h
          · rename_i kx a' bb hx
            cases h
            exact look_ok hH ho hmr hkv ht hl hi a' bb kx hx
          · cases h
        · rename_i hi
          split at h
          · rename_i z hz
            cases h
            refine ⟨_, look_ok hH ho hmr hkv ht hl hi z hz, ?_⟩
            cases ok <;> exact Rel.mkv _
          · cases h
        · cases h
      · cases h
    · rename_i l ka kt et hm hk ht
      split at h
      · rename_i c d z hl hd hz
        cases hc : plainKey d with
        | false => rw [hc] at h; cases h
        | true =>
          rw [hc] at h
          cases h
          refine ⟨_, look_none hH ho (opd_ok hm hE) ht hl hd hc hz, ?_⟩
          cases ok <;> exact Rel.mkv _
      · cases h
    · cases h
  · rename_i it ho
    split at h
    · rename_i l hit
      split at h
      · rename_i m since seen stepped hl
        split at h
        · rename_i b0 es clock hb hm
          cases hc : Nat.beq clock stepped with
          | false => rw [hc] at h; cases h
          | true =>
            rw [hc] at h
            simp only [cond_true] at h
            split at h
            · rename_i e he
              cases h
              exact entry_ok hH ho (opd_ok hit hE) hl hm hb (beq_t hc) he
            · cases h
        · cases h
      · cases h
    · cases h
  · rename_i t x y u ho
    split at h
    · rename_i k l d hx hy
      split at h
      · rename_i r hr
        cases h
        exact ⟨_, gtr_ok hH ho (opd_ok hx hE).v_of (opd_ok hy hE) hr, Rel.mkv _⟩
      · cases h
    · cases h
  · rename_i g xs ts ho
    split at h
    · rename_i f fs cs l o1 n1 d1 e1 l' o2 n2 d2 e2 hg hxs
      split at h
      · rename_i fn ob ob' hfn hl hl'
        cases hc : (Nat.beq fs.size 0 && Nat.beq cs.size 0 && !Nat.beq l l' && !ob'.cs.isEmpty && fn.body.isNone && overlapsAt P fn) with
        | false => rw [hc] at h; cases h
        | true =>
          rw [hc] at h
          cases h
          simp only [Bool.and_eq_true, Bool.not_eq_true'] at hc
          obtain ⟨⟨⟨⟨⟨c1, c2⟩, c3⟩, c4⟩, _⟩, c5⟩ := hc
          have hfs : fs = #[] := Array.eq_empty_of_size_eq_zero (beq_t c1)
          have hcs : cs = #[] := Array.eq_empty_of_size_eq_zero (beq_t c2)
          subst hfs; subst hcs
          exact ⟨_, overlaps_ok hH hE ho (opd_ok hg hE).v_of hxs hfn hl hl' (beq_f c3) (by intro e; rw [e] at c4; cases c4) c5, Rel.mkv _⟩
      · cases h
    · cases h
  · rename_i xs ts ho
    split at h
    · rename_i x t hxs hts
      split at h
      · rename_i l k n c e hx hu
        cases h
        obtain ⟨b, cp, hb, hv⟩ := (opd_ok hx hE).sl_of
        rw [toList1 hxs, toList1 hts] at ho
        exact ⟨_, V.capSlice ho hu hv, Rel.mkv _⟩
      · rename_i l k n c e hx hu
        cases h
        obtain ⟨b, cp, hb, hv⟩ := (opd_ok hx hE).sl_of
        rw [toList1 hxs, toList1 hts] at ho
        exact ⟨_, V.capSlice ho hu hv, by simp only [Rel]; exact ⟨b, cp, hb, rfl⟩⟩
      · cases h
    · cases h
  · rename_i xs ts ho
    split at h
    · rename_i x t hxs hts
      split at h
      · rename_i l k n d ex e hx hu
        cases h
        have hr := opd_ok hx hE
        obtain ⟨b, c, hb, he⟩ := hr.sl_of
        rw [toList1 hxs] at ho
        exact ⟨_, V.lenSlice ho (by rw [toList1 hts]; rfl) hu he, Rel.mkv _⟩
      · rename_i e hx hu
        cases h
        have hr := opd_ok hx hE
        simp only [Rel] at hr
        obtain ⟨b, o', c, he⟩ := hr
        rw [toList1 hxs] at ho
        exact ⟨_, V.lenSlice ho (by rw [toList1 hts]; rfl) hu he, Rel.mkv _⟩
      · rename_i n hx hu
        cases h
        have hr := opd_ok hx hE
        simp only [Rel] at hr
        obtain ⟨tx, he, hn⟩ := hr
        rw [toList1 hxs] at ho
        refine ⟨_, V.lenString ho (by rw [toList1 hts]; rfl) hu he, ?_⟩
        rw [hn]; exact Rel.mkv _
      · rename_i l kt et hx hu
        split at h
        · rename_i es c hl
          cases h
          obtain ⟨b, cp, hb, hmv⟩ := (opd_ok hx hE).mp_of
          obtain ⟨vs, h1, h2, h3, _⟩ := hH.map hl hb
          rw [toList1 hxs, toList1 hts] at ho
          refine ⟨.int .i64 es.length, ?_, Rel.mkv _⟩
          have hrun : (Builtin.len_ #[t] o.type #[ev E x]).run P w = .ok (.int .i64 es.length) w := by
            rw [hmv]
            unfold Builtin.len_
            simp [go_sem, run_underlying hu, run_getO h3 (by intro c t f; simp), mkEs_len h2]
          unfold OpV
          simp only [execOp, ho, resolve]
          rw [show #[x].map (ev E) = #[ev E x] from by simp]
          exact run_v hrun
        · cases h
      · cases h
    · cases h
  · rename_i sT dT x ho
    split at h
    · rename_i l o' n c ex e hx hu hd
      have hr := opd_ok hx hE
      split at h
      · rename_i et m hue hl
        cases hc : Nat.ble (o' + n) m with
        | false => rw [hc] at h; cases h
        | true =>
          rw [hc] at h
          cases h
          obtain ⟨b, cp, hb, he⟩ := hr.sl_of
          obtain ⟨b', c', e1, hob⟩ := hH.obj l _ hl
          rw [hb] at e1; cases e1
          have hheap : w.heap[b]? = some (.cells (Array.replicate m (.int .u8 0)) et (0, 0)) := hob.cur
          have hle := ble_t hc
          refine ⟨_, conv_bytes ho hu hd hue he (ns := List.replicate n 0) (by simp) ?_, ?_⟩
          · intro j v hj
            rw [addr_add]
            rw [List.map_replicate, List.getElem?_replicate] at hj
            split at hj
            · cases hj
              have hlt : o' + j < m := by omega
              simp [World.cell?, hheap, hlt]
            · cases hj
          · simp only [Rel]
            refine ⟨_, rfl, ?_⟩
            rw [bytes_size]; simp
      · rename_i ob hue hl
        split at h
        · rename_i cs hcs
          split at h
          · rename_i ns hns
            cases h
            obtain ⟨b, c2, us, cap, he, _, hb, hrel, hlen, hcell⟩ := elems_ok hH hcs hr
            have hus := ints_ok hns hrel
            rw [hus] at hcell hlen
            exact ⟨_, conv_bytes ho hu hd hue he (by simpa using hlen) hcell, Rel.mkv _⟩
          · cases h
        · cases h
      · cases h
    · cases h
  · cases h
theorem allV_ok {l : List Operand} (h : allV A l = true) (hE : EnvOK ω s A E) : ∀ x ∈ l, ev E x = rho A x := by
  induction l with
  | nil => simp
  | cons y r ih =>
    simp only [allV] at h
    split at h
    · rename_i v hv
      intro x hx
      rcases List.mem_cons.1 hx with rfl | hx
      · simp only [rho, hv]; exact (opd_ok hv hE).v_of
      · exact ih h x hx
    · cases h
theorem pure_ok (hE : EnvOK ω s A E) {a : AV} (h : evPure P A o = some a) : ∃ v, OpV P o E w v ∧ Rel ω s a v := by
  unfold evPure at h
  split at h
  · cases h
  · rename_i hns
    cases hz : allV A o.op.operands.toList with
    | false => rw [hz] at h; cases h
    | true =>
      rw [hz] at h
      simp only [cond_true] at h
      split at h
      · rename_i v hv
        cases h
        refine ⟨v, ?_, Rel.mkv v⟩
        have := execOp_congr (ρ := ev E) (ρ' := rho A) o (fun cs b e => hns cs b e) (fun x hx => allV_ok hz hE x (by simpa using hx))
        unfold OpV
        rw [this]
        exact pureRun_run P _ hv w
      · cases h
end
end Go.Proofs.Ytkcnljgennehaaa.Ev
