/- Contracts. -/
import Derived.Test.YtplflgclomiihaaGreatQE1x
import Derived.Laws.BytesString
import Derived.Lib.Overlaps
import Derived.Laws.MakeOwn
set_option linter.unusedVariables false
set_option linter.unusedSimpArgs false
namespace Go.Proofs.YtplflgclomiihaaGreat.Ev
open Go.RowKit Go.Proofs.YtplflgclomiihaaGreat.W
section
variable {ω : Nat → Value} {s : Sg} {w0 w : World} {st : Stt} {A : AE} {E : Env} {P : Program} {o : Oper}
theorem rd_field {t : TypeId} {x : Operand} {i : Nat} {a : AV} {cs : List AV} {fs : Array Field} {f : Field} (ho : o.op = .field t x i) (hE : EnvOK ω s A E) (hx : opd A x = some (.agg cs)) (hu : P.underlying t = some (.struct fs)) (hf : fs[i]? = some f) (h : partA P f.type cs f.offset = some a) :
    ∃ v, OpV P o E w v ∧ Rel ω s a v := by
  have hr := opd_ok hx hE
  simp only [Rel] at hr
  obtain ⟨vs, hr, he⟩ := hr
  rcases part_ok h hr with ⟨v, hp, hv, hrel⟩ | ⟨sz, us, hp, hle, hus, hlen, hrel⟩
  · refine ⟨v, ?_, hrel⟩
    simp [OpV, execOp, ho, he, go_sem, Instr.field, underlying, hu, hf, asAgg, part, is_agg_no hp, hv]
  · refine ⟨_, ?_, hrel⟩
    have : vs.toArray.extract f.offset (f.offset + sz) = us.toArray := by
      subst hus; simp [List.extract_eq_take_drop]
    simp [OpV, execOp, ho, he, go_sem, Instr.field, underlying, hu, hf, asAgg, part, is_agg_yes hp, size_of hp.2, ← this]
theorem rd_load {t : TypeId} {x : Operand} {a : AV} {p : AV} (ho : o.op = .load t x) (hH : Hold ω s w0 st w) (hE : EnvOK ω s A E) (hx : opd A x = some p) (h : evRead P st t p = some a) :
    ∃ v, OpV P o E w v ∧ Rel ω s a v := by
  have hr := opd_ok hx hE
  unfold evRead at h
  split at h
  · rename_i l k
    split at h
    · rename_i b hl
      obtain ⟨bk, c, vs, h1, h2, h3⟩ := hH.cells hl
      obtain ⟨bk', c', h4, he⟩ := hr.ptr_of
      rw [h1] at h4; cases h4
      rcases part_ok h h2 with ⟨v, hp, hv, hrel⟩ | ⟨sz, us, hp, hle, hus, hlen, hrel⟩
      · exact ⟨v, V.load ho hp he (by have := h3 k v hv; rwa [Nat.zero_add] at this), hrel⟩
      · exact ⟨_, V.loadAgg ho hp he (At.part h3 hus) hlen, hrel⟩
    · cases h
  · cases h
theorem loadVar_ok {t:TypeId} {v:Value} {a p:AV} (hH:Hold ω s w0 st w) (hp:Rel ω s p v) (h:evRead P st t p=some a):∃ b k u,v=.pointer (some ⟨b,k,none⟩)∧(loadVar t ⟨b,k,none⟩).run P w=.ok u w∧Rel ω s a u:=by
 unfold evRead at h
 split at h
 ·rename_i l k
  split at h
  ·rename_i b hl
   obtain ⟨bk,c,vs,h1,h2,h3⟩:=hH.cells hl
   obtain ⟨bk',c',h4,he⟩:=hp.ptr_of
   rw [h1] at h4; cases h4
   rcases part_ok h h2 with ⟨v,hp,hv,hrel⟩ | ⟨sz,us,hp,hle,hus,hlen,hrel⟩
   ·exact ⟨bk,k,v,he,run_loadVar_one hp (by have:=h3 k v hv; rwa [Nat.zero_add] at this),hrel⟩
   ·exact ⟨bk,k,_,he,run_loadVar_agg hp (At.part h3 hus) hlen,hrel⟩
  ·cases h
 ·cases h
theorem rd_slice {t : TypeId} {x : Operand} {lo hi mx : Option Operand} {a : AV} (ho : o.op = .slice t x lo hi mx) (hH : Hold ω s w0 st w) (hE : EnvOK ω s A E) (h : evSlice P st A t x lo hi mx = some a) :
    ∃ v, OpV P o E w v ∧ Rel ω s a v := by
  unfold evSlice at h
  split at h
  · rename_i l k n c ex e hx hu
    have hr := opd_ok hx hE
    obtain ⟨b, cp, hb, he⟩ := hr.sl_of
    split at h
    · rename_i sz i j hsz hlo hhi
      have hlo' := bnd_ok hlo hE
      have hhi' := bnd_ok hhi hE
      cases mx with
      | none =>
        simp only at h
        cases hc : (Nat.ble i j && fitsA st sz l c j ex && fitsA st sz l c n ex) with
        | false => rw [hc] at h; simp at h
        | true =>
          rw [hc] at h
          simp only [cond_true] at h
          simp only [Bool.and_eq_true] at hc
          obtain ⟨⟨h1, h5⟩, h4⟩ := hc
          have h1 := ble_t h1
          have h5 := fits_ok hH h5 hb
          have h4 := fits_ok hH h4 hb
          refine ⟨_, V.sliceSlice ho hu (szOf_sized hsz) he (by cases lo with | none => exact hlo'.1 rfl | some y => exact hlo'.2 y rfl) (by cases hi with | none => exact hhi'.1 rfl | some y => exact hhi'.2 y rfl) h1 h5, ?_⟩
          cases h3 : (ex || Nat.blt i j || Nat.blt i n || Nat.beq i 0) with
          | false =>
            rw [h3] at h
            simp only [cond_false, Option.some.injEq] at h
            subst h
            simp only [Bool.or_eq_false_iff] at h3
            have h6 : ¬ i < j := fun hlt => by
              have : Nat.blt i j = true := Nat.ble_eq_true_of_le hlt
              rw [h3.1.1.2] at this; cases this
            simp only [Rel]
            exact ⟨b, _, _, by rw [show j - i = 0 from by omega]⟩
          | true =>
          rw [h3] at h
          simp only [cond_true, Option.some.injEq] at h
          subst h
          simp only [Bool.or_eq_true] at h3
          simp only [Rel]
          refine ⟨b, cp, hb, ?_⟩
          cases ex with
          | true =>
            simp only [cond_true, Bool.true_and]
            cases hq : Nat.beq c i with
            | true => rw [if_pos (beq_t hq)]; simp
            | false => rw [if_neg (beq_f hq)]; simp
          | false =>
            have hz : (if (bif false then c else cp - c) = i then 0 else i * sz) = i * sz := by
              split
              · rename_i e1
                rcases h3 with ((h3 | h3) | h3) | h3
                · cases h3
                · have := blt_t h3; simp only [cond_false] at e1 h5; omega
                · have := blt_t h3; simp only [cond_false] at e1 h4; omega
                · rw [beq_t h3]; simp
              · rfl
            rw [hz]
            simp only [cond_false, Bool.false_and]; congr 1; omega
      | some m =>
        simp only at h
        split at h
        · rename_i y m' hm
          have hm' := bnd_ok hm hE
          cases hc : (Nat.ble i j && Nat.ble j m' && Nat.ble m' n && fitsA st sz l c n ex) with
          | false => rw [hc] at h; simp at h
          | true =>
            rw [hc] at h
            simp only [cond_true, Option.some.injEq] at h
            subst h
            simp only [Bool.and_eq_true, Bool.or_eq_true] at hc
            obtain ⟨⟨⟨h1, h2⟩, h5⟩, h4⟩ := hc
            have h1 := ble_t h1; have h2 := ble_t h2; have h5 := ble_t h5
            have h4 := fits_ok hH h4 hb
            refine ⟨_, V.slice3 ho hu (szOf_sized hsz) he (by cases lo with | none => exact hlo'.1 rfl | some y => exact hlo'.2 y rfl) (hhi'.2 _ rfl) (hm'.2 _ rfl) h1 h2 (by omega), ?_⟩
            simp only [Rel]
            refine ⟨b, cp, hb, ?_⟩
            cases hq : Nat.beq m' i with
            | true => rw [if_pos (beq_t hq)]; simp
            | false => rw [if_neg (beq_f hq)]; simp
        · cases h
    · cases h
  · rename_i l k n e hx hu
    have hr := opd_ok hx hE
    obtain ⟨b, cp, hb, he⟩ := hr.ptr_of
    split at h
    · rename_i sz i j m hsz hlo hhi hmx
      have hlo' := bnd_ok hlo hE
      have hhi' := bnd_ok hhi hE
      have hmx' := bnd_ok hmx hE
      cases hc : (maxOk mx hi && Nat.ble i j && Nat.ble j m && Nat.ble m n) with
      | false => rw [hc] at h; simp at h
      | true =>
        rw [hc] at h
        simp only [cond_true, Option.some.injEq] at h
        subst h
        simp only [Bool.and_eq_true, Bool.or_eq_true] at hc
        obtain ⟨⟨⟨h0, h1⟩, h2⟩, h3⟩ := hc
        have h1 := ble_t h1; have h2 := ble_t h2; have h3 := ble_t h3
        refine ⟨_, V.sliceArr ho hu (szOf_sized hsz) he (by cases lo with | none => exact hlo'.1 rfl | some y => exact hlo'.2 y rfl) (by cases hi with | none => exact hhi'.1 rfl | some y => exact hhi'.2 y rfl) (by cases mx with | none => exact hmx'.1 rfl | some y => exact hmx'.2 y rfl) (by cases mx <;> cases hi <;> simp [maxOk] at h0 ⊢) h1 h2 h3, ?_⟩
        simp only [Rel]
        refine ⟨b, cp, hb, ?_⟩
        cases hq : Nat.beq m i with
        | true => rw [if_pos (beq_t hq)]; simp
        | false => rw [if_neg (beq_f hq)]; simp
    · cases h
  · cases h
theorem elems_ok (hH : Hold ω s w0 st w) {sz l o' n d : Nat} {ex : Bool} {ys : List AV} {v : Value} (h : elemsA st sz (.sl l o' n d ex) = some ys) (hr : Rel ω s (.sl l o' n d ex) v) :
    ∃ b c us cap, v = .slice (some ⟨b, o', none⟩) n cap ∧ cap = (bif ex then d else c - d) ∧ s l = some (b, c) ∧ RelL ω s ys us ∧ us.length = n * sz ∧ (∀ j u, us[j]? = some u → w.cell? ((⟨b, o', none⟩ : Addr).add j) = some u) := by
  obtain ⟨b, c, hb, he⟩ := hr.sl_of
  simp only [elemsA] at h
  split at h
  · rename_i ob hl
    cases hc : Nat.ble (o' + n * sz) ob.cs.length with
    | false => rw [hc] at h; cases h
    | true =>
      rw [hc] at h
      cases h
      obtain ⟨bk, c', vs, h1, h2, h3⟩ := hH.cells hl
      rw [hb] at h1; cases h1
      have hle := ble_t hc
      rw [h2.len] at hle
      exact ⟨b, c, _, _, he, rfl, hb, (h2.drop o').take (n * sz), by rw [List.length_take, List.length_drop]; omega, At.cells (At.part h3 rfl)⟩
  · cases h
theorem ints_ok:∀ {cs:List AV} {ns:List Int} {us:List Value},intsA cs=some ns → RelL ω s cs us → us=ns.map (Value.int .u8)
 | [],ns,us,h,hr=>by simp only [intsA,Option.some.injEq] at h; subst h; rw [hr.unnil]; rfl
 | a :: r,ns,us,h,hr=>by
  obtain ⟨v,us',h1,h2,rfl⟩:=hr.uncons
  unfold intsA at h
  split at h
  ·rename_i heq; cases heq
  ·rename_i n r' heq
   cases heq
   split at h
   ·rename_i ns' hns
    cases h
    rw [h1.v_of,ints_ok hns h2]; rfl
   ·cases h
  ·cases h
theorem bytes_size (ns:List Int):(ns.foldl (fun (r:ByteArray) n=>r.push (UInt8.ofNat n.toNat)) ByteArray.empty).size=ns.length:=by
 have:∀ (ns:List Int) (r:ByteArray),(ns.foldl (fun (r:ByteArray) n=>r.push (UInt8.ofNat n.toNat)) r).size=r.size + ns.length:=by
  intro ns
  induction ns with
  | nil=>simp
  | cons n ns ih=>intro r; rw [List.foldl_cons,ih,ByteArray.size_push,List.length_cons]; omega
 have:=this ns ByteArray.empty
 simpa using this
theorem conv_bytes {sT dT e : TypeId} {x : Operand} {b k n c : Nat} {ns : List Int} (ho : o.op = .convert sT dT x) (hu : P.underlying sT = some (.slice e)) (hd : P.underlying dT = some .string) (he : P.underlying e = some (.int .u8)) (hx : ev E x = .slice (some ⟨b, k, none⟩) n c) (hl : (ns.map (Value.int .u8)).length = n)
    (hc : ∀ j v, (ns.map (Value.int .u8))[j]? = some v → w.cell? ((⟨b, k, none⟩ : Addr).add j) = some v) : OpV P o E w (.string (ns.foldl (fun r n => r.push (UInt8.ofNat n.toNat)) ByteArray.empty)) := by
  have hld : (loadCells ⟨b, k, none⟩ n).run P w = .ok (ns.map (Value.int .u8)).toArray w := by
    subst hl
    have := load_cells (P := P) (w := w) (b := b) (k := k) (ns.map (Value.int .u8)) 0 #[] (fun j v hj => by have := hc j v hj; rw [addr_add] at this; rw [Nat.zero_add]; exact this)
    simpa [loadCells] using this
  have := Go.run_bytesToString (P := P) w ⟨b, k, none⟩ n c ns hld
  simp [OpV, execOp, ho, hx, go_sem, convert, underlying, hu, hd, he, this]
theorem txt_ok {a:AV} {n:Nat} {v:Value} (h:txtN a=some n) (hr:Rel ω s a v):∃ t:ByteArray,v=.string t∧t.size ≤ n:=by
 unfold txtN at h
 split at h
 ·cases h; exact ⟨_,hr.v_of,Nat.le_refl _⟩
 ·cases h; simp only [Rel] at hr; obtain ⟨t,h1,h2⟩:=hr; exact ⟨t,h1,by omega⟩
 ·cases h; simpa only [Rel] using hr
 ·cases h
theorem text_add {t q : TypeId} {x y : Operand} {n m : Nat} (ho : o.op = .binOp .add t x y q) (hx : ∃ t : ByteArray, ev E x = .string t ∧ t.size ≤ n) (hy : ∃ t : ByteArray, ev E y = .string t ∧ t.size ≤ m) (hle : n + m ≤ 9223372036854775807) :
    ∃ v, OpV P o E w v ∧ Rel ω s (.txt (n + m)) v := by
  obtain ⟨tx, h1, h2⟩ := hx
  obtain ⟨ty, h3, h4⟩ := hy
  refine ⟨.string (tx ++ ty), ?_, by simp only [Rel]; exact ⟨_, rfl, by rw [ByteArray.size_append]; omega⟩⟩
  have hno : ¬ (((tx.size + ty.size : Nat) : Int) > IntKind.i64.max) := by
    have : IntKind.i64.max = 9223372036854775807 := rfl
    rw [this]; omega
  unfold OpV
  simp only [execOp, ho, h1, h3]
  refine run_v ?_
  simp only [Sem.run_bind, eqGuard, binOp, Op.stringOp, Sem.run_pure, Result.andThen_ok, if_neg hno]
  rfl
theorem look_none (hH : Hold ω s w0 st w) {t kt et : TypeId} {m k : Operand} {ok : Bool} {l c : Nat} {d : TypeDesc} {z : Value} (ho : o.op = .lookup t m k ok) (hm : Rel ω s (.mp l) (ev E m)) (ht : P.underlying t = some (.map kt et)) (hl : st.h.get l = some (.m [] c)) (hd : P.underlying kt = some d) (hp : plainKey d = true) (hz : zeroV P et = some z) :
    OpV P o E w (bif ok then .tuple #[z, .bool false] else z) := by
  obtain ⟨b, cp, hb, hmv⟩ := hm.mp_of
  obtain ⟨vs, h1, h2, h3, _⟩ := hH.map hl hb
  have hvs : vs = [] := List.eq_nil_of_length_eq_zero (by simpa using h2.symm)
  subst hvs
  have hget := run_getO (P := P) h3 (by intro c t f; simp)
  have hzr : (zeroValue et).run P w = .ok z w := zero_of (by
    unfold zeroV at hz
    unfold W.Zero
    cases hi : P.info? et with
    | none => rw [hi] at hz; cases hz
    | some i => rw [hi] at hz; simpa using hz)
  have hck : (Instr.checkKey true 10000 kt (ev E k)).run P w = .ok () w := by
    rw [Instr.checkKey]
    simp only [Sem.run_bind, run_underlying hd, Result.andThen_ok]
    cases d <;> first | rfl | simp [plainKey] at hp
  have hfk : (Instr.findKey kt (ev E k) []).run P w = .ok none w := by
    unfold Instr.findKey
    simp only [Sem.run_bind, run_underlying hd, Result.andThen_ok, Instr.findNow]
    rfl
  have hrun : (Instr.lookup t (ev E m) (ev E k) ok).run P w = .ok (if ok = true then .tuple #[z, .bool false] else z) w := by
    unfold Instr.lookup
    simp only [Sem.run_bind, run_underlying ht, Result.andThen_ok, hmv, hget, Sem.run_pure, mkEs]
    simp [hck, hfk, hzr, go_sem]
  simp only [OpV, execOp, ho]
  cases ok <;> exact run_v hrun
theorem gtr_ok (hH:Hold ω s w0 st w) {t q:TypeId} {x y:Operand} {k l d:Nat} {r:Bool} (ho:o.op=.binOp .gtr t x y q) (hx:ev E x=.int .i64 (k:Int)) (hy:Rel ω s (.cap l d) (ev E y)) (h:gtrCap st k l d=some r):OpV P o E w (.bool r):=by
 simp only [Rel] at hy
 obtain ⟨b,c,hb,hyv⟩:=hy
 have key:decide ((k:Int) > ((c - d:Nat):Int))=r:=by
  unfold gtrCap at h
  split at h
  case h_2=>cases h
  rename_i ob hl
  obtain ⟨b',c',e1,hob⟩:=hH.obj l _ hl
  rw [hb] at e1; cases e1
  cases hc:(ob.row && Nat.ble 1 ob.sz) with
  | false=>rw [hc] at h; cases h
  | true =>
   rw [hc] at h
   simp only [cond_true] at h
   simp only [Bool.and_eq_true] at hc
   obtain ⟨cur,vs,_,hr,_,_,h7⟩:=hob.cur
   obtain ⟨n,h8,h9,_,_,h10,_⟩:=h7 hc.1
   have h1:=ble_t hc.2
   split at h
   ·rename_i hh hhi
    cases h2:(Nat.ble hh (k + d) && Nat.ble 1 k) with
    | true =>
     rw [h2] at h; cases h
     simp only [Bool.and_eq_true] at h2
     have:=h10 hh hhi
     have:=ble_t h2.1; have:=ble_t h2.2
     simp; omega
    | false =>
     rw [h2] at h
     simp only [cond_false] at h
     cases h3:Nat.ble ((k + d) * ob.sz) ob.cs.length with
     | false=>rw [h3] at h; cases h
     | true =>
      rw [h3] at h; cases h
      have e4:=ble_t h3
      rw [hr.len,h8] at e4
      have:k + d ≤ n:=Nat.le_of_mul_le_mul_right e4 h1
      simp; omega
   ·simp only [cond_false] at h
    cases h3:Nat.ble ((k + d) * ob.sz) ob.cs.length with
    | false=>rw [h3] at h; cases h
    | true =>
     rw [h3] at h; cases h
     have e4:=ble_t h3
     rw [hr.len,h8] at e4
     have:k + d ≤ n:=Nat.le_of_mul_le_mul_right e4 h1
     simp; omega
 unfold OpV
 simp only [execOp,ho,hx,hyv]
 refine run_v ?_
 simp only [Sem.run_bind,eqGuard,binOp,Op.intCmp,Sem.run_pure,Result.andThen_ok,ne_eq,not_true_eq_false,if_false,key]
 rfl
theorem V.capSlice {x:Operand} {t e:TypeId} {b:Option Addr} {n c:Nat} (ho:o.op=.call ⟨.builtin .cap,#[x],#[t]⟩) (ht:P.underlying t=some (.slice e)) (hx:ev E x=.slice b n c):OpV P o E w (.int .i64 c):=by
 have hrun:(Builtin.cap_ #[t] o.type #[ev E x]).run P w=.ok (.int .i64 c) w:=by
  rw [hx]
  unfold Builtin.cap_
  simp [go_sem,run_underlying ht]
 unfold OpV
 simp only [execOp,ho,resolve]
 rw [show #[x].map (ev E)=#[ev E x] from by simp]
 exact run_v hrun
theorem find_overlaps {fn:Func} (h:isOverlaps fn=true):fn.body.isNone=true∧(fn.name == "runtime.NumGoroutine")=false∧Extern.findNext fn=none∧Extern.find fn=some (Extern.SlicesOverlaps.overlaps fn.params fn.resultTypes):=by
 simp only [isOverlaps,Bool.and_eq_true,Bool.not_eq_true',Option.isNone_iff_eq_none] at h
 obtain ⟨⟨⟨⟨⟨⟨h1,h2⟩,h3⟩,h4⟩,h5⟩,h6⟩,h7⟩:=h
 have h3':fn.origin="slices.overlaps":=by simpa using h3
 have g1:Extern.allGenericRows.lookup "slices.overlaps"=none:=by kernel_rfl
 have g2:Extern.allTypedRows.lookup "slices.overlaps"=some Extern.SlicesOverlaps.overlaps:=by kernel_rfl
 have g3:Extern.allNextRows.lookup "slices.overlaps"=none:=by kernel_rfl
 refine ⟨by simp [h1],h2,?_,?_⟩
 ·simp [Extern.findNext,h7,h3',g3]
 ·simp [Extern.find,h4,h5,h6,h3',g1,g2]
theorem overlaps_ok (hH : Hold ω s w0 st w) (hE : EnvOK ω s A E) {g : Operand} {xs : Array Operand} {ts : Array TypeId} {f : FuncId} {fn : Func} {l l' o1 o2 n1 n2 d1 d2 : Nat} {e1 e2 : Bool} {ob ob' : AO} (ho : o.op = .call ⟨.value g, xs, ts⟩) (hg : ev E g = .func (.func f) #[] #[]) (hxs : opds A xs.toList = some [.sl l o1 n1 d1 e1, .sl l' o2 n2 d2 e2]) (hfn : P.funcs[f]? = some fn)
    (hl : st.h.get l = some (.c ob)) (hl' : st.h.get l' = some (.c ob')) (hne : l ≠ l') (hcs : ob'.cs ≠ []) (hov : overlapsAt P fn = true) : OpV P o E w (.bool false) := by
  unfold overlapsAt at hov
  split at hov
  case h_2 => cases hov
  rename_i t u hps
  simp only [Bool.and_eq_true] at hov
  obtain ⟨⟨q1, q2⟩, q3⟩ := hov
  have := beq_t q1
  subst this
  split at q2
  case h_2 => cases q2
  rename_i e hte
  obtain ⟨sz, hsz⟩ := Option.isSome_iff_exists.1 q2
  obtain ⟨g1, g2, g3, g4⟩ := find_overlaps q3
  have hr := opds_ok hxs hE
  obtain ⟨v1, vs1, r1, r2, hv1⟩ := hr.uncons
  obtain ⟨v2, vs2, r3, r4, rfl⟩ := r2.uncons
  have := r4.unnil
  subst this
  obtain ⟨b1, c1, hb1, rfl⟩ := r1.sl_of
  obtain ⟨b2, c2, hb2, rfl⟩ := r3.sl_of
  have hb : b1 ≠ b2 := fun e => hne (by subst e; exact hH.inj l l' _ _ b1 c1 c2 hl hl' hb1 hb2)
  obtain ⟨b1', c1', e3, hob1⟩ := hH.obj l _ hl
  rw [hb1] at e3; cases e3
  obtain ⟨b2', c2', e4, hob2⟩ := hH.obj l' _ hl'
  rw [hb2] at e4; cases e4
  obtain ⟨cur1, us1, p1, _⟩ := hob1.cur
  obtain ⟨cur2, us2, p2, p3, p4, _⟩ := hob2.cur
  have hcur2 : cur2.size ≠ 0 := by
    intro e
    have e' : cur2.toList = [] := by rw [Array.eq_empty_of_size_eq_zero e]
    rw [e'] at p4
    have hus : us2 = [] := by rw [← p4]; simp
    have := p3.len
    rw [hus] at this
    exact hcs (List.eq_nil_of_length_eq_zero (by simpa using this))
  have hps' : fn.params = #[t, t] := toList2 hps
  have hrun : (callFunc f #[.slice (some ⟨b1, o1, none⟩) n1 (bif e1 then d1 else c1 - d1), .slice (some ⟨b2, o2, none⟩) n2 (bif e2 then d2 else c2 - d2)]).run P w = .ok (.value (.bool false)) w := by
    rw [Go.run_callFunc_extern hfn g2 g1 g3 g4, hps']
    rw [show Extern.SlicesOverlaps.overlaps #[t, t] fn.resultTypes = Extern.SlicesOverlaps.overlaps #[t, t] #[t] from rfl]
    have hsz' := Lib.run_overlaps_apart (P := P) w t t e hte sz (fun w => size_of (szOf_sized hsz)) ⟨b1, o1, none⟩ ⟨b2, o2, none⟩ n1 (bif e1 then d1 else c1 - d1) n2 (bif e2 then d2 else c2 - d2) hb ob.et ob'.et cur1.size cur2.size (by simp [World.shape?, p1]) (by simp [World.shape?, p2]) hcur2 (by simp [World.frozen?, p1]) (by simp [World.frozen?, p1])
    rw [hsz']; rfl
  unfold OpV
  have hargs : xs.map (ev E) = #[.slice (some ⟨b1, o1, none⟩) n1 (bif e1 then d1 else c1 - d1), .slice (some ⟨b2, o2, none⟩) n2 (bif e2 then d2 else c2 - d2)] := by
    apply Array.ext'
    simpa using hv1
  simp [execOp, ho, go_sem, hg, hargs, hrun]
theorem rd_ok (hω:OneW ω) (hH:Hold ω s w0 st w) (hE:EnvOK ω s A E) {a:AV} (h:evRdSp P st A o.op=some a):∃ v,OpV P o E w v∧Rel ω s a v:=by
 unfold evRdSp at h
 split at h
 ·rename_i x ho; exact ⟨_,V.move ho rfl,opd_ok h hE⟩
 ·rename_i x ho; exact ⟨_,V.assign ho rfl,opd_ok h hE⟩
 ·rename_i c x y ho
  split at h
  ·rename_i b hc
   have hb:ev E c=.bool b:=(opd_ok hc hE).v_of
   refine ⟨_,V.pick ho hb rfl,?_⟩
   cases b
   ·exact opd_ok h hE
   ·exact opd_ok h hE
  ·cases h
 ·rename_i x i ho
  split at h
  ·rename_i cs hx
   have hr:=opd_ok hx hE
   simp only [Rel] at hr
   obtain ⟨vs,hr,he⟩:=hr
   obtain ⟨v,hv,hrel⟩:=hr.get h
   exact ⟨v,V.extract ho he (by simpa using hv),hrel⟩
  ·rename_i vs hx
   have he:ev E x=.tuple vs:=(opd_ok hx hE).v_of
   split at h
   ·rename_i v hv; cases h; exact ⟨v,V.extract ho he hv,Rel.mkv v⟩
   ·cases h
  ·cases h
 ·rename_i f fs cs ho
  cases hz:Nat.beq fs.size 0 with
  | false=>rw [hz] at h; cases h
  | true =>
   rw [hz] at h
   simp only [cond_true] at h
   split at h
   ·rename_i l hl
    cases h
    have hfs:fs=#[]:=Array.eq_empty_of_size_eq_zero (beq_t hz)
    subst hfs
    refine ⟨_,V.makeFunc ho rfl rfl,?_⟩
    simp only [Rel]
    exact ⟨_,opds_ok hl hE,by rw [show cs.map (ev E)=(cs.toList.map (ev E)).toArray from Array.ext' (by simp),show (#[]:Array Operand).map (ev E)=#[] from by simp]⟩
   ·cases h
 ·rename_i x ho
  split at h
  ·rename_i l k hx
   cases h
   have hr:=opd_ok hx hE
   obtain ⟨b,c,hb,he⟩:=hr.ptr_of
   exact ⟨_,V.nilCheck ho he,he ▸ hr⟩
  ·rename_i f cs hx
   cases h
   have hr:=opd_ok hx hE
   have hr':=hr
   simp only [Rel] at hr
   obtain ⟨vs,hr,he⟩:=hr
   refine ⟨.func (.func f) #[] vs.toArray,?_,he ▸ hr'⟩
   simp [OpV,execOp,ho,he,go_sem]
  ·cases h
 ·rename_i t x i ho
  split at h
  ·rename_i l k fs hx hu
   split at h
   ·rename_i f hf
    split at h
    ·rename_i n hn
     cases hz:Nat.beq n 0 with
     | true=>rw [hz] at h; cases h
     | false =>
      rw [hz] at h
      cases h
      have hr:=opd_ok hx hE
      obtain ⟨b,c,hb,he⟩:=hr.ptr_of
      refine ⟨_,V.fieldAddr ho ⟨⟨fs,f,hu,hf,rfl,rfl⟩,szOf_sized hn,beq_f hz⟩ he,?_⟩
      simp only [Rel]; exact ⟨b,c,hb,rfl⟩
    ·cases h
   ·cases h
  ·cases h
 ·rename_i t x i ho
  split at h
  ·rename_i l k n d ex ai e hx hi hu
   split at h
   ·rename_i j sz hj hsz
    cases hz:Nat.blt j n with
    | false=>rw [hz] at h; cases h
    | true =>
     rw [hz] at h
     cases h
     have hr:=opd_ok hx hE
     obtain ⟨b,c,hb,he⟩:=hr.sl_of
     obtain ⟨ik,hik⟩:=natOf_ok hj (opd_ok hi hE)
     refine ⟨_,V.indexAddr ho hu (szOf_sized hsz) he hik rfl (blt_t hz),?_⟩
     simp only [Rel]; exact ⟨b,c,hb,rfl⟩
   ·cases h
  ·rename_i l k ai n e hx hi hu
   split at h
   ·rename_i j sz hj hsz
    cases hz:Nat.blt j n with
    | false=>rw [hz] at h; cases h
    | true =>
     rw [hz] at h
     cases h
     have hr:=opd_ok hx hE
     obtain ⟨b,c,hb,he⟩:=hr.ptr_of
     obtain ⟨ik,hik⟩:=natOf_ok hj (opd_ok hi hE)
     refine ⟨_,V.indexArr ho hu (szOf_sized hsz) he hik (blt_t hz),?_⟩
     simp only [Rel]; exact ⟨b,c,hb,rfl⟩
   ·cases h
  ·cases h
 ·rename_i t x i ho
  split at h
  ·rename_i cs fs hx hu
   split at h
   ·rename_i f hf; exact rd_field ho hE hx hu hf h
   ·cases h
  ·cases h
 ·rename_i t ps ho
  cases hz:allV A (ps.toList.map (·.2)) with
  | true=>rw [hz] at h; cases h
  | false =>
   rw [hz] at h
   simp only [cond_false] at h
   split at h
   ·rename_i L it fs hL hit hu
    split at h
    ·rename_i z places hzz hpl
     split at h
     ·rename_i cs hcs
      cases h
      obtain ⟨hp1,hp2⟩:=parts_ok hL hE
      have hz0:RelL ω s (cellsA (.v z)) z.cells.toList:=Rel.cells hω (Rel.mkv z)
      obtain ⟨us,hus,hrel⟩:=fill_ok hω _ L (ps.toList.map fun x=>(x.1,ev E x.2)) _ cs _ (by rw [partsM.1]; exact hp1) (by rw [partsM.2]; exact hp2) hz0 hcs
      refine ⟨_,V.build1 ho rfl (vs:=us.toArray) ?_,Rel.mkAgg hrel⟩
      simp only [Program.built,hit,hu,hzz,hpl]
      simpa using hus
     ·cases h
    ·cases h
   ·rename_i L it n e hL hit hu
    split at h
    ·rename_i z sz hzz hsz
     split at h
     ·rename_i cs hcs
      cases h
      obtain ⟨hp1,hp2⟩:=parts_ok hL hE
      have hz0:RelL ω s (cellsA (.v z)) z.cells.toList:=Rel.cells hω (Rel.mkv z)
      obtain ⟨us,hus,hrel⟩:=fill_ok hω _ L (ps.toList.map fun x=>(x.1,ev E x.2)) _ cs _ (by rw [partsM.1]; exact hp1) (by rw [partsM.2]; exact hp2) hz0 hcs
      refine ⟨.agg us.toArray,?_,Rel.mkAgg hrel⟩
      have hzr:(zeroValue t).run P w=.ok z w:=zero_of (by simp [W.Zero,hit,hzz])
      have hus':Instr.fill (fun i=>some (i * sz,sz)) z.cells (ps.map fun x=>(x.1,ev E x.2)).toList=some us.toArray:=by simpa using hus
      unfold OpV
      simp only [execOp,ho]
      refine run_v ?_
      unfold Instr.build
      simp only [Sem.run_bind,hzr,Result.andThen_ok,run_underlying hu,size_of (szOf_sized hsz),hus',Sem.run_pure]
     ·cases h
    ·cases h
   ·cases h
 ·rename_i t x ho
  split at h
  ·rename_i p hx; exact rd_load ho hH hE hx h
  ·cases h
 ·rename_i t x lo hi mx ho; exact rd_slice ho hH hE h
 ·rename_i t x y u ho
  split at h
  ·rename_i a' b' d hx hy hu
   split at h
   ·rename_i r hr
    cases h
    obtain ⟨h1,h2⟩:=eql_ok (w:=w) hu hr (opd_ok hx hE) (opd_ok hy hE) .eql (.inl rfl) x y
    refine ⟨_,?_,Rel.mkv _⟩
    unfold OpV
    simp only [execOp,ho]
    exact run_v (by simp only [Sem.run_bind,h1,Result.andThen_ok]; exact h2)
   ·cases h
  ·cases h
 ·rename_i t x y u ho
  split at h
  ·rename_i a' b' d hx hy hu
   split at h
   ·rename_i r hr
    cases h
    obtain ⟨h1,h2⟩:=eql_ok (w:=w) hu hr (opd_ok hx hE) (opd_ok hy hE) .neq (.inr rfl) x y
    refine ⟨_,?_,Rel.mkv _⟩
    unfold OpV
    simp only [execOp,ho]
    exact run_v (by simp only [Sem.run_bind,h1,Result.andThen_ok]; exact h2)
   ·cases h
  ·cases h
 ·rename_i t x y u ho
  split at h
  ·cases h
  ·rename_i a' b' _ hx hy
   split at h
   ·rename_i n m hn hm
    cases hc:Nat.ble (n + m) 9223372036854775807 with
    | false=>rw [hc] at h; cases h
    | true =>
     rw [hc] at h
     cases h
     exact text_add ho (txt_ok hn (opd_ok hx hE)) (txt_ok hm (opd_ok hy hE)) (ble_t hc)
   ·cases h
  ·cases h
 ·rename_i t m k ok ho
  split at h
  ·rename_i l kv kt et hm hk ht
   split at h
   ·rename_i es c hl
    have hmr:=opd_ok hm hE
    have hkv:=(opd_ok hk hE).v_of
    split at h
    ·rename_i i hi
     split at h
     ·rename_i kx a' bb hx
      cases h
      exact look_ok hH ho hmr hkv ht hl hi a' bb kx hx
     ·cases h
    ·rename_i hi
     split at h
     ·rename_i z hz
      cases h
      refine ⟨_,look_ok hH ho hmr hkv ht hl hi z hz,?_⟩
      cases ok <;> exact Rel.mkv _
     ·cases h
    ·cases h
   ·cases h
  ·rename_i l ka kt et hm hk ht
   split at h
   ·rename_i c d z hl hd hz
    cases hc:plainKey d with
    | false=>rw [hc] at h; cases h
    | true =>
     rw [hc] at h
     cases h
     refine ⟨_,look_none hH ho (opd_ok hm hE) ht hl hd hc hz,?_⟩
     cases ok <;> exact Rel.mkv _
   ·cases h
  ·cases h
 ·rename_i it ho
  split at h
  ·rename_i l hit
   split at h
   ·rename_i m since seen stepped hl
    split at h
    ·rename_i b0 es clock hb hm
     cases hc:Nat.beq clock stepped with
     | false=>rw [hc] at h; cases h
     | true =>
      rw [hc] at h
      simp only [cond_true] at h
      split at h
      ·rename_i e he
       cases h
       exact entry_ok hH ho (opd_ok hit hE) hl hm hb (beq_t hc) he
      ·cases h
    ·cases h
   ·cases h
  ·cases h
 ·rename_i t x y u ho
  split at h
  ·rename_i k l d hx hy
   split at h
   ·rename_i r hr
    cases h
    exact ⟨_,gtr_ok hH ho (opd_ok hx hE).v_of (opd_ok hy hE) hr,Rel.mkv _⟩
   ·cases h
  ·cases h
 ·rename_i g xs ts ho
  split at h
  ·rename_i f fs cs l o1 n1 d1 e1 l' o2 n2 d2 e2 hg hxs
   split at h
   ·rename_i fn ob ob' hfn hl hl'
    cases hc:(Nat.beq fs.size 0 && Nat.beq cs.size 0 && !Nat.beq l l' && !ob'.cs.isEmpty && fn.body.isNone && overlapsAt P fn) with
    | false=>rw [hc] at h; cases h
    | true =>
     rw [hc] at h
     cases h
     simp only [Bool.and_eq_true,Bool.not_eq_true'] at hc
     obtain ⟨⟨⟨⟨⟨c1,c2⟩,c3⟩,c4⟩,_⟩,c5⟩:=hc
     have hfs:fs=#[]:=Array.eq_empty_of_size_eq_zero (beq_t c1)
     have hcs:cs=#[]:=Array.eq_empty_of_size_eq_zero (beq_t c2)
     subst hfs; subst hcs
     exact ⟨_,overlaps_ok hH hE ho (opd_ok hg hE).v_of hxs hfn hl hl' (beq_f c3) (by intro e; rw [e] at c4; cases c4) c5,Rel.mkv _⟩
   ·cases h
  ·cases h
 ·rename_i xs ts ho
  split at h
  ·rename_i x t hxs hts
   split at h
   ·rename_i l k n c e hx hu
    cases h
    obtain ⟨b,cp,hb,hv⟩:=(opd_ok hx hE).sl_of
    rw [toList1 hxs,toList1 hts] at ho
    exact ⟨_,V.capSlice ho hu hv,Rel.mkv _⟩
   ·rename_i l k n c e hx hu
    cases h
    obtain ⟨b,cp,hb,hv⟩:=(opd_ok hx hE).sl_of
    rw [toList1 hxs,toList1 hts] at ho
    exact ⟨_,V.capSlice ho hu hv,by simp only [Rel]; exact ⟨b,cp,hb,rfl⟩⟩
   ·cases h
  ·cases h
 ·rename_i xs ts ho
  split at h
  ·rename_i x t hxs hts
   split at h
   ·rename_i l k n d ex e hx hu
    cases h
    have hr:=opd_ok hx hE
    obtain ⟨b,c,hb,he⟩:=hr.sl_of
    rw [toList1 hxs] at ho
    exact ⟨_,V.lenSlice ho (by rw [toList1 hts]; rfl) hu he,Rel.mkv _⟩
   ·rename_i e hx hu
    cases h
    have hr:=opd_ok hx hE
    simp only [Rel] at hr
    obtain ⟨b,o',c,he⟩:=hr
    rw [toList1 hxs] at ho
    exact ⟨_,V.lenSlice ho (by rw [toList1 hts]; rfl) hu he,Rel.mkv _⟩
   ·rename_i n hx hu
    cases h
    have hr:=opd_ok hx hE
    simp only [Rel] at hr
    obtain ⟨tx,he,hn⟩:=hr
    rw [toList1 hxs] at ho
    refine ⟨_,V.lenString ho (by rw [toList1 hts]; rfl) hu he,?_⟩
    rw [hn]; exact Rel.mkv _
   ·rename_i l kt et hx hu
    split at h
    ·rename_i es c hl
     cases h
     obtain ⟨b,cp,hb,hmv⟩:=(opd_ok hx hE).mp_of
     obtain ⟨vs,h1,h2,h3,_⟩:=hH.map hl hb
     rw [toList1 hxs,toList1 hts] at ho
     refine ⟨.int .i64 es.length,?_,Rel.mkv _⟩
     have hrun:(Builtin.len_ #[t] o.type #[ev E x]).run P w=.ok (.int .i64 es.length) w:=by
      rw [hmv]
      unfold Builtin.len_
      simp [go_sem,run_underlying hu,run_getO h3 (by intro c t f; simp),mkEs_len h2]
     unfold OpV
     simp only [execOp,ho,resolve]
     rw [show #[x].map (ev E)=#[ev E x] from by simp]
     exact run_v hrun
    ·cases h
   ·cases h
  ·cases h
 ·rename_i sT dT x ho
  split at h
  ·rename_i l o' n c ex e hx hu hd
   have hr:=opd_ok hx hE
   split at h
   ·rename_i et m hue hl
    cases hc:Nat.ble (o' + n) m with
    | false=>rw [hc] at h; cases h
    | true =>
     rw [hc] at h
     cases h
     obtain ⟨b,cp,hb,he⟩:=hr.sl_of
     obtain ⟨b',c',e1,hob⟩:=hH.obj l _ hl
     rw [hb] at e1; cases e1
     have hheap:w.heap[b]?=some (.cells (Array.replicate m (.int .u8 0)) et (0,0)):=hob.cur
     have hle:=ble_t hc
     refine ⟨_,conv_bytes ho hu hd hue he (ns:=List.replicate n 0) (by simp) ?_,?_⟩
     ·intro j v hj
      rw [addr_add]
      rw [List.map_replicate,List.getElem?_replicate] at hj
      split at hj
      ·cases hj
       have hlt:o' + j < m:=by omega
       simp [World.cell?,hheap,hlt]
      ·cases hj
     ·simp only [Rel]
      refine ⟨_,rfl,?_⟩
      rw [bytes_size]; simp
   ·rename_i ob hue hl
    split at h
    ·rename_i cs hcs
     split at h
     ·rename_i ns hns
      cases h
      obtain ⟨b,c2,us,cap,he,_,hb,hrel,hlen,hcell⟩:=elems_ok hH hcs hr
      have hus:=ints_ok hns hrel
      rw [hus] at hcell hlen
      exact ⟨_,conv_bytes ho hu hd hue he (by simpa using hlen) hcell,Rel.mkv _⟩
     ·cases h
    ·cases h
   ·cases h
  ·cases h
 ·cases h
theorem allV_ok {l:List Operand} (h:allV A l=true) (hE:EnvOK ω s A E):∀ x ∈ l,ev E x=rho A x:=by
 induction l with
 | nil=>simp
 | cons y r ih =>
  simp only [allV] at h
  split at h
  ·rename_i v hv
   intro x hx
   rcases List.mem_cons.1 hx with rfl | hx
   ·simp only [rho,hv]; exact (opd_ok hv hE).v_of
   ·exact ih h x hx
  ·cases h
theorem pure_ok (hE:EnvOK ω s A E) {a:AV} (h:evPure P A o=some a):∃ v,OpV P o E w v∧Rel ω s a v:=by
 unfold evPure at h
 split at h
 ·cases h
 ·rename_i hns
  cases hz:allV A o.op.operands.toList with
  | false=>rw [hz] at h; cases h
  | true =>
   rw [hz] at h
   simp only [cond_true] at h
   split at h
   ·rename_i v hv
    cases h
    refine ⟨v,?_,Rel.mkv v⟩
    have:=execOp_congr (ρ:=ev E) (ρ':=rho A) o (fun cs b e=>hns cs b e) (fun x hx=>allV_ok hz hE x (by simpa using hx))
    unfold OpV
    rw [this]
    exact pureRun_run P _ hv w
   ·cases h
end
end Go.Proofs.YtplflgclomiihaaGreat.Ev
namespace Go.Proofs.YtplflgclomiihaaGreat.Ev
open Go.RowKit Go.Proofs.YtplflgclomiihaaGreat.W
def repV (z:List Value):Nat → List Value
 | 0=>[]
 | n + 1=>z ++ repV z n
theorem repV_len (z:List Value) (n:Nat):(repV z n).length=n * z.length:=by
 induction n with
 | zero=>simp [repV]
 | succ n ih=>rw [repV,List.length_append,ih,Nat.add_mul]; omega
theorem repV_get (z:List Value):∀ (n i:Nat),i < n * z.length → (repV z n)[i]?=z[i % z.length]?
 | 0,i,h=>by simp at h
 | n + 1,i,h=>by
  rw [repV]
  rcases Nat.lt_or_ge i z.length with h1 | h1
  ·rw [List.getElem?_append_left h1,Nat.mod_eq_of_lt h1]
  ·rw [List.getElem?_append_right h1,repV_get z n _ (by rw [Nat.add_mul] at h; omega),← Nat.mod_eq_sub_mod h1]
theorem range_rep (z:Array Value) (n m:Nat) (hm:z.size=m) (h0:0 < m):((Array.range (n * m)).map (z[· % z.size]!))=(repV z.toList n).toArray:=by
 have hz:z.toList.length=m:=by rw [Array.length_toList]; exact hm
 apply Array.ext
 ·simp [repV_len,hm]
 ·intro i h1 h2
  have hi:i < n * z.toList.length:=by rw [hz]; simpa using h1
  have:=repV_get z.toList n i hi
  rw [hz] at this
  have hlt:i % m < z.size:=by rw [hm]; exact Nat.mod_lt _ h0
  simp only [Array.getElem_map,Array.getElem_range,hm]
  rw [getElem!_pos z (i % m) hlt]
  have h3:(repV z.toList n)[i]?=some ((repV z.toList n)[i]'(by rw [repV_len]; exact hi)):=List.getElem?_eq_getElem _
  rw [h3] at this
  have h4:z.toList[i % m]?=some z[i % m]:=by simp [hlt]
  rw [h4] at this
  simpa using this.symm
theorem splice_len {cs us:List Value} {k:Nat} (h:k + us.length ≤ cs.length):(W.splice cs k us).length=cs.length:=by
 simp [W.splice]; omega
theorem splice_app {cs us r:List Value} {k:Nat} (h:k + us.length ≤ cs.length):W.splice (cs ++ r) k us=W.splice cs k us ++ r:=by
 unfold W.splice
 rw [List.take_append_of_le_length (by omega),List.drop_append_of_le_length (by omega)]
 simp
section
variable {ω : Nat → Value} {s : Sg} {w0 w : World} {st : Stt} {A : AE} {E : Env} {P : Program} {o : Oper}
theorem repZ_ok {z:List AV} {zs:List Value} (h:RelL ω s z zs) (n:Nat):RelL ω s (repZ z n) (repV zs n):=by
 induction n with
 | zero=>exact RelL.nil
 | succ n ih=>exact h.append ih
theorem zeroA_ok (hω:OneW ω) {t:TypeId} {z:List AV} (h:zeroA P t=some z):∃ i v,P.info? t=some i∧i.zero=some v∧RelL ω s z v.cells.toList:=by
 unfold zeroA at h
 split at h
 ·rename_i i hi
  split at h
  ·rename_i v hv
   cases h
   exact ⟨i,v,hi,hv,Rel.cells hω (Rel.mkv v)⟩
  ·cases h
 ·cases h
theorem ObjOK.whole {b:Nat} {c:Nat} {o:AO} {vs:List Value} (hg:w0.heap.size ≤ b) (h:w.heap[b]?=some (.cells vs.toArray o.et (0,0))) (hr:RelL ω s o.cs vs) (hrow:o.row=false):ObjOK ω s w0 w b c (.c o) :=
 ⟨hg,vs.toArray,vs,h,hr,by simp,fun _=>rfl,fun e=>by rw [hrow] at e; cases e⟩
theorem Hold.ge (h:Hold ω s w0 st w):w0.heap.size ≤ w.heap.size:=h.ext.size
theorem Hold.alloc (h:Hold ω s w0 st w) {t:TypeId} {cs:List AV} {vs:List Value} (sz:Nat) (hr:RelL ω s cs vs):Hold ω (s.ins st.nx (w.heap.size,0)) w0 (newO st ⟨t,cs,sz,false,none⟩) (w.alloc (.cells vs.toArray t)) :=
 h.new (Ext.alloc w _) (ObjOK.whole h.ge (heap_alloc_new w _) hr rfl)
theorem Rel.newPtr (h:Hold ω s w0 st w) (x:Nat × Nat) (k:Nat):Rel ω (s.ins st.nx x) (.ptr st.nx k) (.pointer (some ⟨x.1,k,none⟩)):=by
 simp only [Rel]; exact ⟨x.1,x.2,Sg.ins_same,rfl⟩
theorem Hold.le_new (h:Hold ω s w0 st w) (x:Nat × Nat):s.le (s.ins st.nx x):=Sg.le_ins (h.dom _ (Nat.le_refl _))
theorem Hold.del (h:Hold ω s w0 st w) (l:Nat):Hold ω s w0 (delO st l) w:=by
 have key:∀ k o1,(delO st l).h.get k=some o1 → k ≠ l∧st.h.get k=some o1:=by
  intro k o1 hk
  rcases Tr.get_set _ _ _ _ _ _ hk with ⟨rfl,e⟩ | ⟨hne,e⟩
  ·cases e
  ·exact ⟨hne,e⟩
 exact ⟨h.ext,h.dom,fun k o1 hk=>h.obj k o1 (key k o1 hk).2,fun k k' o1 o2 b c c' hk hk'=>h.inj k k' o1 o2 b c c' (key k o1 hk).2 (key k' o2 hk').2⟩
theorem Hold.rename (h : Hold ω s w0 st w) {l b c : Nat} {o o' : AX} {w' : World} (hl : st.h.get l = some o) (hb : s l = some (b, c)) (hx : Ext [b] w w') (ho : ObjOK ω s w0 w' b c o') :
    Hold ω (s.ins st.nx (b, c)) w0 (newX (delO st l) o') w' := by
  obtain ⟨b', c', h1, h2⟩ := h.obj l o hl
  rw [hb] at h1; cases h1
  have hle : s.le (s.ins st.nx (b, c)) := h.le_new _
  have key : ∀ k o1, (newX (delO st l) o').h.get k = some o1 → (k = st.nx ∧ o' = o1) ∨ (k ≠ st.nx ∧ k ≠ l ∧ st.h.get k = some o1) := by
    intro k o1 hk
    rcases Tr.get_set _ _ _ _ _ _ hk with ⟨e1, e⟩ | ⟨hne, e⟩
    · cases e; exact .inl ⟨e1, rfl⟩
    · have e' : (Tr.set 24 st.h l none).get k = some o1 := e
      rcases Tr.get_set _ _ _ _ _ _ e' with ⟨_, e2⟩ | ⟨hne', e2⟩
      · cases e2
      · exact .inr ⟨hne, hne', e2⟩
  have far : ∀ k o1 b1 c1, k ≠ l → st.h.get k = some o1 → s k = some (b1, c1) → b1 ≠ b := fun k o1 b1 c1 hne e hs eb => by
    subst eb; exact hne (h.inj k l o1 o b1 c1 c e hl hs hb)
  refine ⟨h.ext.new hx (by simpa using h2.ge), ?_, ?_, ?_⟩
  · intro k hk
    have hk' : st.nx + 1 ≤ k := hk
    simp only [Sg.ins]
    rw [if_neg (by omega)]
    exact h.dom k (by omega)
  · intro k o1 hk
    rcases key k o1 hk with ⟨rfl, rfl⟩ | ⟨hne, hne', e⟩
    · exact ⟨b, c, Sg.ins_same, ho.step hle rfl⟩
    · obtain ⟨b1, c1, h3, h4⟩ := h.obj k o1 e
      exact ⟨b1, c1, hle _ _ h3, h4.step hle (hx.block b1 h4.lt (by simpa using far k o1 b1 c1 hne' e h3))⟩
  · intro k k' o1 o2 b1 c1 c2 hk hk' hs hs'
    rcases key k o1 hk with ⟨rfl, rfl⟩ | ⟨hne, hnl, e⟩
    · rcases key k' o2 hk' with ⟨rfl, rfl⟩ | ⟨hne', hnl', e'⟩
      · rfl
      · simp only [Sg.ins_same, Option.some.injEq, Prod.mk.injEq] at hs
        simp only [Sg.ins, if_neg hne'] at hs'
        exact absurd hs.1.symm (far k' o2 b1 c2 hnl' e' hs')
    · simp only [Sg.ins, if_neg hne] at hs
      rcases key k' o2 hk' with ⟨rfl, rfl⟩ | ⟨hne', hnl', e'⟩
      · simp only [Sg.ins_same, Option.some.injEq, Prod.mk.injEq] at hs'
        exact absurd hs'.1.symm (far k o1 b1 c1 hnl e hs)
      · simp only [Sg.ins, if_neg hne'] at hs'
        exact h.inj k k' o1 o2 b1 c1 c2 e e' hs hs'
theorem Hold.splice (h : Hold ω s w0 st w) {l : Nat} {b : AO} {ys : List AV} {us : List Value} {k : Nat} (hl : st.h.get l = some (.c b)) (hr : RelL ω s ys us) (hk : k + us.length ≤ b.cs.length) (h1 : ∀ u ∈ us, u.oneCell' = true) {bk c : Nat} (hs : s l = some (bk, c)) :
    ∃ w', (storeCells ⟨bk, k, none⟩ us 0).run P w = .ok () w' ∧ Hold ω s w0 (setO st l { b with cs := spliceA b.cs k ys }) w' := by
  obtain ⟨bk', c', e1, h2⟩ := h.obj l (.c b) hl
  rw [hs] at e1; cases e1
  have h2' := h2
  obtain ⟨hg, cur, vs, h3, h4, h5, h6, h7⟩ := h2
  rw [h4.len] at hk
  have hle : vs.length ≤ cur.toList.length := by
    have := congrArg List.length h5
    rw [List.length_take] at this; omega
  have hsz : cur.size = cur.toList.length := by simp
  have hst := run_storeCells_at P bk k b.et us 0 cur w h3 (by omega) h1
  simp only [Nat.add_zero] at hst
  have hcur : cur.toList = vs ++ cur.toList.drop vs.length := by
    conv => lhs; rw [← List.take_append_drop vs.length cur.toList, h5]
  have hsp : cur.toList.take k ++ us ++ cur.toList.drop (k + us.length) = W.splice vs k us ++ cur.toList.drop vs.length := by
    have := splice_app (cs := vs) (us := us) (r := cur.toList.drop vs.length) (k := k) (by omega)
    rw [← hcur] at this
    exact this
  refine ⟨_, hst, h.turn hl hs ⟨rfl, rfl, rfl, by simp, fun j _ hj => setRow_other w bk j _ (by simpa using hj)⟩ ⟨hg, _, W.splice vs k us, setRow_heap w bk cur _ b.et _ h3, h4.splice hr k, ?_, ?_, ?_⟩⟩
  · rw [hsp]; simp [List.take_left]
  · intro hrow
    have := h6 hrow
    rw [hsp]
    have e : cur.toList.drop vs.length = [] := by rw [this]; simp
    rw [e]; simp
  · intro hrow
    obtain ⟨n, a1, a2, a3, a4, a5, a6⟩ := h7 hrow
    refine ⟨n, by rw [splice_len (by omega)]; exact a1, a2, a3, ?_, a5, ?_⟩
    · rw [hsp]
      simp only [List.size_toArray, List.length_append, splice_len (show k + us.length ≤ vs.length by omega), List.length_drop]
      omega
    · intro u hu
      rw [List.toList_toArray] at hu
      rcases List.mem_append.1 hu with hu | hu
      · rcases List.mem_append.1 hu with hu | hu
        · exact a6 u (List.mem_of_mem_take hu)
        · exact h1 u hu
      · exact a6 u (List.mem_of_mem_drop hu)
theorem X.run {v:Value} {w':World} {x y:Operand} {t:TypeId} (ho:o.op=.call ⟨.builtin .append,#[x,y],#[t,t]⟩) {a b:Value} (hx:ev E x=a) (hy:ev E y=b) (h:(Builtin.append_ #[t,t] o.type #[a,b]).run P w=.ok v w'):OpX P o E w v w':=by
 left
 simp only [execOp,ho,resolve]
 have e:#[x,y].map (ev E)=#[a,b]:=by simp [hx,hy]
 rw [e]
 exact run_v h
theorem repV_mem {z:List Value} {u:Value}:∀ {n:Nat},u ∈ repV z n → u ∈ z
 | 0,h=>by simp [repV] at h
 | n + 1,h=>by
  rw [repV] at h
  rcases List.mem_append.1 h with h | h
  ·exact h
  ·exact repV_mem h
theorem zeroCells_mem {z:Array Value} {u:Value} {n:Nat} (h:u ∈ (Builtin.zeroCells z n).toList):u ∈ z.toList:=by
 rcases Nat.eq_zero_or_pos z.size with h0 | h0
 ·unfold Builtin.zeroCells at h; rw [h0] at h; simp at h
 ·have:Builtin.zeroCells z n=(repV z.toList n).toArray:=range_rep z n z.size rfl h0
  rw [this] at h; exact repV_mem h
theorem grown_ok (hH : Hold ω s w0 st w) {e : TypeId} {z : Value} {sz m cap : Nat} {cs : List AV} {us : List Value} (hr : RelL ω s cs us) (hl : us.length = m * sz) (hz : z.cells.size = sz) (h1 : m ≤ cap) (h2 : cap ≤ maxLen) (o1 : ∀ u ∈ us, u.oneCell' = true) (o2 : ∀ u ∈ z.cells.toList, u.oneCell' = true) {cells : Array Value} (hc : cells = us.toArray ++ Builtin.zeroCells z.cells (cap - m)) :
    Hold ω (s.ins st.nx (w.heap.size, cap)) w0 (newO st ⟨e, cs, sz, true, none⟩) (w.drew.alloc (.cells cells e)) := by
  have := (hH.drew (w.drawn + 1)).new (o := .c ⟨e, cs, sz, true, none⟩) (w' := w.drew.alloc (.cells cells e)) (c := cap) (Ext.alloc _ _) ⟨hH.ge, cells, us, heap_alloc_new w.drew _, hr, by subst hc; simp [List.take_left], (fun h => by cases h), fun _ => ⟨m, hl, h1, h2, by
    subst hc
    simp only [Array.size_append, List.size_toArray, size_zeroCells, hz, hl]
    rw [← Nat.add_mul]; congr 1; omega, (fun h e => by cases e), by
    subst hc
    intro u hu
    rw [Array.toList_append] at hu
    rcases List.mem_append.1 hu with hu | hu
    · exact o1 u (by simpa using hu)
    · exact o2 u (zeroCells_mem hu)⟩⟩
  exact this
theorem nil_of (w:World) {sz:Nat} {y:AV} {v:Value} (h:isNilSl y=true) (hr:Rel ω s y v):(Builtin.lenOf v).run P w=.ok 0 w∧(Builtin.firstCells sz 0 v).run P w=.ok #[] w:=by
 unfold isNilSl at h
 split at h
 ·have:=hr.v_of; subst this; exact ⟨rfl,rfl⟩
 ·simp only [Rel] at hr
  obtain ⟨b,o,c,rfl⟩:=hr
  refine ⟨rfl,?_⟩
  simp [Builtin.firstCells,loadCells,loadCellsFrom]
 ·cases h
theorem append_ok (hω : OneW ω) (hH : Hold ω s w0 st w) {t : TypeId} {x y : Operand} {a b : AV} {u : AV} {st' : Stt} (ho : o.op = .call ⟨.builtin .append, #[x, y], #[t, t]⟩) (hx : Rel ω s a (ev E x)) (hy : Rel ω s b (ev E y)) (h : evAppend P st t a b = some (u, st')) :
    ∃ v w' s', OpX P o E w v w' ∧ s.le s' ∧ Hold ω s' w0 st' w' ∧ Rel ω s' u v := by
  unfold evAppend at h
  split at h
  case h_2 => cases h
  rename_i e ht
  split at h
  case h_2 => cases h
  rename_i i z hi hz
  obtain ⟨i', zv, hi', hzv, hzr⟩ := zeroA_ok (s := s) hω hz
  rw [hi] at hi'; cases hi'
  cases hc0 : (Nat.ble 1 i.size && Nat.beq z.length i.size && z.all oneCellA) with
  | false => rw [hc0] at h; cases h
  | true =>
  rw [hc0] at h
  simp only [cond_true] at h
  simp only [Bool.and_eq_true] at hc0
  have hsz := ble_t hc0.1.1
  have hzl : zv.cells.size = i.size := by rw [← beq_t hc0.1.2, hzr.len, Array.length_toList]
  have hz1 := hzr.one hω hc0.2
  cases hn : isNilSl b with
  | true =>
    rw [hn] at h
    simp only [cond_true] at h
    have hnil := nil_of (P := P) w (sz := i.size) hn hy
    have hyv : ev E y = ev E y := rfl
    split at h
    · cases h
      have hxv := hx.v_of
      refine ⟨_, w, s, X.run ho hxv hyv ?_, Sg.le.refl s, hH, Rel.mkv _⟩
      simp [Builtin.append_, run_underlying ht, sizeOf, typeInfo, hi, hnil.1, hnil.2]
    · rename_i l o' n c ex
      cases hf : fitsA st i.size l c n ex with
      | false => rw [hf] at h; cases h
      | true =>
        rw [hf] at h
        cases h
        obtain ⟨bk, cp, hbk, hxv⟩ := hx.sl_of
        have hle := fits_ok hH hf hbk
        refine ⟨_, w, s, X.run ho hxv hyv ?_, Sg.le.refl s, hH, hxv ▸ hx⟩
        have hle' : n + 0 ≤ (bif ex then c else cp - c) := hle
        simp [Builtin.append_, run_underlying ht, sizeOf, typeInfo, hi, hnil.1, hnil.2, hle, storeCells]
    · cases h
  | false =>
    rw [hn] at h
    simp only [cond_false] at h
    split at h
    case h_2 => cases h
    rename_i ys m xs hys hm hxs
    cases hc1 : (ys.all oneCellA && Nat.beq ys.length (m * i.size)) with
    | false => rw [hc1] at h; cases h
    | true =>
    rw [hc1] at h
    simp only [cond_true] at h
    simp only [Bool.and_eq_true] at hc1
    have hyy : ∃ l2 o2 d2 e2, b = .sl l2 o2 m d2 e2 := by
      unfold elemsA at hys
      split at hys
      · simp [isNilSl] at hn
      · simp [isNilSl] at hn
      · simp only [lenA, Option.some.injEq] at hm; subst hm; exact ⟨_, _, _, _, rfl⟩
      · cases hys
    obtain ⟨l2, o2, d2, e2, rfl⟩ := hyy
    obtain ⟨b2, c2, us, cap2, hyv, _, hb2, hyr, hyl, hycell⟩ := elems_ok hH hys hy
    have hone := hyr.one hω hc1.1
    split at h
    · 
      have hxv := hx.v_of
      cases hc2 : (Nat.ble (m * i.bytes) 1048576 && Nat.ble m 1048576) with
      | false => rw [hc2] at h; cases h
      | true =>
      rw [hc2] at h
      simp only [cond_true] at h
      simp only [Bool.and_eq_true] at hc2
      have hb1 := ble_t hc2.1
      have hb3 := ble_t hc2.2
      cases hm0 : Nat.beq m 0 with
      | true =>
        rw [hm0] at h
        cases h
        have := beq_t hm0
        subst this
        have hu : us = [] := List.eq_nil_of_length_eq_zero (by simpa using hyl)
        refine ⟨_, w, s, X.run ho hxv hyv ?_, Sg.le.refl s, hH, Rel.mkv _⟩
        simp [Builtin.append_, run_underlying ht, sizeOf, typeInfo, hi, Builtin.lenOf, Builtin.firstCells, loadCells, loadCellsFrom]
      | false =>
        rw [hm0] at h
        cases h
        have hm1 := beq_f hm0
        have hr := run_append_nil (P := P) w t o.type e i zv ht hi hzv ⟨b2, o2, none⟩ m cap2 us hyl hycell (by omega) (by omega) (by omega)
        have hcap := grownCap_ge w m 0 e
        have hH' := grown_ok hH (e := e) (z := zv) hyr hyl hzl hcap (grownCap_le_maxLen w m 0 e (by simp only [maxLen]; omega)) hone hz1 rfl
        refine ⟨_, _, _, X.run ho hxv hyv hr, hH.le_new _, hH', ?_⟩
        simp only [Rel]
        exact ⟨_, _, Sg.ins_same, by simp⟩
    · 
      rename_i l o' n c
      cases h1 : Nat.ble (n + m) c with
      | true =>
        rw [h1] at h
        simp only [cond_true] at h
        have h1 := ble_t h1
        split at h
        case h_2 => cases h
        rename_i ob hl
        cases hc3 : Nat.ble (o' + (n + m) * i.size) ob.cs.length with
        | false => rw [hc3] at h; cases h
        | true =>
        rw [hc3] at h
        cases h
        have hc3 := ble_t hc3
        obtain ⟨bk, cp, hbk, hxv⟩ := hx.sl_of
        rw [Nat.add_mul] at hc3
        obtain ⟨w', hst, hH'⟩ := hH.splice (P := P) (k := o' + n * i.size) hl hyr (by omega) hone hbk
        refine ⟨.slice (some ⟨bk, o', none⟩) (n + m) c, w', s, X.run ho hxv hyv ?_, Sg.le.refl s, hH', by simp only [Rel]; exact ⟨bk, cp, hbk, by simp⟩⟩
        have hf := run_firstCells_some (P := P) w i.size m ⟨b2, o2, none⟩ m cap2 us hyl hycell
        have hst' : (storeCells ((⟨bk, o', none⟩ : Addr).add (n * i.size)) us 0).run P w = .ok () w' := by rw [addr_add]; exact hst
        simp [Builtin.append_, run_underlying ht, sizeOf, typeInfo, hi, Builtin.lenOf, h1, hf, hst']
      | false =>
      rw [h1] at h
      simp only [cond_false] at h
      cases hc2 : (!Nat.beq xs.length (n * i.size) || !Nat.ble ((n + m) * i.bytes) 1048576 || !Nat.ble (n + m) 1048576 || !xs.all oneCellA) with
      | true => rw [hc2] at h; cases h
      | false =>
      rw [hc2] at h
      cases h
      simp only [Bool.or_eq_false_iff, Bool.not_eq_false'] at hc2
      obtain ⟨⟨⟨h2, h3⟩, h4⟩, h5⟩ := hc2
      have h3 := ble_t h3; have h4 := ble_t h4
      have h1 : c < n + m := by
        rcases Nat.lt_or_ge c (n + m) with hx1 | hx1
        · exact hx1
        · rw [Nat.ble_eq_true_of_le hx1] at h1; cases h1
      obtain ⟨b1, c1, vs, cap1, hxv, hcap1, hb1, hxr, hxl, hxcell⟩ := elems_ok hH hxs hx
      simp only [cond_true] at hcap1
      subst hcap1
      have hr := run_append_grow (P := P) w t o.type e i zv ht hi hzv ⟨b1, o', none⟩ n cap1 vs hxl hxcell ⟨b2, o2, none⟩ m cap2 us hyl hycell (by omega) (by omega) (growslice_fits (by omega) (by omega))
      have hcap := grownCap_ge w (n + m) cap1 e
      have hH' := grown_ok hH (e := e) (z := zv) (m := n + m) (hxr.append hyr) (by rw [List.length_append, hxl, hyl, Nat.add_mul]) hzl hcap (grownCap_le_maxLen w (n + m) cap1 e (by simp only [maxLen]; omega)) (fun u hu => by
        rcases List.mem_append.1 hu with hu | hu
        · exact hxr.one hω h5 u hu
        · exact hone u hu) hz1 (cells := vs.toArray ++ us.toArray ++ Builtin.zeroCells zv.cells (grownCap w (n + m) cap1 e - (n + m))) (by simp)
      refine ⟨_, _, _, X.run ho hxv hyv hr, hH.le_new _, hH', ?_⟩
      simp only [Rel]
      exact ⟨_, _, Sg.ins_same, by simp⟩
    · 
      rename_i l n
      split at h
      case h_2 => cases h
      rename_i ob hl
      cases hc2 : (ob.row && Nat.beq ob.et e && Nat.beq ob.cs.length (n * i.size) && Nat.beq ob.sz i.size && Nat.ble ((n + m) * i.bytes) 1048576 && Nat.ble (n + m) 1048576) with
      | false => rw [hc2] at h; cases h
      | true =>
      rw [hc2] at h
      cases h
      simp only [Bool.and_eq_true] at hc2
      obtain ⟨⟨⟨⟨⟨q1, q2⟩, q3⟩, q4⟩, q5⟩, q6⟩ := hc2
      have q2 := beq_t q2; have q3 := beq_t q3; have q4 := beq_t q4; have q5 := ble_t q5; have q6 := ble_t q6
      obtain ⟨b1, c1, vs, cap1, hxv, hcap1, hb1, hxr, hxl, hxcell⟩ := elems_ok hH hxs hx
      simp only [cond_false, Nat.sub_zero] at hcap1
      subst hcap1
      obtain ⟨b1', c1', e1, hob⟩ := hH.obj l (.c ob) hl
      rw [hb1] at e1; cases e1
      obtain ⟨hg, cur, vs', g1, g2, g3, _, g4⟩ := hob
      obtain ⟨n', g5, g6, g7, g8, _, g9⟩ := g4 q1
      rw [q4] at g5 g8
      have hn' : n' = n := by
        have := g2.len; rw [q3, g5] at this
        exact (Nat.eq_of_mul_eq_mul_right hsz this).symm
      subst hn'
      rw [q2] at g1
      have hvs : vs = vs' := by
        apply List.ext_getElem?
        intro j
        rcases Nat.lt_or_ge j vs.length with hj | hj
        · have hj' : j < vs'.length := by omega
          have e1 := hxcell j _ (List.getElem?_eq_getElem hj)
          have e2 : cur[j]? = some vs'[j] := by
            have : vs'[j]? = some vs'[j] := List.getElem?_eq_getElem hj'
            rw [← this, ← g3, List.getElem?_take, if_pos hj']
            simp
          have e3 : w.cell? ((⟨b1, 0, none⟩ : Addr).add j) = some vs'[j] := by
            rw [addr_add]; simp [World.cell?, g1, e2]
          rw [e1] at e3
          rw [List.getElem?_eq_getElem hj, List.getElem?_eq_getElem hj', e3]
        · rw [List.getElem?_eq_none hj, List.getElem?_eq_none (by omega)]
      subst hvs
      have hvone : ∀ u ∈ vs, u.oneCell' = true := fun u hu => g9 u (by rw [← g3] at hu; exact List.mem_of_mem_take hu)
      by_cases hroom : n' + m ≤ cap1
      · have hfit : n' * i.size + us.length ≤ cur.size := by rw [hyl, g8, ← Nat.add_mul]; exact Nat.mul_le_mul_right _ hroom
        have hr := run_append_room (P := P) w t o.type e i ht hi b1 n' cap1 cur g1 ⟨b2, o2, none⟩ m cap2 us hyl hycell hone hroom hfit
        have htk : cur.toList.take (n' * i.size) = vs := by rw [← g5]; exact g3
        have hH' := hH.rename (o' := .c ⟨e, xs ++ ys, i.size, true, none⟩) hl hb1 (w' := w.setRow b1 (cur.toList.take (n' * i.size) ++ us ++ cur.toList.drop (n' * i.size + us.length)).toArray)
          ⟨rfl, rfl, rfl, by simp, fun j _ hj => setRow_other w b1 j _ (by simpa using hj)⟩
          ⟨hg, _, vs ++ us, setRow_heap w b1 cur _ e _ g1, hxr.append hyr, by rw [htk]; exact List.take_left, (fun h => by cases h), fun _ => ⟨n' + m, by rw [List.length_append, hxl, hyl, Nat.add_mul], hroom, g7, by
            simp only [List.size_toArray, List.length_append, List.length_take, List.length_drop, Array.length_toList]
            omega, (fun h e => by cases e), by
            intro u hu
            rw [List.toList_toArray] at hu
            rcases List.mem_append.1 hu with hu | hu
            · rcases List.mem_append.1 hu with hu | hu
              · exact g9 u (List.mem_of_mem_take hu)
              · exact hone u hu
            · exact g9 u (List.mem_of_mem_drop hu)⟩⟩
        refine ⟨_, _, _, X.run ho hxv hyv hr, hH.le_new _, hH', ?_⟩
        simp only [Rel]
        exact ⟨_, _, Sg.ins_same, by simp⟩
      · have hr := run_append_grow (P := P) w t o.type e i zv ht hi hzv ⟨b1, 0, none⟩ n' cap1 vs hxl hxcell ⟨b2, o2, none⟩ m cap2 us hyl hycell (by omega) (by omega) (growslice_fits (by omega) (by omega))
        have hcap := grownCap_ge w (n' + m) cap1 e
        have hH' := grown_ok (hH.del l) (e := e) (z := zv) (m := n' + m) (hxr.append hyr) (by rw [List.length_append, hxl, hyl, Nat.add_mul]) hzl hcap (grownCap_le_maxLen w (n' + m) cap1 e (by simp only [maxLen]; omega)) (fun u hu => by
          rcases List.mem_append.1 hu with hu | hu
          · exact hvone u hu
          · exact hone u hu) hz1 (cells := vs.toArray ++ us.toArray ++ Builtin.zeroCells zv.cells (grownCap w (n' + m) cap1 e - (n' + m))) (by simp)
        refine ⟨_, _, _, X.run ho hxv hyv hr, hH.le_new _, hH', ?_⟩
        simp only [Rel]
        exact ⟨_, _, Sg.ins_same, by simp⟩
    · cases h
theorem run_append_grow_zeros {t tn ty e : TypeId} {i : TypeInfo} {z : Value} {k kn : IntKind} (ht : P.underlying t = some (.slice e)) (htn : P.underlying tn = some (.int kn)) (hi : P.info? e = some i) (hz : i.zero = some z)
    (b : Addr) (sLen sCap : Nat) (olds : List Value) (hlo : olds.length = sLen * i.size) (holds : ∀ j v, olds[j]? = some v → w.cell? (b.add j) = some v) (n : Nat) (h0 : 0 < n) (hs : 0 < i.size)
    (hg : sCap < sLen + n) (h63 : ((sLen + n : Nat) : Int) ≤ 9223372036854775807) (h48 : n * i.bytes ≤ 281474976710656) (hfit : Builtin.nextslicecap (sLen + n) sCap * i.bytes ≤ 281474976710656) :
    (Builtin.append_ #[t, tn] ty #[.slice (some b) sLen sCap, .int k n]).run P w =
      .ok (.slice (some ⟨w.heap.size, 0, none⟩) (sLen + n) (grownCap w (sLen + n) sCap e)) (w.drew.alloc (.cells (olds.toArray ++ Builtin.zeroCells z.cells n ++ Builtin.zeroCells z.cells (grownCap w (sLen + n) sCap e - (sLen + n))) e)) := by
  have hn : ¬ (sLen + n ≤ sCap) := by omega
  have hw : IntKind.i64.wrap (n : Int) = n := by rw [IntKind.wrap_i64]; omega
  have h63' : ¬ (9223372036854775807 < ((sLen : Int) + (n : Int))) := by omega
  have h48' : ¬ (281474976710656 < Builtin.nextslicecap (sLen + n) sCap * i.bytes) := by omega
  have h48i : ¬ (281474976710656 < (n : Int) * (i.bytes : Int)) := by
    rw [← Int.natCast_mul]
    omega
  have hneg : ¬ ((n : Int) < 0) := by omega
  have hns : ¬ (n * i.size = 0) := Nat.mul_ne_zero (by omega) (by omega)
  have hfo := run_firstCells_some (P := P) w.drew i.size sLen b sLen sCap olds hlo (by simpa using holds)
  simp [Builtin.append_, run_underlying ht, run_underlying htn, sizeOf, typeInfo, zeroValue, hi, hz, asInt, asIntOf, hw, hn, hneg, hns, h63', h48', h48i, Question.forced, hfo, newRow, grownCap]
theorem appendZ_ok (hω : OneW ω) (hH : Hold ω s w0 st w) {t tn : TypeId} {x y : Operand} {a b : AV} {u : AV} {st' : Stt} (ho : o.op = .call ⟨.builtin .append, #[x, y], #[t, tn]⟩) (hx : Rel ω s a (ev E x)) (hy : Rel ω s b (ev E y)) (h : evAppendZ P st t tn a b = some (u, st')) :
    ∃ v w' s', OpX P o E w v w' ∧ s.le s' ∧ Hold ω s' w0 st' w' ∧ Rel ω s' u v := by
  unfold evAppendZ at h
  split at h
  case h_2 => cases h
  rename_i e kn l o' n k ht htn hk
  split at h
  case h_2 => cases h
  rename_i i z ob hi hz hl
  split at h
  case h_2 => cases h
  rename_i xs hh hxs hhi
  obtain ⟨i', zv, hi', hzv, hzr⟩ := zeroA_ok (s := s) hω hz
  rw [hi] at hi'; cases hi'
  cases hc : (Nat.ble 1 i.size && Nat.beq z.length i.size && z.all oneCellA && ob.row && Nat.ble hh (n + k) && Nat.beq xs.length (n * i.size) && Nat.ble ((n + k) * i.bytes) 1048576 && Nat.ble (n + k) 1048576 && Nat.ble 1 k) with
  | false => rw [hc] at h; cases h
  | true =>
  rw [hc] at h
  cases h
  simp only [Bool.and_eq_true] at hc
  obtain ⟨⟨⟨⟨⟨⟨⟨⟨c1, c2⟩, c3⟩, c4⟩, c5⟩, c6⟩, c7⟩, c8⟩, c9⟩ := hc
  have c1 := ble_t c1; have c5 := ble_t c5; have c7 := ble_t c7; have c8 := ble_t c8; have c9 := ble_t c9
  have hzl : zv.cells.size = i.size := by rw [← beq_t c2, hzr.len, Array.length_toList]
  have hz1 := hzr.one hω c3
  obtain ⟨b1, cp1, vs, cap1, hxv, hcap1, hb1, hxr, hxl, hxcell⟩ := elems_ok hH hxs hx
  simp only [cond_false, Nat.sub_zero] at hcap1
  subst hcap1
  obtain ⟨b1', c1', e1, hob⟩ := hH.obj l (.c ob) hl
  rw [hb1] at e1; cases e1
  obtain ⟨hg, cur, vs', g1, g2, g3, _, g4⟩ := hob
  obtain ⟨n', g5, g6, g7, g8, g9, g10⟩ := g4 c4
  have hlt := g9 hh hhi
  obtain ⟨ik, hyv⟩ := natOf_ok hk hy
  have hvone : ∀ u ∈ vs, u.oneCell' = true := by
    intro u hu
    obtain ⟨j, hj⟩ := List.mem_iff_getElem?.1 hu
    have h1 := hxcell j u hj
    rw [addr_add] at h1
    simp only [World.cell?, g1] at h1
    have h2 : cur[o' + j]? = some u := by simpa using h1
    exact g10 u (by have := Array.mem_of_getElem? h2; simpa using this)
  have hbytes : k * i.bytes ≤ (n + k) * i.bytes := Nat.mul_le_mul_right _ (by omega)
  have hr := run_append_grow_zeros (P := P) (w := w) (ty := o.type) (k := ik) ht htn hi hzv ⟨b1, o', none⟩ n cap1 vs hxl hxcell k (by omega) (by omega) (by omega) (by omega) (by omega) (growslice_fits (by omega) (by omega))
  have hcap := grownCap_ge w (n + k) cap1 e
  have hzc : Builtin.zeroCells zv.cells k = (repV zv.cells.toList k).toArray := range_rep zv.cells k zv.cells.size rfl (by omega)
  have hzl' : zv.cells.toList.length = i.size := by rw [Array.length_toList]; exact hzl
  have hH' := grown_ok hH (e := e) (z := zv) (m := n + k) (hxr.append (repZ_ok hzr k)) (by rw [List.length_append, hxl, repV_len, hzl', Nat.add_mul]) hzl hcap (grownCap_le_maxLen w (n + k) cap1 e (by simp only [maxLen]; omega)) (fun u hu => by
    rcases List.mem_append.1 hu with hu | hu
    · exact hvone u hu
    · exact hz1 u (repV_mem hu)) hz1 (cells := vs.toArray ++ Builtin.zeroCells zv.cells k ++ Builtin.zeroCells zv.cells (grownCap w (n + k) cap1 e - (n + k))) (by rw [hzc]; simp)
  have hX : OpX P o E w (.slice (some ⟨w.heap.size, 0, none⟩) (n + k) (grownCap w (n + k) cap1 e)) (w.drew.alloc (.cells (vs.toArray ++ Builtin.zeroCells zv.cells k ++ Builtin.zeroCells zv.cells (grownCap w (n + k) cap1 e - (n + k))) e)) := by
    left
    simp only [execOp, ho, resolve]
    have e2 : #[x, y].map (ev E) = #[.slice (some ⟨b1, o', none⟩) n cap1, .int ik k] := by simp [hxv, hyv]
    rw [e2]
    exact run_v hr
  refine ⟨_, _, _, hX, hH.le_new _, hH', ?_⟩
  simp only [Rel]
  exact ⟨_, _, Sg.ins_same, by simp⟩
end
end Go.Proofs.YtplflgclomiihaaGreat.Ev
namespace Go.Proofs.YtplflgclomiihaaGreat.Ev
open Go.RowKit Go.Proofs.YtplflgclomiihaaGreat.W
theorem modify_at {α:Type} {L:List α} {i:Nat} {e:α} (h:L[i]?=some e) (f:α → α):L.toArray.modify i f=(L.set i (f e)).toArray:=by
 apply Array.ext_getElem?
 intro j
 rw [Array.getElem?_modify]
 simp only [List.getElem?_toArray,List.getElem?_set]
 by_cases hij:i=j
 ·subst hij
  have hlt:i < L.length:=(List.getElem?_eq_some_iff.1 h).1
  rw [h]; simp [hlt]
 ·simp [hij]
theorem erase_at {α:Type} {L:List α} {i:Nat} {e:α} (h:L[i]?=some e):L.toArray.eraseIdxIfInBounds i=(L.eraseIdx i).toArray:=by
 have hlt:i < L.length:=(List.getElem?_eq_some_iff.1 h).1
 simp [Array.eraseIdxIfInBounds,hlt]
theorem map_erase {α β:Type} (f:α → β):∀ (l:List α) (i:Nat),(l.map f).eraseIdx i=(l.eraseIdx i).map f
 | [],_=>rfl
 | _ :: _,0=>rfl
 | a :: l,i + 1=>by simp [map_erase f l i]
section
variable {ω : Nat → Value} {s : Sg} {w0 w : World} {st : Stt} {A : AE} {E : Env} {P : Program} {o : Oper}
theorem run_newO {ob:Obj}:(newObj ob).run P w=.ok w.heap.size (w.alloc ob):=rfl
theorem makeMap_ok (hH : Hold ω s w0 st w) (hE : EnvOK ω s A E) {t kt et : TypeId} {r : Option Operand} {n : Nat} (ho : o.op = .makeMap t r) (ht : P.underlying t = some (.map kt et)) (hr : bnd A r 0 = some n) :
    ∃ v w' s', OpX P o E w v w' ∧ s.le s' ∧ Hold ω s' w0 (newX st (.m [] 0)) w' ∧ Rel ω s' (.mp st.nx) v := by
  obtain ⟨h1, h2⟩ := bnd_ok hr hE
  refine ⟨.map (some w.heap.size), w.alloc (.map #[] 0), _, .inl ?_, hH.le_new _, hH.new (c := 0) (Ext.alloc w _) ⟨hH.ge, [], RelL.nil, heap_alloc_new w _⟩, by simp only [Rel]; exact ⟨_, _, Sg.ins_same, rfl⟩⟩
  simp only [execOp, ho]
  refine run_v ?_
  unfold Instr.makeMap
  cases r with
  | none => rfl
  | some x =>
    obtain ⟨k, hk⟩ := h2 x rfl
    simp only [Option.map_some, hk, Sem.run_bind, run_underlying ht, Result.andThen_ok]
    rfl
theorem lt_of_some {b:Nat} {x:Obj} (h:w.heap[b]?=some x):b < w.heap.size:=(Array.getElem?_eq_some_iff.1 h).1
theorem upd_ok (hH : Hold ω s w0 st w) (hE : EnvOK ω s A E) {t : TypeId} {m k x : Operand} {a : AV} {st' : Stt} (ho : o.op = .mapUpdate t m k x ∨ o.op = .insert t m k x) (h : evUpd P st A t m k x = some (a, st')) :
    ∃ v w', OpX P o E w v w' ∧ Hold ω s w0 st' w' ∧ Rel ω s a v := by
  unfold evUpd at h
  split at h
  · rename_i l kv xa kt et hm hk hx ht
    split at h
    · rename_i es c hl
      obtain ⟨b, cp, hb, hmv⟩ := (opd_ok hm hE).mp_of
      obtain ⟨vs, h1, h2, h3, hge⟩ := hH.map hl hb
      have hkv := (opd_ok hk hE).v_of
      have hxr := opd_ok hx hE
      have hget := run_getO (P := P) h3 (by intro c t f; simp)
      have fin : ∀ ob : Obj, (Instr.mapUpdate t (ev E m) (ev E k) (ev E x)).run P w = .ok () (w.putObj b ob) → OpX P o E w undef (w.putObj b ob) := by
        intro ob hr
        refine .inr ⟨rfl, ?_⟩
        rcases ho with ho | ho <;> (simp only [execOp, ho]; exact run_u hr)
      split at h
      · rename_i i hi
        obtain ⟨g1, e, g3, g4⟩ := keyIdx_ok h2 hi w
        split at h
        · rename_i k' a' b' hes
          cases hsb : Instr.sameBits 10000 k' kv with
          | false => rw [hsb] at h; cases h
          | true =>
            rw [hsb] at h
            cases h
            obtain ⟨x', g5, g6, g7⟩ := mkEs_get h2 g3
            rw [hes] at g5; cases g5
            refine ⟨undef, _, fin (.map (mkEs (es.set i (kv, xa, b')) (vs.set i (ev E x))).toArray c) ?_, hH.turn hl hb (Ext.putObj w b _) ⟨hge, vs.set i (ev E x), ?_, World.putObj_heap_same (lt_of_some h3)⟩, Rel.mkv _⟩
            · have hstay : (Instr.keyThatStays ((Option.map (·.key) (mkEs es vs).toArray[i]?).getD kv) kv).run P w = .ok kv w := by
                have : ((mkEs es vs).toArray[i]?) = some e := by simpa using g3
                rw [this, g7]
                simp only [Option.map_some, Option.getD_some, Instr.keyThatStays, hsb, if_true]
                rfl
              have hmod : (mkEs es vs).toArray.modify i (fun e => { e with key := kv, val := ev E x }) = (mkEs (es.set i (kv, xa, b')) (vs.set i (ev E x))).toArray := by
                rw [modify_at g3, mkEs_set h2, g7]
              unfold Instr.mapUpdate
              simp only [Sem.run_bind, run_underlying ht, Result.andThen_ok, hmv, hget, hkv, g1, List.toList_toArray, g4, hstay, hmod]
              exact run_setO _ h3 (by intro c t f; simp)
            · rw [List.map_set]; exact h1.set hxr i
        · cases h
      · rename_i hi
        cases h
        obtain ⟨g1, g4⟩ := keyIdx_ok h2 hi w
        refine ⟨undef, _, fin (.map (mkEs (es ++ [(kv, xa, c)]) (vs ++ [ev E x])).toArray (c + 1)) ?_, hH.turn hl hb (Ext.putObj w b _) ⟨hge, vs ++ [ev E x], ?_, World.putObj_heap_same (lt_of_some h3)⟩, Rel.mkv _⟩
        · have hmod : (mkEs es vs).toArray.push { key := kv, val := ev E x, born := c } = (mkEs (es ++ [(kv, xa, c)]) (vs ++ [ev E x])).toArray := by
            rw [mkEs_push h2, List.push_toArray]
          unfold Instr.mapUpdate
          simp only [Sem.run_bind, run_underlying ht, Result.andThen_ok, hmv, hget, hkv, g1, List.toList_toArray, g4, hmod]
          exact run_setO _ h3 (by intro c t f; simp)
        · rw [List.map_append]; exact h1.append (RelL.cons hxr RelL.nil)
      · cases h
    · cases h
  · cases h
theorem delete_ok (hH : Hold ω s w0 st w) (hE : EnvOK ω s A E) {t u : TypeId} {m k : Operand} {a : AV} {st' : Stt} (ho : o.op = .call ⟨.builtin .delete, #[m, k], #[t, u]⟩) (h : evDelete P st A t m k = some (a, st')) :
    ∃ v w', OpX P o E w v w' ∧ Hold ω s w0 st' w' ∧ Rel ω s a v := by
  unfold evDelete at h
  split at h
  · rename_i l kv kt et hm hk ht
    split at h
    · rename_i es c hl
      obtain ⟨b, cp, hb, hmv⟩ := (opd_ok hm hE).mp_of
      obtain ⟨vs, h1, h2, h3, hge⟩ := hH.map hl hb
      have hkv := (opd_ok hk hE).v_of
      have hget := run_getO (P := P) h3 (by intro c t f; simp)
      have hemp : (mkEs es vs).toArray.isEmpty = es.isEmpty := by rw [← es_empty h2]; simp
      have fin : ∀ ob : Obj, (Builtin.delete_ #[t, u] o.type #[ev E m, ev E k]).run P w = .ok (.tuple #[]) (w.putObj b ob) → OpX P o E w (.tuple #[]) (w.putObj b ob) := by
        intro ob hr
        left
        simp only [execOp, ho, resolve]
        rw [show #[m, k].map (ev E) = #[ev E m, ev E k] from by simp]
        exact run_v hr
      split at h
      · rename_i i hi
        cases h
        obtain ⟨g1, e, g3, g4⟩ := keyIdx_ok h2 hi w
        refine ⟨.tuple #[], _, fin (.map (mkEs (es.eraseIdx i) (vs.eraseIdx i)).toArray c) ?_, hH.turn hl hb (Ext.putObj w b _) ⟨hge, vs.eraseIdx i, ?_, World.putObj_heap_same (lt_of_some h3)⟩, Rel.mkv _⟩
        · have hmod : (mkEs es vs).toArray.eraseIdxIfInBounds i = (mkEs (es.eraseIdx i) (vs.eraseIdx i)).toArray := by rw [erase_at g3, mkEs_erase h2]
          have hset := run_setO (P := P) (.map (mkEs (es.eraseIdx i) (vs.eraseIdx i)).toArray c) h3 (by intro c t f; simp)
          have hset' : (setObj b (.map ((mkEs es vs).toArray.eraseIdxIfInBounds i) c)).run P w = .ok () (w.putObj b (.map (mkEs (es.eraseIdx i) (vs.eraseIdx i)).toArray c)) := by rw [hmod]; exact hset
          unfold Builtin.delete_
          simp [go_sem, run_underlying ht, hmv, hget, hkv, g1, g4, hemp, -List.eraseIdxIfInBounds_toArray]
          exact (congrArg (fun r => Result.andThen r fun _ w' => Result.ok (Value.tuple #[]) w') hset').trans rfl
        · have : (es.eraseIdx i).map (·.2.1) = (es.map (·.2.1)).eraseIdx i := (map_erase _ es i).symm
          rw [this]; exact h1.erase i
      · rename_i hi
        cases h
        obtain ⟨g1, g4⟩ := keyIdx_ok h2 hi w
        refine ⟨.tuple #[], _, fin (.map (mkEs es vs).toArray c) ?_, hH.turn hl hb (Ext.putObj w b _) ⟨hge, vs, h1, World.putObj_heap_same (lt_of_some h3)⟩, Rel.mkv _⟩
        have hset := run_setO (P := P) (.map (mkEs es vs).toArray c) h3 (by intro c t f; simp)
        unfold Builtin.delete_
        simp [go_sem, run_underlying ht, hmv, hget, hkv, g1, g4, hset, hemp]
      · cases h
    · cases h
  · cases h
theorem rangeOf_ok (hH : Hold ω s w0 st w) (hE : EnvOK ω s A E) {t : TypeId} {x : Operand} {a : AV} {st' : Stt} (ho : o.op = .range t x) (h : evRangeOf P st A t x = some (a, st')) :
    ∃ v w' s', OpX P o E w v w' ∧ s.le s' ∧ Hold ω s' w0 st' w' ∧ Rel ω s' a v := by
  have fin : ∀ ob : Obj, (Instr.range t (ev E x)).run P w = .ok (.pointer (some ⟨w.heap.size, 0, none⟩)) (w.alloc ob) → OpX P o E w (.pointer (some ⟨w.heap.size, 0, none⟩)) (w.alloc ob) := by
    intro ob hr
    left
    simp only [execOp, ho]
    exact run_v hr
  unfold evRangeOf at h
  split at h
  · rename_i l kt et hx ht
    split at h
    · rename_i es c hl
      cases h
      obtain ⟨b, cp, hb, hmv⟩ := (opd_ok hx hE).mp_of
      obtain ⟨vs, h1, h2, h3, hge⟩ := hH.map hl hb
      have hget := run_getO (P := P) h3 (by intro c t f; simp)
      refine ⟨_, _, _, fin (.mapIter (some b) c #[] c) ?_, hH.le_new _, hH.new (c := 0) (Ext.alloc w _) ⟨hH.ge, some b, ⟨b, cp, hb, rfl⟩, heap_alloc_new w _⟩, Rel.newPtr hH _ 0⟩
      unfold Instr.range
      simp only [Sem.run_bind, run_underlying ht, Result.andThen_ok, hmv, hget, Sem.run_pure, run_newO]
    · cases h
  · rename_i kt et hx ht
    cases h
    have hmv := (opd_ok hx hE).v_of
    refine ⟨_, _, _, fin (.mapIter none 0 #[] 0) ?_, hH.le_new _, hH.new (c := 0) (Ext.alloc w _) ⟨hH.ge, none, rfl, heap_alloc_new w _⟩, Rel.newPtr hH _ 0⟩
    unfold Instr.range
    simp only [Sem.run_bind, run_underlying ht, Result.andThen_ok, hmv, Sem.run_pure, run_newO]
  · rename_i tx hx ht
    cases h
    have hmv := (opd_ok hx hE).v_of
    refine ⟨_, _, _, fin (.stringIter tx 0) ?_, hH.le_new _, hH.new (c := 0) (Ext.alloc w _) ⟨hH.ge, heap_alloc_new w _⟩, Rel.newPtr hH _ 0⟩
    unfold Instr.range
    simp only [Sem.run_bind, run_underlying ht, Result.andThen_ok, hmv, Sem.run_pure, run_newO]
  · cases h
theorem next_ok (hH : Hold ω s w0 st w) (hE : EnvOK ω s A E) {it : Operand} {isStr : Bool} {a : AV} {st' : Stt} (ho : o.op = .next it isStr) (h : evNext st A it isStr = some (a, st')) :
    ∃ v w', OpX P o E w v w' ∧ Hold ω s w0 st' w' ∧ Rel ω s a v := by
  have fin : ∀ v w', (Instr.next (ev E it) isStr o.type).run P w = .ok v w' → OpX P o E w v w' := by
    intro v w' hr
    left
    simp only [execOp, ho]
    exact run_v hr
  unfold evNext at h
  split at h
  · rename_i l hit
    obtain ⟨b, cp, hb, hv⟩ := (opd_ok hit hE).ptr_of
    split at h
    · rename_i tx pos hl
      cases isStr with
      | false => cases h
      | true =>
        simp only [cond_true] at h
        obtain ⟨b', c', e1, hob⟩ := hH.obj l _ hl
        rw [hb] at e1; cases e1
        have h3 : w.heap[b]? = some (.stringIter tx pos) := hob.cur
        have hget := run_getO (P := P) h3 (by intro c t f; simp)
        cases hlt : Nat.blt pos tx.size with
        | true =>
          rw [hlt] at h
          cases h
          have hp := blt_t hlt
          refine ⟨_, _, fin _ _ ?_, hH.turn hl hb (Ext.putObj w b (.stringIter tx (pos + (Utf8.decode tx pos).2))) ⟨hob.ge, World.putObj_heap_same (lt_of_some h3)⟩, Rel.mkv _⟩
          have hset := run_setO (P := P) (.stringIter tx (pos + (Utf8.decode tx pos).2)) h3 (by intro c t f; simp)
          unfold Instr.next
          simp only [hv, Sem.run_bind, hget, Result.andThen_ok, if_pos hp, hset, Sem.run_pure, goInt]
        | false =>
          rw [hlt] at h
          cases h
          have hp : ¬ pos < tx.size := by
            intro hq
            have : Nat.blt pos tx.size = true := Nat.ble_eq_true_of_le hq
            rw [hlt] at this; cases this
          refine ⟨_, w, fin _ _ ?_, hH, Rel.mkv _⟩
          unfold Instr.next
          simp only [hv, Sem.run_bind, hget, Result.andThen_ok, if_neg hp, Sem.run_pure]
    · rename_i since seen last hl
      cases isStr with
      | true => cases h
      | false =>
        cases h
        obtain ⟨b', c', e1, hob⟩ := hH.obj l _ hl
        rw [hb] at e1; cases e1
        obtain ⟨mb, rfl, h3⟩ := hob.cur
        have hget := run_getO (P := P) h3 (by intro c t f; simp)
        refine ⟨_, w, fin _ _ ?_, hH, Rel.mkv _⟩
        unfold Instr.next
        simp only [hv, Sem.run_bind, hget, Result.andThen_ok, Sem.run_pure]
    · rename_i m since seen last hl
      cases isStr with
      | true => cases h
      | false =>
        simp only [cond_false] at h
        split at h
        · rename_i es clock hm
          obtain ⟨b', c', e1, hob⟩ := hH.obj l _ hl
          rw [hb] at e1; cases e1
          obtain ⟨mb, cm, hmb, h3⟩ := hH.mi hl hb
          obtain ⟨vs, g1, g2, g3, gge⟩ := hH.map hm hmb
          have hget := run_getO (P := P) h3 (by intro c t f; simp)
          have hgetm := run_getO (P := P) g3 (by intro c t f; simp)
          have hemp : (mkEs es vs).toArray.isEmpty = es.isEmpty := by rw [← es_empty g2]; simp
          have hall : (mkEs es vs).toArray.all (fun e => decide (e.born ≥ last)) = es.all fun e => decide (e.2.2 ≥ last) := by
            rw [← mkEs_all (p := fun n => decide (n ≥ last)) g2]; simp
          have hseen : seen.toArray.isEmpty = seen.isEmpty := by simp
          obtain ⟨us, q1, q2⟩ := mkEs_filter (p := fun n => !seen.contains n) g1
          have hleft : (mkEs es vs).toArray.filter (fun e => !seen.toArray.contains e.born) = (mkEs (es.filter fun e => !seen.contains e.2.2) us).toArray := by
            rw [← q2]; simp
          cases hc : (!seen.isEmpty && !es.isEmpty && es.all (fun e => decide (e.2.2 ≥ last))) with
          | true => rw [hc] at h; cases h
          | false =>
            rw [hc] at h
            simp only [cond_false] at h
            split at h
            · rename_i hf
              cases h
              rw [hf] at hleft q1
              have hus := q1.unnil
              subst hus
              refine ⟨_, w, fin _ _ ?_, hH, Rel.mkv _⟩
              unfold Instr.next
              simp only [hv, Sem.run_bind, hget, Result.andThen_ok, hgetm, hseen, hemp, hall, hc, Bool.false_eq_true, if_false, Sem.run_pure]
              rw [hleft]
              simp only [mkEs]
              simp [go_sem, Question.forced]
            · rename_i e hf
              cases hs : Nat.blt e.2.2 since with
              | false => rw [hs] at h; cases h
              | true =>
                rw [hs] at h
                cases h
                rw [hf] at hleft q1
                obtain ⟨v, vs', hve, hv2, rfl⟩ := q1.uncons
                have hnil := hv2.unnil
                subst hnil
                have hlt : e.2.2 < since := blt_t hs
                have hset := run_setO (P := P) (.mapIter (some mb) since (seen ++ [e.2.2]).toArray clock) h3 (by intro c t f; simp)
                refine ⟨.tuple #[.bool true, e.1, v], _, fin _ _ ?_, hH.turn hl hb (Ext.putObj w b (.mapIter (some mb) since (seen ++ [e.2.2]).toArray clock)) ⟨hob.ge, some mb, ⟨mb, cm, hmb, rfl⟩, ?_⟩, ?_⟩
                · unfold Instr.next
                  simp only [hv, Sem.run_bind, hget, Result.andThen_ok, hgetm, hseen, hemp, hall, hc, Bool.false_eq_true, if_false, Sem.run_pure]
                  rw [hleft]
                  simp only [mkEs]
                  simp [hlt, go_sem, Question.forced]
                  exact (congrArg (fun r => Result.andThen r fun _ w' => Result.ok (Value.tuple #[.bool true, e.1, v]) w') hset).trans rfl
                · exact World.putObj_heap_same (lt_of_some h3)
                · exact Rel.mkTup (RelL.cons (Rel.mkv _) (RelL.cons (Rel.mkv _) (RelL.cons hve RelL.nil)))
            · cases h
        · cases h
    · cases h
  · cases h
theorem srcA_ok (hH:Hold ω s w0 st w) {sz m n:Nat} {y:AV} {ys:List AV} {v:Value} (hm:lenS y=some m) (hy:srcA st sz y=some ys) (hr:Rel ω s y v) (hn:n ≤ m):∃ us,RelL ω s (ys.take (n * sz)) us∧us.length ≤ n * sz∧(Builtin.lenOf v).run P w=.ok m w∧(Builtin.firstCells sz n v).run P w=.ok us.toArray w:=by
 unfold srcA at hy
 split at hy
 ·rename_i tx
  cases hz:Nat.beq sz 1 with
  | false=>rw [hz] at hy; cases hy
  | true =>
   rw [hz] at hy
   cases hy
   have:=beq_t hz
   subst this
   have hv:=hr.v_of
   subst hv
   simp only [lenS,Option.some.injEq] at hm
   subst hm
   have hlist:(tx.data.toList.map fun b=>AV.v (.int .u8 b.toNat))=(tx.data.toList.map fun b=>Value.int .u8 b.toNat).map .v:=by rw [List.map_map]; rfl
   rw [hlist]
   refine ⟨_,(RelL.vs _).take _,by rw [List.length_take]; omega,rfl,?_⟩
   have:((tx.extract 0 n).data.map fun b=>Value.int .u8 b.toNat)=((tx.data.toList.map fun b=>Value.int .u8 b.toNat).take (n * 1)).toArray:=by
    apply Array.ext'
    rw [ByteArray.data_extract]
    simp [List.map_take,List.extract_eq_take_drop]
   rw [← this]; rfl
 ·rename_i hne
  have hm':lenA y=some m:=by
   unfold lenS at hm
   split at hm
   ·rename_i tx; exact absurd rfl (hne tx)
   ·exact hm
  unfold elemsA at hy
  split at hy
  ·cases hy
   simp only [lenA,Option.some.injEq] at hm'
   subst hm'
   have hv:=hr.v_of
   subst hv
   have:n=0:=by omega
   subst this
   exact ⟨[],by simpa using RelL.nil,by simp,rfl,rfl⟩
  ·cases hy
   simp only [lenA,Option.some.injEq] at hm'
   subst hm'
   have:n=0:=by omega
   subst this
   have hnil:=nil_of (P:=P) w (sz:=sz) (by rfl) hr
   exact ⟨[],by simpa using RelL.nil,by simp,hnil.1,hnil.2⟩
  ·rename_i l k m' d ex
   simp only [lenA,Option.some.injEq] at hm'
   subst hm'
   obtain ⟨b,c,us,cap,he,_,hb,hrel,hlen,hcell⟩:=elems_ok hH (by unfold elemsA; exact hy) hr
   subst he
   refine ⟨us.take (n * sz),hrel.take _,by rw [List.length_take]; omega,rfl,?_⟩
   have hle:n * sz ≤ m' * sz:=Nat.mul_le_mul_right sz hn
   have hsz:(us.take (n * sz)).length=n * sz:=by rw [List.length_take]; omega
   have hld:(loadCells ⟨b,k,none⟩ (n * sz)).run P w=.ok (us.take (n * sz)).toArray w:=by
    have:=load_cells (P:=P) (w:=w) (b:=b) (k:=k) (us.take (n * sz)) 0 #[] (fun j v hj=>by
     rw [List.getElem?_take] at hj
     split at hj
     ·have:=hcell j v hj; rw [addr_add] at this; rw [Nat.zero_add]; exact this
     ·cases hj)
    rw [hsz] at this
    simpa [loadCells] using this
   exact hld
  ·cases hy
theorem copy_ok (hω : OneW ω) (hH : Hold ω s w0 st w) (hE : EnvOK ω s A E) {t u : TypeId} {x y : Operand} {a : AV} {st' : Stt} (ho : o.op = .call ⟨.builtin .copy, #[x, y], #[t, u]⟩) (h : evCopy P st A t x y = some (a, st')) :
    ∃ v w', OpX P o E w v w' ∧ Hold ω s w0 st' w' ∧ Rel ω s a v := by
  unfold evCopy at h
  split at h
  · rename_i l k n d ex ya e hx hy ht
    split at h
    · rename_i sz ob hsz hl
      split at h
      · rename_i m hm
        split at h
        · rename_i ys hys
          cases hc : (Nat.ble (k + n * sz) ob.cs.length && (ys.take (Nat.min m n * sz)).all oneCellA) with
          | false => rw [hc] at h; cases h
          | true =>
            rw [hc] at h
            cases h
            simp only [Bool.and_eq_true] at hc
            obtain ⟨bk, c, hb, hxv⟩ := (opd_ok hx hE).sl_of
            obtain ⟨us, q1, q2, q3, q4⟩ := srcA_ok (P := P) hH (n := Nat.min m n) hm hys (opd_ok hy hE) (Nat.min_le_left m n)
            have hle := ble_t hc.1
            have hmn : Nat.min m n * sz ≤ n * sz := Nat.mul_le_mul_right sz (Nat.min_le_right m n)
            have hone : ∀ u ∈ us, u.oneCell' = true := q1.one hω hc.2
            obtain ⟨w', hst, hH'⟩ := hH.splice (P := P) (k := k) hl q1 (by omega) hone hb
            refine ⟨.int .i64 (Nat.min m n), w', .inl ?_, hH', Rel.mkv _⟩
            have hrun : (Builtin.copy_ #[t, u] o.type #[ev E x, ev E y]).run P w = .ok (.int .i64 (Nat.min m n)) w' := by
              rw [hxv]
              unfold Builtin.copy_
              simp only [List.getElem?_toArray, List.getElem?_cons_zero, List.getElem?_cons_succ, Sem.run_bind, run_underlying ht, Result.andThen_ok, q3, size_of (szOf_sized hsz), q4, Sem.run_pure]
              exact (congrArg (fun r => Result.andThen r fun _ w' => Result.ok (goInt (Nat.min m n)) w') hst).trans rfl
            simp only [execOp, ho, resolve]
            rw [show #[x, y].map (ev E) = #[ev E x, ev E y] from by simp]
            exact run_v hrun
        · cases h
      · cases h
    · cases h
  · cases h
end
end Go.Proofs.YtplflgclomiihaaGreat.Ev
namespace Go.Proofs.YtplflgclomiihaaGreat.Ev
open Go.RowKit Go.Proofs.YtplflgclomiihaaGreat.W
section
variable {ω : Nat → Value} {s : Sg} {w0 w : World} {st : Stt} {A : AE} {E : Env} {P : Program} {o : Oper}
theorem run_storeVar {t bk k sz:Nat} {v:Value} {w':World} (hs:Sized P t sz) (hl:v.cells.size=sz) (h:(storeCells ⟨bk,k,none⟩ v.cells.toList 0).run P w=.ok () w'):(storeVar t ⟨bk,k,none⟩ v).run P w=.ok () w':=by
 unfold storeVar
 simp only [Sem.run_bind,size_of hs,Result.andThen_ok,hl,ne_eq,not_true_eq_false,if_false]
 exact h
theorem store_ok (hω : OneW ω) (hH : Hold ω s w0 st w) {t : TypeId} {x y : Operand} {a b : AV} {st' : Stt} (ho : o.op = .store t x y) (hx : Rel ω s a (ev E x)) (hy : Rel ω s b (ev E y)) (h : evStore P st t a b = some st') :
    ∃ w', OpX P o E w undef w' ∧ Hold ω s w0 st' w' := by
  unfold evStore at h
  split at h
  · rename_i l k
    split at h
    · rename_i ob sz hl hsz
      cases hc : (Nat.beq (cellsA b).length sz && Nat.ble (k + sz) ob.cs.length && (cellsA b).all oneCellA) with
      | false => rw [hc] at h; cases h
      | true =>
        rw [hc] at h
        cases h
        simp only [Bool.and_eq_true] at hc
        obtain ⟨⟨h1, h2⟩, h3⟩ := hc
        have h1 := beq_t h1; have h2 := ble_t h2
        obtain ⟨bk, c, hb, hxv⟩ := hx.ptr_of
        have hr := hy.cells hω
        have hlen : (ev E y).cells.toList.length = sz := by rw [← hr.len]; exact h1
        obtain ⟨w', hst, hH'⟩ := hH.splice (P := P) (k := k) hl hr (by omega) (hr.one hω h3) hb
        refine ⟨w', .inr ⟨rfl, ?_⟩, hH'⟩
        have := run_storeVar (P := P) (szOf_sized hsz) (by simpa using hlen) hst
        simp only [execOp, ho, hxv, Instr.storeAt, Instr.sureAddr]
        exact run_u (by simp only [Sem.run_bind, Sem.run_pure, Result.andThen_ok]; exact this)
    · cases h
  · cases h
theorem clear_ok (hω : OneW ω) (hH : Hold ω s w0 st w) {t e : TypeId} {x : Operand} {l k n d sz : Nat} {ex : Bool} {ob : AO} {z : List AV} (ho : o.op = .call ⟨.builtin .clear, #[x], #[t]⟩) (hx : Rel ω s (.sl l k n d ex) (ev E x)) (ht : P.underlying t = some (.slice e)) (hl : st.h.get l = some (.c ob))
    (hsz : szOf P e = some sz) (hz : zeroA P e = some z) (h1 : z.length = sz) (h2 : k + n * sz ≤ ob.cs.length) (h3 : z.all oneCellA = true) (h4 : 1 ≤ n) (h5 : 1 ≤ sz) :
    ∃ w', OpX P o E w (.tuple #[]) w' ∧ Hold ω s w0 (setO st l { ob with cs := spliceA ob.cs k (repZ z n) }) w' := by
  obtain ⟨i, zv, hi, hzv, hzr⟩ := zeroA_ok (s := s) hω hz
  obtain ⟨bk, c, hb, hxv⟩ := hx.sl_of
  have hzl : zv.cells.toList.length = sz := by rw [← hzr.len]; exact h1
  have hr := repZ_ok hzr n
  have hlen : (repV zv.cells.toList n).length = n * sz := by rw [repV_len, hzl]
  have h1z : ∀ u ∈ repV zv.cells.toList n, u.oneCell' = true := by
    have hone := hzr.one hω h3
    clear hlen hr h4 h2 hx hxv
    induction n with
    | zero => simp [repV]
    | succ n ih =>
      intro u hu
      rw [repV] at hu
      rcases List.mem_append.1 hu with hu | hu
      · exact hone u hu
      · exact ih u hu
  obtain ⟨w', hst, hH'⟩ := hH.splice (P := P) (k := k) hl hr (by omega) h1z hb
  refine ⟨w', .inl ?_, hH'⟩
  have hzc : Builtin.zeroCells zv.cells n = (repV zv.cells.toList n).toArray := range_rep zv.cells n zv.cells.size rfl (by rw [← Array.length_toList, hzl]; omega)
  have hrun : (Builtin.clear_ #[t] o.type #[ev E x]).run P w = .ok (.tuple #[]) w' := by
    rw [hxv]
    have hn : n ≠ 0 := by omega
    unfold Builtin.clear_
    cases n with
    | zero => exact absurd rfl hn
    | succ n =>
      simp [go_sem, run_underlying ht, zeroValue, typeInfo, hi, hzv]
      have hq : (storeCells ⟨bk, k, none⟩ (Builtin.zeroCells zv.cells (n + 1)).toList 0).run P w = .ok () w' := by rw [hzc]; exact hst
      exact (congrArg (fun r => Result.andThen r fun _ w' => Result.ok (Value.tuple #[]) w') hq).trans rfl
  simp only [execOp, ho, resolve]
  rw [show #[x].map (ev E) = #[ev E x] from by simp]
  exact run_v hrun
theorem buildSlice_ok (hω : OneW ω) (hH : Hold ω s w0 st w) (hE : EnvOK ω s A E) {t e : TypeId} {len sz : Nat} {ps : Array (Nat × Operand)} {L : List (Nat × AV)} {z cs : List AV} (ho : o.op = .buildSlice t len ps) (hL : partsA A ps.toList = some L) (ht : P.underlying t = some (.slice e))
    (hsz : szOf P e = some sz) (hz : zeroA P e = some z) (h1 : len * sz ≤ 1024) (h2 : z.length = sz) (h3 : 1 ≤ sz) (hf : fillA (fun i => some (i * sz, sz)) (repZ z len) L = some cs) :
    ∃ v w' s', OpX P o E w v w' ∧ s.le s' ∧ Hold ω s' w0 (newO st ⟨e, cs, sz, false, none⟩) w' ∧ Rel ω s' (.sl st.nx 0 len len true) v := by
  obtain ⟨i, zv, hi, hzv, hzr⟩ := zeroA_ok (s := s) hω hz
  have hzl : zv.cells.size = sz := by rw [← Array.length_toList, ← hzr.len]; exact h2
  obtain ⟨hp1, hp2⟩ := parts_ok hL hE
  obtain ⟨us, hus, hrel⟩ := fill_ok hω _ L (ps.toList.map fun x => (x.1, ev E x.2)) _ cs _ (by rw [partsM.1]; exact hp1) (by rw [partsM.2]; exact hp2) (repZ_ok hzr len) hf
  refine ⟨.slice (some ⟨w.heap.size, 0, none⟩) len len, w.alloc (.cells us.toArray e), _, .inl ?_, hH.le_new _, hH.alloc sz hrel, ?_⟩
  · have hisz : i.size = sz := by simpa [szOf, hi] using hsz
    have hsize : (sizeOf e).run P w = .ok sz w := size_of (szOf_sized hsz)
    have hzero : (zeroValue e).run P w = .ok zv w := zero_of (by simp [W.Zero, hi, hzv])
    have hbig : ¬ (len * sz > 2 ^ 24) := by omega
    have hrow : ∀ c : Array Value, (newRow e c).run P w = .ok ⟨w.heap.size, 0, none⟩ (w.alloc (.cells c e)) := fun c => by simp [newRow, go_sem]
    have hps : (ps.map fun x => (x.1, ev E x.2)).toList = ps.toList.map fun x => (x.1, ev E x.2) := by simp
    have key : (Instr.buildSlice t len (ps.map fun x => (x.1, ev E x.2))).run P w = .ok (.slice (some ⟨w.heap.size, 0, none⟩) len len) (w.alloc (.cells us.toArray e)) := by
      unfold Instr.buildSlice
      by_cases h0 : len * sz = 0
      · have hl0 : len = 0 := by
          rcases Nat.mul_eq_zero.1 h0 with h | h
          · exact h
          · omega
        subst hl0
        have hfr : ((Array.range (0 * sz)).map ((#[] : Array Value)[· % (#[] : Array Value).size]!)) = (repV zv.cells.toList 0).toArray := by simp [repV]
        simp only [Sem.run_bind, underlying, run_program, ht, Result.andThen_ok, Sem.run_pure, hsize, Sem.run_ite, if_neg hbig, if_pos h0, hfr, hps, hus, hrow]
      · have hfr := range_rep zv.cells len sz hzl (by omega)
        simp only [Sem.run_bind, underlying, run_program, ht, Result.andThen_ok, Sem.run_pure, hsize, hzero, Sem.run_ite, if_neg hbig, if_neg h0, hfr, hps, hus, hrow]
    simp only [execOp, ho]
    exact run_v key
  · simp only [Rel]; exact ⟨_, _, Sg.ins_same, by simp⟩
theorem wr_ok (hω : OneW ω) (hH : Hold ω s w0 st w) (hE : EnvOK ω s A E) {a : AV} {st' : Stt} (h : evWrSp P st A o.op = some (a, st')) :
    ∃ v w' s', OpX P o E w v w' ∧ s.le s' ∧ Hold ω s' w0 st' w' ∧ Rel ω s' a v := by
  unfold evWrSp at h
  split at h
  · rename_i t len ps ho
    split at h
    · rename_i L e hL ht
      split at h
      · rename_i sz z hsz hz
        cases hc : (Nat.ble (len * sz) 1024 && Nat.beq z.length sz && Nat.ble 1 sz) with
        | false => rw [hc] at h; cases h
        | true =>
          rw [hc] at h
          simp only [cond_true] at h
          split at h
          · rename_i cs hf
            cases h
            simp only [Bool.and_eq_true] at hc
            exact buildSlice_ok hω hH hE ho hL ht hsz hz (ble_t hc.1.1) (beq_t hc.1.2) (ble_t hc.2) hf
          · cases h
      · cases h
    · cases h
  · rename_i t l c ho
    split at h
    · rename_i la ca e hl hc ht
      split at h
      · rename_i ln cn i z hln hcn hi hz
        cases hq : (Nat.ble ln cn && Nat.ble (i.bytes * cn) 1099511627776 && Nat.ble cn 1099511627776 && Nat.ble 1 i.size && Nat.beq z.length i.size) with
        | false => rw [hq] at h; cases h
        | true =>
          rw [hq] at h
          simp only [cond_true] at h
          simp only [Bool.and_eq_true] at hq
          obtain ⟨⟨⟨⟨q1, q2⟩, q3⟩, q4⟩, q5⟩ := hq
          have q1 := ble_t q1; have q2 := ble_t q2; have q3 := ble_t q3; have q4 := ble_t q4; have q5 := beq_t q5
          obtain ⟨i', zv, hi', hzv, hzr⟩ := zeroA_ok (s := s) hω hz
          rw [hi] at hi'; cases hi'
          obtain ⟨kl, hlv⟩ := natOf_ok hln (opd_ok hl hE)
          obtain ⟨kc, hcv⟩ := natOf_ok hcn (opd_ok hc hE)
          have hzl : zv.cells.size = i.size := by rw [← Array.length_toList, ← hzr.len]; exact q5
          have hb : (i.bytes : Int) * (cn : Int) ≤ 281474976710656 := by
            have h1 : ((i.bytes * cn : Nat) : Int) ≤ 281474976710656 := by omega
            rwa [Int.natCast_mul] at h1
          have hrun := run_make (P := P) w t e i zv ht hi hzv kl kc (ln : Int) (cn : Int) (by omega) (by omega) hb (by omega)
          simp only [Int.toNat_natCast] at hrun
          have hmade : madeCells zv.cells (cn * i.size) = (repV zv.cells.toList cn).toArray := range_rep zv.cells cn i.size hzl (by omega)
          have hop : OpX P o E w (.slice (some ⟨w.heap.size, 0, none⟩) ln cn) (w.alloc (.cells (repV zv.cells.toList cn).toArray e)) := by
            left
            rw [hmade] at hrun
            simp only [execOp, ho, hlv, hcv]
            exact run_v hrun
          cases hsm : Nat.ble (cn * i.size) 4096 with
          | true =>
            rw [hsm] at h
            cases h
            exact ⟨_, _, _, hop, hH.le_new _, hH.alloc i.size (repZ_ok hzr cn), by simp only [Rel]; exact ⟨_, _, Sg.ins_same, by simp⟩⟩
          | false =>
            rw [hsm] at h
            simp only [cond_false] at h
            split at h
            · rename_i x
              cases h
              obtain ⟨v1, vs1, h1, h2, h3⟩ := hzr.uncons
              have h4 := h2.unnil
              subst h4
              have h5 := h1.v_of
              subst h5
              rw [h3] at hop
              have hrep : ∀ m, repV [v1] m = List.replicate m v1 := by
                intro m
                induction m with
                | zero => rfl
                | succ m ih => rw [repV, ih]; rfl
              rw [hrep] at hop
              have hrep' : (List.replicate cn v1).toArray = Array.replicate cn v1 := by simp
              rw [hrep'] at hop
              exact ⟨_, _, s.ins st.nx (w.heap.size, 0), hop, hH.le_new _, hH.new (c := 0) (Ext.alloc w _) ⟨hH.ge, heap_alloc_new w _⟩, by simp only [Rel]; exact ⟨_, _, Sg.ins_same, by simp⟩⟩
            · cases h
      · cases h
    · cases h
  · rename_i t r ho
    split at h
    · rename_i kt et n ht hr
      cases h
      exact makeMap_ok hH hE ho ht hr
    · cases h
  · rename_i t m k x ho
    obtain ⟨v, w', h1, h2, h3⟩ := upd_ok hH hE (.inl ho) h
    exact ⟨v, w', s, h1, Sg.le.refl s, h2, h3⟩
  · rename_i t m k x ho
    obtain ⟨v, w', h1, h2, h3⟩ := upd_ok hH hE (.inr ho) h
    exact ⟨v, w', s, h1, Sg.le.refl s, h2, h3⟩
  · rename_i xs ts ho
    split at h
    · rename_i m k t u hxs hts
      rw [toList2 hxs, toList2 hts] at ho
      obtain ⟨v, w', h1, h2, h3⟩ := delete_ok hH hE ho h
      exact ⟨v, w', s, h1, Sg.le.refl s, h2, h3⟩
    · cases h
  · rename_i t x ho
    exact rangeOf_ok hH hE ho h
  · rename_i it isStr ho
    obtain ⟨v, w', h1, h2, h3⟩ := next_ok hH hE ho h
    exact ⟨v, w', s, h1, Sg.le.refl s, h2, h3⟩
  · rename_i xs ts ho
    split at h
    · rename_i x y t u hxs hts
      rw [toList2 hxs, toList2 hts] at ho
      obtain ⟨v, w', h1, h2, h3⟩ := copy_ok hω hH hE ho h
      exact ⟨v, w', s, h1, Sg.le.refl s, h2, h3⟩
    · cases h
  · rename_i t ho
    split at h
    · rename_i z hz
      cases h
      obtain ⟨i, zv, hi, hzv, hzr⟩ := zeroA_ok (s := s) hω hz
      refine ⟨_, w.alloc (.cells zv.cells.toList.toArray t), _, .inl ?_, hH.le_new _, hH.alloc 0 hzr, Rel.newPtr hH _ 0⟩
      have hzero : (zeroValue t).run P w = .ok zv w := zero_of (by simp [W.Zero, hi, hzv])
      simp [execOp, ho, go_sem, Instr.alloc, hzero, newVar, newRow]
    · cases h
  · rename_i t x ho
    split at h
    · rename_i b hx
      cases h
      have hr := (opd_ok hx hE).cells hω
      refine ⟨_, w.alloc (.cells (ev E x).cells.toList.toArray t), _, .inl ?_, hH.le_new _, hH.alloc 0 hr, Rel.newPtr hH _ 0⟩
      simp [execOp, ho, go_sem, Instr.box, newVar, newRow]
    · cases h
  · rename_i t x y ho
    split at h
    · rename_i a' b hx hy
      split at h
      · rename_i st1 hs
        cases h
        obtain ⟨w', h1, h2⟩ := store_ok hω hH ho (opd_ok hx hE) (opd_ok hy hE) hs
        exact ⟨_, w', s, h1, Sg.le.refl s, h2, Rel.mkv _⟩
      · cases h
    · cases h
  · rename_i xs ts ho
    split at h
    · rename_i x y t u hxs hts
      split at h
      · rename_i a' b' hx hy
        rw [toList2 hxs, toList2 hts] at ho
        cases hc : Nat.beq t u with
        | false => rw [hc] at h; exact appendZ_ok hω hH ho (opd_ok hx hE) (opd_ok hy hE) h
        | true =>
          rw [hc] at h
          have := beq_t hc
          subst this
          exact append_ok hω hH ho (opd_ok hx hE) (opd_ok hy hE) h
      · cases h
    · cases h
  · rename_i xs ts ho
    split at h
    · rename_i x t hxs hts
      split at h
      · rename_i l k n d ex e hx ht
        split at h
        · rename_i ob sz z hl hsz hz
          cases hc : (Nat.beq z.length sz && Nat.ble (k + n * sz) ob.cs.length && z.all oneCellA && Nat.ble 1 n && Nat.ble 1 sz) with
          | false => rw [hc] at h; cases h
          | true =>
            rw [hc] at h
            cases h
            simp only [Bool.and_eq_true] at hc
            obtain ⟨⟨⟨⟨c1, c2⟩, c3⟩, c4⟩, c5⟩ := hc
            rw [toList1 hxs, toList1 hts] at ho
            obtain ⟨w', h1, h2⟩ := clear_ok hω hH ho (opd_ok hx hE) ht hl hsz hz (beq_t c1) (ble_t c2) c3 (ble_t c4) (ble_t c5)
            exact ⟨_, w', s, h1, Sg.le.refl s, h2, Rel.mkv _⟩
        · cases h
      · cases h
    · cases h
  · cases h
theorem callable_of {f:FuncId} (h:callableB P f=true):Callable P f:=by
 unfold callableB at h
 split at h
 ·rename_i fn hf
  simp only [Bool.and_eq_true,Bool.not_eq_true'] at h
  refine ⟨fn,hf,h.1,?_⟩
  cases hb:fn.body with
  | none=>rw [hb] at h; simp at h
  | some c=>rfl
 ·cases h
theorem call_ok (hE:EnvOK ω s A E) {f:FuncId} {l:List AV} (h:evCallSp P A o.op=some (f,l)):∃ vs,OpC P o E w f vs.toArray∧RelL ω s l vs:=by
 unfold evCallSp at h
 split at h
 ·rename_i g xs ts ho
  have done:∀ (f:FuncId) (cap:List Value) ,ev E g=.func (.func f) #[] cap.toArray → callableB P f=true → OpC P o E w f (xs.toList.map (ev E) ++ cap).toArray:=by
   intro f cap hg hc
   obtain ⟨fn,hfn,hname,hb⟩:=callable_of hc
   have hn':¬ fn.name="runtime.NumGoroutine":=by simpa using hname
   have hb':¬ fn.body=none:=by intro e; rw [e] at hb; cases hb
   have hargs:xs.map (ev E) ++ cap.toArray=(xs.toList.map (ev E) ++ cap).toArray:=by apply Array.ext'; simp
   rw [← hargs]
   simp [OpC,execOp,ho,go_sem,hg,callFunc,hfn,hn',hb']
  split at h
  ·rename_i f' fs cs l' hg hl
   cases hc:(Nat.beq fs.size 0 && callableB P f') with
   | false=>rw [hc] at h; cases h
   | true =>
    rw [hc] at h
    cases h
    simp only [Bool.and_eq_true] at hc
    have hfs:fs=#[]:=Array.eq_empty_of_size_eq_zero (beq_t hc.1)
    subst hfs
    have hgv:=(opd_ok hg hE).v_of
    exact ⟨_,done f cs.toList (by simpa using hgv) hc.2,(opds_ok hl hE).append (RelL.vs _)⟩
  ·rename_i f' cs l' hg hl
   cases hc:callableB P f' with
   | false=>rw [hc] at h; cases h
   | true =>
    rw [hc] at h
    cases h
    have hr:=opd_ok hg hE
    simp only [Rel] at hr
    obtain ⟨vs,hr,he⟩:=hr
    exact ⟨_,done f vs he hc,(opds_ok hl hE).append hr⟩
  ·cases h
 ·cases h
def CallOK (ω:Nat → Value) (w0:World) (P:Program) (cf:CallF):Prop:=∀ f l st a st',cf f l st=some (a,st') → ∀ s w vs,Hold ω s w0 st w → RelL ω s l vs →
 Fnc P f vs.toArray w fun v w'=>∃ s',s.le s'∧Hold ω s' w0 st' w'∧Rel ω s' a v
theorem guard_run {ops:Array Oper} (hE:EnvOK ω s A E) (h:guardA A ops o=some .run):Sure ops o E:=by
 unfold guardA at h
 split at h
 ·rename_i hg; exact Sure.none hg
 ·rename_i j want hg
  split at h
  ·rename_i q hq
   split at h
   ·rename_i d hd
    split at h
    ·rename_i b hb
     have hv:E d=.bool b:=(hE d _ hb).v_of
     cases hw:(b == want) with
     | false=>rw [hw] at h; cases h
     | true =>
      have:b=want:=by simpa using hw
      subst this
      exact Sure.yes hg (by simp [hq,hd]) hv
    ·cases h
    ·cases h
   ·cases h
  ·cases h
theorem guard_skip {ops:Array Oper} (hE:EnvOK ω s A E) (h:guardA A ops o=some .skip):Shut ops o E:=by
 unfold guardA at h
 split at h
 ·cases h
 ·rename_i j want hg
  split at h
  ·rename_i q hq
   split at h
   ·rename_i d hd
    split at h
    ·rename_i b hb
     have hv:E d=.bool b:=(hE d _ hb).v_of
     cases hw:(b == want) with
     | true=>rw [hw] at h; cases h
     | false=>exact Shut.no hg (by simp [hq,hd]) hv hw
    ·rename_i xs hb
     have hv:E d=.tuple xs:=(hE d _ hb).v_of
     intro tmps he
     subst he
     simp only [Array.getD_eq_getD_getElem?] at hv
     simp only [Region.wanted,hg,yielded,hq,hd,Option.bind_some]
     cases ht:tmps[d]? with
     | none=>rfl
     | some v=>rw [ht] at hv; simp at hv; rw [hv]; rfl
    ·cases h
   ·cases h
  ·cases h
theorem rnd_ok (hE:EnvOK ω s A E) {l:Nat} {as':List AV} (h:evRndSp A o.op=some (l,as')):∃ b c vs,s l=some (b,c)∧RelL ω s as' vs∧∀ P w n f tmps asg body,(Instr.yield b vs.toArray).run P w=.ok (.round n f tmps asg body) w → (execOp (ev E) o).run P w=.ok (.round n f tmps asg body) w:=by
 unfold evRndSp at h
 split at h
 ·rename_i g xs ts ho
  split at h
  ·rename_i l' as2 hg hl
   cases h
   have hr:=opd_ok hg hE
   simp only [Rel] at hr
   obtain ⟨b,c,hb,he⟩:=hr
   refine ⟨b,c,_,hb,opds_ok hl hE,fun P w n f tmps asg body hy=>?_⟩
   have hargs:xs.map (ev E)=(xs.toList.map (ev E)).toArray:=by apply Array.ext'; simp
   rw [← hargs] at hy
   simp [execOp,ho,go_sem,he,hy]
  ·cases h
 ·cases h
def RoundOK (ω:Nat → Value) (w0:World) (P:Program) (rf:RndF) (ro:Option Nat):Prop:=∀ l as' st a st',rf l as' st=some (a,st') → ∀ s w vs b c,Hold ω s w0 st w → RelL ω s as' vs → s l=some (b,c) →
 ∃ r:Loop,w.heap[b]?=some (.loop r)∧vs.toArray.size=r.params.size∧RoundIn (Fr ro) 0 P b r.fn ((r.params.zip vs.toArray).foldl (fun tmps (t,a)=>tmps.setIfInBounds t a) r.tmps) r.assign r.body w fun e w'=>∃ v s',e=.returned v∧s.le s'∧Hold ω s' w0 st' w'∧Rel ω s' a v
theorem WL.r {n : Fsz} {ro : Option Nat} {Q : K} {ops : Array Oper} {rest : List Oper} {l : Nat} {f : FuncId} {tmps : Array Value} {asg body : Code} (hs : Sure ops o E) (hd : dstOk n o.dst = true) (h : (execOp (ev E) o).run P w = .ok (.round l f tmps asg body) w)
    (k : RoundIn (Fr ro) 0 P l f tmps asg body w fun e w' => ∃ v, e = .returned v ∧ WLr ro P n ops Q rest (updO E o.dst v) w') : WLr ro P n ops Q (o :: rest) E w := by
  intro a ha he
  unfold wpListIn
  rw [if_pos (hs a.tmps he)]
  refine ⟨fun _ _ => trivial, ?_⟩
  rw [eval_envOf, he, semAt_of h (by simp)]
  refine ⟨fun _ => Nat.le_refl 1, RoundIn.mono k ?_⟩
  rintro e w' ⟨v, rfl, hk⟩
  exact hk (a.put o.dst v) (ha.put _ _) (by rw [envOf_put ha _ hd, he])
theorem dst_of {N:Nat} {D:List Deferred} {d:Option Nat} (h:dstB N d=true):dstOk ⟨N,D⟩ d=true:=by cases d <;> exact h
theorem list_app (hω : OneW ω) {cf : CallF} (hc : CallOK ω w0 P cf) {rf : RndF} {ro : Option Nat} (hrf : RoundOK ω w0 P rf ro) {N : Nat} {D : List Deferred} {ops : Array Oper} {Q : K} : ∀ (l : List Oper) (A : AE) (st : Stt) (A' : AE) (st' : Stt), evList P cf rf N ops l A st = some (A', st') → ∀ s E w, Hold ω s w0 st w → EnvOK ω s A E → ∀ l2,
    (∀ s' E' w', s.le s' → Hold ω s' w0 st' w' → EnvOK ω s' A' E' → WLr ro P ⟨N, D⟩ ops Q l2 E' w') → WLr ro P ⟨N, D⟩ ops Q (l ++ l2) E w := by
  intro l
  induction l with
  | nil =>
    intro A st A' st' h s E w hH hE l2 k
    simp only [evList, Option.some.injEq, Prod.mk.injEq] at h
    obtain ⟨rfl, rfl⟩ := h
    exact k s E w (Sg.le.refl s) hH hE
  | cons o r ih =>
    intro A st A' st' h s E w hH hE l2 k
    simp only [evList] at h
    cases hd' : dstB N o.dst with
    | false => rw [hd'] at h; cases h
    | true =>
      rw [hd'] at h
      simp only [cond_true] at h
      have hd : dstOk ⟨N, D⟩ o.dst = true := dst_of hd'
      split at h
      · rename_i a st1 hs
        unfold evStep at hs
        split at hs
        · rename_i hg
          cases hs
          exact WL.s (guard_skip hE hg) hd (ih _ _ _ _ h s _ w hH (hE.put (Rel.mkv _)) l2 k)
        · rename_i hg
          have hsure := guard_run (ops := ops) hE hg
          split at hs
          · rename_i a' hop
            cases hs
            have : ∃ v, OpV P o E w v ∧ Rel ω s a v := by
              unfold evOp at hop
              split at hop
              · rename_i a1 h1; cases hop; exact rd_ok hω hH hE h1
              · split at hop
                · cases hop
                · split at hop
                  · cases hop
                  · split at hop
                    · cases hop
                    · split at hop
                      · rename_i a1 h1; cases hop; exact pure_ok hE h1
                      · cases hop
            obtain ⟨v, hv, hr⟩ := this
            exact WL.v hsure hd hv (ih _ _ _ _ h s _ w hH (hE.put hr) l2 k)
          · rename_i a' st2 hop
            cases hs
            have : evWrSp P st A o.op = some (a, st1) := by
              unfold evOp at hop
              split at hop
              · cases hop
              · split at hop
                · rename_i h1; cases hop; exact h1
                · split at hop
                  · cases hop
                  · split at hop
                    · cases hop
                    · split at hop <;> cases hop
            obtain ⟨v, w', s', hx, hle, hH', hr⟩ := wr_ok hω hH hE this
            exact WL.x hsure hd hx (ih _ _ _ _ h s' _ w' hH' ((hE.mono hle).put hr) l2 fun s2 E2 w2 q1 q2 q3 => k s2 E2 w2 (hle.trans q1) q2 q3)
          · rename_i f l' hop
            have : evCallSp P A o.op = some (f, l') := by
              unfold evOp at hop
              split at hop
              · cases hop
              · split at hop
                · cases hop
                · split at hop
                  · rename_i h1; cases hop; exact h1
                  · split at hop
                    · cases hop
                    · split at hop <;> cases hop
            obtain ⟨vs, hx, hr⟩ := call_ok (w := w) hE this
            refine WL.c hsure hd hx (Fnc.mono (hc f l' st a st1 hs s w vs hH hr) ?_)
            rintro v w' ⟨s', hle, hH', hrel⟩
            exact ih _ _ _ _ h s' _ w' hH' ((hE.mono hle).put hrel) l2 fun s2 E2 w2 q1 q2 q3 => k s2 E2 w2 (hle.trans q1) q2 q3
          · rename_i l' as' hop
            have : evRndSp A o.op = some (l', as') := by
              unfold evOp at hop
              split at hop
              · cases hop
              · split at hop
                · cases hop
                · split at hop
                  · cases hop
                  · split at hop
                    · rename_i h1; cases hop; exact h1
                    · split at hop <;> cases hop
            obtain ⟨b, c, vs, hb, hr, hx⟩ := rnd_ok hE this
            obtain ⟨r, hl, hsz, hrd⟩ := hrf l' as' st a st1 hs s w vs b c hH hr hb
            refine WL.r hsure hd (hx P w _ _ _ _ _ (run_yield hl hsz)) (RoundIn.mono hrd ?_)
            rintro e w' ⟨v, s', rfl, hle, hH', hrel⟩
            exact ⟨v, rfl, ih _ _ _ _ h s' _ w' hH' ((hE.mono hle).put hrel) l2 fun s2 E2 w2 q1 q2 q3 => k s2 E2 w2 (hle.trans q1) q2 q3⟩
          · cases hs
        · cases hs
      · cases h
theorem list_ok (hω : OneW ω) {cf : CallF} (hc : CallOK ω w0 P cf) {rf : RndF} {ro : Option Nat} (hrf : RoundOK ω w0 P rf ro) {N : Nat} {D : List Deferred} {ops : Array Oper} {Q : K} (l : List Oper) (A : AE) (st : Stt) (A' : AE) (st' : Stt) (h : evList P cf rf N ops l A st = some (A', st')) (s : Sg) (E : Env) (w : World) (hH : Hold ω s w0 st w) (hE : EnvOK ω s A E)
    (k : ∀ s' E' w', s.le s' → Hold ω s' w0 st' w' → EnvOK ω s' A' E' → Q.norm E' w') : WLr ro P ⟨N, D⟩ ops Q l E w := by
  have := list_app (Q := Q) (D := D) hω hc hrf l A st A' st' h s E w hH hE [] (fun s' E' w' h1 h2 h3 => WL.nil (k s' E' w' h1 h2 h3))
  rwa [List.append_nil] at this
end
end Go.Proofs.YtplflgclomiihaaGreat.Ev
