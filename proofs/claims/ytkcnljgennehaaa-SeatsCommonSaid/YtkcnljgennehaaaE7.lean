/- The evaluator is right: operations, all of them; regions in the text's order. Program-agnostic. -/
import Derived.Test.YtkcnljgennehaaaE6m
import Derived.Laws.MakeOwn
namespace Go.Proofs.Ytkcnljgennehaaa.Ev
open Go.RowKit Go.Proofs.Ytkcnljgennehaaa.W

section
variable {ω : Nat → Value} {s : Sg} {w0 w : World} {st : Stt} {A : AE} {E : Env} {P : Program} {o : Oper}
theorem run_storeVar {t bk k sz : Nat} {v : Value} {w' : World} (hs : Sized P t sz) (hl : v.cells.size = sz) (h : (storeCells ⟨bk, k, none⟩ v.cells.toList 0).run P w = .ok () w') : (storeVar t ⟨bk, k, none⟩ v).run P w = .ok () w' := by
  unfold storeVar
  simp only [Sem.run_bind, size_of hs, Result.andThen_ok, hl, ne_eq, not_true_eq_false, if_false]
  exact h
theorem store_ok (hω : OneW ω) (hH : Hold ω s w0 st w) {t : TypeId} {x y : Operand} {a b : AV} {st' : Stt} (ho : o.op = .store t x y) (hx : Rel ω s a (ev E x)) (hy : Rel ω s b (ev E y)) (h : evStore P st t a b = some st') :
    ∃ w', OpX P o E w undef w' ∧ Hold ω s w0 st' w' := by
  unfold evStore at h
  split at h
  · rename_i l k
    split at h
    · rename_i ob sz hl hsz
      cases hc : (Nat.beq (cellsA b).length sz && Nat.ble (k + sz) ob.cs.length && (cellsA b).all oneCellA) with
      | false => rw [hc] at h; cases h
      | true =>
        rw [hc] at h
        cases h
        simp only [Bool.and_eq_true] at hc
        obtain ⟨⟨h1, h2⟩, h3⟩ := hc
        have h1 := beq_t h1; have h2 := ble_t h2
        obtain ⟨bk, c, hb, hxv⟩ := hx.ptr_of
        have hr := hy.cells hω
        have hlen : (ev E y).cells.toList.length = sz := by rw [← hr.len]; exact h1
        obtain ⟨w', hst, hH'⟩ := hH.splice (P := P) (k := k) hl hr (by omega) (hr.one hω h3) hb
        refine ⟨w', .inr ⟨rfl, ?_⟩, hH'⟩
        have := run_storeVar (P := P) (szOf_sized hsz) (by simpa using hlen) hst
        simp only [execOp, ho, hxv, Instr.storeAt, Instr.sureAddr]
        exact run_u (by simp only [Sem.run_bind, Sem.run_pure, Result.andThen_ok]; exact this)
    · cases h
  · cases h
theorem clear_ok (hω : OneW ω) (hH : Hold ω s w0 st w) {t e : TypeId} {x : Operand} {l k n d sz : Nat} {ex : Bool} {ob : AO} {z : List AV} (ho : o.op = .call ⟨.builtin .clear, #[x], #[t]⟩) (hx : Rel ω s (.sl l k n d ex) (ev E x)) (ht : P.underlying t = some (.slice e)) (hl : st.h.get l = some (.c ob))
    (hsz : szOf P e = some sz) (hz : zeroA P e = some z) (h1 : z.length = sz) (h2 : k + n * sz ≤ ob.cs.length) (h3 : z.all oneCellA = true) (h4 : 1 ≤ n) (h5 : 1 ≤ sz) :
    ∃ w', OpX P o E w (.tuple #[]) w' ∧ Hold ω s w0 (setO st l { ob with cs := spliceA ob.cs k (repZ z n) }) w' := by
  obtain ⟨i, zv, hi, hzv, hzr⟩ := zeroA_ok (s := s) hω hz
  obtain ⟨bk, c, hb, hxv⟩ := hx.sl_of
  have hzl : zv.cells.toList.length = sz := by rw [← hzr.len]; exact h1
  have hr := repZ_ok hzr n
  have hlen : (repV zv.cells.toList n).length = n * sz := by rw [repV_len, hzl]
  have h1z : ∀ u ∈ repV zv.cells.toList n, u.oneCell' = true := by
    have hone := hzr.one hω h3
    clear hlen hr h4 h2 hx hxv
    induction n with
    | zero => simp [repV]
    | succ n ih =>
      intro u hu
      rw [repV] at hu
      rcases List.mem_append.1 hu with hu | hu
      · exact hone u hu
      · exact ih u hu
  obtain ⟨w', hst, hH'⟩ := hH.splice (P := P) (k := k) hl hr (by omega) h1z hb
  refine ⟨w', .inl ?_, hH'⟩
  have hzc : Builtin.zeroCells zv.cells n = (repV zv.cells.toList n).toArray := range_rep zv.cells n zv.cells.size rfl (by rw [← Array.length_toList, hzl]; omega)
  have hrun : (Builtin.clear_ #[t] o.type #[ev E x]).run P w = .ok (.tuple #[]) w' := by
    rw [hxv]
    have hn : n ≠ 0 := by omega
    unfold Builtin.clear_
    cases n with
    | zero => exact absurd rfl hn
    | succ n =>
      simp [go_sem, run_underlying ht, zeroValue, typeInfo, hi, hzv]
      have hq : (storeCells ⟨bk, k, none⟩ (Builtin.zeroCells zv.cells (n + 1)).toList 0).run P w = .ok () w' := by rw [hzc]; exact hst
      exact (congrArg (fun r => Result.andThen r fun _ w' => Result.ok (Value.tuple #[]) w') hq).trans rfl
  simp only [execOp, ho, resolve]
  rw [show #[x].map (ev E) = #[ev E x] from by simp]
  exact run_v hrun
theorem buildSlice_ok (hω : OneW ω) (hH : Hold ω s w0 st w) (hE : EnvOK ω s A E) {t e : TypeId} {len sz : Nat} {ps : Array (Nat × Operand)} {L : List (Nat × AV)} {z cs : List AV} (ho : o.op = .buildSlice t len ps) (hL : partsA A ps.toList = some L) (ht : P.underlying t = some (.slice e))
    (hsz : szOf P e = some sz) (hz : zeroA P e = some z) (h1 : len * sz ≤ 1024) (h2 : z.length = sz) (h3 : 1 ≤ sz) (hf : fillA (fun i => some (i * sz, sz)) (repZ z len) L = some cs) :
    ∃ v w' s', OpX P o E w v w' ∧ s.le s' ∧ Hold ω s' w0 (newO st ⟨e, cs, sz, false, none⟩) w' ∧ Rel ω s' (.sl st.nx 0 len len true) v := by
  obtain ⟨i, zv, hi, hzv, hzr⟩ := zeroA_ok (s := s) hω hz
  have hzl : zv.cells.size = sz := by rw [← Array.length_toList, ← hzr.len]; exact h2
  obtain ⟨hp1, hp2⟩ := parts_ok hL hE
  obtain ⟨us, hus, hrel⟩ := fill_ok hω _ L (ps.toList.map fun x => (x.1, ev E x.2)) _ cs _ (by rw [partsM.1]; exact hp1) (by rw [partsM.2]; exact hp2) (repZ_ok hzr len) hf
  refine ⟨.slice (some ⟨w.heap.size, 0, none⟩) len len, w.alloc (.cells us.toArray e), _, .inl ?_, hH.le_new _, hH.alloc sz hrel, ?_⟩
  · have hisz : i.size = sz := by simpa [szOf, hi] using hsz
    have hsize : (sizeOf e).run P w = .ok sz w := size_of (szOf_sized hsz)
    have hzero : (zeroValue e).run P w = .ok zv w := zero_of (by simp [W.Zero, hi, hzv])
    have hbig : ¬ (len * sz > 2 ^ 24) := by omega
    have hrow : ∀ c : Array Value, (newRow e c).run P w = .ok ⟨w.heap.size, 0, none⟩ (w.alloc (.cells c e)) := fun c => by simp [newRow, go_sem]
    have hps : (ps.map fun x => (x.1, ev E x.2)).toList = ps.toList.map fun x => (x.1, ev E x.2) := by simp
    have key : (Instr.buildSlice t len (ps.map fun x => (x.1, ev E x.2))).run P w = .ok (.slice (some ⟨w.heap.size, 0, none⟩) len len) (w.alloc (.cells us.toArray e)) := by
      unfold Instr.buildSlice
      by_cases h0 : len * sz = 0
      · have hl0 : len = 0 := by
          rcases Nat.mul_eq_zero.1 h0 with h | h
          · exact h
          · omega
        subst hl0
        have hfr : ((Array.range (0 * sz)).map ((#[] : Array Value)[· % (#[] : Array Value).size]!)) = (repV zv.cells.toList 0).toArray := by simp [repV]
        simp only [Sem.run_bind, underlying, run_program, ht, Result.andThen_ok, Sem.run_pure, hsize, Sem.run_ite, if_neg hbig, if_pos h0, hfr, hps, hus, hrow]
      · have hfr := range_rep zv.cells len sz hzl (by omega)
        simp only [Sem.run_bind, underlying, run_program, ht, Result.andThen_ok, Sem.run_pure, hsize, hzero, Sem.run_ite, if_neg hbig, if_neg h0, hfr, hps, hus, hrow]
    simp only [execOp, ho]
    exact run_v key
  · simp only [Rel]; exact ⟨_, _, Sg.ins_same, by simp⟩
theorem wr_ok (hω : OneW ω) (hH : Hold ω s w0 st w) (hE : EnvOK ω s A E) {a : AV} {st' : Stt} (h : evWrSp P st A o.op = some (a, st')) :
    ∃ v w' s', OpX P o E w v w' ∧ s.le s' ∧ Hold ω s' w0 st' w' ∧ Rel ω s' a v := by
  unfold evWrSp at h
  split at h
  · rename_i t len ps ho
    split at h
    · rename_i L e hL ht
      split at h
      · rename_i sz z hsz hz
        cases hc : (Nat.ble (len * sz) 1024 && Nat.beq z.length sz && Nat.ble 1 sz) with
        | false => rw [hc] at h; cases h
        | true =>
          rw [hc] at h
          simp only [cond_true] at h
          split at h
          · rename_i cs hf
            cases h
            simp only [Bool.and_eq_true] at hc
            exact buildSlice_ok hω hH hE ho hL ht hsz hz (ble_t hc.1.1) (beq_t hc.1.2) (ble_t hc.2) hf
          · cases h
      · cases h
    · cases h
  · rename_i t l c ho
    split at h
    · rename_i la ca e hl hc ht
      split at h
      · rename_i ln cn i z hln hcn hi hz
        cases hq : (Nat.ble ln cn && Nat.ble (i.bytes * cn) 1099511627776 && Nat.ble cn 1099511627776 && Nat.ble 1 i.size && Nat.beq z.length i.size) with
        | false => rw [hq] at h; cases h
        | true =>
          rw [hq] at h
          simp only [cond_true] at h
          simp only [Bool.and_eq_true] at hq
          obtain ⟨⟨⟨⟨q1, q2⟩, q3⟩, q4⟩, q5⟩ := hq
          have q1 := ble_t q1; have q2 := ble_t q2; have q3 := ble_t q3; have q4 := ble_t q4; have q5 := beq_t q5
          obtain ⟨i', zv, hi', hzv, hzr⟩ := zeroA_ok (s := s) hω hz
          rw [hi] at hi'; cases hi'
          obtain ⟨kl, hlv⟩ := natOf_ok hln (opd_ok hl hE)
          obtain ⟨kc, hcv⟩ := natOf_ok hcn (opd_ok hc hE)
          have hzl : zv.cells.size = i.size := by rw [← Array.length_toList, ← hzr.len]; exact q5
          have hb : (i.bytes : Int) * (cn : Int) ≤ 281474976710656 := by
            have h1 : ((i.bytes * cn : Nat) : Int) ≤ 281474976710656 := by omega
            rwa [Int.natCast_mul] at h1
          have hrun := run_make (P := P) w t e i zv ht hi hzv kl kc (ln : Int) (cn : Int) (by omega) (by omega) hb (by omega)
          simp only [Int.toNat_natCast] at hrun
          have hmade : madeCells zv.cells (cn * i.size) = (repV zv.cells.toList cn).toArray := range_rep zv.cells cn i.size hzl (by omega)
          have hop : OpX P o E w (.slice (some ⟨w.heap.size, 0, none⟩) ln cn) (w.alloc (.cells (repV zv.cells.toList cn).toArray e)) := by
            left
            rw [hmade] at hrun
            simp only [execOp, ho, hlv, hcv]
            exact run_v hrun
          cases hsm : Nat.ble (cn * i.size) 4096 with
          | true =>
            rw [hsm] at h
            cases h
            exact ⟨_, _, _, hop, hH.le_new _, hH.alloc i.size (repZ_ok hzr cn), by simp only [Rel]; exact ⟨_, _, Sg.ins_same, by simp⟩⟩
          | false =>
            rw [hsm] at h
            simp only [cond_false] at h
            split at h
            · rename_i x
              cases h
              obtain ⟨v1, vs1, h1, h2, h3⟩ := hzr.uncons
              have h4 := h2.unnil
              subst h4
              have h5 := h1.v_of
              subst h5
              rw [h3] at hop
              have hrep : ∀ m, repV [v1] m = List.replicate m v1 := by
                intro m
                induction m with
                | zero => rfl
                | succ m ih => rw [repV, ih]; rfl
              rw [hrep] at hop
              have hrep' : (List.replicate cn v1).toArray = Array.replicate cn v1 := by simp
              rw [hrep'] at hop
              exact ⟨_, _, s.ins st.nx (w.heap.size, 0), hop, hH.le_new _, hH.new (c := 0) (Ext.alloc w _) ⟨hH.ge, heap_alloc_new w _⟩, by simp only [Rel]; exact ⟨_, _, Sg.ins_same, by simp⟩⟩
            · cases h
      · cases h
    · cases h
  · rename_i t r ho
    split at h
    · rename_i kt et n ht hr
      cases h
      exact makeMap_ok hH hE ho ht hr
    · cases h
  · rename_i t m k x ho
    obtain ⟨v, w', h1, h2, h3⟩ := upd_ok hH hE (.inl ho) h
    exact ⟨v, w', s, h1, Sg.le.refl s, h2, h3⟩
  · rename_i t m k x ho
    obtain ⟨v, w', h1, h2, h3⟩ := upd_ok hH hE (.inr ho) h
    exact ⟨v, w', s, h1, Sg.le.refl s, h2, h3⟩
  · rename_i xs ts ho
    split at h
    · rename_i m k t u hxs hts
      rw [toList2 hxs, toList2 hts] at ho
      obtain ⟨v, w', h1, h2, h3⟩ := delete_ok hH hE ho h
      exact ⟨v, w', s, h1, Sg.le.refl s, h2, h3⟩
    · cases h
  · rename_i t x ho
    exact rangeOf_ok hH hE ho h
  · rename_i it isStr ho
    obtain ⟨v, w', h1, h2, h3⟩ := next_ok hH hE ho h
    exact ⟨v, w', s, h1, Sg.le.refl s, h2, h3⟩
  · rename_i xs ts ho
    split at h
    · rename_i x y t u hxs hts
      rw [toList2 hxs, toList2 hts] at ho
      obtain ⟨v, w', h1, h2, h3⟩ := copy_ok hω hH hE ho h
      exact ⟨v, w', s, h1, Sg.le.refl s, h2, h3⟩
    · cases h
  · rename_i t ho
    split at h
    · rename_i z hz
      cases h
      obtain ⟨i, zv, hi, hzv, hzr⟩ := zeroA_ok (s := s) hω hz
      refine ⟨_, w.alloc (.cells zv.cells.toList.toArray t), _, .inl ?_, hH.le_new _, hH.alloc 0 hzr, Rel.newPtr hH _ 0⟩
      have hzero : (zeroValue t).run P w = .ok zv w := zero_of (by simp [W.Zero, hi, hzv])
      simp [execOp, ho, go_sem, Instr.alloc, hzero, newVar, newRow]
    · cases h
  · rename_i t x ho
    split at h
    · rename_i b hx
      cases h
      have hr := (opd_ok hx hE).cells hω
      refine ⟨_, w.alloc (.cells (ev E x).cells.toList.toArray t), _, .inl ?_, hH.le_new _, hH.alloc 0 hr, Rel.newPtr hH _ 0⟩
      simp [execOp, ho, go_sem, Instr.box, newVar, newRow]
    · cases h
  · rename_i t x y ho
    split at h
    · rename_i a' b hx hy
      split at h
      · rename_i st1 hs
        cases h
        obtain ⟨w', h1, h2⟩ := store_ok hω hH ho (opd_ok hx hE) (opd_ok hy hE) hs
        exact ⟨_, w', s, h1, Sg.le.refl s, h2, Rel.mkv _⟩
      · cases h
    · cases h
  · rename_i xs ts ho
    split at h
    · rename_i x y t u hxs hts
      split at h
      · rename_i a' b' hx hy
        rw [toList2 hxs, toList2 hts] at ho
        cases hc : Nat.beq t u with
        | false => rw [hc] at h; exact appendZ_ok hω hH ho (opd_ok hx hE) (opd_ok hy hE) h
        | true =>
          rw [hc] at h
          have := beq_t hc
          subst this
          exact append_ok hω hH ho (opd_ok hx hE) (opd_ok hy hE) h
      · cases h
    · cases h
  · rename_i xs ts ho
    split at h
    · rename_i x t hxs hts
      split at h
      · rename_i l k n d ex e hx ht
        split at h
        · rename_i ob sz z hl hsz hz
          cases hc : (Nat.beq z.length sz && Nat.ble (k + n * sz) ob.cs.length && z.all oneCellA && Nat.ble 1 n && Nat.ble 1 sz) with
          | false => rw [hc] at h; cases h
          | true =>
            rw [hc] at h
            cases h
            simp only [Bool.and_eq_true] at hc
            obtain ⟨⟨⟨⟨c1, c2⟩, c3⟩, c4⟩, c5⟩ := hc
            rw [toList1 hxs, toList1 hts] at ho
            obtain ⟨w', h1, h2⟩ := clear_ok hω hH ho (opd_ok hx hE) ht hl hsz hz (beq_t c1) (ble_t c2) c3 (ble_t c4) (ble_t c5)
            exact ⟨_, w', s, h1, Sg.le.refl s, h2, Rel.mkv _⟩
        · cases h
      · cases h
    · cases h
  · cases h
theorem callable_of {f : FuncId} (h : callableB P f = true) : Callable P f := by
  unfold callableB at h
  split at h
  · rename_i fn hf
    simp only [Bool.and_eq_true, Bool.not_eq_true'] at h
    refine ⟨fn, hf, h.1, ?_⟩
    cases hb : fn.body with
    | none => rw [hb] at h; simp at h
    | some c => rfl
  · cases h
theorem call_ok (hE : EnvOK ω s A E) {f : FuncId} {l : List AV} (h : evCallSp P A o.op = some (f, l)) : ∃ vs, OpC P o E w f vs.toArray ∧ RelL ω s l vs := by
  unfold evCallSp at h
  split at h
  · rename_i g xs ts ho
    have done : ∀ (f : FuncId) (cap : List Value) , ev E g = .func (.func f) #[] cap.toArray → callableB P f = true → OpC P o E w f (xs.toList.map (ev E) ++ cap).toArray := by
      intro f cap hg hc
      obtain ⟨fn, hfn, hname, hb⟩ := callable_of hc
      have hn' : ¬ fn.name = "runtime.NumGoroutine" := by simpa using hname
      have hb' : ¬ fn.body = none := by intro e; rw [e] at hb; cases hb
      have hargs : xs.map (ev E) ++ cap.toArray = (xs.toList.map (ev E) ++ cap).toArray := by apply Array.ext'; simp
      rw [← hargs]
      simp [OpC, execOp, ho, go_sem, hg, callFunc, hfn, hn', hb']
    split at h
    · rename_i f' fs cs l' hg hl
      cases hc : (Nat.beq fs.size 0 && callableB P f') with
      | false => rw [hc] at h; cases h
      | true =>
        rw [hc] at h
        cases h
        simp only [Bool.and_eq_true] at hc
        have hfs : fs = #[] := Array.eq_empty_of_size_eq_zero (beq_t hc.1)
        subst hfs
        have hgv := (opd_ok hg hE).v_of
        exact ⟨_, done f cs.toList (by simpa using hgv) hc.2, (opds_ok hl hE).append (RelL.vs _)⟩
    · rename_i f' cs l' hg hl
      cases hc : callableB P f' with
      | false => rw [hc] at h; cases h
      | true =>
        rw [hc] at h
        cases h
        have hr := opd_ok hg hE
        simp only [Rel] at hr
        obtain ⟨vs, hr, he⟩ := hr
        exact ⟨_, done f vs he hc, (opds_ok hl hE).append hr⟩
    · cases h
  · cases h

/-! ### Regions -/
/-- of calls -/
def CallOK (ω : Nat → Value) (w0 : World) (P : Program) (cf : CallF) : Prop := ∀ f l st a st', cf f l st = some (a, st') → ∀ s w vs, Hold ω s w0 st w → RelL ω s l vs →
  Fnc P f vs.toArray w fun v w' => ∃ s', s.le s' ∧ Hold ω s' w0 st' w' ∧ Rel ω s' a v
theorem guard_run {ops : Array Oper} (hE : EnvOK ω s A E) (h : guardA A ops o = some .run) : Sure ops o E := by
  unfold guardA at h
  split at h
  · rename_i hg; exact Sure.none hg
  · rename_i j want hg
    split at h
    · rename_i q hq
      split at h
      · rename_i d hd
        split at h
        · rename_i b hb
          have hv : E d = .bool b := (hE d _ hb).v_of
          cases hw : (b == want) with
          | false => rw [hw] at h; cases h
          | true =>
            have : b = want := by simpa using hw
            subst this
            exact Sure.yes hg (by simp [hq, hd]) hv
        · cases h
        · cases h
      · cases h
    · cases h
theorem guard_skip {ops : Array Oper} (hE : EnvOK ω s A E) (h : guardA A ops o = some .skip) : Shut ops o E := by
  unfold guardA at h
  split at h
  · cases h
  · rename_i j want hg
    split at h
    · rename_i q hq
      split at h
      · rename_i d hd
        split at h
        · rename_i b hb
          have hv : E d = .bool b := (hE d _ hb).v_of
          cases hw : (b == want) with
          | true => rw [hw] at h; cases h
          | false => exact Shut.no hg (by simp [hq, hd]) hv hw
        · rename_i xs hb
          have hv : E d = .tuple xs := (hE d _ hb).v_of
          intro tmps he
          subst he
          simp only [Array.getD_eq_getD_getElem?] at hv
          simp only [Region.wanted, hg, yielded, hq, hd, Option.bind_some]
          cases ht : tmps[d]? with
          | none => rfl
          | some v => rw [ht] at hv; simp at hv; rw [hv]; rfl
        · cases h
      · cases h
    · cases h
theorem rnd_ok (hE : EnvOK ω s A E) {l : Nat} {as' : List AV} (h : evRndSp A o.op = some (l, as')) : ∃ b c vs, s l = some (b, c) ∧ RelL ω s as' vs ∧ ∀ P w n f tmps asg body, (Instr.yield b vs.toArray).run P w = .ok (.round n f tmps asg body) w → (execOp (ev E) o).run P w = .ok (.round n f tmps asg body) w := by
  unfold evRndSp at h
  split at h
  · rename_i g xs ts ho
    split at h
    · rename_i l' as2 hg hl
      cases h
      have hr := opd_ok hg hE
      simp only [Rel] at hr
      obtain ⟨b, c, hb, he⟩ := hr
      refine ⟨b, c, _, hb, opds_ok hl hE, fun P w n f tmps asg body hy => ?_⟩
      have hargs : xs.map (ev E) = (xs.toList.map (ev E)).toArray := by apply Array.ext'; simp
      rw [← hargs] at hy
      simp [execOp, ho, go_sem, he, hy]
    · cases h
  · cases h
/-- of rounds -/
def RoundOK (ω : Nat → Value) (w0 : World) (P : Program) (rf : RndF) (ro : Option Nat) : Prop := ∀ l as' st a st', rf l as' st = some (a, st') → ∀ s w vs b c, Hold ω s w0 st w → RelL ω s as' vs → s l = some (b, c) →
  ∃ r : Loop, w.heap[b]? = some (.loop r) ∧ vs.toArray.size = r.params.size ∧ RoundIn (Fr ro) 0 P b r.fn ((r.params.zip vs.toArray).foldl (fun tmps (t, a) => tmps.setIfInBounds t a) r.tmps) r.assign r.body w fun e w' => ∃ v s', e = .returned v ∧ s.le s' ∧ Hold ω s' w0 st' w' ∧ Rel ω s' a v
theorem WL.r {n : Fsz} {ro : Option Nat} {Q : K} {ops : Array Oper} {rest : List Oper} {l : Nat} {f : FuncId} {tmps : Array Value} {asg body : Code} (hs : Sure ops o E) (hd : dstOk n o.dst = true) (h : (execOp (ev E) o).run P w = .ok (.round l f tmps asg body) w)
    (k : RoundIn (Fr ro) 0 P l f tmps asg body w fun e w' => ∃ v, e = .returned v ∧ WLr ro P n ops Q rest (updO E o.dst v) w') : WLr ro P n ops Q (o :: rest) E w := by
  intro a ha he
  unfold wpListIn
  rw [if_pos (hs a.tmps he)]
  refine ⟨fun _ _ => trivial, ?_⟩
  rw [eval_envOf, he, semAt_of h (by simp)]
  refine ⟨fun _ => Nat.le_refl 1, RoundIn.mono k ?_⟩
  rintro e w' ⟨v, rfl, hk⟩
  exact hk (a.put o.dst v) (ha.put _ _) (by rw [envOf_put ha _ hd, he])
theorem dst_of {N : Nat} {D : List Deferred} {d : Option Nat} (h : dstB N d = true) : dstOk ⟨N, D⟩ d = true := by cases d <;> exact h
theorem list_app (hω : OneW ω) {cf : CallF} (hc : CallOK ω w0 P cf) {rf : RndF} {ro : Option Nat} (hrf : RoundOK ω w0 P rf ro) {N : Nat} {D : List Deferred} {ops : Array Oper} {Q : K} : ∀ (l : List Oper) (A : AE) (st : Stt) (A' : AE) (st' : Stt), evList P cf rf N ops l A st = some (A', st') → ∀ s E w, Hold ω s w0 st w → EnvOK ω s A E → ∀ l2,
    (∀ s' E' w', s.le s' → Hold ω s' w0 st' w' → EnvOK ω s' A' E' → WLr ro P ⟨N, D⟩ ops Q l2 E' w') → WLr ro P ⟨N, D⟩ ops Q (l ++ l2) E w := by
  intro l
  induction l with
  | nil =>
    intro A st A' st' h s E w hH hE l2 k
    simp only [evList, Option.some.injEq, Prod.mk.injEq] at h
    obtain ⟨rfl, rfl⟩ := h
    exact k s E w (Sg.le.refl s) hH hE
  | cons o r ih =>
    intro A st A' st' h s E w hH hE l2 k
    simp only [evList] at h
    cases hd' : dstB N o.dst with
    | false => rw [hd'] at h; cases h
    | true =>
      rw [hd'] at h
      simp only [cond_true] at h
      have hd : dstOk ⟨N, D⟩ o.dst = true := dst_of hd'
      split at h
      · rename_i a st1 hs
        unfold evStep at hs
        split at hs
        · rename_i hg
          cases hs
          exact WL.s (guard_skip hE hg) hd (ih _ _ _ _ h s _ w hH (hE.put (Rel.mkv _)) l2 k)
        · rename_i hg
          have hsure := guard_run (ops := ops) hE hg
          split at hs
          · rename_i a' hop
            cases hs
            have : ∃ v, OpV P o E w v ∧ Rel ω s a v := by
              unfold evOp at hop
              split at hop
              · rename_i a1 h1; cases hop; exact rd_ok hω hH hE h1
              · split at hop
                · cases hop
                · split at hop
                  · cases hop
                  · split at hop
                    · cases hop
                    · split at hop
                      · rename_i a1 h1; cases hop; exact pure_ok hE h1
                      · cases hop
            obtain ⟨v, hv, hr⟩ := this
            exact WL.v hsure hd hv (ih _ _ _ _ h s _ w hH (hE.put hr) l2 k)
          · rename_i a' st2 hop
            cases hs
            have : evWrSp P st A o.op = some (a, st1) := by
              unfold evOp at hop
              split at hop
              · cases hop
              · split at hop
                · rename_i h1; cases hop; exact h1
                · split at hop
                  · cases hop
                  · split at hop
                    · cases hop
                    · split at hop <;> cases hop
            obtain ⟨v, w', s', hx, hle, hH', hr⟩ := wr_ok hω hH hE this
            exact WL.x hsure hd hx (ih _ _ _ _ h s' _ w' hH' ((hE.mono hle).put hr) l2 fun s2 E2 w2 q1 q2 q3 => k s2 E2 w2 (hle.trans q1) q2 q3)
          · rename_i f l' hop
            have : evCallSp P A o.op = some (f, l') := by
              unfold evOp at hop
              split at hop
              · cases hop
              · split at hop
                · cases hop
                · split at hop
                  · rename_i h1; cases hop; exact h1
                  · split at hop
                    · cases hop
                    · split at hop <;> cases hop
            obtain ⟨vs, hx, hr⟩ := call_ok (w := w) hE this
            refine WL.c hsure hd hx (Fnc.mono (hc f l' st a st1 hs s w vs hH hr) ?_)
            rintro v w' ⟨s', hle, hH', hrel⟩
            exact ih _ _ _ _ h s' _ w' hH' ((hE.mono hle).put hrel) l2 fun s2 E2 w2 q1 q2 q3 => k s2 E2 w2 (hle.trans q1) q2 q3
          · rename_i l' as' hop
            have : evRndSp A o.op = some (l', as') := by
              unfold evOp at hop
              split at hop
              · cases hop
              · split at hop
                · cases hop
                · split at hop
                  · cases hop
                  · split at hop
                    · rename_i h1; cases hop; exact h1
                    · split at hop <;> cases hop
            obtain ⟨b, c, vs, hb, hr, hx⟩ := rnd_ok hE this
            obtain ⟨r, hl, hsz, hrd⟩ := hrf l' as' st a st1 hs s w vs b c hH hr hb
            refine WL.r hsure hd (hx P w _ _ _ _ _ (run_yield hl hsz)) (RoundIn.mono hrd ?_)
            rintro e w' ⟨v, s', rfl, hle, hH', hrel⟩
            exact ⟨v, rfl, ih _ _ _ _ h s' _ w' hH' ((hE.mono hle).put hrel) l2 fun s2 E2 w2 q1 q2 q3 => k s2 E2 w2 (hle.trans q1) q2 q3⟩
          · cases hs
        · cases hs
      · cases h
theorem list_ok (hω : OneW ω) {cf : CallF} (hc : CallOK ω w0 P cf) {rf : RndF} {ro : Option Nat} (hrf : RoundOK ω w0 P rf ro) {N : Nat} {D : List Deferred} {ops : Array Oper} {Q : K} (l : List Oper) (A : AE) (st : Stt) (A' : AE) (st' : Stt) (h : evList P cf rf N ops l A st = some (A', st')) (s : Sg) (E : Env) (w : World) (hH : Hold ω s w0 st w) (hE : EnvOK ω s A E)
    (k : ∀ s' E' w', s.le s' → Hold ω s' w0 st' w' → EnvOK ω s' A' E' → Q.norm E' w') : WLr ro P ⟨N, D⟩ ops Q l E w := by
  have := list_app (Q := Q) (D := D) hω hc hrf l A st A' st' h s E w hH hE [] (fun s' E' w' h1 h2 h3 => WL.nil (k s' E' w' h1 h2 h3))
  rwa [List.append_nil] at this
end
end Go.Proofs.Ytkcnljgennehaaa.Ev
