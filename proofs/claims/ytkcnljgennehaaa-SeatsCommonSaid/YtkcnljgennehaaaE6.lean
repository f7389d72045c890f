/- The evaluator is right: operations that make or write memory. Program-agnostic. -/
import Derived.Test.YtkcnljgennehaaaE5
namespace Go.Proofs.Ytkcnljgennehaaa.Ev
open Go.RowKit Go.Proofs.Ytkcnljgennehaaa.W

def repV (z : List Value) : Nat → List Value
  | 0 => []
  | n + 1 => z ++ repV z n
theorem repV_len (z : List Value) (n : Nat) : (repV z n).length = n * z.length := by
  induction n with
  | zero => simp [repV]
  | succ n ih => rw [repV, List.length_append, ih, Nat.add_mul]; omega
theorem repV_get (z : List Value) : ∀ (n i : Nat), i < n * z.length → (repV z n)[i]? = z[i % z.length]?
  | 0, i, h => by simp at h
  | n + 1, i, h => by
    rw [repV]
    rcases Nat.lt_or_ge i z.length with h1 | h1
    · rw [List.getElem?_append_left h1, Nat.mod_eq_of_lt h1]
    · rw [List.getElem?_append_right h1, repV_get z n _ (by rw [Nat.add_mul] at h; omega), ← Nat.mod_eq_sub_mod h1]
theorem range_rep (z : Array Value) (n m : Nat) (hm : z.size = m) (h0 : 0 < m) : ((Array.range (n * m)).map (z[· % z.size]!)) = (repV z.toList n).toArray := by
  have hz : z.toList.length = m := by rw [Array.length_toList]; exact hm
  apply Array.ext
  · simp [repV_len, hm]
  · intro i h1 h2
    have hi : i < n * z.toList.length := by rw [hz]; simpa using h1
    have := repV_get z.toList n i hi
    rw [hz] at this
    have hlt : i % m < z.size := by rw [hm]; exact Nat.mod_lt _ h0
    simp only [Array.getElem_map, Array.getElem_range, hm]
    rw [getElem!_pos z (i % m) hlt]
    have h3 : (repV z.toList n)[i]? = some ((repV z.toList n)[i]'(by rw [repV_len]; exact hi)) := List.getElem?_eq_getElem _
    rw [h3] at this
    have h4 : z.toList[i % m]? = some z[i % m] := by simp [hlt]
    rw [h4] at this
    simpa using this.symm
theorem splice_len {cs us : List Value} {k : Nat} (h : k + us.length ≤ cs.length) : (W.splice cs k us).length = cs.length := by
  simp [W.splice]; omega
theorem splice_app {cs us r : List Value} {k : Nat} (h : k + us.length ≤ cs.length) : W.splice (cs ++ r) k us = W.splice cs k us ++ r := by
  unfold W.splice
  rw [List.take_append_of_le_length (by omega), List.drop_append_of_le_length (by omega)]
  simp
section
variable {ω : Nat → Value} {s : Sg} {w0 w : World} {st : Stt} {A : AE} {E : Env} {P : Program} {o : Oper}
theorem repZ_ok {z : List AV} {zs : List Value} (h : RelL ω s z zs) (n : Nat) : RelL ω s (repZ z n) (repV zs n) := by
  induction n with
  | zero => exact RelL.nil
  | succ n ih => exact h.append ih
theorem zeroA_ok (hω : OneW ω) {t : TypeId} {z : List AV} (h : zeroA P t = some z) : ∃ i v, P.info? t = some i ∧ i.zero = some v ∧ RelL ω s z v.cells.toList := by
  unfold zeroA at h
  split at h
  · rename_i i hi
    split at h
    · rename_i v hv
      cases h
      exact ⟨i, v, hi, hv, Rel.cells hω (Rel.mkv v)⟩
    · cases h
  · cases h
theorem ObjOK.whole {b : Nat} {c : Nat} {o : AO} {vs : List Value} (hg : w0.heap.size ≤ b) (h : w.heap[b]? = some (.cells vs.toArray o.et (0, 0))) (hr : RelL ω s o.cs vs) (hrow : o.row = false) : ObjOK ω s w0 w b c (.c o) :=
  ⟨hg, vs.toArray, vs, h, hr, by simp, fun _ => rfl, fun e => by rw [hrow] at e; cases e⟩
theorem Hold.ge (h : Hold ω s w0 st w) : w0.heap.size ≤ w.heap.size := h.ext.size
theorem Hold.alloc (h : Hold ω s w0 st w) {t : TypeId} {cs : List AV} {vs : List Value} (sz : Nat) (hr : RelL ω s cs vs) : Hold ω (s.ins st.nx (w.heap.size, 0)) w0 (newO st ⟨t, cs, sz, false, none⟩) (w.alloc (.cells vs.toArray t)) :=
  h.new (Ext.alloc w _) (ObjOK.whole h.ge (heap_alloc_new w _) hr rfl)
theorem Rel.newPtr (h : Hold ω s w0 st w) (x : Nat × Nat) (k : Nat) : Rel ω (s.ins st.nx x) (.ptr st.nx k) (.pointer (some ⟨x.1, k, none⟩)) := by
  simp only [Rel]; exact ⟨x.1, x.2, Sg.ins_same, rfl⟩
theorem Hold.le_new (h : Hold ω s w0 st w) (x : Nat × Nat) : s.le (s.ins st.nx x) := Sg.le_ins (h.dom _ (Nat.le_refl _))
theorem Hold.del (h : Hold ω s w0 st w) (l : Nat) : Hold ω s w0 (delO st l) w := by
  have key : ∀ k o1, (delO st l).h.get k = some o1 → k ≠ l ∧ st.h.get k = some o1 := by
    intro k o1 hk
    rcases Tr.get_set _ _ _ _ _ _ hk with ⟨rfl, e⟩ | ⟨hne, e⟩
    · cases e
    · exact ⟨hne, e⟩
  exact ⟨h.ext, h.dom, fun k o1 hk => h.obj k o1 (key k o1 hk).2, fun k k' o1 o2 b c c' hk hk' => h.inj k k' o1 o2 b c c' (key k o1 hk).2 (key k' o2 hk').2⟩
/-- a block turned, and goes by a new name -/
theorem Hold.rename (h : Hold ω s w0 st w) {l b c : Nat} {o o' : AX} {w' : World} (hl : st.h.get l = some o) (hb : s l = some (b, c)) (hx : Ext [b] w w') (ho : ObjOK ω s w0 w' b c o') :
    Hold ω (s.ins st.nx (b, c)) w0 (newX (delO st l) o') w' := by
  obtain ⟨b', c', h1, h2⟩ := h.obj l o hl
  rw [hb] at h1; cases h1
  have hle : s.le (s.ins st.nx (b, c)) := h.le_new _
  have key : ∀ k o1, (newX (delO st l) o').h.get k = some o1 → (k = st.nx ∧ o' = o1) ∨ (k ≠ st.nx ∧ k ≠ l ∧ st.h.get k = some o1) := by
    intro k o1 hk
    rcases Tr.get_set _ _ _ _ _ _ hk with ⟨e1, e⟩ | ⟨hne, e⟩
    · cases e; exact .inl ⟨e1, rfl⟩
    · have e' : (Tr.set 24 st.h l none).get k = some o1 := e
      rcases Tr.get_set _ _ _ _ _ _ e' with ⟨_, e2⟩ | ⟨hne', e2⟩
      · cases e2
      · exact .inr ⟨hne, hne', e2⟩
  have far : ∀ k o1 b1 c1, k ≠ l → st.h.get k = some o1 → s k = some (b1, c1) → b1 ≠ b := fun k o1 b1 c1 hne e hs eb => by
    subst eb; exact hne (h.inj k l o1 o b1 c1 c e hl hs hb)
  refine ⟨h.ext.new hx (by simpa using h2.ge), ?_, ?_, ?_⟩
  · intro k hk
    have hk' : st.nx + 1 ≤ k := hk
    simp only [Sg.ins]
    rw [if_neg (by omega)]
    exact h.dom k (by omega)
  · intro k o1 hk
    rcases key k o1 hk with ⟨rfl, rfl⟩ | ⟨hne, hne', e⟩
    · exact ⟨b, c, Sg.ins_same, ho.step hle rfl⟩
    · obtain ⟨b1, c1, h3, h4⟩ := h.obj k o1 e
      exact ⟨b1, c1, hle _ _ h3, h4.step hle (hx.block b1 h4.lt (by simpa using far k o1 b1 c1 hne' e h3))⟩
  · intro k k' o1 o2 b1 c1 c2 hk hk' hs hs'
    rcases key k o1 hk with ⟨rfl, rfl⟩ | ⟨hne, hnl, e⟩
    · rcases key k' o2 hk' with ⟨rfl, rfl⟩ | ⟨hne', hnl', e'⟩
      · rfl
      · simp only [Sg.ins_same, Option.some.injEq, Prod.mk.injEq] at hs
        simp only [Sg.ins, if_neg hne'] at hs'
        exact absurd hs.1.symm (far k' o2 b1 c2 hnl' e' hs')
    · simp only [Sg.ins, if_neg hne] at hs
      rcases key k' o2 hk' with ⟨rfl, rfl⟩ | ⟨hne', hnl', e'⟩
      · simp only [Sg.ins_same, Option.some.injEq, Prod.mk.injEq] at hs'
        exact absurd hs'.1.symm (far k o1 b1 c1 hnl e hs)
      · simp only [Sg.ins, if_neg hne'] at hs'
        exact h.inj k k' o1 o2 b1 c1 c2 e e' hs hs'
/-- cells of a block written anew -/
theorem Hold.splice (h : Hold ω s w0 st w) {l : Nat} {b : AO} {ys : List AV} {us : List Value} {k : Nat} (hl : st.h.get l = some (.c b)) (hr : RelL ω s ys us) (hk : k + us.length ≤ b.cs.length) (h1 : ∀ u ∈ us, u.oneCell' = true) {bk c : Nat} (hs : s l = some (bk, c)) :
    ∃ w', (storeCells ⟨bk, k, none⟩ us 0).run P w = .ok () w' ∧ Hold ω s w0 (setO st l { b with cs := spliceA b.cs k ys }) w' := by
  obtain ⟨bk', c', e1, h2⟩ := h.obj l (.c b) hl
  rw [hs] at e1; cases e1
  have h2' := h2
  obtain ⟨hg, cur, vs, h3, h4, h5, h6, h7⟩ := h2
  rw [h4.len] at hk
  have hle : vs.length ≤ cur.toList.length := by
    have := congrArg List.length h5
    rw [List.length_take] at this; omega
  have hsz : cur.size = cur.toList.length := by simp
  have hst := run_storeCells_at P bk k b.et us 0 cur w h3 (by omega) h1
  simp only [Nat.add_zero] at hst
  have hcur : cur.toList = vs ++ cur.toList.drop vs.length := by
    conv => lhs; rw [← List.take_append_drop vs.length cur.toList, h5]
  have hsp : cur.toList.take k ++ us ++ cur.toList.drop (k + us.length) = W.splice vs k us ++ cur.toList.drop vs.length := by
    have := splice_app (cs := vs) (us := us) (r := cur.toList.drop vs.length) (k := k) (by omega)
    rw [← hcur] at this
    exact this
  refine ⟨_, hst, h.turn hl hs ⟨rfl, rfl, rfl, by simp, fun j _ hj => setRow_other w bk j _ (by simpa using hj)⟩ ⟨hg, _, W.splice vs k us, setRow_heap w bk cur _ b.et _ h3, h4.splice hr k, ?_, ?_, ?_⟩⟩
  · rw [hsp]; simp [List.take_left]
  · intro hrow
    have := h6 hrow
    rw [hsp]
    have e : cur.toList.drop vs.length = [] := by rw [this]; simp
    rw [e]; simp
  · intro hrow
    obtain ⟨n, a1, a2, a3, a4, a5, a6⟩ := h7 hrow
    refine ⟨n, by rw [splice_len (by omega)]; exact a1, a2, a3, ?_, a5, ?_⟩
    · rw [hsp]
      simp only [List.size_toArray, List.length_append, splice_len (show k + us.length ≤ vs.length by omega), List.length_drop]
      omega
    · intro u hu
      rw [List.toList_toArray] at hu
      rcases List.mem_append.1 hu with hu | hu
      · rcases List.mem_append.1 hu with hu | hu
        · exact a6 u (List.mem_of_mem_take hu)
        · exact h1 u hu
      · exact a6 u (List.mem_of_mem_drop hu)
theorem X.run {v : Value} {w' : World} {x y : Operand} {t : TypeId} (ho : o.op = .call ⟨.builtin .append, #[x, y], #[t, t]⟩) {a b : Value} (hx : ev E x = a) (hy : ev E y = b) (h : (Builtin.append_ #[t, t] o.type #[a, b]).run P w = .ok v w') : OpX P o E w v w' := by
  left
  simp only [execOp, ho, resolve]
  have e : #[x, y].map (ev E) = #[a, b] := by simp [hx, hy]
  rw [e]
  exact run_v h
theorem repV_mem {z : List Value} {u : Value} : ∀ {n : Nat}, u ∈ repV z n → u ∈ z
  | 0, h => by simp [repV] at h
  | n + 1, h => by
    rw [repV] at h
    rcases List.mem_append.1 h with h | h
    · exact h
    · exact repV_mem h
theorem zeroCells_mem {z : Array Value} {u : Value} {n : Nat} (h : u ∈ (Builtin.zeroCells z n).toList) : u ∈ z.toList := by
  rcases Nat.eq_zero_or_pos z.size with h0 | h0
  · unfold Builtin.zeroCells at h; rw [h0] at h; simp at h
  · have : Builtin.zeroCells z n = (repV z.toList n).toArray := range_rep z n z.size rfl h0
    rw [this] at h; exact repV_mem h
/-- the row that an append makes anew -/
theorem grown_ok (hH : Hold ω s w0 st w) {e : TypeId} {z : Value} {sz m cap : Nat} {cs : List AV} {us : List Value} (hr : RelL ω s cs us) (hl : us.length = m * sz) (hz : z.cells.size = sz) (h1 : m ≤ cap) (h2 : cap ≤ maxLen) (o1 : ∀ u ∈ us, u.oneCell' = true) (o2 : ∀ u ∈ z.cells.toList, u.oneCell' = true) {cells : Array Value} (hc : cells = us.toArray ++ Builtin.zeroCells z.cells (cap - m)) :
    Hold ω (s.ins st.nx (w.heap.size, cap)) w0 (newO st ⟨e, cs, sz, true, none⟩) (w.drew.alloc (.cells cells e)) := by
  have := (hH.drew (w.drawn + 1)).new (o := .c ⟨e, cs, sz, true, none⟩) (w' := w.drew.alloc (.cells cells e)) (c := cap) (Ext.alloc _ _) ⟨hH.ge, cells, us, heap_alloc_new w.drew _, hr, by subst hc; simp [List.take_left], (fun h => by cases h), fun _ => ⟨m, hl, h1, h2, by
    subst hc
    simp only [Array.size_append, List.size_toArray, size_zeroCells, hz, hl]
    rw [← Nat.add_mul]; congr 1; omega, (fun h e => by cases e), by
    subst hc
    intro u hu
    rw [Array.toList_append] at hu
    rcases List.mem_append.1 hu with hu | hu
    · exact o1 u (by simpa using hu)
    · exact o2 u (zeroCells_mem hu)⟩⟩
  exact this
theorem nil_of (w : World) {sz : Nat} {y : AV} {v : Value} (h : isNilSl y = true) (hr : Rel ω s y v) : (Builtin.lenOf v).run P w = .ok 0 w ∧ (Builtin.firstCells sz 0 v).run P w = .ok #[] w := by
  unfold isNilSl at h
  split at h
  · have := hr.v_of; subst this; exact ⟨rfl, rfl⟩
  · simp only [Rel] at hr
    obtain ⟨b, o, c, rfl⟩ := hr
    refine ⟨rfl, ?_⟩
    simp [Builtin.firstCells, loadCells, loadCellsFrom]
  · cases h
theorem append_ok (hω : OneW ω) (hH : Hold ω s w0 st w) {t : TypeId} {x y : Operand} {a b : AV} {u : AV} {st' : Stt} (ho : o.op = .call ⟨.builtin .append, #[x, y], #[t, t]⟩) (hx : Rel ω s a (ev E x)) (hy : Rel ω s b (ev E y)) (h : evAppend P st t a b = some (u, st')) :
    ∃ v w' s', OpX P o E w v w' ∧ s.le s' ∧ Hold ω s' w0 st' w' ∧ Rel ω s' u v := by
  unfold evAppend at h
  split at h
  case h_2 => cases h
  rename_i e ht
  split at h
  case h_2 => cases h
  rename_i i z hi hz
  obtain ⟨i', zv, hi', hzv, hzr⟩ := zeroA_ok (s := s) hω hz
  rw [hi] at hi'; cases hi'
  cases hc0 : (Nat.ble 1 i.size && Nat.beq z.length i.size && z.all oneCellA) with
  | false => rw [hc0] at h; cases h
  | true =>
  rw [hc0] at h
  simp only [cond_true] at h
  simp only [Bool.and_eq_true] at hc0
  have hsz := ble_t hc0.1.1
  have hzl : zv.cells.size = i.size := by rw [← beq_t hc0.1.2, hzr.len, Array.length_toList]
  have hz1 := hzr.one hω hc0.2
  cases hn : isNilSl b with
  | true =>
    rw [hn] at h
    simp only [cond_true] at h
    have hnil := nil_of (P := P) w (sz := i.size) hn hy
    have hyv : ev E y = ev E y := rfl
    split at h
    · cases h
      have hxv := hx.v_of
      refine ⟨_, w, s, X.run ho hxv hyv ?_, Sg.le.refl s, hH, Rel.mkv _⟩
      simp [Builtin.append_, run_underlying ht, sizeOf, typeInfo, hi, hnil.1, hnil.2]
    · rename_i l o' n c ex
      cases hf : fitsA st i.size l c n ex with
      | false => rw [hf] at h; cases h
      | true =>
        rw [hf] at h
        cases h
        obtain ⟨bk, cp, hbk, hxv⟩ := hx.sl_of
        have hle := fits_ok hH hf hbk
        refine ⟨_, w, s, X.run ho hxv hyv ?_, Sg.le.refl s, hH, hxv ▸ hx⟩
        have hle' : n + 0 ≤ (bif ex then c else cp - c) := hle
        simp [Builtin.append_, run_underlying ht, sizeOf, typeInfo, hi, hnil.1, hnil.2, hle, storeCells]
    · cases h
  | false =>
    rw [hn] at h
    simp only [cond_false] at h
    split at h
    case h_2 => cases h
    rename_i ys m xs hys hm hxs
    cases hc1 : (ys.all oneCellA && Nat.beq ys.length (m * i.size)) with
    | false => rw [hc1] at h; cases h
    | true =>
    rw [hc1] at h
    simp only [cond_true] at h
    simp only [Bool.and_eq_true] at hc1
    -- what is appended
    have hyy : ∃ l2 o2 d2 e2, b = .sl l2 o2 m d2 e2 := by
      unfold elemsA at hys
      split at hys
      · simp [isNilSl] at hn
      · simp [isNilSl] at hn
      · simp only [lenA, Option.some.injEq] at hm; subst hm; exact ⟨_, _, _, _, rfl⟩
      · cases hys
    obtain ⟨l2, o2, d2, e2, rfl⟩ := hyy
    obtain ⟨b2, c2, us, cap2, hyv, _, hb2, hyr, hyl, hycell⟩ := elems_ok hH hys hy
    have hone := hyr.one hω hc1.1
    split at h
    · -- to a nil slice
      have hxv := hx.v_of
      cases hc2 : (Nat.ble (m * i.bytes) 1048576 && Nat.ble m 1048576) with
      | false => rw [hc2] at h; cases h
      | true =>
      rw [hc2] at h
      simp only [cond_true] at h
      simp only [Bool.and_eq_true] at hc2
      have hb1 := ble_t hc2.1
      have hb3 := ble_t hc2.2
      cases hm0 : Nat.beq m 0 with
      | true =>
        rw [hm0] at h
        cases h
        have := beq_t hm0
        subst this
        have hu : us = [] := List.eq_nil_of_length_eq_zero (by simpa using hyl)
        refine ⟨_, w, s, X.run ho hxv hyv ?_, Sg.le.refl s, hH, Rel.mkv _⟩
        simp [Builtin.append_, run_underlying ht, sizeOf, typeInfo, hi, Builtin.lenOf, Builtin.firstCells, loadCells, loadCellsFrom]
      | false =>
        rw [hm0] at h
        cases h
        have hm1 := beq_f hm0
        have hr := run_append_nil (P := P) w t o.type e i zv ht hi hzv ⟨b2, o2, none⟩ m cap2 us hyl hycell (by omega) (by omega) (by omega)
        have hcap := grownCap_ge w m 0 e
        have hH' := grown_ok hH (e := e) (z := zv) hyr hyl hzl hcap (grownCap_le_maxLen w m 0 e (by simp only [maxLen]; omega)) hone hz1 rfl
        refine ⟨_, _, _, X.run ho hxv hyv hr, hH.le_new _, hH', ?_⟩
        simp only [Rel]
        exact ⟨_, _, Sg.ins_same, by simp⟩
    · -- to a slice of an exact capacity, without room
      rename_i l o' n c
      cases h1 : Nat.ble (n + m) c with
      | true =>
        rw [h1] at h
        simp only [cond_true] at h
        have h1 := ble_t h1
        split at h
        case h_2 => cases h
        rename_i ob hl
        cases hc3 : Nat.ble (o' + (n + m) * i.size) ob.cs.length with
        | false => rw [hc3] at h; cases h
        | true =>
        rw [hc3] at h
        cases h
        have hc3 := ble_t hc3
        obtain ⟨bk, cp, hbk, hxv⟩ := hx.sl_of
        rw [Nat.add_mul] at hc3
        obtain ⟨w', hst, hH'⟩ := hH.splice (P := P) (k := o' + n * i.size) hl hyr (by omega) hone hbk
        refine ⟨.slice (some ⟨bk, o', none⟩) (n + m) c, w', s, X.run ho hxv hyv ?_, Sg.le.refl s, hH', by simp only [Rel]; exact ⟨bk, cp, hbk, by simp⟩⟩
        have hf := run_firstCells_some (P := P) w i.size m ⟨b2, o2, none⟩ m cap2 us hyl hycell
        have hst' : (storeCells ((⟨bk, o', none⟩ : Addr).add (n * i.size)) us 0).run P w = .ok () w' := by rw [addr_add]; exact hst
        simp [Builtin.append_, run_underlying ht, sizeOf, typeInfo, hi, Builtin.lenOf, h1, hf, hst']
      | false =>
      rw [h1] at h
      simp only [cond_false] at h
      cases hc2 : (!Nat.beq xs.length (n * i.size) || !Nat.ble ((n + m) * i.bytes) 1048576 || !Nat.ble (n + m) 1048576 || !xs.all oneCellA) with
      | true => rw [hc2] at h; cases h
      | false =>
      rw [hc2] at h
      cases h
      simp only [Bool.or_eq_false_iff, Bool.not_eq_false'] at hc2
      obtain ⟨⟨⟨h2, h3⟩, h4⟩, h5⟩ := hc2
      have h3 := ble_t h3; have h4 := ble_t h4
      have h1 : c < n + m := by
        rcases Nat.lt_or_ge c (n + m) with hx1 | hx1
        · exact hx1
        · rw [Nat.ble_eq_true_of_le hx1] at h1; cases h1
      obtain ⟨b1, c1, vs, cap1, hxv, hcap1, hb1, hxr, hxl, hxcell⟩ := elems_ok hH hxs hx
      simp only [cond_true] at hcap1
      subst hcap1
      have hr := run_append_grow (P := P) w t o.type e i zv ht hi hzv ⟨b1, o', none⟩ n cap1 vs hxl hxcell ⟨b2, o2, none⟩ m cap2 us hyl hycell (by omega) (by omega) (growslice_fits (by omega) (by omega))
      have hcap := grownCap_ge w (n + m) cap1 e
      have hH' := grown_ok hH (e := e) (z := zv) (m := n + m) (hxr.append hyr) (by rw [List.length_append, hxl, hyl, Nat.add_mul]) hzl hcap (grownCap_le_maxLen w (n + m) cap1 e (by simp only [maxLen]; omega)) (fun u hu => by
        rcases List.mem_append.1 hu with hu | hu
        · exact hxr.one hω h5 u hu
        · exact hone u hu) hz1 (cells := vs.toArray ++ us.toArray ++ Builtin.zeroCells zv.cells (grownCap w (n + m) cap1 e - (n + m))) (by simp)
      refine ⟨_, _, _, X.run ho hxv hyv hr, hH.le_new _, hH', ?_⟩
      simp only [Rel]
      exact ⟨_, _, Sg.ins_same, by simp⟩
    · -- to a row that grew
      rename_i l n
      split at h
      case h_2 => cases h
      rename_i ob hl
      cases hc2 : (ob.row && Nat.beq ob.et e && Nat.beq ob.cs.length (n * i.size) && Nat.beq ob.sz i.size && Nat.ble ((n + m) * i.bytes) 1048576 && Nat.ble (n + m) 1048576) with
      | false => rw [hc2] at h; cases h
      | true =>
      rw [hc2] at h
      cases h
      simp only [Bool.and_eq_true] at hc2
      obtain ⟨⟨⟨⟨⟨q1, q2⟩, q3⟩, q4⟩, q5⟩, q6⟩ := hc2
      have q2 := beq_t q2; have q3 := beq_t q3; have q4 := beq_t q4; have q5 := ble_t q5; have q6 := ble_t q6
      obtain ⟨b1, c1, vs, cap1, hxv, hcap1, hb1, hxr, hxl, hxcell⟩ := elems_ok hH hxs hx
      simp only [cond_false, Nat.sub_zero] at hcap1
      subst hcap1
      obtain ⟨b1', c1', e1, hob⟩ := hH.obj l (.c ob) hl
      rw [hb1] at e1; cases e1
      obtain ⟨hg, cur, vs', g1, g2, g3, _, g4⟩ := hob
      obtain ⟨n', g5, g6, g7, g8, _, g9⟩ := g4 q1
      rw [q4] at g5 g8
      have hn' : n' = n := by
        have := g2.len; rw [q3, g5] at this
        exact (Nat.eq_of_mul_eq_mul_right hsz this).symm
      subst hn'
      rw [q2] at g1
      -- the old cells, seen either way
      have hvs : vs = vs' := by
        apply List.ext_getElem?
        intro j
        rcases Nat.lt_or_ge j vs.length with hj | hj
        · have hj' : j < vs'.length := by omega
          have e1 := hxcell j _ (List.getElem?_eq_getElem hj)
          have e2 : cur[j]? = some vs'[j] := by
            have : vs'[j]? = some vs'[j] := List.getElem?_eq_getElem hj'
            rw [← this, ← g3, List.getElem?_take, if_pos hj']
            simp
          have e3 : w.cell? ((⟨b1, 0, none⟩ : Addr).add j) = some vs'[j] := by
            rw [addr_add]; simp [World.cell?, g1, e2]
          rw [e1] at e3
          rw [List.getElem?_eq_getElem hj, List.getElem?_eq_getElem hj', e3]
        · rw [List.getElem?_eq_none hj, List.getElem?_eq_none (by omega)]
      subst hvs
      have hvone : ∀ u ∈ vs, u.oneCell' = true := fun u hu => g9 u (by rw [← g3] at hu; exact List.mem_of_mem_take hu)
      by_cases hroom : n' + m ≤ cap1
      · have hfit : n' * i.size + us.length ≤ cur.size := by rw [hyl, g8, ← Nat.add_mul]; exact Nat.mul_le_mul_right _ hroom
        have hr := run_append_room (P := P) w t o.type e i ht hi b1 n' cap1 cur g1 ⟨b2, o2, none⟩ m cap2 us hyl hycell hone hroom hfit
        have htk : cur.toList.take (n' * i.size) = vs := by rw [← g5]; exact g3
        have hH' := hH.rename (o' := .c ⟨e, xs ++ ys, i.size, true, none⟩) hl hb1 (w' := w.setRow b1 (cur.toList.take (n' * i.size) ++ us ++ cur.toList.drop (n' * i.size + us.length)).toArray)
          ⟨rfl, rfl, rfl, by simp, fun j _ hj => setRow_other w b1 j _ (by simpa using hj)⟩
          ⟨hg, _, vs ++ us, setRow_heap w b1 cur _ e _ g1, hxr.append hyr, by rw [htk]; exact List.take_left, (fun h => by cases h), fun _ => ⟨n' + m, by rw [List.length_append, hxl, hyl, Nat.add_mul], hroom, g7, by
            simp only [List.size_toArray, List.length_append, List.length_take, List.length_drop, Array.length_toList]
            omega, (fun h e => by cases e), by
            intro u hu
            rw [List.toList_toArray] at hu
            rcases List.mem_append.1 hu with hu | hu
            · rcases List.mem_append.1 hu with hu | hu
              · exact g9 u (List.mem_of_mem_take hu)
              · exact hone u hu
            · exact g9 u (List.mem_of_mem_drop hu)⟩⟩
        refine ⟨_, _, _, X.run ho hxv hyv hr, hH.le_new _, hH', ?_⟩
        simp only [Rel]
        exact ⟨_, _, Sg.ins_same, by simp⟩
      · have hr := run_append_grow (P := P) w t o.type e i zv ht hi hzv ⟨b1, 0, none⟩ n' cap1 vs hxl hxcell ⟨b2, o2, none⟩ m cap2 us hyl hycell (by omega) (by omega) (growslice_fits (by omega) (by omega))
        have hcap := grownCap_ge w (n' + m) cap1 e
        have hH' := grown_ok (hH.del l) (e := e) (z := zv) (m := n' + m) (hxr.append hyr) (by rw [List.length_append, hxl, hyl, Nat.add_mul]) hzl hcap (grownCap_le_maxLen w (n' + m) cap1 e (by simp only [maxLen]; omega)) (fun u hu => by
          rcases List.mem_append.1 hu with hu | hu
          · exact hvone u hu
          · exact hone u hu) hz1 (cells := vs.toArray ++ us.toArray ++ Builtin.zeroCells zv.cells (grownCap w (n' + m) cap1 e - (n' + m))) (by simp)
        refine ⟨_, _, _, X.run ho hxv hyv hr, hH.le_new _, hH', ?_⟩
        simp only [Rel]
        exact ⟨_, _, Sg.ins_same, by simp⟩
    · cases h
theorem run_append_grow_zeros {t tn ty e : TypeId} {i : TypeInfo} {z : Value} {k kn : IntKind} (ht : P.underlying t = some (.slice e)) (htn : P.underlying tn = some (.int kn)) (hi : P.info? e = some i) (hz : i.zero = some z)
    (b : Addr) (sLen sCap : Nat) (olds : List Value) (hlo : olds.length = sLen * i.size) (holds : ∀ j v, olds[j]? = some v → w.cell? (b.add j) = some v) (n : Nat) (h0 : 0 < n) (hs : 0 < i.size)
    (hg : sCap < sLen + n) (h63 : ((sLen + n : Nat) : Int) ≤ 9223372036854775807) (h48 : n * i.bytes ≤ 281474976710656) (hfit : Builtin.nextslicecap (sLen + n) sCap * i.bytes ≤ 281474976710656) :
    (Builtin.append_ #[t, tn] ty #[.slice (some b) sLen sCap, .int k n]).run P w =
      .ok (.slice (some ⟨w.heap.size, 0, none⟩) (sLen + n) (grownCap w (sLen + n) sCap e)) (w.drew.alloc (.cells (olds.toArray ++ Builtin.zeroCells z.cells n ++ Builtin.zeroCells z.cells (grownCap w (sLen + n) sCap e - (sLen + n))) e)) := by
  have hn : ¬ (sLen + n ≤ sCap) := by omega
  have hw : IntKind.i64.wrap (n : Int) = n := by rw [IntKind.wrap_i64]; omega
  have h63' : ¬ (9223372036854775807 < ((sLen : Int) + (n : Int))) := by omega
  have h48' : ¬ (281474976710656 < Builtin.nextslicecap (sLen + n) sCap * i.bytes) := by omega
  have h48i : ¬ (281474976710656 < (n : Int) * (i.bytes : Int)) := by
    rw [← Int.natCast_mul]
    omega
  have hneg : ¬ ((n : Int) < 0) := by omega
  have hns : ¬ (n * i.size = 0) := Nat.mul_ne_zero (by omega) (by omega)
  have hfo := run_firstCells_some (P := P) w.drew i.size sLen b sLen sCap olds hlo (by simpa using holds)
  simp [Builtin.append_, run_underlying ht, run_underlying htn, sizeOf, typeInfo, zeroValue, hi, hz, asInt, asIntOf, hw, hn, hneg, hns, h63', h48', h48i, Question.forced, hfo, newRow, grownCap]
theorem appendZ_ok (hω : OneW ω) (hH : Hold ω s w0 st w) {t tn : TypeId} {x y : Operand} {a b : AV} {u : AV} {st' : Stt} (ho : o.op = .call ⟨.builtin .append, #[x, y], #[t, tn]⟩) (hx : Rel ω s a (ev E x)) (hy : Rel ω s b (ev E y)) (h : evAppendZ P st t tn a b = some (u, st')) :
    ∃ v w' s', OpX P o E w v w' ∧ s.le s' ∧ Hold ω s' w0 st' w' ∧ Rel ω s' u v := by
  unfold evAppendZ at h
  split at h
  case h_2 => cases h
  rename_i e kn l o' n k ht htn hk
  split at h
  case h_2 => cases h
  rename_i i z ob hi hz hl
  split at h
  case h_2 => cases h
  rename_i xs hh hxs hhi
  obtain ⟨i', zv, hi', hzv, hzr⟩ := zeroA_ok (s := s) hω hz
  rw [hi] at hi'; cases hi'
  cases hc : (Nat.ble 1 i.size && Nat.beq z.length i.size && z.all oneCellA && ob.row && Nat.ble hh (n + k) && Nat.beq xs.length (n * i.size) && Nat.ble ((n + k) * i.bytes) 1048576 && Nat.ble (n + k) 1048576 && Nat.ble 1 k) with
  | false => rw [hc] at h; cases h
  | true =>
  rw [hc] at h
  cases h
  simp only [Bool.and_eq_true] at hc
  obtain ⟨⟨⟨⟨⟨⟨⟨⟨c1, c2⟩, c3⟩, c4⟩, c5⟩, c6⟩, c7⟩, c8⟩, c9⟩ := hc
  have c1 := ble_t c1; have c5 := ble_t c5; have c7 := ble_t c7; have c8 := ble_t c8; have c9 := ble_t c9
  have hzl : zv.cells.size = i.size := by rw [← beq_t c2, hzr.len, Array.length_toList]
  have hz1 := hzr.one hω c3
  obtain ⟨b1, cp1, vs, cap1, hxv, hcap1, hb1, hxr, hxl, hxcell⟩ := elems_ok hH hxs hx
  simp only [cond_false, Nat.sub_zero] at hcap1
  subst hcap1
  obtain ⟨b1', c1', e1, hob⟩ := hH.obj l (.c ob) hl
  rw [hb1] at e1; cases e1
  obtain ⟨hg, cur, vs', g1, g2, g3, _, g4⟩ := hob
  obtain ⟨n', g5, g6, g7, g8, g9, g10⟩ := g4 c4
  have hlt := g9 hh hhi
  obtain ⟨ik, hyv⟩ := natOf_ok hk hy
  have hvone : ∀ u ∈ vs, u.oneCell' = true := by
    intro u hu
    obtain ⟨j, hj⟩ := List.mem_iff_getElem?.1 hu
    have h1 := hxcell j u hj
    rw [addr_add] at h1
    simp only [World.cell?, g1] at h1
    have h2 : cur[o' + j]? = some u := by simpa using h1
    exact g10 u (by have := Array.mem_of_getElem? h2; simpa using this)
  have hbytes : k * i.bytes ≤ (n + k) * i.bytes := Nat.mul_le_mul_right _ (by omega)
  have hr := run_append_grow_zeros (P := P) (w := w) (ty := o.type) (k := ik) ht htn hi hzv ⟨b1, o', none⟩ n cap1 vs hxl hxcell k (by omega) (by omega) (by omega) (by omega) (by omega) (growslice_fits (by omega) (by omega))
  have hcap := grownCap_ge w (n + k) cap1 e
  have hzc : Builtin.zeroCells zv.cells k = (repV zv.cells.toList k).toArray := range_rep zv.cells k zv.cells.size rfl (by omega)
  have hzl' : zv.cells.toList.length = i.size := by rw [Array.length_toList]; exact hzl
  have hH' := grown_ok hH (e := e) (z := zv) (m := n + k) (hxr.append (repZ_ok hzr k)) (by rw [List.length_append, hxl, repV_len, hzl', Nat.add_mul]) hzl hcap (grownCap_le_maxLen w (n + k) cap1 e (by simp only [maxLen]; omega)) (fun u hu => by
    rcases List.mem_append.1 hu with hu | hu
    · exact hvone u hu
    · exact hz1 u (repV_mem hu)) hz1 (cells := vs.toArray ++ Builtin.zeroCells zv.cells k ++ Builtin.zeroCells zv.cells (grownCap w (n + k) cap1 e - (n + k))) (by rw [hzc]; simp)
  have hX : OpX P o E w (.slice (some ⟨w.heap.size, 0, none⟩) (n + k) (grownCap w (n + k) cap1 e)) (w.drew.alloc (.cells (vs.toArray ++ Builtin.zeroCells zv.cells k ++ Builtin.zeroCells zv.cells (grownCap w (n + k) cap1 e - (n + k))) e)) := by
    left
    simp only [execOp, ho, resolve]
    have e2 : #[x, y].map (ev E) = #[.slice (some ⟨b1, o', none⟩) n cap1, .int ik k] := by simp [hxv, hyv]
    rw [e2]
    exact run_v hr
  refine ⟨_, _, _, hX, hH.le_new _, hH', ?_⟩
  simp only [Rel]
  exact ⟨_, _, Sg.ins_same, by simp⟩
end
end Go.Proofs.Ytkcnljgennehaaa.Ev
