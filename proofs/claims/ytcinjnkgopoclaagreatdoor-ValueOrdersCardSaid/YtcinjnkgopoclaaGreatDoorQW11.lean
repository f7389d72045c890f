/- A row of one's own as cells: clear, stores, slices of it. Program-agnostic. -/
import Derived.Test.YtcinjnkgopoclaaGreatDoorQW10
set_option linter.unusedVariables false
set_option linter.unusedSimpArgs false
set_option linter.unusedSectionVars false
namespace Go.Proofs.YtcinjnkgopoclaaGreatDoor.W
open Go.RowKit

theorem lt_of_get {α : Type} {xs : List α} {i : Nat} {x : α} (h : xs[i]? = some x) : i < xs.length := by
  rcases Nat.lt_or_ge i xs.length with h1 | h1
  · exact h1
  · rw [List.getElem?_eq_none h1] at h; cases h
theorem map1 {α β : Type} {f : α → β} {x : α} {a : β} (h : f x = a) : #[x].map f = #[a] := by subst h; simp
theorem map2 {α β : Type} {f : α → β} {x y : α} {a b : β} (h : f x = a) (k : f y = b) : #[x, y].map f = #[a, b] := by subst h; subst k; simp
theorem splice_nil (cs : List Value) (i : Nat) : splice cs i [] = cs := by simp [splice]
section
variable {P : Program} {n : Fsz} {ro : Option Nat} {Q : K} {E : Env} {w : World} {ops : Array Oper} {o : Oper} {rest : List Oper}
theorem WL.clear {t e t' : TypeId} {z : Value} {by' b i m c : Nat} {x : Operand} {cs : List Value} (hs : Sure ops o E) (hd : dstOk n o.dst = true) (ho : o.op = .call ⟨.builtin .clear, #[x], #[t]⟩)
    (ht : P.underlying t = some (.slice e)) (he : Elem P e z 1 by') (hz : z.cells = #[z]) (h1 : z.oneCell' = true) (hx : ev E x = .slice (some ⟨b, i, none⟩) m c) (hb : Box w b t' cs) (hi : i + m ≤ cs.length)
    (k : ∀ w', Ext [b] w w' → Box w' b t' (splice cs i (List.replicate m z)) → WLr ro P n ops Q rest (updO E o.dst (.tuple #[])) w') : WLr ro P n ops Q (o :: rest) E w := by
  obtain ⟨ii, hii, hz0, hz1, hz2⟩ := info_parts he
  have hzero : ∀ w, (zeroValue e).run P w = .ok z w := fun w => zero_of (by simp [Zero, hii, hz0])
  have e : #[x].map (ev E) = #[.slice (some ⟨b, i, none⟩) m c] := by simp [hx]
  have hst := run_storeCells_at P b i t' (List.replicate m z) 0 cs.toArray w hb (by simpa using hi) (by intro u hu; rw [List.eq_of_mem_replicate hu]; exact h1)
  simp only [Nat.add_zero] at hst
  have hzc : (Builtin.zeroCells z.cells m).toList = List.replicate m z := by
    rw [hz]
    simp [Builtin.zeroCells]
    apply List.ext_getElem
    · simp
    · intro i h1 h2
      simp [Nat.mod_one]
  cases m with
  | zero =>
    refine WL.x (u := .tuple #[]) (w' := w) hs hd (.inl ?_) (k _ (Ext.refl _ _) (by rw [List.replicate_zero, splice_nil]; exact hb))
    simp only [execOp, ho, resolve]
    rw [e]
    refine run_v ?_
    simp [Builtin.clear_, underlying, ht]
  | succ m =>
    refine WL.x (u := .tuple #[]) (w' := w.setRow b (splice cs i (List.replicate (m + 1) z)).toArray) hs hd (.inl ?_) (k _ ⟨rfl, rfl, rfl, by simp, fun k _ hk => setRow_other w b k _ (by simpa using hk)⟩ (hb.splice _))
    simp only [execOp, ho, resolve]
    rw [e]
    refine run_v ?_
    have h' : (storeCells ⟨b, i, none⟩ (List.replicate (m + 1) z) 0).run P w = .ok () (w.setRow b (splice cs i (List.replicate (m + 1) z)).toArray) := by rw [hst]; simp [splice]
    simp [Builtin.clear_, underlying, ht, hzero, hzc, h']
end
section
variable {P : Program} {n : Fsz} {ro : Option Nat} {Q : K} {E : Env} {w : World} {ops : Array Oper} {o : Oper} {rest : List Oper}
theorem WL.vex {φ : Value → Prop} (hs : Sure ops o E) (hd : dstOk n o.dst = true) (h : ∃ u, OpV P o E w u ∧ φ u) (k : ∀ u, φ u → WLr ro P n ops Q rest (updO E o.dst u) w) : WLr ro P n ops Q (o :: rest) E w := by
  obtain ⟨u, h1, h2⟩ := h
  exact WL.v hs hd h1 (k u h2)
end
/-- what was new in a's eyes need not be kept -/
theorem Ext.skip {O Y : List Nat} {a b c : World} (h : Ext O a b) (k : Ext Y b c) (hY : ∀ y ∈ Y, a.heap.size ≤ y) : Ext O a c :=
  ⟨k.os.trans h.os, k.tape.trans h.tape, k.output.trans h.output, Nat.le_trans h.size k.size,
    fun i hi hx => (k.block i (Nat.lt_of_lt_of_le hi h.size) (fun hy => by have := hY i hy; omega)).trans (h.block i hi hx)⟩
/-- a row of numbers, and what lies behind it -/
def irow (L : List Int) (T : List Value) : List Value := L.map (Value.int .i64) ++ T
theorem irow_get {L : List Int} {T : List Value} {j : Nat} (h : j < L.length) : (irow L T)[j]? = some (.int .i64 (L.getD j 0)) := by
  rw [irow, List.getElem?_append_left (by simpa using h), List.getElem?_map, List.getD_eq_getElem?_getD, List.getElem?_eq_getElem h]; rfl
theorem irow_set {L : List Int} {T : List Value} {j : Nat} {x : Int} (h : j < L.length) : (irow L T).set j (.int .i64 x) = irow (L.set j x) T := by
  rw [irow, irow, List.set_append_left _ _ (by simpa using h), List.map_set]
theorem irow_len {L : List Int} {T : List Value} : (irow L T).length = L.length + T.length := by simp [irow]
theorem irow_sl {L : List Int} {T : List Value} {X : List Nat} {w : World} {g cap : Nat} {t : TypeId} (hb : Box w g t (irow L T)) (hX : g ∉ X) (hin : ∀ x ∈ L, inK .i64 x) (hc : L.length ≤ cap) (hm : cap ≤ maxLen) : Sl (intR .i64) X w (.slice (some ⟨g, 0, none⟩) L.length cap) L := by
  refine .inr (.inl ⟨g, 0, cap, rfl, hc, hm, fun i x hx => ⟨hX, [.int .i64 x], ⟨rfl, hin x (List.mem_of_getElem? hx)⟩, ?_⟩⟩)
  intro j v hj
  cases j with
  | zero =>
    simp only [List.getElem?_cons_zero, Option.some.injEq] at hj
    subst hj
    have hi := lt_of_get hx
    have := irow_get (T := T) hi
    rw [List.getD_eq_getElem?_getD, hx] at this
    refine hb.cell ?_
    show (irow L T)[0 + i * 1 + 0]? = _
    rw [show 0 + i * 1 + 0 = i from by omega]; exact this
  | succ j => simp at hj
theorem irow_clear {L : List Int} {T : List Value} {i m : Nat} (h : i + m = L.length) : splice (irow L T) i (List.replicate m (.int .i64 0)) = irow (L.take i ++ List.replicate m 0) T := by
  simp only [splice, irow, List.map_append, List.map_take, List.map_replicate, List.length_replicate]
  rw [List.take_append_of_le_length (by simp; omega), List.drop_append, List.drop_of_length_le (by simp; omega), h, List.length_map, Nat.sub_self, List.drop_zero, List.nil_append, List.append_assoc]
/-- a slice of numbers of one's own, as its row -/
theorem Owns.asRow {e B : Nat} {X : List Nat} {w : World} {v : Value} {xs : List Int} (h : Owns (intR .i64) e B X w v xs) :
    (v = .slice none 0 0 ∧ xs = []) ∨ ∃ g cap T, v = .slice (some ⟨g, 0, none⟩) xs.length cap ∧ Box w g e (irow xs T) ∧ xs.length + T.length = cap ∧ cap ≤ maxLen ∧ (∀ x ∈ xs, inK .i64 x) ∧ B ≤ g := by
  obtain ⟨cells, ⟨h0, h1⟩, h2, h3⟩ := h
  have hlen : cells.length = xs.length := by rw [h0]; show xs.length * 1 = _; omega
  have hcells : cells = xs.map (Value.int .i64) := by
    apply List.ext_getElem?
    intro i
    rcases Nat.lt_or_ge i xs.length with hi | hi
    · have := h2 i xs[i] (List.getElem?_eq_getElem hi)
      obtain ⟨h4, _⟩ := this
      have h5 : ((cells.drop (i * 1)).take 1)[0]? = some (.int .i64 xs[i]) := by
        have h4' : (cells.drop (i * 1)).take 1 = [.int .i64 xs[i]] := h4
        rw [h4']; rfl
      rw [List.getElem?_take_of_lt (by omega), List.getElem?_drop] at h5
      rw [List.getElem?_map, List.getElem?_eq_getElem hi]
      rw [show i * 1 + 0 = i from by omega] at h5
      exact h5
    · rw [List.getElem?_eq_none (by omega), List.getElem?_eq_none (by simpa using hi)]
  have hin : ∀ x ∈ xs, inK .i64 x := by
    intro x hx
    obtain ⟨i, hi⟩ := List.mem_iff_getElem?.1 hx
    exact (h2 i x hi).2
  rcases h1 with ⟨h1, h4⟩ | ⟨g, cap, cur, hv, hB, hg, hn, hc, hs, ht⟩
  · exact .inl ⟨h1, List.eq_nil_of_length_eq_zero h4⟩
  · refine .inr ⟨g, cap, cur.toList.drop xs.length, hv, ?_, ?_, hc, hin, hB⟩
    · have e1 : irow xs (cur.toList.drop xs.length) = cur.toList := by
        have : cur.toList.take (xs.length * 1) = cells := ht
        rw [W.irow, ← hcells, ← this, Nat.mul_one, List.take_append_drop]
      show w.heap[g]? = _
      rw [e1]; simpa using hg
    · have : cur.size = cap * 1 := hs
      simp; omega
/-- a slice of numbers whose row nobody else has: new from B on, none of X -/
def KRow (B : Nat) (X : List Nat) (w : World) (v : Value) (L : List Int) : Prop :=
  (v = .slice none 0 0 ∧ L = []) ∨ ∃ g cap T, v = .slice (some ⟨g, 0, none⟩) L.length cap ∧ Box w g 3 (irow L T) ∧ L.length ≤ cap ∧ cap ≤ maxLen ∧ (∀ x ∈ L, inK .i64 x) ∧ B ≤ g ∧ g ∉ X
theorem KRow.of {B : Nat} {X : List Nat} {w : World} {v : Value} {L : List Int} (h : Owns (intR .i64) 3 B X w v L) (hno : ∀ g, v.ownBlock = some g → g ∉ X) : KRow B X w v L := by
  rcases h.asRow with h1 | ⟨g, cap, T, rfl, h1, h2, h3, h4, h5⟩
  · exact .inl h1
  · exact .inr ⟨g, cap, T, rfl, h1, by omega, h3, h4, h5, hno g rfl⟩
theorem KRow.sl {B : Nat} {X : List Nat} {w : World} {v : Value} {L : List Int} (h : KRow B X w v L) : Sl (intR .i64) X w v L := by
  rcases h with h1 | ⟨g, cap, T, rfl, h1, h2, h3, h4, h5, h6⟩
  · exact .inl h1
  · exact irow_sl h1 h6 h4 h2 h3
theorem KRow.ext {B : Nat} {X Y : List Nat} {w w' : World} {v : Value} {L : List Int} (h : KRow B X w v L) (k : Ext Y w w') (hY : ∀ y ∈ Y, y ∈ X) : KRow B X w' v L := by
  rcases h with h1 | ⟨g, cap, T, rfl, h1, h2, h3, h4, h5, h6⟩
  · exact .inl h1
  · exact .inr ⟨g, cap, T, rfl, h1.ext k (fun hm => h6 (hY g hm)), h2, h3, h4, h5, h6⟩
theorem KRow.mono {B : Nat} {X Y : List Nat} {w : World} {v : Value} {L : List Int} (h : KRow B Y w v L) (k : ∀ x ∈ X, x ∈ Y) : KRow B X w v L := by
  rcases h with h1 | ⟨g, cap, T, rfl, h1, h2, h3, h4, h5, h6⟩
  · exact .inl h1
  · exact .inr ⟨g, cap, T, rfl, h1, h2, h3, h4, h5, fun hm => h6 (k g hm)⟩
theorem KRow.low {B B' : Nat} {X : List Nat} {w : World} {v : Value} {L : List Int} (h : KRow B X w v L) (k : B' ≤ B) : KRow B' X w v L := by
  rcases h with h1 | ⟨g, cap, T, rfl, h1, h2, h3, h4, h5, h6⟩
  · exact .inl h1
  · exact .inr ⟨g, cap, T, rfl, h1, h2, h3, h4, Nat.le_trans k h5, h6⟩
theorem KRow.cast {B : Nat} {X : List Nat} {w : World} {v : Value} {L M : List Int} (e : L = M) (h : KRow B X w v L) : KRow B X w v M := e ▸ h
/-- s[:len:len] -/
theorem V.clipRow {P : Program} {o : Oper} {E : Env} {w : World} {B : Nat} {X : List Nat} {t : TypeId} {x y z : Operand} {v : Value} {L : List Int} (ho : o.op = .slice t x none (some y) (some z)) (ht : P.underlying t = some (.slice 3)) (hs : Sized P 3 1) (hx : ev E x = v) (hsl : KRow B X w v L)
    (hy : ev E y = .int .i64 L.length) (hz : ev E z = .int .i64 L.length) : ∃ v', OpV P o E w v' ∧ KRow B X w v' L := by
  rcases hsl with ⟨rfl, rfl⟩ | ⟨g, c, T, rfl, h1, hc, hm, h4, h5, h6⟩
  · refine ⟨.slice none 0 0, ?_, .inl ⟨rfl, rfl⟩⟩
    simp [OpV, execOp, ho, hx, hy, hz, go_sem, Instr.sliceAt, underlying, ht, Instr.slice, Instr.sliceBounds, Instr.sliceBound, asIntOf, size_of hs]
  · refine ⟨.slice (some ⟨g, 0, none⟩) L.length L.length, ?_, .inr ⟨g, L.length, T, rfl, h1, Nat.le_refl _, by omega, h4, h5, h6⟩⟩
    simp [OpV, execOp, ho, hx, hy, hz, go_sem, Instr.sliceAt, underlying, ht, Instr.slice, Instr.sliceBounds, Instr.sliceBound, asIntOf, size_of hs, hc, addr_add]
def rowOf (v : Value) : List Nat := match v.ownBlock with | some g => [g] | none => []
theorem rowOf_no {v : Value} {X : List Nat} (hno : ∀ g, v.ownBlock = some g → g ∉ X) {b : Nat} (hb : b ∈ X) : b ∉ rowOf v := by
  unfold rowOf
  cases h : v.ownBlock with
  | none => simp
  | some g => intro hm; rw [List.mem_singleton] at hm; subst hm; exact hno b h hb
theorem rowOf_ge {α : Type} {R : Rep α} {e B C : Nat} {X : List Nat} {w : World} {v : Value} {xs : List α} (h : Owns R e B X w v xs) (hC : C ≤ B) : ∀ y ∈ rowOf v, C ≤ y := by
  intro y hy
  unfold rowOf at hy
  cases ho : v.ownBlock with
  | none => rw [ho] at hy; simp at hy
  | some g => rw [ho] at hy; rw [List.mem_singleton] at hy; subst hy; have := (h.lt y ho).1; omega
def idxP (p : Int → Bool) (xs : List Int) : Int := if xs.any p = true then ((xs.findIdx p : Nat) : Int) else -1
theorem idxP_none {p : Int → Bool} {xs : List Int} {k : Nat} (h : ∀ j, j < k → (fun i => !p (xs.getD i 0)) j = true) (hk : xs.length ≤ k) : idxP p xs = -1 := by
  have : xs.any p = false := by
    rw [List.any_eq_false]
    intro x hx
    obtain ⟨i, hi⟩ := List.mem_iff_getElem?.1 hx
    have := h i (by have := lt_of_get hi; omega)
    simpa [List.getD_eq_getElem?_getD, hi] using this
  rw [idxP, this]; rfl
theorem idxP_at {p : Int → Bool} {xs : List Int} {k : Nat} (hk : k < xs.length) (h : ∀ j, j < k → (fun i => !p (xs.getD i 0)) j = true) (he : p (xs.getD k 0) = true) : idxP p xs = (k : Int) := by
  have ha : xs.any p = true := by
    rw [List.any_eq_true]
    exact ⟨xs[k], List.getElem_mem hk, by simpa [List.getD_eq_getElem?_getD, List.getElem?_eq_getElem hk] using he⟩
  rw [idxP, if_pos ha, (List.findIdx_eq hk).2]
  constructor
  · simpa [List.getD_eq_getElem?_getD, List.getElem?_eq_getElem hk] using he
  · intro j hj
    have := h j hj
    have hj' : j < xs.length := by omega
    simpa [List.getD_eq_getElem?_getD, List.getElem?_eq_getElem hj'] using this
/-- none, or the first place -/
theorem idxP_cases (p : Int → Bool) (xs : List Int) : (idxP p xs = -1 ∧ xs.filter (fun m => !p m) = xs) ∨ ∃ k, k < xs.length ∧ idxP p xs = (k : Int) ∧ p (xs.getD k 0) = true ∧ (xs.take (k + 1)).filter (fun m => !p m) = xs.take k := by
  by_cases ha : xs.any p = true
  · right
    have hlt : xs.findIdx p < xs.length := List.findIdx_lt_length_of_exists (by simpa [List.any_eq_true] using ha)
    have hp := List.findIdx_getElem (w := hlt)
    refine ⟨xs.findIdx p, hlt, by rw [idxP, if_pos ha], by simpa [List.getD_eq_getElem?_getD, List.getElem?_eq_getElem hlt] using hp, ?_⟩
    rw [List.take_add_one, List.getElem?_eq_getElem hlt, Option.toList_some, List.filter_append]
    have h1 : (xs.take (xs.findIdx p)).filter (fun m => !p m) = xs.take (xs.findIdx p) := by
      rw [List.filter_eq_self]
      intro x hx
      obtain ⟨i, hi⟩ := List.mem_iff_getElem?.1 hx
      have hil := lt_of_get hi
      rw [List.length_take] at hil
      rw [List.getElem?_take_of_lt (by omega)] at hi
      have := List.not_of_lt_findIdx (p := p) (xs := xs) (i := i) (by omega)
      have he : xs[i]'(by omega) = x := by
        rw [List.getElem?_eq_getElem (by omega)] at hi; exact Option.some.inj hi
      rw [he] at this
      simpa using this
    have h2 : [xs[xs.findIdx p]].filter (fun m => !p m) = [] := by simp [hp]
    rw [h1, h2, List.append_nil]
  · left
    have ha' : xs.any p = false := by simpa using ha
    refine ⟨by rw [idxP, if_neg ha], ?_⟩
    rw [List.filter_eq_self]
    intro x hx
    have := List.any_eq_false.1 ha' x hx
    simpa using this
/-- the row behind one round of DeleteFunc -/
structure DelInv (q : Int → Bool) (xs L : List Int) (i j : Nat) : Prop where
  len : L.length = xs.length
  inn : ∀ x ∈ L, inK .i64 x
  lt : i < j
  le : j ≤ xs.length
  pre : L.take i = (xs.take j).filter q
  post : L.drop j = xs.drop j
theorem DelInv.get {q : Int → Bool} {xs L : List Int} {i j : Nat} (h : DelInv q xs L i j) (hj : j < xs.length) : L.getD j 0 = xs.getD j 0 := by
  have h1 : (L.drop j)[0]? = (xs.drop j)[0]? := by rw [h.post]
  simp only [List.getElem?_drop, Nat.add_zero] at h1
  rw [List.getD_eq_getElem?_getD, List.getD_eq_getElem?_getD, h1]
theorem drop_succ_eq {L M : List Int} {j : Nat} (h : L.drop j = M.drop j) : L.drop (j + 1) = M.drop (j + 1) := by
  rw [← List.drop_drop, ← List.drop_drop, h]
theorem take_succ_filter {q : Int → Bool} {xs : List Int} {j : Nat} (hj : j < xs.length) : (xs.take (j + 1)).filter q = (xs.take j).filter q ++ [xs.getD j 0].filter q := by
  rw [List.take_add_one, List.filter_append, List.getElem?_eq_getElem hj]
  simp [List.getD_eq_getElem?_getD, List.getElem?_eq_getElem hj]
theorem DelInv.skip {q : Int → Bool} {xs L : List Int} {i j : Nat} (h : DelInv q xs L i j) (hj : j < xs.length) (hq : q (L.getD j 0) = false) : DelInv q xs L i (j + 1) := by
  rw [h.get hj] at hq
  refine ⟨h.len, h.inn, by have := h.lt; omega, hj, ?_, drop_succ_eq h.post⟩
  rw [take_succ_filter hj, h.pre]; simp only [List.filter_cons, hq, List.filter_nil]; simp
theorem DelInv.keep {q : Int → Bool} {xs L : List Int} {i j : Nat} (h : DelInv q xs L i j) (hj : j < xs.length) (hq : q (L.getD j 0) = true) : DelInv q xs (L.set i (L.getD j 0)) (i + 1) (j + 1) := by
  have hij := h.lt
  have hjl : j < L.length := by rw [h.len]; exact hj
  refine ⟨by rw [List.length_set]; exact h.len, ?_, by omega, hj, ?_, ?_⟩
  · intro x hx
    rcases List.mem_or_eq_of_mem_set hx with hx | hx
    · exact h.inn x hx
    · subst hx
      rw [List.getD_eq_getElem?_getD, List.getElem?_eq_getElem hjl]
      exact h.inn _ (List.getElem_mem hjl)
  · rw [take_succ_filter hj, ← h.pre, List.take_add_one, List.getElem?_set_self (by omega), List.take_set_of_le (Nat.le_refl _), h.get hj]
    rw [h.get hj] at hq
    simp only [List.filter_cons, hq, if_true, List.filter_nil, Option.toList_some]
  · rw [List.drop_set_of_lt (by omega)]; exact drop_succ_eq h.post
end Go.Proofs.YtcinjnkgopoclaaGreatDoor.W
