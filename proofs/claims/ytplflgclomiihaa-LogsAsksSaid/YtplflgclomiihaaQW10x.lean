/- Draw regions whose calls make memory: one fact an operation, whatever the order. Program-agnostic. -/
import Derived.Test.YtplflgclomiihaaQW5x
import Derived.RangeFuncLeaves
import Derived.RangeFuncRecord
set_option linter.unusedVariables false
set_option linter.unusedSimpArgs false
namespace Go.Proofs.Ytplflgclomiihaa.W
open Go.RowKit

def chkDst (n : Fsz) (l : List Oper) : Bool := l.all fun o => dstOk n o.dst
def chkApart (l : List Oper) : Bool := (List.range l.length).all fun i => (List.range l.length).all fun j => decide (i = j) || !(dstAt l i).isSome || !(dstAt l i == dstAt l j)
def chkBack (l : List Oper) : Bool := (List.range l.length).all fun i => match l[i]? with
  | some o => o.after.toList.all fun e => !Region.binds .any e || decide (e.on < i)
  | none => true
def noDst (l : List Oper) (t : Nat) : Bool := (List.range l.length).all fun i => !(dstAt l i == some t)
def hasPred (o : Oper) (k : Nat) : Bool := o.after.toList.any fun e => Region.binds .any e && decide (e.on = k)
theorem lt_of_some {l : List Oper} {i : Nat} {o : Oper} (h : l[i]? = some o) : i < l.length := by
  rcases Nat.lt_or_ge i l.length with h1 | h1
  · exact h1
  · rw [List.getElem?_eq_none h1] at h; cases h
theorem lt_of_dst {l : List Oper} {i d : Nat} (h : dstAt l i = some d) : i < l.length := by
  unfold dstAt at h
  cases ho : l[i]? with
  | none => rw [ho] at h; cases h
  | some o => exact lt_of_some ho
theorem apart_of {l : List Oper} (h : chkApart l = true) : ∀ (i j d : Nat), dstAt l i = some d → dstAt l j = some d → i = j := by
  intro i j d hi hj
  simp only [chkApart, List.all_eq_true, List.mem_range] at h
  have := h i (lt_of_dst hi) j (lt_of_dst hj)
  simpa [hi, hj] using this
theorem back_of {l : List Oper} (h : chkBack l = true) : ∀ (i : Nat) (o : Oper), l[i]? = some o → ∀ e ∈ o.after.toList, Region.binds .any e = true → e.on < i := by
  intro i o ho e he hb
  simp only [chkBack, List.all_eq_true, List.mem_range] at h
  have := h i (lt_of_some ho)
  rw [ho] at this
  have := List.all_eq_true.1 this e he
  simpa [hb] using this
theorem noDst_ne {l : List Oper} {t : Nat} (h : noDst l t = true) : ∀ j, dstAt l j ≠ some t := by
  intro j hj
  simp only [noDst, List.all_eq_true, List.mem_range] at h
  have := h j (lt_of_dst hj)
  simp [hj] at this

/-- facts that stay when memory is made -/
def Stab (f : Value → World → Prop) : Prop := ∀ v w w', Ext [] w w' → f v w → f v w'
theorem Stab.eq (c : Value) : Stab fun v _ => v = c := fun _ _ _ _ h => h
theorem Stab.sl {α : Type} {R : Rep α} {X : List Nat} {xs : List α} : Stab fun v w => Sl R X w v xs := fun _ _ _ k h => h.ext (Ext.any k)
def AllStab : List (Value → World → Prop) → Prop
  | [] => True
  | f :: r => Stab f ∧ AllStab r
def FL (fs : List (Value → World → Prop)) (i : Nat) (v : Value) (w : World) : Prop := match fs[i]? with
  | some f => f v w
  | none => True
theorem FL.stab {fs : List (Value → World → Prop)} (h : AllStab fs) (i : Nat) {v : Value} {w w' : World} (k : Ext [] w w') (hf : FL fs i v w) : FL fs i v w' := by
  induction fs generalizing i with
  | nil => simp [FL]
  | cons f r ih =>
    cases i with
    | zero => exact h.1 _ _ _ k hf
    | succ i => exact ih h.2 i hf

/-- what is to be shown of operation i -/
def AnyStep (P : Program) (l : List Oper) (E : Env) (w : World) (fs : List (Value → World → Prop)) (i : Nat) (o : Oper) : Prop :=
  ∀ (E' : Env) (w' : World), Ext [] w w' → (∀ t, noDst l t = true → E' t = E t) → (∀ k, hasPred o k = true → holdsF l (FL fs) k E' w') →
    (Shut l.toArray o E' ∧ FL fs i undef w') ∨ (Sure l.toArray o E' ∧ ((∃ v, OpV P o E' w' v ∧ FL fs i v w') ∨ ∃ f args, OpC P o E' w' f args ∧ Fnc P f args w' fun v w'' => Ext [] w' w'' ∧ FL fs i v w''))
def AnySteps (P : Program) (l : List Oper) (E : Env) (w : World) (fs : List (Value → World → Prop)) : Nat → List Oper → Prop
  | _, [] => True
  | i, o :: r => AnyStep P l E w fs i o ∧ AnySteps P l E w fs (i + 1) r
theorem AnySteps.get {P : Program} {l : List Oper} {E : Env} {w : World} {fs : List (Value → World → Prop)} {i : Nat} {r : List Oper} (h : AnySteps P l E w fs i r) {j : Nat} {o : Oper} (hj : r[j]? = some o) : AnyStep P l E w fs (i + j) o := by
  induction r generalizing i j with
  | nil => simp at hj
  | cons a r ih =>
    cases j with
    | zero => simp only [List.getElem?_cons_zero, Option.some.injEq] at hj; subst hj; exact h.1
    | succ j =>
      have := ih h.2 (j := j) (by simpa using hj)
      rwa [show i + 1 + j = i + (j + 1) from by omega] at this
theorem WP.anyMake {P : Program} {n : Fsz} {id : Nat} {l : List Oper} {E : Env} {w : World} {N R : Env → World → Prop} {X : Nat → Env → World → Prop} (fs : List (Value → World → Prop)) (hm : P.follows .mixedOrders = true)
    (h1 : chkDst n l = true) (h2 : chkApart l = true) (h3 : chkBack l = true) (hs : AllStab fs) (steps : AnySteps P l E w fs 0 l)
    (fin : ∀ E' w', Ext [] w w' → (∀ t, noDst l t = true → E' t = E t) → (∀ i, i < l.length → holdsF l (FL fs) i E' w') → N E' w') : WP P n (.region id l.toArray true) ⟨N, X, R⟩ E w := by
  refine WP.any (fun w' => Ext [] w w') (FL fs) hm (fun d => ⟨rfl, rfl, rfl, Nat.le_refl _, fun _ _ _ => rfl⟩) ⟨?_, apart_of h2, back_of h3, ?_⟩ (fun E' w' hI hE hF => fin E' w' hI (fun t ht => hE t (noDst_ne ht)) hF)
  · intro i o ho
    simp only [chkDst, List.all_eq_true] at h1
    exact h1 o (List.mem_of_getElem? ho)
  · intro i o ho E' w' hI hE hF
    have st := steps.get (j := i) ho
    rw [Nat.zero_add] at st
    have hp : ∀ k, hasPred o k = true → holdsF l (FL fs) k E' w' := by
      intro k hk
      simp only [hasPred, List.any_eq_true, Bool.and_eq_true, decide_eq_true_eq] at hk
      obtain ⟨e, he, hb, rfl⟩ := hk
      exact hF e he hb
    rcases st E' w' hI (fun t ht => hE t fun j hj => absurd hj (noDst_ne ht j)) hp with ⟨hs', hf⟩ | ⟨hs', hv | hc⟩
    · exact .inl ⟨hs', hf⟩
    · obtain ⟨v, hv, hf⟩ := hv
      exact .inr ⟨hs', .inl ⟨v, w', OpV.x hv, hI, hf, fun _ _ _ h => h⟩⟩
    · obtain ⟨f, args, hc, hf⟩ := hc
      exact .inr ⟨hs', .inr ⟨f, args, hc, Fnc.mono hf fun v w'' ⟨hx, hq⟩ => ⟨hI.trans hx, hq, fun j u _ hj => FL.stab hs j hx hj⟩⟩⟩
theorem bsplit {c : Bool} {p : Prop} (t : c = true → p) (f : c = false → p) : p := by
  cases c with
  | true => exact t rfl
  | false => exact f rfl
end Go.Proofs.Ytplflgclomiihaa.W
namespace Go.Proofs.Ytplflgclomiihaa.W
open Go.RowKit

theorem lt_of_get {α : Type} {xs : List α} {i : Nat} {x : α} (h : xs[i]? = some x) : i < xs.length := by
  rcases Nat.lt_or_ge i xs.length with h1 | h1
  · exact h1
  · rw [List.getElem?_eq_none h1] at h; cases h
theorem map1 {α β : Type} {f : α → β} {x : α} {a : β} (h : f x = a) : #[x].map f = #[a] := by subst h; simp
theorem map2 {α β : Type} {f : α → β} {x y : α} {a b : β} (h : f x = a) (k : f y = b) : #[x, y].map f = #[a, b] := by subst h; subst k; simp
theorem splice_nil (cs : List Value) (i : Nat) : splice cs i [] = cs := by simp [splice]
section
variable {P : Program} {n : Fsz} {ro : Option Nat} {Q : K} {E : Env} {w : World} {ops : Array Oper} {o : Oper} {rest : List Oper}
theorem WL.clear {t e t' : TypeId} {z : Value} {by' b i m c : Nat} {x : Operand} {cs : List Value} (hs : Sure ops o E) (hd : dstOk n o.dst = true) (ho : o.op = .call ⟨.builtin .clear, #[x], #[t]⟩)
    (ht : P.underlying t = some (.slice e)) (he : Elem P e z 1 by') (hz : z.cells = #[z]) (h1 : z.oneCell' = true) (hx : ev E x = .slice (some ⟨b, i, none⟩) m c) (hb : Box w b t' cs) (hi : i + m ≤ cs.length)
    (k : ∀ w', Ext [b] w w' → Box w' b t' (splice cs i (List.replicate m z)) → WLr ro P n ops Q rest (updO E o.dst (.tuple #[])) w') : WLr ro P n ops Q (o :: rest) E w := by
  obtain ⟨ii, hii, hz0, hz1, hz2⟩ := info_parts he
  have hzero : ∀ w, (zeroValue e).run P w = .ok z w := fun w => zero_of (by simp [Zero, hii, hz0])
  have e : #[x].map (ev E) = #[.slice (some ⟨b, i, none⟩) m c] := by simp [hx]
  have hst := run_storeCells_at P b i t' (List.replicate m z) 0 cs.toArray w hb (by simpa using hi) (by intro u hu; rw [List.eq_of_mem_replicate hu]; exact h1)
  simp only [Nat.add_zero] at hst
  have hzc : (Builtin.zeroCells z.cells m).toList = List.replicate m z := by
    rw [hz]
    simp [Builtin.zeroCells]
    apply List.ext_getElem
    · simp
    · intro i h1 h2
      simp [Nat.mod_one]
  cases m with
  | zero =>
    refine WL.x (u := .tuple #[]) (w' := w) hs hd (.inl ?_) (k _ (Ext.refl _ _) (by rw [List.replicate_zero, splice_nil]; exact hb))
    simp only [execOp, ho, resolve]
    rw [e]
    refine run_v ?_
    simp [Builtin.clear_, underlying, ht]
  | succ m =>
    refine WL.x (u := .tuple #[]) (w' := w.setRow b (splice cs i (List.replicate (m + 1) z)).toArray) hs hd (.inl ?_) (k _ ⟨rfl, rfl, rfl, by simp, fun k _ hk => setRow_other w b k _ (by simpa using hk)⟩ (hb.splice _))
    simp only [execOp, ho, resolve]
    rw [e]
    refine run_v ?_
    have h' : (storeCells ⟨b, i, none⟩ (List.replicate (m + 1) z) 0).run P w = .ok () (w.setRow b (splice cs i (List.replicate (m + 1) z)).toArray) := by rw [hst]; simp [splice]
    simp [Builtin.clear_, underlying, ht, hzero, hzc, h']
end
section
variable {P : Program} {n : Fsz} {ro : Option Nat} {Q : K} {E : Env} {w : World} {ops : Array Oper} {o : Oper} {rest : List Oper}
theorem WL.vex {φ : Value → Prop} (hs : Sure ops o E) (hd : dstOk n o.dst = true) (h : ∃ u, OpV P o E w u ∧ φ u) (k : ∀ u, φ u → WLr ro P n ops Q rest (updO E o.dst u) w) : WLr ro P n ops Q (o :: rest) E w := by
  obtain ⟨u, h1, h2⟩ := h
  exact WL.v hs hd h1 (k u h2)
end
/-- what was new in a's eyes need not be kept -/
theorem Ext.skip {O Y : List Nat} {a b c : World} (h : Ext O a b) (k : Ext Y b c) (hY : ∀ y ∈ Y, a.heap.size ≤ y) : Ext O a c :=
  ⟨k.os.trans h.os, k.tape.trans h.tape, k.output.trans h.output, Nat.le_trans h.size k.size,
    fun i hi hx => (k.block i (Nat.lt_of_lt_of_le hi h.size) (fun hy => by have := hY i hy; omega)).trans (h.block i hi hx)⟩
/-- a row of numbers, and what lies behind it -/
def irow (L : List Int) (T : List Value) : List Value := L.map (Value.int .i64) ++ T
theorem irow_get {L : List Int} {T : List Value} {j : Nat} (h : j < L.length) : (irow L T)[j]? = some (.int .i64 (L.getD j 0)) := by
  rw [irow, List.getElem?_append_left (by simpa using h), List.getElem?_map, List.getD_eq_getElem?_getD, List.getElem?_eq_getElem h]; rfl
theorem irow_set {L : List Int} {T : List Value} {j : Nat} {x : Int} (h : j < L.length) : (irow L T).set j (.int .i64 x) = irow (L.set j x) T := by
  rw [irow, irow, List.set_append_left _ _ (by simpa using h), List.map_set]
theorem irow_len {L : List Int} {T : List Value} : (irow L T).length = L.length + T.length := by simp [irow]
theorem irow_sl {L : List Int} {T : List Value} {X : List Nat} {w : World} {g cap : Nat} {t : TypeId} (hb : Box w g t (irow L T)) (hX : g ∉ X) (hin : ∀ x ∈ L, inK .i64 x) (hc : L.length ≤ cap) (hm : cap ≤ maxLen) : Sl (intR .i64) X w (.slice (some ⟨g, 0, none⟩) L.length cap) L := by
  refine .inr (.inl ⟨g, 0, cap, rfl, hc, hm, fun i x hx => ⟨hX, [.int .i64 x], ⟨rfl, hin x (List.mem_of_getElem? hx)⟩, ?_⟩⟩)
  intro j v hj
  cases j with
  | zero =>
    simp only [List.getElem?_cons_zero, Option.some.injEq] at hj
    subst hj
    have hi := lt_of_get hx
    have := irow_get (T := T) hi
    rw [List.getD_eq_getElem?_getD, hx] at this
    refine hb.cell ?_
    show (irow L T)[0 + i * 1 + 0]? = _
    rw [show 0 + i * 1 + 0 = i from by omega]; exact this
  | succ j => simp at hj
theorem irow_clear {L : List Int} {T : List Value} {i m : Nat} (h : i + m = L.length) : splice (irow L T) i (List.replicate m (.int .i64 0)) = irow (L.take i ++ List.replicate m 0) T := by
  simp only [splice, irow, List.map_append, List.map_take, List.map_replicate, List.length_replicate]
  rw [List.take_append_of_le_length (by simp; omega), List.drop_append, List.drop_of_length_le (by simp; omega), h, List.length_map, Nat.sub_self, List.drop_zero, List.nil_append, List.append_assoc]
/-- a slice of numbers of one's own, as its row -/
theorem Owns.asRow {e B : Nat} {X : List Nat} {w : World} {v : Value} {xs : List Int} (h : Owns (intR .i64) e B X w v xs) :
    (v = .slice none 0 0 ∧ xs = []) ∨ ∃ g cap T, v = .slice (some ⟨g, 0, none⟩) xs.length cap ∧ Box w g e (irow xs T) ∧ xs.length + T.length = cap ∧ cap ≤ maxLen ∧ (∀ x ∈ xs, inK .i64 x) ∧ B ≤ g := by
  obtain ⟨cells, ⟨h0, h1⟩, h2, h3⟩ := h
  have hlen : cells.length = xs.length := by rw [h0]; show xs.length * 1 = _; omega
  have hcells : cells = xs.map (Value.int .i64) := by
    apply List.ext_getElem?
    intro i
    rcases Nat.lt_or_ge i xs.length with hi | hi
    · have := h2 i xs[i] (List.getElem?_eq_getElem hi)
      obtain ⟨h4, _⟩ := this
      have h5 : ((cells.drop (i * 1)).take 1)[0]? = some (.int .i64 xs[i]) := by
        have h4' : (cells.drop (i * 1)).take 1 = [.int .i64 xs[i]] := h4
        rw [h4']; rfl
      rw [List.getElem?_take_of_lt (by omega), List.getElem?_drop] at h5
      rw [List.getElem?_map, List.getElem?_eq_getElem hi]
      rw [show i * 1 + 0 = i from by omega] at h5
      exact h5
    · rw [List.getElem?_eq_none (by omega), List.getElem?_eq_none (by simpa using hi)]
  have hin : ∀ x ∈ xs, inK .i64 x := by
    intro x hx
    obtain ⟨i, hi⟩ := List.mem_iff_getElem?.1 hx
    exact (h2 i x hi).2
  rcases h1 with ⟨h1, h4⟩ | ⟨g, cap, cur, hv, hB, hg, hn, hc, hs, ht⟩
  · exact .inl ⟨h1, List.eq_nil_of_length_eq_zero h4⟩
  · refine .inr ⟨g, cap, cur.toList.drop xs.length, hv, ?_, ?_, hc, hin, hB⟩
    · have e1 : irow xs (cur.toList.drop xs.length) = cur.toList := by
        have : cur.toList.take (xs.length * 1) = cells := ht
        rw [W.irow, ← hcells, ← this, Nat.mul_one, List.take_append_drop]
      show w.heap[g]? = _
      rw [e1]; simpa using hg
    · have : cur.size = cap * 1 := hs
      simp; omega
/-- a slice of numbers whose row nobody else has: new from B on, none of X -/
def KRow (B : Nat) (X : List Nat) (w : World) (v : Value) (L : List Int) : Prop :=
  (v = .slice none 0 0 ∧ L = []) ∨ ∃ g cap T, v = .slice (some ⟨g, 0, none⟩) L.length cap ∧ Box w g 3 (irow L T) ∧ L.length ≤ cap ∧ cap ≤ maxLen ∧ (∀ x ∈ L, inK .i64 x) ∧ B ≤ g ∧ g ∉ X
theorem KRow.of {B : Nat} {X : List Nat} {w : World} {v : Value} {L : List Int} (h : Owns (intR .i64) 3 B X w v L) (hno : ∀ g, v.ownBlock = some g → g ∉ X) : KRow B X w v L := by
  rcases h.asRow with h1 | ⟨g, cap, T, rfl, h1, h2, h3, h4, h5⟩
  · exact .inl h1
  · exact .inr ⟨g, cap, T, rfl, h1, by omega, h3, h4, h5, hno g rfl⟩
theorem KRow.sl {B : Nat} {X : List Nat} {w : World} {v : Value} {L : List Int} (h : KRow B X w v L) : Sl (intR .i64) X w v L := by
  rcases h with h1 | ⟨g, cap, T, rfl, h1, h2, h3, h4, h5, h6⟩
  · exact .inl h1
  · exact irow_sl h1 h6 h4 h2 h3
theorem KRow.ext {B : Nat} {X Y : List Nat} {w w' : World} {v : Value} {L : List Int} (h : KRow B X w v L) (k : Ext Y w w') (hY : ∀ y ∈ Y, y ∈ X) : KRow B X w' v L := by
  rcases h with h1 | ⟨g, cap, T, rfl, h1, h2, h3, h4, h5, h6⟩
  · exact .inl h1
  · exact .inr ⟨g, cap, T, rfl, h1.ext k (fun hm => h6 (hY g hm)), h2, h3, h4, h5, h6⟩
theorem KRow.mono {B : Nat} {X Y : List Nat} {w : World} {v : Value} {L : List Int} (h : KRow B Y w v L) (k : ∀ x ∈ X, x ∈ Y) : KRow B X w v L := by
  rcases h with h1 | ⟨g, cap, T, rfl, h1, h2, h3, h4, h5, h6⟩
  · exact .inl h1
  · exact .inr ⟨g, cap, T, rfl, h1, h2, h3, h4, h5, fun hm => h6 (k g hm)⟩
theorem KRow.low {B B' : Nat} {X : List Nat} {w : World} {v : Value} {L : List Int} (h : KRow B X w v L) (k : B' ≤ B) : KRow B' X w v L := by
  rcases h with h1 | ⟨g, cap, T, rfl, h1, h2, h3, h4, h5, h6⟩
  · exact .inl h1
  · exact .inr ⟨g, cap, T, rfl, h1, h2, h3, h4, Nat.le_trans k h5, h6⟩
theorem KRow.cast {B : Nat} {X : List Nat} {w : World} {v : Value} {L M : List Int} (e : L = M) (h : KRow B X w v L) : KRow B X w v M := e ▸ h
/-- s[:len:len] -/
theorem V.clipRow {P : Program} {o : Oper} {E : Env} {w : World} {B : Nat} {X : List Nat} {t : TypeId} {x y z : Operand} {v : Value} {L : List Int} (ho : o.op = .slice t x none (some y) (some z)) (ht : P.underlying t = some (.slice 3)) (hs : Sized P 3 1) (hx : ev E x = v) (hsl : KRow B X w v L)
    (hy : ev E y = .int .i64 L.length) (hz : ev E z = .int .i64 L.length) : ∃ v', OpV P o E w v' ∧ KRow B X w v' L := by
  rcases hsl with ⟨rfl, rfl⟩ | ⟨g, c, T, rfl, h1, hc, hm, h4, h5, h6⟩
  · refine ⟨.slice none 0 0, ?_, .inl ⟨rfl, rfl⟩⟩
    simp [OpV, execOp, ho, hx, hy, hz, go_sem, Instr.sliceAt, underlying, ht, Instr.slice, Instr.sliceBounds, Instr.sliceBound, asIntOf, size_of hs]
  · refine ⟨.slice (some ⟨g, 0, none⟩) L.length L.length, ?_, .inr ⟨g, L.length, T, rfl, h1, Nat.le_refl _, by omega, h4, h5, h6⟩⟩
    simp [OpV, execOp, ho, hx, hy, hz, go_sem, Instr.sliceAt, underlying, ht, Instr.slice, Instr.sliceBounds, Instr.sliceBound, asIntOf, size_of hs, hc, addr_add]
def rowOf (v : Value) : List Nat := match v.ownBlock with | some g => [g] | none => []
theorem rowOf_no {v : Value} {X : List Nat} (hno : ∀ g, v.ownBlock = some g → g ∉ X) {b : Nat} (hb : b ∈ X) : b ∉ rowOf v := by
  unfold rowOf
  cases h : v.ownBlock with
  | none => simp
  | some g => intro hm; rw [List.mem_singleton] at hm; subst hm; exact hno b h hb
theorem rowOf_ge {α : Type} {R : Rep α} {e B C : Nat} {X : List Nat} {w : World} {v : Value} {xs : List α} (h : Owns R e B X w v xs) (hC : C ≤ B) : ∀ y ∈ rowOf v, C ≤ y := by
  intro y hy
  unfold rowOf at hy
  cases ho : v.ownBlock with
  | none => rw [ho] at hy; simp at hy
  | some g => rw [ho] at hy; rw [List.mem_singleton] at hy; subst hy; have := (h.lt y ho).1; omega
def idxP (p : Int → Bool) (xs : List Int) : Int := if xs.any p = true then ((xs.findIdx p : Nat) : Int) else -1
theorem idxP_none {p : Int → Bool} {xs : List Int} {k : Nat} (h : ∀ j, j < k → (fun i => !p (xs.getD i 0)) j = true) (hk : xs.length ≤ k) : idxP p xs = -1 := by
  have : xs.any p = false := by
    rw [List.any_eq_false]
    intro x hx
    obtain ⟨i, hi⟩ := List.mem_iff_getElem?.1 hx
    have := h i (by have := lt_of_get hi; omega)
    simpa [List.getD_eq_getElem?_getD, hi] using this
  rw [idxP, this]; rfl
theorem idxP_at {p : Int → Bool} {xs : List Int} {k : Nat} (hk : k < xs.length) (h : ∀ j, j < k → (fun i => !p (xs.getD i 0)) j = true) (he : p (xs.getD k 0) = true) : idxP p xs = (k : Int) := by
  have ha : xs.any p = true := by
    rw [List.any_eq_true]
    exact ⟨xs[k], List.getElem_mem hk, by simpa [List.getD_eq_getElem?_getD, List.getElem?_eq_getElem hk] using he⟩
  rw [idxP, if_pos ha, (List.findIdx_eq hk).2]
  constructor
  · simpa [List.getD_eq_getElem?_getD, List.getElem?_eq_getElem hk] using he
  · intro j hj
    have := h j hj
    have hj' : j < xs.length := by omega
    simpa [List.getD_eq_getElem?_getD, List.getElem?_eq_getElem hj'] using this
/-- none, or the first place -/
theorem idxP_cases (p : Int → Bool) (xs : List Int) : (idxP p xs = -1 ∧ xs.filter (fun m => !p m) = xs) ∨ ∃ k, k < xs.length ∧ idxP p xs = (k : Int) ∧ p (xs.getD k 0) = true ∧ (xs.take (k + 1)).filter (fun m => !p m) = xs.take k := by
  by_cases ha : xs.any p = true
  · right
    have hlt : xs.findIdx p < xs.length := List.findIdx_lt_length_of_exists (by simpa [List.any_eq_true] using ha)
    have hp := List.findIdx_getElem (w := hlt)
    refine ⟨xs.findIdx p, hlt, by rw [idxP, if_pos ha], by simpa [List.getD_eq_getElem?_getD, List.getElem?_eq_getElem hlt] using hp, ?_⟩
    rw [List.take_add_one, List.getElem?_eq_getElem hlt, Option.toList_some, List.filter_append]
    have h1 : (xs.take (xs.findIdx p)).filter (fun m => !p m) = xs.take (xs.findIdx p) := by
      rw [List.filter_eq_self]
      intro x hx
      obtain ⟨i, hi⟩ := List.mem_iff_getElem?.1 hx
      have hil := lt_of_get hi
      rw [List.length_take] at hil
      rw [List.getElem?_take_of_lt (by omega)] at hi
      have := List.not_of_lt_findIdx (p := p) (xs := xs) (i := i) (by omega)
      have he : xs[i]'(by omega) = x := by
        rw [List.getElem?_eq_getElem (by omega)] at hi; exact Option.some.inj hi
      rw [he] at this
      simpa using this
    have h2 : [xs[xs.findIdx p]].filter (fun m => !p m) = [] := by simp [hp]
    rw [h1, h2, List.append_nil]
  · left
    have ha' : xs.any p = false := by simpa using ha
    refine ⟨by rw [idxP, if_neg ha], ?_⟩
    rw [List.filter_eq_self]
    intro x hx
    have := List.any_eq_false.1 ha' x hx
    simpa using this
/-- the row behind one round of DeleteFunc -/
structure DelInv (q : Int → Bool) (xs L : List Int) (i j : Nat) : Prop where
  len : L.length = xs.length
  inn : ∀ x ∈ L, inK .i64 x
  lt : i < j
  le : j ≤ xs.length
  pre : L.take i = (xs.take j).filter q
  post : L.drop j = xs.drop j
theorem DelInv.get {q : Int → Bool} {xs L : List Int} {i j : Nat} (h : DelInv q xs L i j) (hj : j < xs.length) : L.getD j 0 = xs.getD j 0 := by
  have h1 : (L.drop j)[0]? = (xs.drop j)[0]? := by rw [h.post]
  simp only [List.getElem?_drop, Nat.add_zero] at h1
  rw [List.getD_eq_getElem?_getD, List.getD_eq_getElem?_getD, h1]
theorem drop_succ_eq {L M : List Int} {j : Nat} (h : L.drop j = M.drop j) : L.drop (j + 1) = M.drop (j + 1) := by
  rw [← List.drop_drop, ← List.drop_drop, h]
theorem take_succ_filter {q : Int → Bool} {xs : List Int} {j : Nat} (hj : j < xs.length) : (xs.take (j + 1)).filter q = (xs.take j).filter q ++ [xs.getD j 0].filter q := by
  rw [List.take_add_one, List.filter_append, List.getElem?_eq_getElem hj]
  simp [List.getD_eq_getElem?_getD, List.getElem?_eq_getElem hj]
theorem DelInv.skip {q : Int → Bool} {xs L : List Int} {i j : Nat} (h : DelInv q xs L i j) (hj : j < xs.length) (hq : q (L.getD j 0) = false) : DelInv q xs L i (j + 1) := by
  rw [h.get hj] at hq
  refine ⟨h.len, h.inn, by have := h.lt; omega, hj, ?_, drop_succ_eq h.post⟩
  rw [take_succ_filter hj, h.pre]; simp only [List.filter_cons, hq, List.filter_nil]; simp
theorem DelInv.keep {q : Int → Bool} {xs L : List Int} {i j : Nat} (h : DelInv q xs L i j) (hj : j < xs.length) (hq : q (L.getD j 0) = true) : DelInv q xs (L.set i (L.getD j 0)) (i + 1) (j + 1) := by
  have hij := h.lt
  have hjl : j < L.length := by rw [h.len]; exact hj
  refine ⟨by rw [List.length_set]; exact h.len, ?_, by omega, hj, ?_, ?_⟩
  · intro x hx
    rcases List.mem_or_eq_of_mem_set hx with hx | hx
    · exact h.inn x hx
    · subst hx
      rw [List.getD_eq_getElem?_getD, List.getElem?_eq_getElem hjl]
      exact h.inn _ (List.getElem_mem hjl)
  · rw [take_succ_filter hj, ← h.pre, List.take_add_one, List.getElem?_set_self (by omega), List.take_set_of_le (Nat.le_refl _), h.get hj]
    rw [h.get hj] at hq
    simp only [List.filter_cons, hq, if_true, List.filter_nil, Option.toList_some]
  · rw [List.drop_set_of_lt (by omega)]; exact drop_succ_eq h.post
end Go.Proofs.Ytplflgclomiihaa.W
namespace Go.Proofs.Ytplflgclomiihaa.W
open Go.RowKit

/-- a piece of code and what stands behind it, over activations -/
def WX (P : Program) (n : Fsz) (c : Code) (Q : Exit → Act → World → Prop) (E : Env) (w : World) : Prop := ∀ a, Ok n a → envOf a = E → c.wpIn (Fr none) 1 P Q a w
abbrev KX (n : Fsz) (Q : Exit → Act → World → Prop) (N : Env → World → Prop) : K := ⟨N, fun i E w => ∀ a, Ok n a → envOf a = E → Q (.exit i) a w, fun E w => ∀ a, Ok n a → envOf a = E → Q .ret a w⟩
section
variable {P : Program} {n : Fsz} {Q : Exit → Act → World → Prop} {E : Env} {w : World}
theorem WX.seq {x y : Code} (h : WP P n x (KX n Q (WX P n y Q)) E w) : WX P n (.seq x y) Q E w := by
  intro a ha he
  refine wpIn_seq (wpIn_mono (h a ha he) ?_)
  intro e a' w' ⟨h1, h2⟩
  cases e with
  | normal => exact h2 a' h1 rfl
  | ret => exact h2 a' h1 rfl
  | exit i => exact h2 a' h1 rfl
  | goto _ => exact h2.elim
  | panic _ => exact h2.elim
  | outgrown => exact h2.elim
theorem WX.seqx {x y : Code} (h : WX P n x (Exit.then (y.wpIn (Fr none) 1 P Q) Q) E w) : WX P n (.seq x y) Q E w := fun a ha he => wpIn_seq (h a ha he)
theorem WX.block {id : Nat} {c : Code} (h : WX P n c (Exit.inBlock id Q) E w) : WX P n (.block id c) Q E w := fun a ha he => wpIn_block (h a ha he)
theorem WX.of {c : Code} (h : WP P n c (KX n Q fun E w => ∀ a, Ok n a → envOf a = E → Q .normal a w) E w) : WX P n c Q E w := by
  intro a ha he
  refine wpIn_mono (h a ha he) ?_
  intro e a' w' ⟨h1, h2⟩
  cases e with
  | normal => exact h2 a' h1 rfl
  | ret => exact h2 a' h1 rfl
  | exit i => exact h2 a' h1 rfl
  | goto _ => exact h2.elim
  | panic _ => exact h2.elim
  | outgrown => exact h2.elim
theorem ext_putObj (w : World) (b : Nat) (o : Obj) : Ext [b] w (w.putObj b o) := ⟨rfl, rfl, rfl, by simp, fun k _ hk => World.putObj_heap_other (by simpa using hk)⟩
theorem heap_lt {w : World} {b : Nat} {o : Obj} (h : w.heap[b]? = some o) : b < w.heap.size := by
  rcases Nat.lt_or_ge b w.heap.size with h1 | h1
  · exact h1
  · rw [Array.getElem?_eq_none h1] at h; cases h
def mark (d : Nat) : Deferred := { target := .collected d, args := #[] }
/-- A loop over a function: the function is called with the loop's yield; what it leaves is where the code goes on. -/
theorem WX.range {g : Operand} {ps : Array Tmp} {asg body : Code} {f : FuncId} {cap : Array Value} (hg : ev E g = .func (.func f) #[] cap) (hcal : Callable P f)
    (h : ∀ (fn : FuncId) (tmps : Array Value), tmps.size = n.n → (fun t => tmps.getD t undef) = E → ∀ W1, Ext [] w W1 → W1.heap.size = w.heap.size + 2 → W1.heap[w.heap.size]? = some (.deferred (some [])) →
      W1.heap[w.heap.size + 1]? = some (.loop { state := .ready, pending := none, fn := fn, tmps := tmps, params := ps, assign := asg, body := body, defers := w.heap.size }) →
      Fnc P f (#[.func (.yield (w.heap.size + 1)) #[] #[]] ++ cap) W1 fun _ w3 => ∃ r : Loop, w3.heap[w.heap.size + 1]? = some (.loop r) ∧ r.state ≠ .busy ∧
        ∀ w4, Ext [w.heap.size + 1] w3 w4 → ∀ a, Ok ⟨n.n, mark w.heap.size :: n.D⟩ a → envOf a = E → match r.pending with
          | none => Q .normal a w4
          | some .ret => Q .ret a w4
          | some (.exit i) => Q (.exit i) a w4
          | _ => False) : WX P n (.rangeFunc g ps asg body) Q E w := by
  intro a ha he
  refine wpIn_rangeFunc fun fn hfn => ?_
  obtain ⟨rec, hrec⟩ : ∃ rec : Loop, rec = { state := .ready, pending := none, fn := fn, tmps := a.tmps, params := ps, assign := asg, body := body, defers := w.heap.size } := ⟨_, rfl⟩
  have hX : Ext [] w ((w.alloc (.deferred (some []))).alloc (.loop rec)) := (Ext.alloc w _).trans (Ext.alloc _ _)
  have hsz : ((w.alloc (.deferred (some []))).alloc (.loop rec)).heap.size = w.heap.size + 2 := by simp
  have hD : ((w.alloc (.deferred (some []))).alloc (.loop rec)).heap[w.heap.size]? = some (.deferred (some [])) := by
    have h1 : (w.alloc (.deferred (some []))).heap[w.heap.size]? = some (.deferred (some [])) := World.alloc_heap_new w _
    rw [(Ext.alloc (X := []) (w.alloc (.deferred (some []))) (.loop rec)).block _ (heap_lt h1) (by simp)]; exact h1
  have hL : ((w.alloc (.deferred (some []))).alloc (.loop rec)).heap[w.heap.size + 1]? = some (.loop rec) := by
    have := World.alloc_heap_new (w.alloc (.deferred (some []))) (.loop rec)
    rwa [show (w.alloc (.deferred (some []))).heap.size = w.heap.size + 1 from by simp] at this
  refine ⟨w.heap.size + 1, [mark w.heap.size], (w.alloc (.deferred (some []))).alloc (.loop rec), { target := .fn (.func f) cap, args := #[.func (.yield (w.heap.size + 1)) #[] #[]] }, (w.alloc (.deferred (some []))).alloc (.loop rec), f,
    #[.func (.yield (w.heap.size + 1)) #[] #[]] ++ cap, (w.alloc (.deferred (some []))).alloc (.loop rec), ?_, ?_, ?_, ?_, fun h => (by cases h), ?_⟩
  · rw [hrec]; exact run_enterLoop_outer _ _ _ _ _
  · have hg' : a.eval g = .func (.func f) #[] cap := by rw [eval_envOf, he]; exact hg
    simp only [resolve, hg']
    simp [go_sem]
  · intro f' _; trivial
  · simp only [invoke]
    obtain ⟨fn', hfn', hname, hb⟩ := hcal
    have hn' : ¬ fn'.name = "runtime.NumGoroutine" := by simpa using hname
    have hb' : ¬ fn'.body = none := by intro e; rw [e] at hb; cases hb
    simp [go_sem, callFunc, hfn', hn', hb']
  · have hcall := h fn a.tmps ha.1 he _ hX hsz hD (by rw [hL, hrec])
    have hcall' : CallsIn (Fr none) (1 - 1) P f (#[.func (.yield (w.heap.size + 1)) #[] #[]] ++ cap) ((w.alloc (.deferred (some []))).alloc (.loop rec)) _ := (callsIn_wide (n := 1 - 1)).2 hcall
    refine CallsIn.mono hcall' ?_
    rintro e w3 ⟨v, rfl, r, hl3, hb3, hQ⟩
    have hend := run_endLoop (P := P) hl3 hb3
    have key := hQ _ (ext_putObj w3 (w.heap.size + 1) (.loop { r with state := .exhausted })) { a with defers := [mark w.heap.size] ++ a.defers } ⟨ha.1, by show [mark w.heap.size] ++ a.defers = _; rw [ha.2]; rfl⟩ he
    refine ⟨r.pending, _, hend, ?_⟩
    split at key
    · rename_i hj; simp only [hj] at key ⊢; exact key
    · rename_i hj; simp only [hj] at key ⊢; exact wpIn_ret key
    · rename_i i hj; simp only [hj] at key ⊢; exact wpIn_exit key
    · exact key.elim
end
section
variable {P : Program} {n : Fsz} {Q : Exit → Act → World → Prop} {E : Env} {w : World}
/-- code, a loop over a function in a block, and what stands behind it -/
theorem WX.seqRange {x T : Code} {id : Nat} {g : Operand} {ps : Array Tmp} {asg body : Code} (h : WP P n x (KX n Q fun E1 w1 => ∃ (f : FuncId) (cap : Array Value), ev E1 g = .func (.func f) #[] cap ∧ Callable P f ∧ ∃ J : World → Prop,
      (∀ rec : Loop, rec.state = .ready → rec.pending = none → rec.tmps.size = n.n → (fun t => rec.tmps.getD t undef) = E1 → rec.params = ps → rec.assign = asg → rec.body = body → ∀ W1, Ext [] w1 W1 → W1.heap.size = w1.heap.size + 2 → Blk W1 w1.heap.size (.deferred (some [])) → Blk W1 (w1.heap.size + 1) (.loop rec) →
        Fnc P f (#[.func (.yield (w1.heap.size + 1)) #[] #[]] ++ cap) W1 fun _ w3 => ∃ r : Loop, Blk w3 (w1.heap.size + 1) (.loop r) ∧ r.state ≠ .busy ∧ (r.pending = none ∨ r.pending = some (.exit id)) ∧ ∀ w4, Ext [w1.heap.size + 1] w3 w4 → J w4) ∧
      ∀ w4, J w4 → WX P ⟨n.n, mark w1.heap.size :: n.D⟩ T Q E1 w4) E w) : WX P n (.seq (.seq x (.block id (.rangeFunc g ps asg body))) T) Q E w := by
  refine WX.seqx (WX.seq (WP.mono h ?_ (fun _ _ _ h => h) (fun _ _ h => h)))
  rintro E1 w1 ⟨f, cap, hg, hcal, J, h1, h2⟩
  refine WX.block (WX.range hg hcal ?_)
  intro fn tmps htm hE W1 hx hs hd hl
  refine Fnc.mono (h1 _ rfl rfl htm hE rfl rfl rfl W1 hx hs hd hl) ?_
  rintro v w3 ⟨r, g1, g2, g3, g4⟩
  refine ⟨r, g1, g2, fun w4 hx4 a ha he => ?_⟩
  have key : T.wpIn (Fr none) 1 P Q a w4 := h2 w4 (g4 w4 hx4) a ha he
  rcases g3 with g3 | g3
  · rw [g3]; exact key
  · rw [g3]
    show Exit.inBlock id _ (.exit id) a w4
    simp only [Exit.inBlock, if_true]
    exact key
end
/-! ### A round -/
theorem wpInN {ro : Option Nat} {P : Program} {c : Code} {Q : Exit → Act → World → Prop} {a : Act} {w : World} (n m : Nat) (h : c.wpIn (Fr ro) n P Q a w) : c.wpIn (Fr ro) m P Q a w :=
  fun b k cs hro hb _ => h b k cs hro hb (fun _ hd => by cases hd)
/-- how a round is left -/
def EndR (l : Nat) (R : Value → World → Prop) (jump : Option Code) (w3 : World) : Prop := ∃ r3 : Loop, w3.heap[l]? = some (.loop r3) ∧
  ∀ w4, Ext [l] w3 w4 → w4.heap[l]? = some (.loop { r3 with state := if jump.isNone then .ready else .done, pending := jump }) → R (.bool jump.isNone) w4
theorem EndR.run {P : Program} {l : Nat} {R : Value → World → Prop} {jump : Option Code} {w3 : World} (h : EndR l R jump w3) : ∃ v w', (Instr.endRound l jump).run P w3 = .ok v w' ∧ ∃ u, Ending.returned v = .returned u ∧ R u w' := by
  obtain ⟨r3, h1, h2⟩ := h
  exact ⟨_, _, run_endRound jump h1, _, rfl, h2 _ (ext_putObj w3 l _) (World.putObj_heap_same (heap_lt h1))⟩
theorem round_wp {P : Program} {ro : Option Nat} {N l p1 p2 : Nat} {r : Loop} {E : Env} {w : World} {u v : Value} {R : Value → World → Prop} {J : Env → World → Prop} (hp : r.params = #[p1, p2]) (htm : r.tmps.size = N) (hE : (fun t => r.tmps.getD t undef) = E) (h1 : p1 < N) (h2 : p2 < N)
    (h : WPr (some l) P ⟨N, []⟩ r.assign ⟨J, fun _ _ _ => False, fun _ _ => False⟩ (upd (upd E p1 u) p2 v) w)
    (hJ : ∀ E2 w2, J E2 w2 → ∃ r2 : Loop, w2.heap[l]? = some (.loop r2) ∧ r2.state = .ready ∧ ∀ w2', Ext [l] w2 w2' → w2'.heap[l]? = some (.loop { r2 with state := .busy }) →
      WPr (some l) P ⟨N, []⟩ r.body ⟨fun _ w3 => EndR l R none w3, fun i _ w3 => EndR l R (some (.exit i)) w3, fun _ w3 => EndR l R (some .ret) w3⟩ E2 w2') :
    RoundIn (Fr ro) 0 P l r.fn ((r.params.zip #[u, v]).foldl (fun tmps (x : Nat × Value) => tmps.setIfInBounds x.1 x.2) r.tmps) r.assign r.body w fun e w' => ∃ v, e = .returned v ∧ R v w' := by
  have hz : (r.params.zip #[u, v]).foldl (fun tmps (x : Nat × Value) => tmps.setIfInBounds x.1 x.2) r.tmps = (r.tmps.setIfInBounds p1 u).setIfInBounds p2 v := by
    rw [hp]
    show ([p1, p2].toArray.zip [u, v].toArray).foldl _ _ = _
    simp
  rw [hz]
  have henv : envOf { tmps := (r.tmps.setIfInBounds p1 u).setIfInBounds p2 v, defers := [] } = upd (upd E p1 u) p2 v := by
    have hok : Ok ⟨N, []⟩ { tmps := r.tmps, defers := [] } := ⟨htm, rfl⟩
    have e1 := envOf_put hok (some p1) (by simp [dstOk, Nat.blt]; omega) u
    have e2 := envOf_put (hok.put (some p1) u) (some p2) (by simp [dstOk, Nat.blt]; omega) v
    have e3 : envOf { tmps := r.tmps, defers := [] } = E := hE
    rw [e1, e3] at e2
    exact e2
  refine roundIn_of_wpIn trivial ?_
  have ha := wpInN 1 0 (h { tmps := (r.tmps.setIfInBounds p1 u).setIfInBounds p2 v, defers := [] } ⟨by simpa using htm, rfl⟩ henv)
  refine wpIn_mono ha ?_
  rintro e a1 w1 ⟨hok1, hq⟩
  cases e with
  | normal =>
    obtain ⟨r2, g1, g2, g3⟩ := hJ _ _ hq
    refine ⟨_, run_beginRound g1 g2, ?_⟩
    have hb := wpInN 1 0 (g3 _ (ext_putObj w1 l _) (World.putObj_heap_same (heap_lt g1)) a1 hok1 rfl)
    refine wpIn_mono hb ?_
    rintro e a3 w3 ⟨_, hq3⟩
    cases e with
    | normal => obtain ⟨x, w', q1, q2⟩ := EndR.run (P := P) hq3; exact ⟨x, w', q1, q2⟩
    | ret => obtain ⟨x, w', q1, q2⟩ := EndR.run (P := P) hq3; exact ⟨x, w', q1, q2⟩
    | exit i => obtain ⟨x, w', q1, q2⟩ := EndR.run (P := P) hq3; exact ⟨x, w', q1, q2⟩
    | goto _ => exact hq3.elim
    | panic _ => exact hq3.elim
    | outgrown => exact hq3.elim
  | ret => exact hq.elim
  | exit i => exact hq.elim
  | goto _ => exact hq.elim
  | panic _ => exact hq.elim
  | outgrown => exact hq.elim
section
variable {P : Program} {o : Oper} {E : Env} {w : World}
theorem WL.round {n : Fsz} {ro : Option Nat} {Q : K} {ops : Array Oper} {rest : List Oper} {l : Nat} {f : FuncId} {tmps : Array Value} {asg body : Code} (hs : Sure ops o E) (hd : dstOk n o.dst = true) (h : (execOp (ev E) o).run P w = .ok (.round l f tmps asg body) w)
    (k : RoundIn (Fr ro) 0 P l f tmps asg body w fun e w' => ∃ v, e = .returned v ∧ WLr ro P n ops Q rest (updO E o.dst v) w') : WLr ro P n ops Q (o :: rest) E w := by
  intro a ha he
  unfold wpListIn
  rw [if_pos (hs a.tmps he)]
  refine ⟨fun _ _ => trivial, ?_⟩
  rw [eval_envOf, he, semAt_of h (by simp)]
  refine ⟨fun _ => Nat.le_refl 1, RoundIn.mono k ?_⟩
  rintro e w' ⟨v, rfl, hk⟩
  exact hk (a.put o.dst v) (ha.put _ _) (by rw [envOf_put ha _ hd, he])
/-- the call of a loop's yield, two values handed out -/
theorem WL.yield2 {n : Fsz} {ro : Option Nat} {Q : K} {ops : Array Oper} {rest : List Oper} {l : Nat} {r : Loop} {g x y : Operand} {tys : Array TypeId} {u v : Value} (hs : Sure ops o E) (hd : dstOk n o.dst = true) (ho : o.op = .call ⟨.value g, #[x, y], tys⟩) (hg : ev E g = .func (.yield l) #[] #[]) (hx : ev E x = u) (hy : ev E y = v)
    (hl : w.heap[l]? = some (.loop r)) (hp : r.params.size = 2)
    (k : RoundIn (Fr ro) 0 P l r.fn ((r.params.zip #[u, v]).foldl (fun tmps (x : Nat × Value) => tmps.setIfInBounds x.1 x.2) r.tmps) r.assign r.body w fun e w' => ∃ v, e = .returned v ∧ WLr ro P n ops Q rest (updO E o.dst v) w') : WLr ro P n ops Q (o :: rest) E w := by
  obtain ⟨T, hT⟩ : ∃ T, (r.params.zip #[u, v]).foldl (fun tmps (x : Nat × Value) => tmps.setIfInBounds x.1 x.2) r.tmps = T := ⟨_, rfl⟩
  have hy' : (Instr.yield l #[u, v]).run P w = .ok (.round l r.fn T r.assign r.body) w := by rw [← hT]; exact run_yield (P := P) (args := #[u, v]) hl (by rw [hp]; rfl)
  rw [hT] at k
  refine WL.round hs hd ?_ k
  cases g with
  | func f => simp [ev] at hg
  | _ => simp [execOp, ho, go_sem, hg, hx, hy, hy']
end
/-! ### A function that leaves a mark, or none -/
def PostM (P : Program) (fn : Func) (R : Value → World → Prop) : Exit → Act → World → Prop := bodyPostM (Fr none) 1 P fn (fun e w' => ∃ v, e = .returned v ∧ R v w')
theorem PostM.plain {P : Program} {fn : Func} {R : Value → World → Prop} {a : Act} {w : World} {n : Nat} (hn : fn.ntmps = n) (hok : Ok ⟨n, []⟩ a) (h : resOf fn P (envOf a) w R) : PostM P fn R .ret a w := by
  subst hn
  obtain ⟨v, hr, hR⟩ := h a.tmps hok.1 rfl
  show LeavesInM (Fr none) 1 P fn a.tmps _ a.defers .returning w
  rw [hok.2]
  exact ⟨v, hr, v, rfl, hR⟩
theorem PostM.marked {P : Program} {fn : Func} {R : Value → World → Prop} {a : Act} {w : World} {n d : Nat} (hn : fn.ntmps = n) (hok : Ok ⟨n, [mark d]⟩ a) (hd : w.heap[d]? = some (.deferred (some []))) (h : ∀ w', Ext [d] w w' → resOf fn P (envOf a) w' R) : PostM P fn R .ret a w := by
  subst hn
  obtain ⟨v, hr, hR⟩ := h _ (ext_putObj w d (.deferred none)) a.tmps hok.1 rfl
  show LeavesInM (Fr none) 1 P fn a.tmps _ a.defers .returning w
  rw [hok.2]
  exact ⟨by simp, .inl ⟨d, _, rfl, run_takeDeferred hd, v, hr, v, rfl, hR⟩⟩
theorem Fnc.of_WX {P : Program} {f : FuncId} {fn : Func} {c : Code} {args : Array Value} {w : World} {R : Value → World → Prop} {n : Nat}
    (hf : P.funcs[f]? = some fn) (hb : fn.body = some c) (hn : fn.ntmps = n) (hs : args.size ≤ n)
    (h : ∀ E : Env, (∀ t, t < args.size → E t = args.getD t undef) → WX P ⟨n, []⟩ c (PostM P fn R) E w) : Fnc P f args w R := by
  subst hn
  unfold Fnc
  refine (callsIn_wide (n := 1)).1 (callsIn_of_wp_marks (F := Fr none) hf hb trivial ?_)
  let a : Act := { tmps := args ++ Array.replicate (fn.ntmps - args.size) undef, defers := [] }
  have hok : Ok ⟨fn.ntmps, []⟩ a := ⟨by simp [a]; omega, rfl⟩
  have hE : ∀ t, t < args.size → envOf a t = args.getD t undef := by
    intro t ht
    simp [envOf, a, Array.getD_eq_getD_getElem?, Array.getElem?_append, ht]
  exact h _ hE a hok rfl
end Go.Proofs.Ytplflgclomiihaa.W
