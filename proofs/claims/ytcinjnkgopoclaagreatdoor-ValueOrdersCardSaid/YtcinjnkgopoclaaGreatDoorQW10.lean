/- Draw regions whose calls make memory: one fact an operation, whatever the order. Program-agnostic. -/
import Derived.Test.YtcinjnkgopoclaaGreatDoorQW5x
set_option linter.unusedVariables false
set_option linter.unusedSimpArgs false
set_option linter.unusedSectionVars false
namespace Go.Proofs.YtcinjnkgopoclaaGreatDoor.W
open Go.RowKit

def chkDst (n : Fsz) (l : List Oper) : Bool := l.all fun o => dstOk n o.dst
def chkApart (l : List Oper) : Bool := (List.range l.length).all fun i => (List.range l.length).all fun j => decide (i = j) || !(dstAt l i).isSome || !(dstAt l i == dstAt l j)
def chkBack (l : List Oper) : Bool := (List.range l.length).all fun i => match l[i]? with
  | some o => o.after.toList.all fun e => !Region.binds .any e || decide (e.on < i)
  | none => true
def noDst (l : List Oper) (t : Nat) : Bool := (List.range l.length).all fun i => !(dstAt l i == some t)
def hasPred (o : Oper) (k : Nat) : Bool := o.after.toList.any fun e => Region.binds .any e && decide (e.on = k)
theorem lt_of_some {l : List Oper} {i : Nat} {o : Oper} (h : l[i]? = some o) : i < l.length := by
  rcases Nat.lt_or_ge i l.length with h1 | h1
  · exact h1
  · rw [List.getElem?_eq_none h1] at h; cases h
theorem lt_of_dst {l : List Oper} {i d : Nat} (h : dstAt l i = some d) : i < l.length := by
  unfold dstAt at h
  cases ho : l[i]? with
  | none => rw [ho] at h; cases h
  | some o => exact lt_of_some ho
theorem apart_of {l : List Oper} (h : chkApart l = true) : ∀ (i j d : Nat), dstAt l i = some d → dstAt l j = some d → i = j := by
  intro i j d hi hj
  simp only [chkApart, List.all_eq_true, List.mem_range] at h
  have := h i (lt_of_dst hi) j (lt_of_dst hj)
  simpa [hi, hj] using this
theorem back_of {l : List Oper} (h : chkBack l = true) : ∀ (i : Nat) (o : Oper), l[i]? = some o → ∀ e ∈ o.after.toList, Region.binds .any e = true → e.on < i := by
  intro i o ho e he hb
  simp only [chkBack, List.all_eq_true, List.mem_range] at h
  have := h i (lt_of_some ho)
  rw [ho] at this
  have := List.all_eq_true.1 this e he
  simpa [hb] using this
theorem noDst_ne {l : List Oper} {t : Nat} (h : noDst l t = true) : ∀ j, dstAt l j ≠ some t := by
  intro j hj
  simp only [noDst, List.all_eq_true, List.mem_range] at h
  have := h j (lt_of_dst hj)
  simp [hj] at this

/-- facts that stay when memory is made -/
def Stab (f : Value → World → Prop) : Prop := ∀ v w w', Ext [] w w' → f v w → f v w'
theorem Stab.eq (c : Value) : Stab fun v _ => v = c := fun _ _ _ _ h => h
theorem Stab.sl {α : Type} {R : Rep α} {X : List Nat} {xs : List α} : Stab fun v w => Sl R X w v xs := fun _ _ _ k h => h.ext (Ext.any k)
def AllStab : List (Value → World → Prop) → Prop
  | [] => True
  | f :: r => Stab f ∧ AllStab r
def FL (fs : List (Value → World → Prop)) (i : Nat) (v : Value) (w : World) : Prop := match fs[i]? with
  | some f => f v w
  | none => True
theorem FL.stab {fs : List (Value → World → Prop)} (h : AllStab fs) (i : Nat) {v : Value} {w w' : World} (k : Ext [] w w') (hf : FL fs i v w) : FL fs i v w' := by
  induction fs generalizing i with
  | nil => simp [FL]
  | cons f r ih =>
    cases i with
    | zero => exact h.1 _ _ _ k hf
    | succ i => exact ih h.2 i hf

/-- what is to be shown of operation i -/
def AnyStep (P : Program) (l : List Oper) (E : Env) (w : World) (fs : List (Value → World → Prop)) (i : Nat) (o : Oper) : Prop :=
  ∀ (E' : Env) (w' : World), Ext [] w w' → (∀ t, noDst l t = true → E' t = E t) → (∀ k, hasPred o k = true → holdsF l (FL fs) k E' w') →
    (Shut l.toArray o E' ∧ FL fs i undef w') ∨ (Sure l.toArray o E' ∧ ((∃ v, OpV P o E' w' v ∧ FL fs i v w') ∨ ∃ f args, OpC P o E' w' f args ∧ Fnc P f args w' fun v w'' => Ext [] w' w'' ∧ FL fs i v w''))
def AnySteps (P : Program) (l : List Oper) (E : Env) (w : World) (fs : List (Value → World → Prop)) : Nat → List Oper → Prop
  | _, [] => True
  | i, o :: r => AnyStep P l E w fs i o ∧ AnySteps P l E w fs (i + 1) r
theorem AnySteps.get {P : Program} {l : List Oper} {E : Env} {w : World} {fs : List (Value → World → Prop)} {i : Nat} {r : List Oper} (h : AnySteps P l E w fs i r) {j : Nat} {o : Oper} (hj : r[j]? = some o) : AnyStep P l E w fs (i + j) o := by
  induction r generalizing i j with
  | nil => simp at hj
  | cons a r ih =>
    cases j with
    | zero => simp only [List.getElem?_cons_zero, Option.some.injEq] at hj; subst hj; exact h.1
    | succ j =>
      have := ih h.2 (j := j) (by simpa using hj)
      rwa [show i + 1 + j = i + (j + 1) from by omega] at this
theorem WP.anyMake {P : Program} {n : Fsz} {id : Nat} {l : List Oper} {E : Env} {w : World} {N R : Env → World → Prop} {X : Nat → Env → World → Prop} (fs : List (Value → World → Prop)) (hm : P.follows .mixedOrders = true)
    (h1 : chkDst n l = true) (h2 : chkApart l = true) (h3 : chkBack l = true) (hs : AllStab fs) (steps : AnySteps P l E w fs 0 l)
    (fin : ∀ E' w', Ext [] w w' → (∀ t, noDst l t = true → E' t = E t) → (∀ i, i < l.length → holdsF l (FL fs) i E' w') → N E' w') : WP P n (.region id l.toArray true) ⟨N, X, R⟩ E w := by
  refine WP.any (fun w' => Ext [] w w') (FL fs) hm (fun d => ⟨rfl, rfl, rfl, Nat.le_refl _, fun _ _ _ => rfl⟩) ⟨?_, apart_of h2, back_of h3, ?_⟩ (fun E' w' hI hE hF => fin E' w' hI (fun t ht => hE t (noDst_ne ht)) hF)
  · intro i o ho
    simp only [chkDst, List.all_eq_true] at h1
    exact h1 o (List.mem_of_getElem? ho)
  · intro i o ho E' w' hI hE hF
    have st := steps.get (j := i) ho
    rw [Nat.zero_add] at st
    have hp : ∀ k, hasPred o k = true → holdsF l (FL fs) k E' w' := by
      intro k hk
      simp only [hasPred, List.any_eq_true, Bool.and_eq_true, decide_eq_true_eq] at hk
      obtain ⟨e, he, hb, rfl⟩ := hk
      exact hF e he hb
    rcases st E' w' hI (fun t ht => hE t fun j hj => absurd hj (noDst_ne ht j)) hp with ⟨hs', hf⟩ | ⟨hs', hv | hc⟩
    · exact .inl ⟨hs', hf⟩
    · obtain ⟨v, hv, hf⟩ := hv
      exact .inr ⟨hs', .inl ⟨v, w', OpV.x hv, hI, hf, fun _ _ _ h => h⟩⟩
    · obtain ⟨f, args, hc, hf⟩ := hc
      exact .inr ⟨hs', .inr ⟨f, args, hc, Fnc.mono hf fun v w'' ⟨hx, hq⟩ => ⟨hI.trans hx, hq, fun j u _ hj => FL.stab hs j hx hj⟩⟩⟩
theorem bsplit {c : Bool} {p : Prop} (t : c = true → p) (f : c = false → p) : p := by
  cases c with
  | true => exact t rfl
  | false => exact f rfl
end Go.Proofs.YtcinjnkgopoclaaGreatDoor.W
