/- Rows without equals, in order: one row of the same elements. Plain. -/
import Derived.Test.YtnhfkdgambncfaaGreatDoorQS26
set_option linter.unusedVariables false
set_option linter.unusedSimpArgs false
set_option linter.unusedSectionVars false
namespace Go.Proofs.YtnhfkdgambncfaaGreatDoor.XT
section
variable {α : Type} [DecidableEq α] {lt : α → α → Bool}
structure Ord1 (lt : α → α → Bool) : Prop where
  irr : ∀ x, lt x x = false
  tr : ∀ x y z, lt x y = true → lt y z = true → lt x z = true
  tot : ∀ x y, x ≠ y → lt x y = true ∨ lt y x = true
/-- runs of equals become one -/
def dd : Option α → List α → List α
  | _, [] => []
  | p, x :: r => if p = some x then dd p r else x :: dd (some x) r
theorem dd_mem : ∀ (xs : List α) (p : Option α) (a : α), a ∈ dd p xs → a ∈ xs
  | [], _, _, h => h
  | x :: r, p, a, h => by
    rw [dd] at h
    split at h
    · exact List.mem_cons_of_mem _ (dd_mem r p a h)
    · rcases List.mem_cons.1 h with rfl | h
      · exact List.mem_cons_self
      · exact List.mem_cons_of_mem _ (dd_mem r _ a h)
theorem dd_all : ∀ (xs : List α) (p : Option α) (a : α), a ∈ xs → p = some a ∨ a ∈ dd p xs
  | x :: r, p, a, h => by
    rw [dd]
    by_cases e : p = some x
    · rw [if_pos e]
      rcases List.mem_cons.1 h with rfl | h
      · exact .inl e
      · exact dd_all r p a h
    · rw [if_neg e]
      rcases List.mem_cons.1 h with rfl | h
      · exact .inr List.mem_cons_self
      · rcases dd_all r (some x) a h with k | k
        · cases k; exact .inr List.mem_cons_self
        · exact .inr (List.mem_cons_of_mem _ k)
theorem dd_strict (o : Ord1 lt) : ∀ (xs : List α) (p : Option α), xs.Pairwise (fun x y => lt y x = false) → (∀ q, p = some q → ∀ y ∈ xs, lt y q = false) → (dd p xs).Pairwise (fun x y => lt x y = true) ∧ ∀ q, p = some q → ∀ y ∈ dd p xs, lt q y = true
  | [], p, _, _ => ⟨List.Pairwise.nil, fun q _ y hy => by cases hy⟩
  | x :: r, p, h, hp => by
    obtain ⟨h1, h2⟩ := List.pairwise_cons.1 h
    rw [dd]
    by_cases e : p = some x
    · rw [if_pos e]
      exact dd_strict o r p h2 fun q hq y hy => hp q hq y (List.mem_cons_of_mem _ hy)
    · rw [if_neg e]
      obtain ⟨k1, k2⟩ := dd_strict o r (some x) h2 fun q hq y hy => by cases hq; exact h1 y hy
      refine ⟨List.pairwise_cons.2 ⟨k2 x rfl, k1⟩, fun q hq y hy => ?_⟩
      have hqx : lt q x = true := by
        rcases o.tot q x (fun k => e (by rw [hq, k])) with k | k
        · exact k
        · rw [hp q hq x List.mem_cons_self] at k; cases k
      rcases List.mem_cons.1 hy with rfl | hy
      · exact hqx
      · exact o.tr _ _ _ hqx (k2 x rfl y hy)
theorem strict_one (o : Ord1 lt) : ∀ (xs ys : List α), xs.Pairwise (fun x y => lt x y = true) → ys.Pairwise (fun x y => lt x y = true) → (∀ a, a ∈ xs ↔ a ∈ ys) → xs = ys
  | [], [], _, _, _ => rfl
  | [], y :: s, _, _, h => by have := (h y).2 List.mem_cons_self; cases this
  | x :: r, [], _, _, h => by have := (h x).1 List.mem_cons_self; cases this
  | x :: r, y :: s, hx, hy, h => by
    obtain ⟨x1, x2⟩ := List.pairwise_cons.1 hx
    obtain ⟨y1, y2⟩ := List.pairwise_cons.1 hy
    have no : ∀ {a b : α}, lt a b = true → lt b a = true → False := fun h1 h2 => by
      have := o.tr _ _ _ h1 h2; rw [o.irr] at this; cases this
    have e : x = y := by
      rcases List.mem_cons.1 ((h x).1 List.mem_cons_self) with k | k
      · exact k
      · rcases List.mem_cons.1 ((h y).2 List.mem_cons_self) with k2 | k2
        · exact k2.symm
        · exact (no (y1 x k) (x1 y k2)).elim
    subst e
    rw [strict_one o r s x2 y2 fun a => ?_]
    constructor
    · intro ha
      rcases List.mem_cons.1 ((h a).1 (List.mem_cons_of_mem _ ha)) with k | k
      · subst k; have := x1 a ha; rw [o.irr] at this; cases this
      · exact k
    · intro ha
      rcases List.mem_cons.1 ((h a).2 (List.mem_cons_of_mem _ ha)) with k | k
      · subst k; have := y1 a ha; rw [o.irr] at this; cases this
      · exact k
/-- put in its place, if it is not there -/
def insU (lt : α → α → Bool) (x : α) : List α → List α
  | [] => [x]
  | y :: r => if lt y x = true then y :: insU lt x r else if y = x then y :: r else x :: y :: r
def risL (lt : α → α → Bool) (xs : List α) : List α := xs.foldl (fun out x => insU lt x out) []
theorem insU_mem (x : α) : ∀ (out : List α) (a : α), a ∈ insU lt x out ↔ a = x ∨ a ∈ out
  | [], a => by simp [insU]
  | y :: r, a => by
    rw [insU]
    by_cases h : lt y x = true
    · rw [if_pos h, List.mem_cons, insU_mem x r a, List.mem_cons]
      constructor
      · rintro (k | k | k)
        · exact .inr (.inl k)
        · exact .inl k
        · exact .inr (.inr k)
      · rintro (k | k | k)
        · exact .inr (.inl k)
        · exact .inl k
        · exact .inr (.inr k)
    · rw [if_neg h]
      by_cases e : y = x
      · rw [if_pos e]; subst e; simp
      · rw [if_neg e]; simp
theorem insU_strict (o : Ord1 lt) (x : α) : ∀ (out : List α), out.Pairwise (fun x y => lt x y = true) → (insU lt x out).Pairwise (fun x y => lt x y = true)
  | [], _ => by simp [insU]
  | y :: r, h => by
    obtain ⟨h1, h2⟩ := List.pairwise_cons.1 h
    rw [insU]
    by_cases k : lt y x = true
    · rw [if_pos k]
      refine List.pairwise_cons.2 ⟨fun a ha => ?_, insU_strict o x r h2⟩
      rcases (insU_mem x r a).1 ha with rfl | ha
      · exact k
      · exact h1 a ha
    · rw [if_neg k]
      by_cases e : y = x
      · rw [if_pos e]; exact h
      · rw [if_neg e]
        have hxy : lt x y = true := (o.tot x y fun h => e h.symm).resolve_right k
        exact List.pairwise_cons.2 ⟨fun a ha => by
          rcases List.mem_cons.1 ha with rfl | ha
          · exact hxy
          · exact o.tr _ _ _ hxy (h1 a ha), h⟩
theorem ris_snoc (xs : List α) (x : α) : risL lt (xs ++ [x]) = insU lt x (risL lt xs) := by unfold risL; rw [List.foldl_append]; rfl
theorem ris_spec (o : Ord1 lt) (xs : List α) : (risL lt xs).Pairwise (fun x y => lt x y = true) ∧ ∀ a, a ∈ risL lt xs ↔ a ∈ xs := by
  unfold risL
  have key : ∀ (ys out : List α), out.Pairwise (fun x y => lt x y = true) → (ys.foldl (fun out x => insU lt x out) out).Pairwise (fun x y => lt x y = true) ∧ ∀ a, a ∈ ys.foldl (fun out x => insU lt x out) out ↔ a ∈ ys ∨ a ∈ out := by
    intro ys
    induction ys with
    | nil => exact fun out h => ⟨h, fun a => by simp⟩
    | cons y r ih =>
      intro out h
      obtain ⟨k1, k2⟩ := ih (insU lt y out) (insU_strict o y out h)
      refine ⟨k1, fun a => ?_⟩
      rw [List.foldl_cons, k2 a, insU_mem, List.mem_cons]
      constructor
      · rintro (k | k | k)
        · exact .inl (.inr k)
        · exact .inl (.inl k)
        · exact .inr k
      · rintro ((k | k) | k)
        · exact .inr (.inl k)
        · exact .inl k
        · exact .inr (.inr k)
  obtain ⟨k1, k2⟩ := key xs [] List.Pairwise.nil
  exact ⟨k1, fun a => by rw [k2 a]; simp⟩
/-- sorted and each once: as put in one by one -/
theorem dd_ris (o : Ord1 lt) {xs ys : List α} (h : ys.Pairwise (fun x y => lt y x = false)) (hm : ∀ a, a ∈ ys ↔ a ∈ xs) : dd none ys = risL lt xs := by
  obtain ⟨r1, r2⟩ := ris_spec o xs
  obtain ⟨d1, _⟩ := dd_strict o ys none h (fun q hq => by cases hq)
  refine strict_one o _ _ d1 r1 fun a => ?_
  rw [r2 a, ← hm a]
  exact ⟨dd_mem ys none a, fun ha => (dd_all ys none a ha).resolve_left (by simp)⟩
/-- where the search from the end stops -/
theorem insU_at (o : Ord1 lt) {x : α} : ∀ {out : List α} {k : Nat}, out.Pairwise (fun x y => lt x y = true) → k ≤ out.length → (∀ j (h : j < out.length), k ≤ j → lt x out[j] = true) → (∀ (h : k - 1 < out.length), 0 < k → lt x out[k - 1] = false) →
    (∀ (h : k - 1 < out.length), 0 < k → out[k - 1] = x → insU lt x out = out) ∧ ((∀ (h : k - 1 < out.length), 0 < k → out[k - 1] ≠ x) → insU lt x out = out.take k ++ x :: out.drop k)
  | [], k, _, hk, _, _ => by
    have : k = 0 := by simpa using hk
    subst this
    exact ⟨fun h => by simp at h, fun _ => rfl⟩
  | y :: r, 0, hs, _, hg, _ => by
    have hy : lt x y = true := hg 0 (by simp) (Nat.le_refl _)
    have hn : ¬ lt y x = true := fun h => by have := o.tr _ _ _ hy h; rw [o.irr] at this; cases this
    have he : ¬ y = x := fun h => by subst h; rw [o.irr] at hy; cases hy
    refine ⟨fun _ h => absurd h (Nat.lt_irrefl _), fun _ => ?_⟩
    rw [insU, if_neg hn, if_neg he]; rfl
  | y :: r, k + 1, hs, hk, hg, hl => by
    obtain ⟨h1, h2⟩ := List.pairwise_cons.1 hs
    have hk' : k ≤ r.length := by simpa using hk
    cases k with
    | zero =>
      have hy : lt x y = false := hl (by simp) (by omega)
      constructor
      · intro _ _ e
        have e : y = x := e
        rw [insU, if_neg (by rw [e, o.irr]; simp), if_pos e]
      · intro hne
        have hne : y ≠ x := hne (by simp) (by omega)
        have hyx : lt y x = true := (o.tot y x hne).resolve_right (by rw [hy]; simp)
        rw [insU, if_pos hyx]
        obtain ⟨_, q2⟩ := insU_at o (out := r) (k := 0) h2 (Nat.zero_le _) (fun j hj _ => hg (j + 1) (by simpa using hj) (by omega)) (fun _ h => absurd h (Nat.lt_irrefl _))
        rw [q2 (fun _ h => absurd h (Nat.lt_irrefl _))]
        rfl
    | succ k =>
      have hlen : k < r.length := by omega
      have hrk : lt x r[k] = false := hl (by simp; omega) (by omega)
      have hyr : lt y r[k] = true := h1 _ (List.getElem_mem hlen)
      have hyx : lt y x = true := by
        by_cases e : r[k] = x
        · rw [← e]; exact hyr
        · exact o.tr _ _ _ hyr ((o.tot _ _ e).resolve_right (by rw [hrk]; simp))
      obtain ⟨q1, q2⟩ := insU_at o (out := r) (k := k + 1) h2 hk' (fun j hj hkj => hg (j + 1) (by simpa using hj) (by omega)) (fun _ _ => hrk)
      constructor
      · intro _ _ e
        rw [insU, if_pos hyx, q1 (by simpa using hlen) (by omega) e]
      · intro hne
        rw [insU, if_pos hyx, q2 (fun h _ => hne (by simp; omega) (by omega))]
        rfl
end
end Go.Proofs.YtnhfkdgambncfaaGreatDoor.XT
