/- The symbolic evaluator is right: patterns of loops. Program-agnostic. -/
import Derived.Test.YtbbjonjhaoeidaaDoorOS16
set_option linter.unusedVariables false
set_option linter.unusedSimpArgs false
namespace Go.Proofs.YtbbjonjhaoeidaaDoor.Sv
open Go.RowKit Go.Proofs.YtbbjonjhaoeidaaDoor.W
variable {Γ : Gl}

/-! ### Layers -/
theorem small_ok {l : List Nat} (h : small l = true) : ∀ k ∈ l, k < 1000000 := fun k hk => blt_t (List.all_eq_true.1 h k hk)
theorem small_cons {k : Nat} {r : List Nat} (h : small (k :: r) = true) : k < 1000000 ∧ small r = true := by
  simp only [small, List.all_cons, Bool.and_eq_true] at h
  exact ⟨blt_t h.1, h.2⟩
theorem setsT_get {α : Type} : ∀ (l : List (Nat × α)) (t : Tr (Option α)) (k : Nat), small (l.map (·.1)) = true → (∃ x, (setsT t l).get k = some (some x) ∧ (k, x) ∈ l) ∨ (k ∉ l.map (·.1) ∧ (setsT t l).get k = t.get k)
  | [], t, k, _ => .inr ⟨by simp, rfl⟩
  | (j, x) :: r, t, k, h => by
    obtain ⟨h1, h2⟩ := small_cons h
    rcases setsT_get r (Tr.set 24 t j (some (some x))) k h2 with ⟨y, h3, h4⟩ | ⟨h3, h4⟩
    · exact .inl ⟨y, h3, List.mem_cons_of_mem _ h4⟩
    · rw [Tr.get_set _ _ _ _ h1] at h4
      by_cases e : k = j
      · subst e
        rw [if_pos rfl] at h4
        exact .inl ⟨x, h4, by simp⟩
      · rw [if_neg e] at h4
        exact .inr ⟨by simp [e]; simpa using h3, h4⟩
theorem delsT_get {α : Type} : ∀ (l : List Nat) (t : Tr (Option α)) (k : Nat), small l = true → (k ∈ l ∧ (delsT t l).get k = some none) ∨ (k ∉ l ∧ (delsT t l).get k = t.get k)
  | [], t, k, _ => .inr ⟨by simp, rfl⟩
  | j :: r, t, k, h => by
    obtain ⟨h1, h2⟩ := small_cons h
    rcases delsT_get r (Tr.set 24 t j (some none)) k h2 with ⟨h3, h4⟩ | ⟨h3, h4⟩
    · exact .inl ⟨List.mem_cons_of_mem _ h3, h4⟩
    · rw [Tr.get_set _ _ _ _ h1] at h4
      by_cases e : k = j
      · subst e
        rw [if_pos rfl] at h4
        exact .inl ⟨by simp, h4⟩
      · rw [if_neg e] at h4
        exact .inr ⟨by simp [e, h3], h4⟩
theorem head_get {α : Type} {L : Ly α} {kill : List Nat} {sl : List (Nat × α)} {k : Nat} {x : α} (h1 : small kill = true) (h2 : small (sl.map (·.1)) = true) (h : Ly.get (.nil :: setsT (delsT .nil kill) sl :: L) k = some x) : (k, x) ∈ sl ∨ (k ∉ sl.map (·.1) ∧ k ∉ kill ∧ L.get k = some x) := by
  unfold Ly.get at h ⊢
  cases hk : Nat.blt k 1000000 with
  | false => rw [hk] at h; cases h
  | true =>
  rw [hk] at h
  simp only [cond_true, Ly.go, Tr.get] at h ⊢
  rcases setsT_get sl (delsT .nil kill) k h2 with ⟨y, h3, h4⟩ | ⟨h3, h4⟩
  · rw [h3] at h; cases h; exact .inl h4
  · rw [h4] at h
    rcases delsT_get kill (.nil : Tr (Option α)) k h1 with ⟨h5, h6⟩ | ⟨h5, h6⟩
    · rw [h6] at h; cases h
    · rw [h6] at h; exact .inr ⟨h3, h5, h⟩
theorem bare_get {α : Type} : ∀ {t : Tr α}, t.bare = true → ∀ k, t.get k = none
  | .nil, _, _ => rfl
  | .node l v r, h, k => by
    simp only [Tr.bare, Bool.and_eq_true] at h
    simp only [Tr.get]
    cases Nat.beq k 0 with
    | true =>
      simp only [cond_true]
      cases v with
      | none => rfl
      | some x => exact absurd h.1.1 (by simp)
    | false =>
      simp only [cond_false]
      cases Nat.beq (Nat.mod k 2) 1 with
      | true => exact bare_get h.1.2 _
      | false => exact bare_get h.2 _
theorem clear_get {α : Type} : ∀ (ks : List Nat) (t : Tr α) (k : Nat), small ks = true → k ∉ ks → (t.clear ks).get k = t.get k
  | [], _, _, _, _ => rfl
  | j :: r, t, k, h, hk => by
    obtain ⟨h1, h2⟩ := small_cons h
    simp only [List.mem_cons, not_or] at hk
    simp only [Tr.clear]
    rw [clear_get r _ k h2 hk.2, Tr.get_set _ _ _ _ h1, if_neg hk.1]
theorem bare_go {α : Type} : ∀ (Ls : Ly α) (L : Ly α) (ks : List Nat) (k : Nat), small ks = true → k ∉ ks → allBare ks Ls = true → (Ls ++ L).go k = L.go k
  | [], _, _, _, _, _, _ => rfl
  | t :: r, L, ks, k, hs, hk, h => by
    simp only [allBare, Bool.and_eq_true] at h
    have := bare_get h.1 k
    rw [clear_get ks t k hs hk] at this
    simp only [List.cons_append, Ly.go, this]
    exact bare_go r L ks k hs hk h.2
theorem only_ok {α : Type} {L L' : Ly α} {a b : Tr (Option α)} {ks : List Nat} (h : only L L' ks = true) (hs : Suf (a :: b :: L) L') : ∀ k, k ∉ ks → L'.get k = L.get k := by
  intro k hk
  unfold only at h
  simp only [Bool.and_eq_true] at h
  obtain ⟨⟨h1, h2⟩, h3⟩ := h
  obtain ⟨T, tl, Ls, T', e, rfl⟩ := hs
  cases e
  have hsplit : Ls ++ T' :: b :: L = (Ls ++ [T', b]) ++ L := by simp
  rw [hsplit] at h3 ⊢
  rw [List.length_append, Nat.add_sub_cancel, List.take_left] at h3
  unfold Ly.get
  rw [bare_go _ L ks k h1 hk h3]

/-! ### Names -/
mutual
theorem Rel.ids {s : Sg} {n : Nat} (hd : ∀ l, n ≤ l → s.f l = none) : ∀ (a : AV) (v : Value), Rel s a v → idsA n a = true
  | .v _, _, _ => by simp only [idsA]
  | .dl _ _ _, _, _ => by simp only [idsA]
  | .e0, _, _ => by simp only [idsA]
  | .pd _ _ _, _, _ => by simp only [idsA]
  | .ptr l _, _, h => by
    simp only [Rel] at h; obtain ⟨p, hp, _⟩ := h
    simp only [idsA]; refine Nat.ble_eq_true_of_le (Nat.lt_of_not_le fun hl => ?_); rw [hd l hl] at hp; cases hp
  | .sl l _ _ _, _, h => by
    simp only [Rel] at h; obtain ⟨p, hp, _⟩ := h
    simp only [idsA]; refine Nat.ble_eq_true_of_le (Nat.lt_of_not_le fun hl => ?_); rw [hd l hl] at hp; cases hp
  | .ow l _, _, h => by
    simp only [Rel] at h; obtain ⟨p, hp, _⟩ := h
    simp only [idsA]; refine Nat.ble_eq_true_of_le (Nat.lt_of_not_le fun hl => ?_); rw [hd l hl] at hp; cases hp
  | .oc l _, _, h => by
    simp only [Rel] at h; obtain ⟨p, hp, _⟩ := h
    simp only [idsA]; refine Nat.ble_eq_true_of_le (Nat.lt_of_not_le fun hl => ?_); rw [hd l hl] at hp; cases hp
  | .vw l _ _ _, _, h => by
    simp only [Rel] at h; obtain ⟨p, hp, _⟩ := h
    simp only [idsA]; refine Nat.ble_eq_true_of_le (Nat.lt_of_not_le fun hl => ?_); rw [hd l hl] at hp; cases hp
  | .pe l _ _ _ _ _, _, h => by
    simp only [Rel] at h; obtain ⟨p, hp, _⟩ := h
    simp only [idsA]; refine Nat.ble_eq_true_of_le (Nat.lt_of_not_le fun hl => ?_); rw [hd l hl] at hp; cases hp
  | .agg cs, _, h => by simp only [Rel] at h; obtain ⟨vs, h, _⟩ := h; simp only [idsA]; exact RelL.ids hd cs vs h
  | .tup cs, _, h => by simp only [Rel] at h; obtain ⟨vs, h, _⟩ := h; simp only [idsA]; exact RelL.ids hd cs vs h
  | .fn _ cs, _, h => by simp only [Rel] at h; obtain ⟨vs, h, _⟩ := h; simp only [idsA]; exact RelL.ids hd cs vs h
theorem RelL.ids {s : Sg} {n : Nat} (hd : ∀ l, n ≤ l → s.f l = none) : ∀ (as' : List AV) (vs : List Value), RelL s as' vs → idsAs n as' = true
  | [], _, _ => by simp only [idsAs]
  | a :: r, _, h => by
    obtain ⟨v, vs', h1, h2, rfl⟩ := h.uncons
    simp only [idsAs, Bool.and_eq_true]; exact ⟨Rel.ids hd a v h1, RelL.ids hd r vs' h2⟩
end
/-- s' has under each name below n what s has under the name that it stands for -/
structure Ren (s s' : Sg) (ρ : Nat → Nat) (n : Nat) : Prop where
  f : ∀ l, l < n → ∀ p, s.f (ρ l) = some p → s'.f l = some p
  H : ∀ m, Sub (s.H m) (s'.H m)
mutual
theorem Rel.ren {s s' : Sg} {ρ : Nat → Nat} {n : Nat} (hr : Ren s s' ρ n) : ∀ (a : AV) (v : Value), idsA n a = true → Rel s (renA ρ a) v → Rel s' a v
  | .v _, _, _, h => by simpa only [renA, Rel] using h
  | .dl m t xs, _, _, h => by simp only [renA, Rel] at h ⊢; exact h.mono (hr.H m) fun x us hx => Rd.mono (hr.H m) t x us hx
  | .e0, _, _, h => by simpa only [renA, Rel] using h
  | .pd m t d, _, _, h => by simp only [renA, Rel] at h ⊢; obtain ⟨b, k, cs, h1, h2, h3⟩ := h; exact ⟨b, k, cs, h1, h2.mono (hr.H m), Rd.mono (hr.H m) t d cs h3⟩
  | .ptr l _, _, hi, h => by simp only [idsA] at hi; simp only [renA, Rel] at h ⊢; obtain ⟨p, h1, h2⟩ := h; exact ⟨p, hr.f l (blt_t hi) p h1, h2⟩
  | .sl l _ _ _, _, hi, h => by simp only [idsA] at hi; simp only [renA, Rel] at h ⊢; obtain ⟨p, h1, h2⟩ := h; exact ⟨p, hr.f l (blt_t hi) p h1, h2⟩
  | .ow l _, _, hi, h => by simp only [idsA] at hi; simp only [renA, Rel] at h ⊢; obtain ⟨p, h1, h2⟩ := h; exact ⟨p, hr.f l (blt_t hi) p h1, h2⟩
  | .oc l _, _, hi, h => by simp only [idsA] at hi; simp only [renA, Rel] at h ⊢; obtain ⟨p, h1, h2⟩ := h; exact ⟨p, hr.f l (blt_t hi) p h1, h2⟩
  | .vw l _ _ _, _, hi, h => by simp only [idsA] at hi; simp only [renA, Rel] at h ⊢; obtain ⟨p, h1, h2⟩ := h; exact ⟨p, hr.f l (blt_t hi) p h1, h2⟩
  | .pe l _ _ _ _ _, _, hi, h => by simp only [idsA] at hi; simp only [renA, Rel] at h ⊢; obtain ⟨p, h1, h2⟩ := h; exact ⟨p, hr.f l (blt_t hi) p h1, h2⟩
  | .agg cs, _, hi, h => by simp only [idsA] at hi; simp only [renA, Rel] at h ⊢; obtain ⟨vs, h1, h2⟩ := h; exact ⟨vs, RelL.ren hr cs vs hi h1, h2⟩
  | .tup cs, _, hi, h => by simp only [idsA] at hi; simp only [renA, Rel] at h ⊢; obtain ⟨vs, h1, h2⟩ := h; exact ⟨vs, RelL.ren hr cs vs hi h1, h2⟩
  | .fn _ cs, _, hi, h => by simp only [idsA] at hi; simp only [renA, Rel] at h ⊢; obtain ⟨vs, h1, h2⟩ := h; exact ⟨vs, RelL.ren hr cs vs hi h1, h2⟩
theorem RelL.ren {s s' : Sg} {ρ : Nat → Nat} {n : Nat} (hr : Ren s s' ρ n) : ∀ (as' : List AV) (vs : List Value), idsAs n as' = true → RelL s (renAs ρ as') vs → RelL s' as' vs
  | [], _, _, h => by simpa only [renAs, RelL] using h
  | a :: r, _, hi, h => by
    simp only [idsAs, Bool.and_eq_true] at hi
    simp only [renAs] at h
    obtain ⟨v, vs', h1, h2, rfl⟩ := h.uncons
    exact RelL.cons (Rel.ren hr a v hi.1 h1) (RelL.ren hr r vs' hi.2 h2)
end
def renX (ρ : Nat → Nat) : AX → AX
  | .c e cs => .c e (renAs ρ cs)
  | .q e t xs => .q e t xs
theorem ObjAt.ren {s s' : Sg} {ρ : Nat → Nat} {n : Nat} {w : World} {p : Loc} (hr : Ren s s' ρ n) {x : AX} (hi : idsX n x = true) (h : ObjAt s w p (renX ρ x)) : ObjAt s' w p x := by
  cases x with
  | c e cs => obtain ⟨vs, h1, h2⟩ := h; exact ⟨vs, h1, RelL.ren hr cs vs hi h2⟩
  | q e t xs =>
    obtain ⟨h1, h2, h3, h4⟩ := h
    refine ⟨h1, h2, h3, fun hc => ?_⟩
    obtain ⟨cur, h5, h6, h7, h8⟩ := h4 hc
    exact ⟨cur, h5, h6, h7, fun i x hi => Rd.mono (hr.H true) t x _ (h8 i x hi)⟩
theorem renX_id (x : AX) : renX (fun l => l) x = x := by cases x <;> simp [renX, renAs_id]
theorem there_ren {ρ : Nat → Nat} {x : AX} {p : Loc} : there (renX ρ x) p ↔ there x p := by cases x <;> exact Iff.rfl
theorem isBox_ren {ρ : Nat → Nat} {x : AX} : isBox (renX ρ x) = isBox x := by cases x <;> rfl
theorem eqX_ok {ρ : Nat → Nat} {x c : AX} {ps : Ps} (h : eqX ρ x c = some ps) (hp : ∀ p ∈ ps, p) : c = renX ρ x := by
  unfold eqX at h
  split at h
  · rename_i e cs e' cs'
    cases hc : Nat.beq e e' with
    | false => rw [hc] at h; cases h
    | true => rw [hc] at h; simp only [renX]; rw [beq_t hc, eqAs_ok h hp]
  · rename_i e t xs e' t' xs'
    cases hc : (Nat.beq e e' && t.beq t') with
    | false => rw [hc] at h; cases h
    | true =>
    rw [hc] at h
    cases h
    simp only [Bool.and_eq_true] at hc
    simp only [renX]
    rw [beq_t hc.1, DT.beq_ok hc.2, hp _ (List.mem_singleton.2 rfl)]
  · cases h
theorem eqSl_ok {ρ : Nat → Nat} {A : AE} : ∀ {sl : List (Nat × AV)} {ps : Ps}, eqSl ρ A sl = some ps → (∀ p ∈ ps, p) → ∀ t h, (t, h) ∈ sl → A.get t = some (renA ρ h)
  | [], _, _, _, _, _, hm => by simp at hm
  | (t0, h0) :: r, ps, h, hp, t, a, hm => by
    simp only [eqSl] at h
    split at h
    case h_2 => cases h
    rename_i c hc
    split at h
    case h_2 => cases h
    rename_i ps1 ps2 h1 h2
    cases h
    rcases List.mem_cons.1 hm with e | hm
    · cases e
      rw [hc, eqA_ok h1 (fun p hpp => hp p (List.mem_append_left _ hpp))]
    · exact eqSl_ok h2 (fun p hpp => hp p (List.mem_append_right _ hpp)) t a hm
theorem eqOb_ok {ρ : Nat → Nat} {st : Stt} : ∀ {ob : List (Nat × AX)} {ps : Ps}, eqOb ρ st ob = some ps → (∀ p ∈ ps, p) → ∀ l x, (l, x) ∈ ob → st.h.get (ρ l) = some (renX ρ x)
  | [], _, _, _, _, _, hm => by simp at hm
  | (t0, h0) :: r, ps, h, hp, t, a, hm => by
    simp only [eqOb] at h
    split at h
    case h_2 => cases h
    rename_i c hc
    split at h
    case h_2 => cases h
    rename_i ps1 ps2 h1 h2
    cases h
    rcases List.mem_cons.1 hm with e | hm
    · cases e
      rw [hc, eqX_ok h1 (fun p hpp => hp p (List.mem_append_left _ hpp))]
    · exact eqOb_ok h2 (fun p hpp => hp p (List.mem_append_right _ hpp)) t a hm
def Sg.ren (s : Sg) (ρ : Nat → Nat) (n : Nat) : Sg := { s with f := fun l => if l < n then s.f (ρ l) else none }
theorem Sg.ren_ok (s : Sg) (ρ : Nat → Nat) (n : Nat) : Ren s (s.ren ρ n) ρ n := ⟨fun l hl p hp => by simp only [Sg.ren]; rw [if_pos hl]; exact hp, fun m => Sub.refl _⟩
theorem mapTo_low {nx : Nat} {m : List (Nat × Nat)} {l : Nat} (h : l < nx) : mapTo nx m l = l := by
  unfold mapTo
  rw [show Nat.blt l nx = true from Nat.ble_eq_true_of_le h]; rfl
theorem noDup_map {α : Type} {f : α → Nat} : ∀ {l : List α}, noDup (l.map f) = true → ∀ a b, a ∈ l → b ∈ l → f a = f b → a = b
  | [], _, _, _, h, _, _ => by simp at h
  | x :: r, h, a, b, ha, hb, e => by
    simp only [List.map_cons, noDup, Bool.and_eq_true, Bool.not_eq_true'] at h
    have hx : ∀ y ∈ r, f x ≠ f y := fun y hy e' => by
      have : (r.map f).contains (f x) = true := by simp; exact ⟨y, hy, e'.symm⟩
      rw [h.1] at this; cases this
    rcases List.mem_cons.1 ha with e1 | ha'
    · rcases List.mem_cons.1 hb with e2 | hb'
      · rw [e1, e2]
      · rw [e1] at e; exact absurd e (hx b hb')
    · rcases List.mem_cons.1 hb with e2 | hb'
      · rw [e2] at e; exact absurd e.symm (hx a ha')
      · exact noDup_map h.2 a b ha' hb' e
/-- what meets a pattern is the pattern, under new names -/
theorem meets_ok {s s2 : Sg} {w0 w : World} {st st' : Stt} {A A' : AE} {E : Env} {low : Bool} {sl : List (Nat × AV)} {ob : List (Nat × AX)} {ps : Ps} {kill del : List Nat} (hm : meets st.nx low sl ob A' st' = some ps) (hp : ∀ p ∈ ps, p) (hH : Hold Γ s2 w0 st' w) (hE : EnvOK s2 A' E) (hle : s.le s2) (hdom : ∀ l, st.nx ≤ l → s.f l = none)
    (hkill : small kill = true) (hdel : small del = true)
    (hob : ∀ k x, k ∉ ob.map (·.1) → k ∉ del → st.h.get k = some x → st'.h.get k = some x ∧ idsX st.nx x = true ∧ k < st.nx)
    (hsl : ∀ t a, t ∉ sl.map (·.1) → t ∉ kill → A.get t = some a → A'.get t = some a ∧ idsA st.nx a = true)
    (hnew : ∀ l ∈ news st.nx ob, mapTo st.nx (mapAll st.nx A' st' sl ob) l < st.nx → mapTo st.nx (mapAll st.nx A' st' sl ob) l ∈ del) :
    ∃ s', s.le s' ∧ Hold Γ s' w0 (headS st del ob) w ∧ EnvOK s' (headA A kill sl) E := by
  unfold meets at hm
  simp only at hm
  generalize hρ : mapTo st.nx (mapAll st.nx A' st' sl ob) = ρ at hm hnew
  have hlow : ∀ l, l < st.nx → ρ l = l := fun l hl => by rw [← hρ]; exact mapTo_low hl
  generalize hn : st.nx + (news st.nx ob).length = n at hm
  cases hc : (noDup (ob.map (·.1)) && noDup ((ob.map (·.1)).map ρ) && ob.all (fun x => Nat.blt x.1 n && idsX n x.2) && sl.all (fun x => idsA n x.2) && (low || (news st.nx ob).all fun l => Nat.ble st.nx (ρ l)) && small (sl.map (·.1)) && small (ob.map (·.1))) with
  | false => rw [hc] at hm; cases hm
  | true =>
  rw [hc] at hm
  simp only [cond_true] at hm
  simp only [Bool.and_eq_true] at hc
  obtain ⟨⟨⟨⟨⟨⟨c1, c2⟩, c3⟩, c4⟩, c5⟩, c6⟩, c7⟩ := hc
  split at hm
  case h_2 => cases hm
  rename_i ps1 ps2 h1 h2
  cases hm
  have hSl := eqSl_ok h1 (fun p hpp => hp p (List.mem_append_left _ hpp))
  have hOb := eqOb_ok h2 (fun p hpp => hp p (List.mem_append_right _ hpp))
  have hR := Sg.ren_ok s2 ρ n
  have hR0 : Ren s2 (s2.ren ρ n) (fun l => l) st.nx := ⟨fun l hl p hp => by
    simp only [Sg.ren]
    rw [if_pos (by omega), hlow l hl]; exact hp, fun m => Sub.refl _⟩
  have obn : ∀ l x, (l, x) ∈ ob → l < n ∧ idsX n x = true := fun l x hx => by
    have := List.all_eq_true.1 c3 (l, x) hx
    simp only [Bool.and_eq_true] at this
    exact ⟨blt_t this.1, this.2⟩
  refine ⟨s2.ren ρ n, ⟨fun l p hp => ?_, hle.F, hle.G, hle.X, hle.G0⟩, ⟨hH.ext, hH.frz, hH.gf, fun l hl => ?_, fun k x hk => ?_, fun k k' x x' p p' hk hk' hp1 hp2 ht ht' e => ?_, hH.gnew, hH.glob⟩, fun t a ht => ?_⟩
  · have hl : l < st.nx := Nat.lt_of_not_le fun h => by rw [hdom l h] at hp; cases hp
    simp only [Sg.ren]
    rw [if_pos (by omega), hlow l hl]; exact hle.f l p hp
  · have hl' : n ≤ l := by rw [← hn]; exact hl
    simp only [Sg.ren]
    rw [if_neg (by omega)]
  · rcases head_get hdel c7 hk with hx | ⟨h3, h4, h5⟩
    · obtain ⟨hln, hid⟩ := obn k x hx
      obtain ⟨p, h6, h7⟩ := hH.obj _ _ (hOb k x hx)
      exact ⟨p, hR.f k hln p h6, (fun ht => by have := h7.free (there_ren.2 ht); rw [isBox_ren] at this; exact this), h7.cur.ren hR hid⟩
    · obtain ⟨h6, h7, h8⟩ := hob k x h3 h4 h5
      obtain ⟨p, h9, h10⟩ := hH.obj _ _ h6
      exact ⟨p, hR0.f k h8 p h9, h10.free, ObjAt.ren hR0 h7 (by rw [renX_id]; exact h10.cur)⟩
  · have loc : ∀ k x p, (headS st del ob).h.get k = some x → (s2.ren ρ n).f k = some p → there x p → ∃ x0, st'.h.get (ρ k) = some x0 ∧ s2.f (ρ k) = some p ∧ there x0 p ∧ ((∃ y, (k, y) ∈ ob) ∨ (k ∉ ob.map (·.1) ∧ k ∉ del ∧ k < st.nx)) := by
      intro k x p hk hp1 ht
      have hf : s2.f (ρ k) = some p := by
        simp only [Sg.ren] at hp1
        split at hp1
        · exact hp1
        · cases hp1
      rcases head_get hdel c7 hk with hx | ⟨h3, h4, h5⟩
      · exact ⟨_, hOb k x hx, hf, there_ren.2 ht, .inl ⟨x, hx⟩⟩
      · obtain ⟨h6, _, h8⟩ := hob k x h3 h4 h5
        rw [hlow k h8] at hf ⊢
        exact ⟨x, h6, hf, ht, .inr ⟨h3, h4, h8⟩⟩
    obtain ⟨x0, a1, a2, a3, a4⟩ := loc k x p hk hp1 ht
    obtain ⟨x0', b1, b2, b3, b4⟩ := loc k' x' p' hk' hp2 ht'
    have heq : ρ k = ρ k' := hH.inj _ _ _ _ p p' a1 b1 a2 b2 a3 b3 e
    have inOb : ∀ {j y}, (j, y) ∈ ob → j ∈ ob.map (·.1) := fun h => List.mem_map.2 ⟨_, h, rfl⟩
    have apart : ∀ {j i y}, (j, y) ∈ ob → i ∉ ob.map (·.1) → i ∉ del → i < st.nx → ρ j = ρ i → False := by
      intro j i y hj hi hd hlt he
      rw [hlow i hlt] at he
      rcases Nat.lt_or_ge j st.nx with hjl | hjl
      · rw [hlow j hjl] at he
        exact hi (he ▸ inOb hj)
      · have hjn : j ∈ news st.nx ob := List.mem_filter.2 ⟨inOb hj, Nat.ble_eq_true_of_le hjl⟩
        exact hd (he ▸ hnew j hjn (by rw [he]; exact hlt))
    rcases a4 with ⟨y, hy⟩ | ⟨a5, a6, a7⟩
    · rcases b4 with ⟨y', hy'⟩ | ⟨b5, b6, b7⟩
      · exact noDup_map (f := ρ) c2 k k' (inOb hy) (inOb hy') heq
      · exact (apart hy b5 b6 b7 heq).elim
    · rcases b4 with ⟨y', hy'⟩ | ⟨b5, b6, b7⟩
      · exact (apart hy' a5 a6 a7 heq.symm).elim
      · rw [hlow k a7, hlow k' b7] at heq; exact heq
  · rcases head_get hkill c6 ht with hx | ⟨h3, h4, h5⟩
    · have := List.all_eq_true.1 c4 (t, a) hx
      exact Rel.ren hR a _ this (hE t _ (hSl t a hx))
    · obtain ⟨h6, h7⟩ := hsl t a h3 h4 h5
      exact Rel.ren hR0 a _ h7 (by rw [renA_id]; exact hE t a h6)
end Go.Proofs.YtbbjonjhaoeidaaDoor.Sv
