/- What is read of a value's text is the value: plain laws. -/
import Derived.Test.YtbbjonjhaoeidaaGreatDoorQT15
set_option linter.unusedVariables false
set_option linter.unusedSimpArgs false
namespace Go.Proofs.YtbbjonjhaoeidaaGreatDoor.XT
open Go Go.RowKit Go.Proofs.YtbbjonjhaoeidaaGreatDoor.Sv
theorem digV_hexc : ∀ d : Fin 16, digV (hexc (d.val : Int)) = d.val := by decide +kernel
theorem digR_hexc : ∀ d : Fin 16, digR (hexc (d.val : Int)) = d.val := by decide +kernel
theorem digV_hex {d : Int} (h0 : 0 ≤ d) (h1 : d < 16) : digV (hexc d) = d := by
  obtain ⟨n, rfl⟩ := Int.eq_ofNat_of_zero_le h0
  exact digV_hexc ⟨n, by omega⟩
theorem digR_hex {d : Int} (h0 : 0 ≤ d) (h1 : d < 16) : digR (hexc d) = d := by
  obtain ⟨n, rfl⟩ := Int.eq_ofNat_of_zero_le h0
  exact digR_hexc ⟨n, by omega⟩
theorem pu_two {c : Int} (h0 : 0 ≤ c) (h1 : c < 256) : puV 255 [hexc (c / 16), hexc (c % 16)] 0 = c := by
  rw [puV, digV_hex (by omega) (by omega), if_neg (by omega), if_neg (by decide), if_neg (by omega), puV, digV_hex (by omega) (by omega), if_neg (by omega), if_neg (by omega), if_neg (by omega), puV]
  omega
/-- any text's quote, unquoted by the code -/
theorem uq_esc : ∀ (l : List Int) (f : Nat), (∀ c ∈ l, 0 ≤ c ∧ c < 256) → (l.flatMap escB).length ≤ f → uq f (l.flatMap escB) = l
  | [], f, _, _ => uq_nil f
  | c :: r, f, hc, hf => by
    obtain ⟨c0, c1⟩ := hc c (by simp)
    have hr : ∀ x ∈ r, 0 ≤ x ∧ x < 256 := fun x hx => hc x (by simp [hx])
    rw [List.flatMap_cons] at hf ⊢
    rw [List.length_append] at hf
    unfold escB at hf ⊢
    by_cases h1 : c = 92 ∨ c = 34
    · rw [if_pos h1] at hf ⊢
      simp only [List.length_cons, List.length_nil] at hf
      obtain ⟨m, rfl⟩ : ∃ m, f = m + 1 := ⟨f - 1, by omega⟩
      rw [List.cons_append, List.cons_append, List.nil_append, uq, if_neg (by simp), if_neg (by omega), if_neg (by omega)]
      exact congrArg _ (uq_esc r m hr (by unfold escB; omega))
    · rw [if_neg h1] at hf ⊢
      by_cases h2 : 32 ≤ c ∧ c ≤ 126
      · rw [if_pos h2] at hf ⊢
        simp only [List.length_cons, List.length_nil] at hf
        obtain ⟨m, rfl⟩ : ∃ m, f = m + 1 := ⟨f - 1, by omega⟩
        rw [List.cons_append, List.nil_append, uq_one (.inl (by omega))]
        exact congrArg _ (uq_esc r m hr (by unfold escB; omega))
      · rw [if_neg h2] at hf ⊢
        by_cases h3 : c = 10
        · rw [if_pos h3] at hf ⊢
          simp only [List.length_cons, List.length_nil] at hf
          obtain ⟨m, rfl⟩ : ∃ m, f = m + 1 := ⟨f - 1, by omega⟩
          rw [List.cons_append, List.cons_append, List.nil_append, uq, if_neg (by simp), if_pos rfl, h3]
          exact congrArg _ (uq_esc r m hr (by unfold escB; omega))
        · rw [if_neg h3] at hf ⊢
          simp only [List.length_cons, List.length_nil] at hf
          obtain ⟨m, rfl⟩ : ∃ m, f = m + 1 := ⟨f - 1, by omega⟩
          rw [List.cons_append, List.cons_append, List.cons_append, List.cons_append, List.nil_append, uq, if_neg (by simp), if_neg (by decide), if_pos rfl]
          have e1 : (hexc (c / 16) :: hexc (c % 16) :: r.flatMap escB).take 2 = [hexc (c / 16), hexc (c % 16)] := rfl
          have e2 : (hexc (c / 16) :: hexc (c % 16) :: r.flatMap escB).drop 2 = r.flatMap escB := rfl
          have key := uq_esc r m hr (by unfold escB; omega)
          unfold escB at e1 e2 key
          rw [e1, e2, pu_two c0 c1, key]
/-- .. and by the document -/
theorem rq_esc : ∀ (l : List Int) (f : Nat), (∀ c ∈ l, 0 ≤ c ∧ c < 256) → (l.flatMap escB).length ≤ f → rqB f (l.flatMap escB) = true ∧ rqV f (l.flatMap escB) = l
  | [], f, _, _ => by cases f <;> exact ⟨rfl, rfl⟩
  | c :: r, f, hc, hf => by
    obtain ⟨c0, c1⟩ := hc c (by simp)
    have hr : ∀ x ∈ r, 0 ≤ x ∧ x < 256 := fun x hx => hc x (by simp [hx])
    rw [List.flatMap_cons] at hf ⊢
    rw [List.length_append] at hf
    generalize hR : r.flatMap escB = R at hf ⊢
    have ih : ∀ m, R.length ≤ m → rqB m R = true ∧ rqV m R = r := fun m hm => by rw [← hR]; exact rq_esc r m hr (by rw [hR]; exact hm)
    unfold escB at hf ⊢
    by_cases h1 : c = 92 ∨ c = 34
    · rw [if_pos h1] at hf ⊢
      simp only [List.length_cons, List.length_nil] at hf
      obtain ⟨m, rfl⟩ : ∃ m, f = m + 1 := ⟨f - 1, by omega⟩
      obtain ⟨i1, i2⟩ := ih m (by omega)
      have g : 1 < ([92, c] ++ R).length ∧ (([92, c] ++ R).getD 1 0 = 92 ∨ ([92, c] ++ R).getD 1 0 = 34) := ⟨by simp, h1⟩
      rw [rqB, rqV, if_neg (by simp), if_neg (by simp), if_pos g, if_neg (by simp), if_neg (by simp), if_pos g]
      exact ⟨i1, congrArg (c :: ·) i2⟩
    · rw [if_neg h1] at hf ⊢
      by_cases h2 : 32 ≤ c ∧ c ≤ 126
      · rw [if_pos h2] at hf ⊢
        simp only [List.length_cons, List.length_nil] at hf
        obtain ⟨m, rfl⟩ : ∃ m, f = m + 1 := ⟨f - 1, by omega⟩
        obtain ⟨i1, i2⟩ := ih m (by omega)
        have g : ([c] ++ R).getD 0 0 ≠ 92 := fun h => h1 (.inl h)
        rw [rqB, rqV, if_neg (by simp), if_pos g, if_neg (by simp), if_pos g]
        exact ⟨i1, congrArg (c :: ·) i2⟩
      · rw [if_neg h2] at hf ⊢
        by_cases h3 : c = 10
        · rw [if_pos h3] at hf ⊢
          simp only [List.length_cons, List.length_nil] at hf
          obtain ⟨m, rfl⟩ : ∃ m, f = m + 1 := ⟨f - 1, by omega⟩
          obtain ⟨i1, i2⟩ := ih m (by omega)
          have g1 : ¬ (1 < ([92, 110] ++ R).length ∧ (([92, 110] ++ R).getD 1 0 = 92 ∨ ([92, 110] ++ R).getD 1 0 = 34)) := fun h => by
            rcases h.2 with h | h
            · exact absurd (show (110 : Int) = 92 from h) (by decide)
            · exact absurd (show (110 : Int) = 34 from h) (by decide)
          have g2 : 1 < ([92, 110] ++ R).length ∧ ([92, 110] ++ R).getD 1 0 = 110 := ⟨by simp, rfl⟩
          rw [rqB, rqV, if_neg (by simp), if_neg (by simp), if_neg g1, if_pos g2, if_neg (by simp), if_neg (by simp), if_neg g1, if_pos g2, h3]
          exact ⟨i1, congrArg ((10 : Int) :: ·) i2⟩
        · rw [if_neg h3] at hf ⊢
          simp only [List.length_cons, List.length_nil] at hf
          obtain ⟨m, rfl⟩ : ∃ m, f = m + 1 := ⟨f - 1, by omega⟩
          obtain ⟨i1, i2⟩ := ih m (by omega)
          have d1 := digR_hex (d := c / 16) (by omega) (by omega)
          have d2 := digR_hex (d := c % 16) (by omega) (by omega)
          generalize hexc (c / 16) = x at d1 ⊢
          generalize hexc (c % 16) = y at d2 ⊢
          have g1 : ¬ (1 < ([92, 120, x, y] ++ R).length ∧ (([92, 120, x, y] ++ R).getD 1 0 = 92 ∨ ([92, 120, x, y] ++ R).getD 1 0 = 34)) := fun h => by
            rcases h.2 with h | h
            · exact absurd (show (120 : Int) = 92 from h) (by decide)
            · exact absurd (show (120 : Int) = 34 from h) (by decide)
          have g2 : ¬ (1 < ([92, 120, x, y] ++ R).length ∧ ([92, 120, x, y] ++ R).getD 1 0 = 110) := fun h => absurd (show (120 : Int) = 110 from h.2) (by decide)
          have g3 : 3 < ([92, 120, x, y] ++ R).length ∧ ([92, 120, x, y] ++ R).getD 1 0 = 120 ∧ 0 ≤ digR (([92, 120, x, y] ++ R).getD 2 0) ∧ 0 ≤ digR (([92, 120, x, y] ++ R).getD 3 0) := ⟨by simp, rfl, by show 0 ≤ digR x; omega, by show 0 ≤ digR y; omega⟩
          rw [rqB, rqV, if_neg (by simp), if_neg (by simp), if_neg g1, if_neg g2, if_pos g3, if_neg (by simp), if_neg (by simp), if_neg g1, if_neg g2, if_pos g3]
          refine ⟨i1, ?_⟩
          show (16 * digR x + digR y) :: rqV m R = c :: r
          rw [d1, d2, i2, show 16 * (c / 16) + c % 16 = c by omega]
/-- hexadecimal digits -/
theorem pu_hex : ∀ (n : Nat) (x : Int) (r : List Int), 0 ≤ x → x < 16 ^ n → x < 18446744073709551616 → puV 18446744073709551615 (hexL x n ++ r) 0 = puV 18446744073709551615 r x
  | 0, x, r, h0, h1, _ => by
    have : x = 0 := by simp at h1; omega
    subst this; rfl
  | n + 1, x, r, h0, h1, h2 => by
    rw [Int.pow_succ] at h1
    rw [hexL, List.append_assoc, pu_hex n (x / 16) _ (by omega) (by omega) (by omega), List.cons_append, List.nil_append, puV, digV_hex (by omega) (by omega), if_neg (by omega), if_neg (by omega), if_neg (by omega), show x / 16 * 16 + x % 16 = x by omega]
theorem hx_hex : ∀ (n : Nat) (x : Int) (r : List Int), 0 ≤ x → x < 16 ^ n → hxV (hexL x n ++ r) 0 = hxV r x
  | 0, x, r, h0, h1 => by
    have : x = 0 := by simp at h1; omega
    subst this; rfl
  | n + 1, x, r, h0, h1 => by
    rw [Int.pow_succ] at h1
    rw [hexL, List.append_assoc, hx_hex n (x / 16) _ (by omega) (by omega), List.cons_append, List.nil_append, hxV, digR_hex (by omega) (by omega), if_neg (by omega), show x / 16 * 16 + x % 16 = x by omega]
/-- decimal digits -/
theorem dc_dec : ∀ (f : Nat) (x : Int) (r : List Int), 0 ≤ x → x < 10 ^ (f + 1) → dcV (decL (f + 1) x ++ r) 0 = dcV r x
  | 0, x, r, h0, h1 => by
    have h1 : x < 10 := h1
    rw [decL, if_pos (by omega), List.cons_append, List.nil_append, dcV, if_neg (by omega)]
    congr 1; omega
  | f + 1, x, r, h0, h1 => by
    by_cases h9 : x ≤ 9
    · rw [decL, if_pos h9, List.cons_append, List.nil_append, dcV, if_neg (by omega)]
      congr 1; omega
    · rw [Int.pow_succ] at h1
      rw [decL, if_neg h9, List.append_assoc, dc_dec f (x / 10) _ (by omega) (by omega), List.cons_append, List.nil_append, dcV, if_neg (by omega)]
      congr 1; omega
end Go.Proofs.YtbbjonjhaoeidaaGreatDoor.XT
