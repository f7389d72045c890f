/- value.ReadText and the document's answer the same. -/
import Derived.Test.YtbbjonjhaoeidaaGreatDoorQTX
set_option linter.unusedVariables false
set_option linter.unusedSimpArgs false
namespace Go.Proofs.YtbbjonjhaoeidaaGreatDoor.XT
open Go Go.RowKit Go.Proofs.YtbbjonjhaoeidaaGreatDoor.Sv
theorem hxV_lt : ∀ (l : List Int) (n : Int), 0 ≤ n → hxV l n < (n + 1) * 16 ^ l.length
  | [], n, h => by rw [hxV, List.length_nil, Int.pow_zero, Int.mul_one]; omega
  | c :: r, n, h => by
    have hp : (0 : Int) < 16 ^ r.length := Int.pow_pos (by decide)
    rw [hxV, List.length_cons, Int.pow_succ]
    split
    · have : (0 : Int) ≤ (n + 1) * (16 ^ r.length * 16) := Int.mul_nonneg (by omega) (by omega)
      omega
    · have hd := digR_le c
      refine Int.lt_of_lt_of_le (hxV_lt r (n * 16 + digR c) (by omega)) ?_
      rw [Int.mul_comm (16 ^ r.length) 16, ← Int.mul_assoc]
      exact Int.mul_le_mul_of_nonneg_right (by omega) (Int.le_of_lt hp)
theorem ruV_in {s : ByteArray} (h : 0 < ruV s) : inU (ruV s) ∧ sL (hexT (ruV s)) = s := by
  unfold ruV at h ⊢
  split at h
  · omega
  · rename_i h1
    rw [if_neg h1]
    split at h
    · rename_i h2
      rw [if_pos h2]
      refine ⟨⟨by omega, ?_⟩, h2⟩
      unfold hxS at h1 ⊢
      split at h1
      · exact absurd rfl h1
      · rename_i h3
        rw [if_neg h3]
        have h4 : ¬ 18 < (s.size : Int) := fun e => h3 (.inr (.inl e))
        have hl := hxV_lt ((bys s).drop 2) 0 (by decide)
        rw [List.length_drop, bys_length] at hl
        have hp := p16' (s.size - 2) (by omega)
        omega
    · omega
theorem inV_in (s : ByteArray) : I64 (inV s) := by
  unfold inV
  split
  · exact ⟨by decide, by decide⟩
  · split <;> exact wrapI_in _
theorem inB_text {s : ByteArray} (h : inB s = true) : sL (itoL (inV s)) = s := by
  unfold inB at h
  split at h
  · cases h
  · exact of_decide_eq_true h
theorem rqK_text {s : ByteArray} (h : rqK s = true) : sL (quoL (bys (rqS s))) = s := by
  unfold rqK at h
  simp only [Bool.and_eq_true, decide_eq_true_eq] at h
  exact h.2
theorem rc_text {s : ByteArray} (h : mayV (rcV s) = true) : cV s = rcV s ∧ sL (valL (rcV s)) = s := by
  by_cases c : s = ByteArray.mk #[116, 114, 117, 101] ∨ s = ByteArray.mk #[102, 97, 108, 115, 101]
  · refine ⟨by rw [rcV, if_pos c, cV, if_pos c], ?_⟩
    rw [rcV, if_pos c]
    rcases c with rfl | rfl
    · decide +kernel
    · decide +kernel
  by_cases c2 : inB s = true
  · have ht := inB_text c2
    have e : rcV s = .t [.i 2, .b false, .i (inV s), .s (ByteArray.mk #[]), .i 0] := by rw [rcV, if_neg c, if_pos c2]
    have e2 : cV s = .t [.i 2, .b false, .i (inV s), .s (ByteArray.mk #[]), .i 0] := by
      have := cV_int (inV_in s)
      rwa [ht] at this
    exact ⟨by rw [e, e2], by rw [e]; exact ht⟩
  by_cases c3 : 0 < ruV s
  · obtain ⟨hi, ht⟩ := ruV_in c3
    have e : rcV s = .t [.i 4, .b false, .i 0, .s (ByteArray.mk #[]), .i (ruV s)] := by rw [rcV, if_neg c, if_neg c2, if_pos c3]
    have e2 : cV s = .t [.i 4, .b false, .i 0, .s (ByteArray.mk #[]), .i (ruV s)] := by
      have := cV_hex hi
      rwa [ht] at this
    exact ⟨by rw [e, e2], by rw [e]; exact ht⟩
  by_cases c4 : rqK s = true
  · have ht := rqK_text c4
    have e : rcV s = .t [.i 3, .b false, .i 0, .s (rqS s), .i 0] := by rw [rcV, if_neg c, if_neg c2, if_neg c3, if_pos c4]
    have e2 : cV s = .t [.i 3, .b false, .i 0, .s (rqS s), .i 0] := by
      have := cV_quo (rqS s)
      rwa [ht] at this
    exact ⟨by rw [e, e2], by rw [e]; exact ht⟩
  · have e : rcV s = zV := by rw [rcV, if_neg c, if_neg c2, if_neg c3, if_neg c4]
    rw [e] at h
    exact absurd h (by decide)
theorem rt_rc {s : ByteArray} (h : rtB s = true) : rcV s = cV s ∧ mayV (cV s) = true := by
  unfold rtB at h
  simp only [Bool.and_eq_true, decide_eq_true_eq] at h
  obtain ⟨hm, ht⟩ := h
  refine ⟨?_, hm⟩
  by_cases c : s = ByteArray.mk #[116, 114, 117, 101] ∨ s = ByteArray.mk #[102, 97, 108, 115, 101]
  · rw [rcV, if_pos c, cV, if_pos c]
  by_cases c2 : Lib.hasPrefix s.data.toList (ByteArray.mk #[48, 120]).data.toList = true
  · have e : cV s = .t [.i 4, .b false, .i 0, .s (ByteArray.mk #[]), .i (puV 18446744073709551615 ((bys s).drop 2) 0)] := by rw [cV, if_neg c, if_pos c2]
    rw [e] at hm ht ⊢
    obtain ⟨v0, v1⟩ := puV_in 18446744073709551615 (by decide) ((bys s).drop 2) 0 (by decide) (by decide)
    generalize puV 18446744073709551615 ((bys s).drop 2) 0 = u at hm ht v0 v1 ⊢
    have h0 : 0 < u := of_decide_eq_true hm
    have ht : sL (hexT u) = s := ht
    have := rcV_hex ⟨v0, by omega⟩ h0
    rwa [ht] at this
  by_cases c3 : 2 ≤ (s.size : Int) ∧ byteAt' s 0 = 34
  · have e : cV s = .t [.i 3, .b false, .i 0, .s (sL (uq (innS s).size (bys (innS s)))), .i 0] := by rw [cV, if_neg c, if_neg c2, if_pos c3]
    rw [e] at hm ht ⊢
    generalize sL (uq (innS s).size (bys (innS s))) = t at hm ht ⊢
    have ht : sL (quoL (bys t)) = s := ht
    have := rcV_quo t
    rwa [ht] at this
  · have e : cV s = .t [.i 2, .b false, .i (piV s), .s (ByteArray.mk #[]), .i 0] := by rw [cV, if_neg c, if_neg c2, if_neg c3]
    rw [e] at hm ht ⊢
    have hi := piV_in s
    generalize piV s = n at hm ht hi ⊢
    have ht : sL (itoL n) = s := ht
    have := rcV_int hi
    rwa [ht] at this
theorem rt_same (s : ByteArray) : rtB s = mayV (rcV s) ∧ rtD s = rrtD s := by
  cases h : rtB s with
  | true =>
    obtain ⟨h1, h2⟩ := rt_rc h
    have h3 : mayV (rcV s) = true := by rw [h1]; exact h2
    exact ⟨h3.symm, by rw [rtD, if_pos h, rrtD, if_pos h3, h1]⟩
  | false =>
    cases h2 : mayV (rcV s) with
    | true =>
      obtain ⟨h3, h4⟩ := rc_text h2
      have : rtB s = true := by rw [rtB, h3, h2, h4, decide_eq_true rfl]; rfl
      rw [h] at this; cases this
    | false =>
      exact ⟨rfl, by rw [rtD, if_neg (by rw [h]; decide), rrtD, if_neg (by rw [h2]; decide)]⟩
end Go.Proofs.YtbbjonjhaoeidaaGreatDoor.XT
