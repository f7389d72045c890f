/- The query language's words: bounds of tokens; the cut, step by step. -/
import Derived.Test.YtlfafkeamppakaaDoorQYE
set_option linter.unusedVariables false
set_option linter.unusedSimpArgs false
namespace Go.Proofs.YtlfafkeamppakaaDoor.XT
open Go Go.RowKit Go.Proofs.YtlfafkeamppakaaDoor.Sv
theorem skL_le : ∀ (L : List Int) (b : Bool), skL L b ≤ L.length
  | [], b => by cases b <;> exact Nat.le_refl _
  | c :: r, b => by
    have h1 := skL_le r true
    have h2 := skL_le r false
    cases b
    · rw [skF, List.length_cons]; split
      · omega
      · split <;> omega
    · rw [skT, List.length_cons]; split <;> omega
theorem skL_idem : ∀ (L : List Int) (b : Bool), skL (L.drop (skL L b)) false = 0
  | [], b => by cases b <;> rfl
  | c :: r, b => by
    cases b
    · rw [skF]
      split
      · rw [List.drop_succ_cons]; exact skL_idem r false
      · rename_i h1
        split
        · rw [List.drop_succ_cons]; exact skL_idem r true
        · rename_i h2
          rw [List.drop_zero, skF, if_neg h1, if_neg h2]
    · rw [skT]
      split
      · rw [List.drop_succ_cons]; exact skL_idem r false
      · rw [List.drop_succ_cons]; exact skL_idem r true
theorem txG_le : ∀ (n : Nat) (L : List Int) (m : Nat), L.length ≤ n → (txG L m).2.1 ≤ L.length
  | n, [], m, _ => by rw [txG.eq_def]; exact Nat.le_refl _
  | 0, c :: r, m, h => by simp at h
  | n + 1, c :: r, m, h => by
    have h' : r.length ≤ n := by simpa using h
    by_cases c1 : c = 34
    · rw [tx34 c1]; simp
    by_cases c2 : c < 32 ∨ 126 < c ∨ m = 4096
    · rw [txBad c1 c2]; simp
    by_cases c3 : c = 92
    · subst c3
      rw [tx_esc r m (fun e => c2 (.inr (.inr e)))]
      split
      · rename_i ho
        have h1 := es_len ho
        have h2 := txG_le n (r.drop (esK r)) (m + 1) (by rw [List.length_drop]; omega)
        rw [List.length_drop] at h2
        simp only [List.length_cons]; omega
      · rename_i ho
        have h0x : hxC 0 = false := by decide
        have : esK r ≤ r.length := by
          unfold esK
          split
          · rename_i k
            cases r with
            | nil => exact absurd k (by decide)
            | cons d r => simp
          split
          · cases r with
            | nil => rename_i k; exact absurd k (by decide)
            | cons d r =>
              split
              · simp
              · rename_i k
                cases r with
                | nil => exact absurd h0x k
                | cons e r =>
                  split
                  · simp
                  · rename_i k
                    cases r with
                    | nil => exact absurd h0x k
                    | cons f r => simp
          · exact Nat.zero_le _
        simp only [List.length_cons]; omega
    · rw [txPl c1 c2 c3]
      have h2 := txG_le n r (m + 1) h'
      simp only [List.length_cons]; omega
theorem txK_le {L : List Int} (h : 1 ≤ L.length) : txK L ≤ L.length := by
  have := txG_le _ (L.drop 1) 0 (Nat.le_refl _)
  rw [List.length_drop] at this
  unfold txK; omega
theorem onK_le (L : List Int) : onK L ≤ L.length := by
  by_cases h0 : kdL L = 0
  · rw [(on0 h0).1]; exact Nat.zero_le _
  have h1 := kd_len h0
  rcases kd_in L with h | h | h | h | h | h
  · exact absurd h h0
  · rw [(on1 h).1]; have := runL_le ptC L; omega
  · rw [(on2 h).1]; exact nmK_le h1
  · rw [(on3 h).1]; exact uiK_le (kd3_len h)
  · rw [(on4 h).1]; exact txK_le h1
  · rw [(on5 h).1]; exact h1
theorem kd1 {L : List Int} (h : kdL L = 1) : bgC (L.getD 0 0) = true := by
  unfold kdL at h
  split at h
  · assumption
  repeat' split at h
  all_goals exact absurd h (by decide)
theorem onK_pos {L : List Int} (ho : onO L = true) : 1 ≤ onK L := by
  rcases kd_in L with h | h | h | h | h | h
  · rw [(on0 h).2.2.2] at ho; cases ho
  · rw [(on1 h).1]
    have hb := kd1 h
    cases L with
    | nil => exact absurd hb (by decide)
    | cons c r =>
      have hb : bgC c = true := hb
      have : ptC c = true := by unfold ptC; rw [hb]; rfl
      rw [runL, if_pos this]; omega
  · rw [(on2 h).1]
    unfold nmK
    split
    · exact Nat.le_refl _
    · rename_i h48
      by_cases hn : ngL L = true
      · rw [ofL, if_pos hn]; omega
      · have hd : dgC (L.getD 0 0) = true := by
          rcases kd2 h with k | k
          · exact k
          · exact absurd (decide_eq_true k.1) hn
        have e : bdL L = L := if_neg hn
        rw [(on2 h).2.2.2, nmO, if_neg h48, nmR, e] at ho
        rw [nmR, e]
        cases L with
        | nil => exact absurd hd (by decide)
        | cons c r =>
          have hd : dgC c = true := hd
          rw [nmG, if_pos hd] at ho ⊢
          split at ho
          · cases ho
          · rename_i hl
            rw [if_neg hl]; simp only; omega
  · rw [(on3 h).1]; unfold uiK; split <;> omega
  · rw [(on4 h).1]; unfold txK; omega
  · rw [(on5 h).1]; exact Nat.le_refl _
theorem cuG_at {L : List Int} (h : skL L false = 0) (f k : Nat) (l : List D) : cuG (f + 1) L k l = if L = [] then (l, k, 0) else if l.length = 8192 ∧ kdL L ≠ 0 then ([], k, 4) else if onO L = false then ([], k + onK L, 250) else cuG f (L.drop (onK L)) (k + onK L) (l ++ [onT L k]) := by
  rw [cuG, h]; rfl
theorem cuG_skip (L : List Int) (f k : Nat) (l : List D) : cuG (f + 1) L k l = cuG (f + 1) (L.drop (skL L false)) (k + skL L false) l := by
  rw [cuG_at (skL_idem L false), cuG]
theorem cuG_move {B : List Int} {p g : Nat} (f : Nat) (l : List D) (h : p + skL (B.drop p) false = g + skL (B.drop g) false) : cuG (f + 1) (B.drop p) p l = cuG (f + 1) (B.drop g) g l := by
  rw [cuG_skip (B.drop p), cuG_skip (B.drop g), List.drop_drop, List.drop_drop, h]
end Go.Proofs.YtlfafkeamppakaaDoor.XT
