/- Contracts, by the symbolic evaluator. -/
import Derived.Test.YtlfafkeamppakaaDoorQYQ
import Derived.Test.YtlfafkeamppakaaDoorProg
import Derived.Test.YtlfafkeamppakaaDoorQYP
set_option linter.unusedVariables false
set_option linter.unusedSimpArgs false
namespace Go.Proofs.YtlfafkeamppakaaDoor.XT
open Go Go.RowKit Go.Proofs.YtlfafkeamppakaaDoor.Sv
set_option maxRecDepth 100000
def lxcC : Con := ⟨[.d true .s], fun ds => [], [.d (.l tokT), .d (.i .i64), .d (.i .i64)], fun ds => (fun (a : D) => [.l (cuT a.str).1, .i ((cuT a.str).2.1 : Int), .i (cuT a.str).2.2]) (nthD ds 0), fun ds => []⟩
def lxcC_an : Anns := fun f i => match f, i with
  | 8, 2000005 => some fun A st => ⟨Unit, fun _ => [], fun _ => [(2, .q 37 tokT [])], fun _ => True, fun _ => 0⟩
  | 8, 5 => some fun A st => match A.get 0, A.get 5 with
    | some (.v (.string s)), some (.ptr l 0) => match st.h.get l with
      | some (.c t _) => ⟨Nat × Nat × List D, fun g => [(2, .ow st.nx g.2.2.length)], fun g => [(l, .c t [.v (.string s), .v (.int .i64 g.2.1)]), (st.nx, .q 37 tokT g.2.2)], fun g => g.2.1 ≤ s.size ∧ s.size < g.1 + g.2.1 ∧ g.2.2.length ≤ 8192 ∧ skL ((bys s).drop g.2.1) false = 0 ∧ cuG (s.size + 1) (bys s) 0 [] = cuG g.1 ((bys s).drop g.2.1) g.2.1 g.2.2, fun g => s.size - g.2.1⟩
      | _ => LAnn.bad
    | _, _ => LAnn.bad
  | _, _ => none
theorem lxcC_vc (a : D) : (bif decide (65536 < (↑a.str.size : Int)) then [] = (cuT a.str).fst ∧ EqI 65536 (↑(cuT a.str).snd.fst : Int) ∧ EqI 4 (cuT a.str).snd.snd else LeI 0 0 ∧ 0 ≤ (↑a.str.size : Int) ∧ a.str.size ≤ 1099511627776 ∧ ∃ (g : Unit), ∃ (g : Nat × Nat × List D), 0 = g.snd.snd.length ∧ a.str = a.str ∧ 0 + (↑(skL (rst (D.t [D.s a.str, D.i 0])) false) : Int) = (↑g.snd.fst : Int) ∧ [] = g.snd.snd ∧ (g.snd.fst ≤ a.str.size ∧ a.str.size < g.fst + g.snd.fst ∧ g.snd.snd.length ≤ 8192 ∧ skL (List.drop g.snd.fst (bys a.str)) false = 0 ∧ cuG (a.str.size + 1) (bys a.str) 0 [] = cuG g.fst (List.drop g.snd.fst (bys a.str)) g.snd.fst g.snd.snd) ∧ ∀ (g : Nat × Nat × List D), g.snd.fst ≤ a.str.size ∧ a.str.size < g.fst + g.snd.fst ∧ g.snd.snd.length ≤ 8192 ∧ skL (List.drop g.snd.fst (bys a.str)) false = 0 ∧ cuG (a.str.size + 1) (bys a.str) 0 [] = cuG g.fst (List.drop g.snd.fst (bys a.str)) g.snd.fst g.snd.snd → bif decide ((↑g.snd.fst : Int) < (↑a.str.size : Int)) then (decide ((↑g.snd.snd.length : Int) = 8192) = true → 0 ≤ (↑g.snd.fst : Int) ∧ (↑g.snd.fst : Int) ≤ (↑a.str.size : Int) ∧ a.str.size ≤ 1099511627776) ∧ bif decide ((↑g.snd.snd.length : Int) = 8192) && !decide (kdL (rst (D.t [D.s a.str, D.i (↑g.snd.fst : Int)])) = 0) then [] = (cuT a.str).fst ∧ (↑g.snd.fst : Int) = (↑(cuT a.str).snd.fst : Int) ∧ EqI 4 (cuT a.str).snd.snd else 0 ≤ (↑g.snd.fst : Int) ∧ (↑g.snd.fst : Int) ≤ (↑a.str.size : Int) ∧ a.str.size ≤ 1099511627776 ∧ bif !onO (rst (D.t [D.s a.str, D.i (↑g.snd.fst : Int)])) then [] = (cuT a.str).fst ∧ (↑g.snd.fst : Int) + (↑(onK (rst (D.t [D.s a.str, D.i (↑g.snd.fst : Int)]))) : Int) = (↑(cuT a.str).snd.fst : Int) ∧ EqI 250 (cuT a.str).snd.snd else (g.snd.snd.length + [D.t [D.i (kdL (rst (D.t [D.s a.str, D.i (↑g.snd.fst : Int)]))), D.s (sL (onS (rst (D.t [D.s a.str, D.i (↑g.snd.fst : Int)])))), D.i (onN (rst (D.t [D.s a.str, D.i (↑g.snd.fst : Int)]))), D.i (↑g.snd.fst : Int)]].length) * 40 ≤ 140737488355328 ∧ g.snd.snd.length + [D.t [D.i (kdL (rst (D.t [D.s a.str, D.i (↑g.snd.fst : Int)]))), D.s (sL (onS (rst (D.t [D.s a.str, D.i (↑g.snd.fst : Int)])))), D.i (onN (rst (D.t [D.s a.str, D.i (↑g.snd.fst : Int)]))), D.i (↑g.snd.fst : Int)]].length ≤ 9223372036854775807 ∧ 0 ≤ (↑g.snd.fst : Int) + (↑(onK (rst (D.t [D.s a.str, D.i (↑g.snd.fst : Int)]))) : Int) ∧ (↑g.snd.fst : Int) + (↑(onK (rst (D.t [D.s a.str, D.i (↑g.snd.fst : Int)]))) : Int) ≤ (↑a.str.size : Int) ∧ a.str.size ≤ 1099511627776 ∧ ∃ (g_1 : Nat × Nat × List D), g.snd.snd.length + [D.t [D.i (kdL (rst (D.t [D.s a.str, D.i (↑g.snd.fst : Int)]))), D.s (sL (onS (rst (D.t [D.s a.str, D.i (↑g.snd.fst : Int)])))), D.i (onN (rst (D.t [D.s a.str, D.i (↑g.snd.fst : Int)]))), D.i (↑g.snd.fst : Int)]].length = g_1.snd.snd.length ∧ a.str = a.str ∧ (↑g.snd.fst : Int) + (↑(onK (rst (D.t [D.s a.str, D.i (↑g.snd.fst : Int)]))) : Int) + (↑(skL (rst (D.t [D.s a.str, D.i ((↑g.snd.fst : Int) + (↑(onK (rst (D.t [D.s a.str, D.i (↑g.snd.fst : Int)]))) : Int))])) false) : Int) = (↑g_1.snd.fst : Int) ∧ List.take g.snd.snd.length g.snd.snd ++ [D.t [D.i (kdL (rst (D.t [D.s a.str, D.i (↑g.snd.fst : Int)]))), D.s (sL (onS (rst (D.t [D.s a.str, D.i (↑g.snd.fst : Int)])))), D.i (onN (rst (D.t [D.s a.str, D.i (↑g.snd.fst : Int)]))), D.i (↑g.snd.fst : Int)]] = g_1.snd.snd ∧ (g_1.snd.fst ≤ a.str.size ∧ a.str.size < g_1.fst + g_1.snd.fst ∧ g_1.snd.snd.length ≤ 8192 ∧ skL (List.drop g_1.snd.fst (bys a.str)) false = 0 ∧ cuG (a.str.size + 1) (bys a.str) 0 [] = cuG g_1.fst (List.drop g_1.snd.fst (bys a.str)) g_1.snd.fst g_1.snd.snd) ∧ a.str.size - g_1.snd.fst < a.str.size - g.snd.fst else List.take g.snd.snd.length g.snd.snd = (cuT a.str).fst ∧ (↑a.str.size : Int) = (↑(cuT a.str).snd.fst : Int) ∧ EqI 0 (cuT a.str).snd.snd) = conGoal Tryd.prog (addS 23 lxoC (addS 22 lxkdpC (addS 21 lxsC noS))) lxcC_an 200 8 lxcC [a] := by kernel_rfl
set_option maxHeartbeats 2000000 in
theorem lxcC_ok : ConOK Tryd.prog gl 8 lxcC := con_of mo (addS_ok lxoC_ok (addS_ok lxkdpC_ok (addS_ok lxsC_ok (noS_ok _)))) (an := lxcC_an) 200 fun ds hl hp => by
  obtain ⟨a, rfl⟩ := len1 hl
  rw [← lxcC_vc]
  have hT : ¬ 65536 < a.str.size → cuT a.str = cuG (a.str.size + 1) (bys a.str) 0 [] := fun h => by rw [cuT, if_neg h]
  have hT' : 65536 < a.str.size → cuT a.str = ([], 65536, 4) := fun h => by rw [cuT, if_pos h]
  have hR : ∀ n : Int, rst (.t [.s a.str, .i n]) = (bys a.str).drop n.toNat := fun _ => rfl
  simp only [hR]
  generalize cuT a.str = T at *
  generalize a.str = s at *
  refine cond_of (fun c => ?_) (fun c => ?_)
  · rw [hT' (by have := of_decide_eq_true c; omega)]; exact ⟨rfl, rfl, rfl⟩
  have c : ¬ 65536 < s.size := by have := of_decide_eq_false c; omega
  have hT := hT c
  have hsk := skL_le (bys s) false
  rw [bys_length] at hsk
  refine ⟨Int.le_refl _, by omega, by omega, (), (s.size + 1, skL (bys s) false, []), rfl, trivial, by simp, rfl, ⟨hsk, by simp only; omega, by simp, skL_idem _ _, ?_⟩, ?_⟩
  · have := cuG_skip (bys s) s.size 0 []
    rw [Nat.zero_add] at this; exact this
  rintro ⟨f, k, l⟩ ⟨h1, h2, h3, h4, h5⟩
  dsimp only at h1 h2 h3 h4 h5 ⊢
  rw [h5] at hT
  simp only [Int.toNat_natCast]
  obtain ⟨f, rfl⟩ : ∃ f', f = f' + 1 := ⟨f - 1, by omega⟩
  rw [cuG_at h4] at hT
  refine cond_of (fun d => ?_) (fun d => ?_)
  · have hk : k < s.size := by have := of_decide_eq_true d; omega
    have hne : ¬ (bys s).drop k = [] := fun h => by have := congrArg List.length h; rw [List.length_drop, bys_length] at this; simp at this; omega
    rw [if_neg hne] at hT
    have hle := onK_le ((bys s).drop k)
    rw [List.length_drop, bys_length] at hle
    refine ⟨fun _ => ⟨by omega, by omega, by omega⟩, cond_of (fun e => ?_) (fun e => ?_)⟩
    · simp only [Bool.and_eq_true, decide_eq_true_eq, Bool.not_eq_true', decide_eq_false_iff_not] at e
      rw [if_pos ⟨by omega, e.2⟩] at hT
      rw [hT]; exact ⟨rfl, rfl, rfl⟩
    have e : ¬ (l.length = 8192 ∧ kdL ((bys s).drop k) ≠ 0) := fun h => by
      rw [decide_eq_true (by omega : (l.length : Int) = 8192), decide_eq_false h.2] at e; cases e
    rw [if_neg e] at hT
    refine ⟨by omega, by omega, by omega, cond_of (fun g => ?_) (fun g => ?_)⟩
    · have g : onO ((bys s).drop k) = false := by simpa using g
      rw [if_pos g] at hT
      rw [hT]; exact ⟨rfl, by simp, rfl⟩
    have g : onO ((bys s).drop k) = true := by simpa using g
    rw [if_neg (by rw [g]; decide)] at hT
    have hpos := onK_pos g
    have hkd : kdL ((bys s).drop k) ≠ 0 := fun h => by rw [(on0 h).2.2.2] at g; cases g
    have hl : l.length < 8192 := by
      have : ¬ l.length = 8192 := fun h => e ⟨h, hkd⟩
      omega
    have tk : ((k : Int) + (onK ((bys s).drop k) : Int)).toNat = k + onK ((bys s).drop k) := by omega
    rw [tk]
    have hs2 := skL_le ((bys s).drop (k + onK ((bys s).drop k))) false
    rw [List.length_drop, bys_length] at hs2
    refine ⟨by simp; omega, by simp; omega, by omega, by omega, by omega, (f, k + onK ((bys s).drop k) + skL ((bys s).drop (k + onK ((bys s).drop k))) false, l ++ [onT ((bys s).drop k) k]), by simp, trivial, by simp, by simp [onT], ⟨by simp only; omega, by simp only; omega, by simp; omega, ?_, ?_⟩, by simp only; omega⟩
    · show skL ((bys s).drop (k + onK ((bys s).drop k) + skL ((bys s).drop (k + onK ((bys s).drop k))) false)) false = 0
      rw [← List.drop_drop]; exact skL_idem _ _
    · show cuG (s.size + 1) (bys s) 0 [] = cuG f ((bys s).drop (k + onK ((bys s).drop k) + skL ((bys s).drop (k + onK ((bys s).drop k))) false)) (k + onK ((bys s).drop k) + skL ((bys s).drop (k + onK ((bys s).drop k))) false) (l ++ [onT ((bys s).drop k) k])
      rw [h5, cuG_at h4, if_neg hne, if_neg e, if_neg (by rw [g]; decide), List.drop_drop]
      obtain ⟨f, rfl⟩ : ∃ f', f = f' + 1 := ⟨f - 1, by omega⟩
      rw [cuG_skip, List.drop_drop]
  · have hk : k = s.size := by have := of_decide_eq_false d; omega
    rw [if_pos (bys_end (by omega))] at hT
    rw [hT]
    exact ⟨by simp, by simp [hk], rfl⟩
def rfcC : Con := ⟨[.d true .s], fun ds => [], [.d (.l tokT), .d (.i .i64), .d (.i .i64)], fun ds => (fun (a : D) => [.l (cuT a.str).1, .i ((cuT a.str).2.1 : Int), .i (cuT a.str).2.2]) (nthD ds 0), fun ds => []⟩
def rfcC_an : Anns := fun f i => match f, i with
  | 9, 2000005 => some fun A st => ⟨Unit, fun _ => [], fun _ => [(5, .q 37 tokT [])], fun _ => True, fun _ => 0⟩
  | 9, 5 => some fun A st => match A.get 0 with
    | some (.v (.string s)) => ⟨Nat × Nat × List D, fun g => [(6, .v (.int .i64 g.2.1)), (5, .ow st.nx g.2.2.length)], fun g => [(st.nx, .q 37 tokT g.2.2)], fun g => g.2.1 ≤ s.size ∧ s.size < g.1 + g.2.1 ∧ g.2.2.length ≤ 8192 ∧ cuG (s.size + 1) (bys s) 0 [] = cuG g.1 ((bys s).drop g.2.1) g.2.1 g.2.2, fun g => s.size - g.2.1⟩
    | _ => LAnn.bad
  | 9, 10 => some fun A st => match A.get 0, A.get 6 with
    | some (.v (.string s)), some (.v (.int _ p)) => ⟨Nat, fun g => [(6, .v (.int .i64 g))], fun g => [], fun g => g ≤ s.size ∧ p.toNat ≤ g ∧ p.toNat + skL ((bys s).drop p.toNat) true = g + skL ((bys s).drop g) true, fun g => s.size - g⟩
    | _, _ => LAnn.bad
  | _, _ => none
theorem rfcC_vc (a : D) : (bif decide (65536 < (↑a.str.size : Int)) then [] = (cuT a.str).fst ∧ EqI 65536 (↑(cuT a.str).snd.fst : Int) ∧ EqI 4 (cuT a.str).snd.snd else ∃ (g : Unit), ∃ (g : Nat × Nat × List D), EqI 0 (↑g.snd.fst : Int) ∧ 0 = g.snd.snd.length ∧ [] = g.snd.snd ∧ (g.snd.fst ≤ a.str.size ∧ a.str.size < g.fst + g.snd.fst ∧ g.snd.snd.length ≤ 8192 ∧ cuG (a.str.size + 1) (bys a.str) 0 [] = cuG g.fst (List.drop g.snd.fst (bys a.str)) g.snd.fst g.snd.snd) ∧ ∀ (g : Nat × Nat × List D), g.snd.fst ≤ a.str.size ∧ a.str.size < g.fst + g.snd.fst ∧ g.snd.snd.length ≤ 8192 ∧ cuG (a.str.size + 1) (bys a.str) 0 [] = cuG g.fst (List.drop g.snd.fst (bys a.str)) g.snd.fst g.snd.snd → bif decide ((↑g.snd.fst : Int) < (↑a.str.size : Int)) then Idx (↑g.snd.fst : Int) a.str.size ∧ bif decide (byteAt' a.str g.snd.fst = 32) || decide (byteAt' a.str g.snd.fst = 9) || decide (byteAt' a.str g.snd.fst = 10) || decide (byteAt' a.str g.snd.fst = 13) then I64 ((↑g.snd.fst : Int) + 1) ∧ ∃ (g_1 : Nat × Nat × List D), (↑g.snd.fst : Int) + 1 = (↑g_1.snd.fst : Int) ∧ g.snd.snd.length = g_1.snd.snd.length ∧ g.snd.snd = g_1.snd.snd ∧ (g_1.snd.fst ≤ a.str.size ∧ a.str.size < g_1.fst + g_1.snd.fst ∧ g_1.snd.snd.length ≤ 8192 ∧ cuG (a.str.size + 1) (bys a.str) 0 [] = cuG g_1.fst (List.drop g_1.snd.fst (bys a.str)) g_1.snd.fst g_1.snd.snd) ∧ a.str.size - g_1.snd.fst < a.str.size - g.snd.fst else bif decide (byteAt' a.str g.snd.fst = 35) then ∃ (g_1 : Nat), (↑g.snd.fst : Int) = (↑g_1 : Int) ∧ (g_1 ≤ a.str.size ∧ g.snd.fst ≤ g_1 ∧ g.snd.fst + skL (List.drop g.snd.fst (bys a.str)) true = g_1 + skL (List.drop g_1 (bys a.str)) true) ∧ ∀ (g_2 : Nat), g_2 ≤ a.str.size ∧ g.snd.fst ≤ g_2 ∧ g.snd.fst + skL (List.drop g.snd.fst (bys a.str)) true = g_2 + skL (List.drop g_2 (bys a.str)) true → (decide ((↑g_2 : Int) < (↑a.str.size : Int)) = true → Idx (↑g_2 : Int) a.str.size) ∧ bif decide ((↑g_2 : Int) < (↑a.str.size : Int)) && !decide (byteAt' a.str g_2 = 10) then I64 ((↑g_2 : Int) + 1) ∧ ∃ (g_3 : Nat), (↑g_2 : Int) + 1 = (↑g_3 : Int) ∧ (g_3 ≤ a.str.size ∧ g.snd.fst ≤ g_3 ∧ g.snd.fst + skL (List.drop g.snd.fst (bys a.str)) true = g_3 + skL (List.drop g_3 (bys a.str)) true) ∧ a.str.size - g_3 < a.str.size - g_2 else ∃ (g_3 : Nat × Nat × List D), (↑g_2 : Int) = (↑g_3.snd.fst : Int) ∧ g.snd.snd.length = g_3.snd.snd.length ∧ g.snd.snd = g_3.snd.snd ∧ (g_3.snd.fst ≤ a.str.size ∧ a.str.size < g_3.fst + g_3.snd.fst ∧ g_3.snd.snd.length ≤ 8192 ∧ cuG (a.str.size + 1) (bys a.str) 0 [] = cuG g_3.fst (List.drop g_3.snd.fst (bys a.str)) g_3.snd.fst g_3.snd.snd) ∧ a.str.size - g_3.snd.fst < a.str.size - g.snd.fst else 0 ≤ (↑g.snd.fst : Int) ∧ (↑g.snd.fst : Int) < (↑a.str.size : Int) ∧ a.str.size ≤ 1099511627776 ∧ bif !decide (kdL (List.drop g.snd.fst (bys a.str)) = 0) && decide ((↑g.snd.snd.length : Int) = 8192) then [] = (cuT a.str).fst ∧ (↑g.snd.fst : Int) = (↑(cuT a.str).snd.fst : Int) ∧ EqI 4 (cuT a.str).snd.snd else bif !onO (List.drop g.snd.fst (bys a.str)) then [] = (cuT a.str).fst ∧ (↑g.snd.fst : Int) + (↑(onK (List.drop g.snd.fst (bys a.str))) : Int) = (↑(cuT a.str).snd.fst : Int) ∧ EqI 250 (cuT a.str).snd.snd else (g.snd.snd.length + [D.t [D.i (kdL (List.drop g.snd.fst (bys a.str))), D.s (sL (onS (List.drop g.snd.fst (bys a.str)))), D.i (onN (List.drop g.snd.fst (bys a.str))), D.i (↑g.snd.fst : Int)]].length) * 40 ≤ 140737488355328 ∧ g.snd.snd.length + [D.t [D.i (kdL (List.drop g.snd.fst (bys a.str))), D.s (sL (onS (List.drop g.snd.fst (bys a.str)))), D.i (onN (List.drop g.snd.fst (bys a.str))), D.i (↑g.snd.fst : Int)]].length ≤ 9223372036854775807 ∧ ∃ (g_1 : Nat × Nat × List D), (↑g.snd.fst : Int) + (↑(onK (List.drop g.snd.fst (bys a.str))) : Int) = (↑g_1.snd.fst : Int) ∧ g.snd.snd.length + [D.t [D.i (kdL (List.drop g.snd.fst (bys a.str))), D.s (sL (onS (List.drop g.snd.fst (bys a.str)))), D.i (onN (List.drop g.snd.fst (bys a.str))), D.i (↑g.snd.fst : Int)]].length = g_1.snd.snd.length ∧ List.take g.snd.snd.length g.snd.snd ++ [D.t [D.i (kdL (List.drop g.snd.fst (bys a.str))), D.s (sL (onS (List.drop g.snd.fst (bys a.str)))), D.i (onN (List.drop g.snd.fst (bys a.str))), D.i (↑g.snd.fst : Int)]] = g_1.snd.snd ∧ (g_1.snd.fst ≤ a.str.size ∧ a.str.size < g_1.fst + g_1.snd.fst ∧ g_1.snd.snd.length ≤ 8192 ∧ cuG (a.str.size + 1) (bys a.str) 0 [] = cuG g_1.fst (List.drop g_1.snd.fst (bys a.str)) g_1.snd.fst g_1.snd.snd) ∧ a.str.size - g_1.snd.fst < a.str.size - g.snd.fst else List.take g.snd.snd.length g.snd.snd = (cuT a.str).fst ∧ (↑a.str.size : Int) = (↑(cuT a.str).snd.fst : Int) ∧ EqI 0 (cuT a.str).snd.snd) = conGoal Tryd.prog (addS 24 rfoC noS) rfcC_an 200 9 rfcC [a] := by kernel_rfl
set_option maxHeartbeats 2000000 in
theorem rfcC_ok : ConOK Tryd.prog gl 9 rfcC := con_of mo (addS_ok rfoC_ok (noS_ok _)) (an := rfcC_an) 200 fun ds hl hp => by
  obtain ⟨a, rfl⟩ := len1 hl
  rw [← rfcC_vc]
  have hT : ¬ 65536 < a.str.size → cuT a.str = cuG (a.str.size + 1) (bys a.str) 0 [] := fun h => by rw [cuT, if_neg h]
  have hT' : 65536 < a.str.size → cuT a.str = ([], 65536, 4) := fun h => by rw [cuT, if_pos h]
  generalize cuT a.str = T at *
  generalize a.str = s at *
  refine cond_of (fun c => ?_) (fun c => ?_)
  · rw [hT' (by have := of_decide_eq_true c; omega)]; exact ⟨rfl, rfl, rfl⟩
  have c : ¬ 65536 < s.size := by have := of_decide_eq_false c; omega
  have hT := hT c
  refine ⟨(), (s.size + 1, 0, []), rfl, rfl, rfl, ⟨by simp, by simp, by simp, rfl⟩, ?_⟩
  rintro ⟨f, k, l⟩ ⟨h1, h2, h3, h5⟩
  dsimp only at h1 h2 h3 h5 ⊢
  rw [h5] at hT
  obtain ⟨f, rfl⟩ : ∃ f', f = f' + 1 := ⟨f - 1, by omega⟩
  refine cond_of (fun d => ?_) (fun d => ?_)
  · have hk : k < s.size := by have := of_decide_eq_true d; omega
    have hd := bys_drop hk
    have go : ∀ g : Nat, g ≤ s.size → k < g → k + skL ((bys s).drop k) false = g + skL ((bys s).drop g) false → ∃ g_1 : Nat × Nat × List D, (g : Int) = (g_1.snd.fst : Int) ∧ l.length = g_1.snd.snd.length ∧ l = g_1.snd.snd ∧ (g_1.snd.fst ≤ s.size ∧ s.size < g_1.fst + g_1.snd.fst ∧ g_1.snd.snd.length ≤ 8192 ∧ cuG (s.size + 1) (bys s) 0 [] = cuG g_1.fst (List.drop g_1.snd.fst (bys s)) g_1.snd.fst g_1.snd.snd) ∧ s.size - g_1.snd.fst < s.size - k := fun g hg1 hg2 hg3 =>
      ⟨(f + 1, g, l), rfl, rfl, rfl, ⟨hg1, by simp only; omega, h3, h5.trans (cuG_move f l hg3)⟩, by simp only; omega⟩
    refine ⟨⟨by omega, by omega⟩, cond_of (fun e => ?_) (fun e => ?_)⟩
    · refine ⟨⟨by omega, by omega⟩, go (k + 1) (by omega) (by omega) ?_⟩
      simp only [Bool.or_eq_true, decide_eq_true_eq] at e
      rw [hd, skF, if_pos (by rcases e with ((e | e) | e) | e <;> simp [e])]; omega
    have nb : ¬ (byteAt' s k = 32 ∨ byteAt' s k = 9 ∨ byteAt' s k = 10 ∨ byteAt' s k = 13) := fun h => by
      rcases h with h | h | h | h <;> simp [h] at e
    refine cond_of (fun e2 => ?_) (fun e2 => ?_)
    · have e2 := of_decide_eq_true e2
      refine ⟨k, rfl, ⟨by omega, Nat.le_refl _, rfl⟩, ?_⟩
      rintro g ⟨q1, q2, q3⟩
      have hkt : skL ((bys s).drop k) true = skL ((bys s).drop k) false := by
        rw [hd, skT, skF, if_neg nb, if_pos e2, if_neg (by omega)]
      refine ⟨fun h => ⟨by omega, by have := of_decide_eq_true h; omega⟩, cond_of (fun d2 => ?_) (fun d2 => ?_)⟩
      · simp only [Bool.and_eq_true, decide_eq_true_eq, Bool.not_eq_true', decide_eq_false_iff_not] at d2
        have hg : g < s.size := by omega
        have hr : skL ((bys s).drop g) true = skL ((bys s).drop (g + 1)) true + 1 := by rw [bys_drop hg, skT, if_neg d2.2]
        exact ⟨⟨by omega, by omega⟩, g + 1, by omega, ⟨by omega, by omega, by omega⟩, by omega⟩
      · have hgk : k < g := by
          rcases Nat.lt_or_ge k g with h | h
          · exact h
          · have : g = k := by omega
            subst this
            rw [decide_eq_true (show (g : Int) < (s.size : Int) by omega), decide_eq_false (show ¬ byteAt' s g = 10 by omega)] at d2
            cases d2
        refine go g q1 hgk ?_
        have : skL ((bys s).drop g) true = skL ((bys s).drop g) false := by
          by_cases hg : g < s.size
          · have h10 : byteAt' s g = 10 := by
              rw [decide_eq_true (show (g : Int) < (s.size : Int) by omega), Bool.true_and] at d2
              simpa using d2
            rw [bys_drop hg, skT, skF, if_pos h10, if_pos (.inr (.inr (.inl h10)))]
          · rw [bys_end (by omega)]; rfl
        omega
    have n35 := of_decide_eq_false e2
    have h4 : skL ((bys s).drop k) false = 0 := by rw [hd, skF, if_neg nb, if_neg n35]
    have hne : ¬ (bys s).drop k = [] := fun h => by rw [hd] at h; cases h
    rw [cuG_at h4, if_neg hne] at hT
    have hle := onK_le ((bys s).drop k)
    rw [List.length_drop, bys_length] at hle
    refine ⟨by omega, by omega, by omega, cond_of (fun e => ?_) (fun e => ?_)⟩
    · simp only [Bool.and_eq_true, decide_eq_true_eq, Bool.not_eq_true', decide_eq_false_iff_not] at e
      rw [if_pos ⟨by omega, e.1⟩] at hT
      rw [hT]; exact ⟨rfl, rfl, rfl⟩
    have e : ¬ (l.length = 8192 ∧ kdL ((bys s).drop k) ≠ 0) := fun h => by
      rw [decide_eq_true (by omega : (l.length : Int) = 8192), decide_eq_false h.2] at e; cases e
    rw [if_neg e] at hT
    refine cond_of (fun g => ?_) (fun g => ?_)
    · have g : onO ((bys s).drop k) = false := by simpa using g
      rw [if_pos g] at hT
      rw [hT]; exact ⟨rfl, by simp, rfl⟩
    have g : onO ((bys s).drop k) = true := by simpa using g
    have hpos := onK_pos g
    have hkd : kdL ((bys s).drop k) ≠ 0 := fun h => by rw [(on0 h).2.2.2] at g; cases g
    have hl : l.length < 8192 := by
      have : ¬ l.length = 8192 := fun h => e ⟨h, hkd⟩
      omega
    refine ⟨by simp; omega, by simp; omega, (f, k + onK ((bys s).drop k), l ++ [onT ((bys s).drop k) k]), by simp, by simp, by simp [onT], ⟨by simp only; omega, by simp only; omega, by simp; omega, ?_⟩, by simp only; omega⟩
    show cuG (s.size + 1) (bys s) 0 [] = cuG f ((bys s).drop (k + onK ((bys s).drop k))) (k + onK ((bys s).drop k)) (l ++ [onT ((bys s).drop k) k])
    rw [h5, cuG_at h4, if_neg hne, if_neg e, if_neg (by rw [g]; decide), List.drop_drop]
  · have hk : k = s.size := by have := of_decide_eq_false d; omega
    have h0 : (bys s).drop k = [] := bys_end (by omega)
    rw [h0, cuG_at rfl, if_pos rfl] at hT
    rw [hT]
    exact ⟨by simp, by simp [hk], rfl⟩
end Go.Proofs.YtlfafkeamppakaaDoor.XT
