/- Contracts, by the symbolic evaluator. -/
import Derived.Test.YtnhfkdgambncfaaGreatDoorQT3
import Derived.Test.YtnhfkdgambncfaaGreatDoorProg
import Derived.Test.YtnhfkdgambncfaaGreatDoorQT4
import Derived.Test.YtnhfkdgambncfaaGreatDoorQTL
set_option linter.unusedVariables false
set_option linter.unusedSimpArgs false
set_option linter.unusedSectionVars false
namespace Go.Proofs.YtnhfkdgambncfaaGreatDoor.XT
open Go Go.RowKit Go.Proofs.YtnhfkdgambncfaaGreatDoor.Sv
set_option maxRecDepth 100000
def eightC : Con := ⟨[.d true (.i .u64)], fun ds => (fun (a : D) => [inU a.int]) (nthD ds 0), [.d .s], fun ds => (fun (a : D) => [.s (sL (beL a.int 8))]) (nthD ds 0), fun ds => []⟩
def eightC_an : Anns := fun _ _ => none
theorem eightC_vc (a : D) : (I64 (8 * 0) ∧ I64 (56 - 8 * 0) ∧ LeI 0 (IntKind.u64.wrap (56 - 8 * 0)) ∧ Idx 0 8 ∧ 8 ≤ 8 ∧ I64 (0 + 1) ∧ I64 (8 * (0 + 1)) ∧ I64 (56 - 8 * (0 + 1)) ∧ LeI 0 (IntKind.u64.wrap (56 - 8 * (0 + 1))) ∧ Idx (0 + 1) 8 ∧ 8 ≤ [D.i (IntKind.u8.wrap (bshr IntKind.u64 a.int (IntKind.u64.wrap (56 - 8 * 0)))), D.i 0, D.i 0, D.i 0, D.i 0, D.i 0, D.i 0, D.i 0].length ∧ I64 (0 + 1 + 1) ∧ I64 (8 * (0 + 1 + 1)) ∧ I64 (56 - 8 * (0 + 1 + 1)) ∧ LeI 0 (IntKind.u64.wrap (56 - 8 * (0 + 1 + 1))) ∧ Idx (0 + 1 + 1) 8 ∧ 8 ≤ [D.i (IntKind.u8.wrap (bshr IntKind.u64 a.int (IntKind.u64.wrap (56 - 8 * 0)))), D.i (IntKind.u8.wrap (bshr IntKind.u64 a.int (IntKind.u64.wrap (56 - 8 * (0 + 1))))), D.i 0, D.i 0, D.i 0, D.i 0, D.i 0, D.i 0].length ∧ I64 (0 + 1 + 1 + 1) ∧ I64 (8 * (0 + 1 + 1 + 1)) ∧ I64 (56 - 8 * (0 + 1 + 1 + 1)) ∧ LeI 0 (IntKind.u64.wrap (56 - 8 * (0 + 1 + 1 + 1))) ∧ Idx (0 + 1 + 1 + 1) 8 ∧ 8 ≤ [D.i (IntKind.u8.wrap (bshr IntKind.u64 a.int (IntKind.u64.wrap (56 - 8 * 0)))), D.i (IntKind.u8.wrap (bshr IntKind.u64 a.int (IntKind.u64.wrap (56 - 8 * (0 + 1))))), D.i (IntKind.u8.wrap (bshr IntKind.u64 a.int (IntKind.u64.wrap (56 - 8 * (0 + 1 + 1))))), D.i 0, D.i 0, D.i 0, D.i 0, D.i 0].length ∧ I64 (0 + 1 + 1 + 1 + 1) ∧ I64 (8 * (0 + 1 + 1 + 1 + 1)) ∧ I64 (56 - 8 * (0 + 1 + 1 + 1 + 1)) ∧ LeI 0 (IntKind.u64.wrap (56 - 8 * (0 + 1 + 1 + 1 + 1))) ∧ Idx (0 + 1 + 1 + 1 + 1) 8 ∧ 8 ≤ [D.i (IntKind.u8.wrap (bshr IntKind.u64 a.int (IntKind.u64.wrap (56 - 8 * 0)))), D.i (IntKind.u8.wrap (bshr IntKind.u64 a.int (IntKind.u64.wrap (56 - 8 * (0 + 1))))), D.i (IntKind.u8.wrap (bshr IntKind.u64 a.int (IntKind.u64.wrap (56 - 8 * (0 + 1 + 1))))), D.i (IntKind.u8.wrap (bshr IntKind.u64 a.int (IntKind.u64.wrap (56 - 8 * (0 + 1 + 1 + 1))))), D.i 0, D.i 0, D.i 0, D.i 0].length ∧ I64 (0 + 1 + 1 + 1 + 1 + 1) ∧ I64 (8 * (0 + 1 + 1 + 1 + 1 + 1)) ∧ I64 (56 - 8 * (0 + 1 + 1 + 1 + 1 + 1)) ∧ LeI 0 (IntKind.u64.wrap (56 - 8 * (0 + 1 + 1 + 1 + 1 + 1))) ∧ Idx (0 + 1 + 1 + 1 + 1 + 1) 8 ∧ 8 ≤ [D.i (IntKind.u8.wrap (bshr IntKind.u64 a.int (IntKind.u64.wrap (56 - 8 * 0)))), D.i (IntKind.u8.wrap (bshr IntKind.u64 a.int (IntKind.u64.wrap (56 - 8 * (0 + 1))))), D.i (IntKind.u8.wrap (bshr IntKind.u64 a.int (IntKind.u64.wrap (56 - 8 * (0 + 1 + 1))))), D.i (IntKind.u8.wrap (bshr IntKind.u64 a.int (IntKind.u64.wrap (56 - 8 * (0 + 1 + 1 + 1))))), D.i (IntKind.u8.wrap (bshr IntKind.u64 a.int (IntKind.u64.wrap (56 - 8 * (0 + 1 + 1 + 1 + 1))))), D.i 0, D.i 0, D.i 0].length ∧ I64 (0 + 1 + 1 + 1 + 1 + 1 + 1) ∧ I64 (8 * (0 + 1 + 1 + 1 + 1 + 1 + 1)) ∧ I64 (56 - 8 * (0 + 1 + 1 + 1 + 1 + 1 + 1)) ∧ LeI 0 (IntKind.u64.wrap (56 - 8 * (0 + 1 + 1 + 1 + 1 + 1 + 1))) ∧ Idx (0 + 1 + 1 + 1 + 1 + 1 + 1) 8 ∧ 8 ≤ [D.i (IntKind.u8.wrap (bshr IntKind.u64 a.int (IntKind.u64.wrap (56 - 8 * 0)))), D.i (IntKind.u8.wrap (bshr IntKind.u64 a.int (IntKind.u64.wrap (56 - 8 * (0 + 1))))), D.i (IntKind.u8.wrap (bshr IntKind.u64 a.int (IntKind.u64.wrap (56 - 8 * (0 + 1 + 1))))), D.i (IntKind.u8.wrap (bshr IntKind.u64 a.int (IntKind.u64.wrap (56 - 8 * (0 + 1 + 1 + 1))))), D.i (IntKind.u8.wrap (bshr IntKind.u64 a.int (IntKind.u64.wrap (56 - 8 * (0 + 1 + 1 + 1 + 1))))), D.i (IntKind.u8.wrap (bshr IntKind.u64 a.int (IntKind.u64.wrap (56 - 8 * (0 + 1 + 1 + 1 + 1 + 1))))), D.i 0, D.i 0].length ∧ I64 (0 + 1 + 1 + 1 + 1 + 1 + 1 + 1) ∧ I64 (8 * (0 + 1 + 1 + 1 + 1 + 1 + 1 + 1)) ∧ I64 (56 - 8 * (0 + 1 + 1 + 1 + 1 + 1 + 1 + 1)) ∧ LeI 0 (IntKind.u64.wrap (56 - 8 * (0 + 1 + 1 + 1 + 1 + 1 + 1 + 1))) ∧ Idx (0 + 1 + 1 + 1 + 1 + 1 + 1 + 1) 8 ∧ 8 ≤ [D.i (IntKind.u8.wrap (bshr IntKind.u64 a.int (IntKind.u64.wrap (56 - 8 * 0)))), D.i (IntKind.u8.wrap (bshr IntKind.u64 a.int (IntKind.u64.wrap (56 - 8 * (0 + 1))))), D.i (IntKind.u8.wrap (bshr IntKind.u64 a.int (IntKind.u64.wrap (56 - 8 * (0 + 1 + 1))))), D.i (IntKind.u8.wrap (bshr IntKind.u64 a.int (IntKind.u64.wrap (56 - 8 * (0 + 1 + 1 + 1))))), D.i (IntKind.u8.wrap (bshr IntKind.u64 a.int (IntKind.u64.wrap (56 - 8 * (0 + 1 + 1 + 1 + 1))))), D.i (IntKind.u8.wrap (bshr IntKind.u64 a.int (IntKind.u64.wrap (56 - 8 * (0 + 1 + 1 + 1 + 1 + 1))))), D.i (IntKind.u8.wrap (bshr IntKind.u64 a.int (IntKind.u64.wrap (56 - 8 * (0 + 1 + 1 + 1 + 1 + 1 + 1))))), D.i 0].length ∧ I64 (0 + 1 + 1 + 1 + 1 + 1 + 1 + 1 + 1) ∧ LeI 0 0 ∧ LeI 0 (↑8 : Int) ∧ LeI (↑8 : Int) (↑8 : Int) ∧ 8 ≤ [D.i (IntKind.u8.wrap (bshr IntKind.u64 a.int (IntKind.u64.wrap (56 - 8 * 0)))), D.i (IntKind.u8.wrap (bshr IntKind.u64 a.int (IntKind.u64.wrap (56 - 8 * (0 + 1))))), D.i (IntKind.u8.wrap (bshr IntKind.u64 a.int (IntKind.u64.wrap (56 - 8 * (0 + 1 + 1))))), D.i (IntKind.u8.wrap (bshr IntKind.u64 a.int (IntKind.u64.wrap (56 - 8 * (0 + 1 + 1 + 1))))), D.i (IntKind.u8.wrap (bshr IntKind.u64 a.int (IntKind.u64.wrap (56 - 8 * (0 + 1 + 1 + 1 + 1))))), D.i (IntKind.u8.wrap (bshr IntKind.u64 a.int (IntKind.u64.wrap (56 - 8 * (0 + 1 + 1 + 1 + 1 + 1))))), D.i (IntKind.u8.wrap (bshr IntKind.u64 a.int (IntKind.u64.wrap (56 - 8 * (0 + 1 + 1 + 1 + 1 + 1 + 1))))), D.i (IntKind.u8.wrap (bshr IntKind.u64 a.int (IntKind.u64.wrap (56 - 8 * (0 + 1 + 1 + 1 + 1 + 1 + 1 + 1)))))].length ∧ strOfD (List.take ((↑8 : Int) - 0).toNat (List.drop (Int.toNat 0) [D.i (IntKind.u8.wrap (bshr IntKind.u64 a.int (IntKind.u64.wrap (56 - 8 * 0)))), D.i (IntKind.u8.wrap (bshr IntKind.u64 a.int (IntKind.u64.wrap (56 - 8 * (0 + 1))))), D.i (IntKind.u8.wrap (bshr IntKind.u64 a.int (IntKind.u64.wrap (56 - 8 * (0 + 1 + 1))))), D.i (IntKind.u8.wrap (bshr IntKind.u64 a.int (IntKind.u64.wrap (56 - 8 * (0 + 1 + 1 + 1))))), D.i (IntKind.u8.wrap (bshr IntKind.u64 a.int (IntKind.u64.wrap (56 - 8 * (0 + 1 + 1 + 1 + 1))))), D.i (IntKind.u8.wrap (bshr IntKind.u64 a.int (IntKind.u64.wrap (56 - 8 * (0 + 1 + 1 + 1 + 1 + 1))))), D.i (IntKind.u8.wrap (bshr IntKind.u64 a.int (IntKind.u64.wrap (56 - 8 * (0 + 1 + 1 + 1 + 1 + 1 + 1))))), D.i (IntKind.u8.wrap (bshr IntKind.u64 a.int (IntKind.u64.wrap (56 - 8 * (0 + 1 + 1 + 1 + 1 + 1 + 1 + 1)))))])) = sL (beL a.int 8)) = conGoal Tryz.prog noS eightC_an 200 59 eightC [a] := by kernel_rfl
theorem eightC_ok : ConOK Tryz.prog gl 59 eightC := con_of mo (noS_ok _) (an := eightC_an) 200 fun ds hl hp => by
  obtain ⟨a, rfl⟩ := len1 hl
  rw [← eightC_vc]
  have p0 : inU a.int := hp _ (.head _)
  repeat' apply And.intro
  all_goals first | decide | exact Nat.le_refl _ | skip
  simp (disch := decide) only [shrW p0.1, Int.reduceAdd, Int.reduceMul, Int.reduceSub, Int.reduceToNat, Int.reducePow, wrap8]
  rw [beL_eight]
  simp only [Int.ediv_one]
  rfl
def fixC : Con := ⟨[.d true (.i .u64), .d true (.i .i64)], fun ds => (fun (a : D) (b : D) => [inU a.int, 0 ≤ b.int, b.int ≤ 8]) (nthD ds 0) (nthD ds 1), [.d .s], fun ds => (fun (a : D) (b : D) => [.s (sL (beL a.int b.int.toNat))]) (nthD ds 0) (nthD ds 1), fun ds => []⟩
def fixC_an : Anns := fun f i => match f, i with
  | 46, 3 => some fun A st => match A.get 0, A.get 1 with
    | some (.v (.int _ x)), some (.v (.int _ n)) => ⟨Nat × List Int, fun g => [(6, .v (.int .i64 g.1)), (5, .ow st.nx n.toNat)], fun g => [(st.nx, .q 5 (.i .u8) (dI (List.replicate (n.toNat - g.1) 0 ++ g.2)))], fun g => g.1 ≤ n.toNat ∧ g.2.length = g.1 ∧ beL x n.toNat = beL (x / 256 ^ g.1) (n.toNat - g.1) ++ g.2, fun g => n.toNat - g.1⟩
    | _, _ => LAnn.bad
  | _, _ => none
theorem fixC_vc (a b : D) : (0 ≤ b.int ∧ b.int = b.int ∧ b.int * (↑1 : Int) ≤ 16777216 ∧ b.int * (↑1 : Int) ≤ 281474976710656 ∧ b.int ≤ 9223372036854775807 ∧ ∃ (g : Nat × List Int), EqI 0 (↑g.fst : Int) ∧ b.int.toNat = b.int.toNat ∧ List.replicate b.int.toNat (D.i 0) = dI (List.replicate (b.int.toNat - g.fst) 0 ++ g.snd) ∧ (g.fst ≤ b.int.toNat ∧ g.snd.length = g.fst ∧ beL a.int b.int.toNat = beL (a.int / 256 ^ g.fst) (b.int.toNat - g.fst) ++ g.snd) ∧ ∀ (g : Nat × List Int), g.fst ≤ b.int.toNat ∧ g.snd.length = g.fst ∧ beL a.int b.int.toNat = beL (a.int / 256 ^ g.fst) (b.int.toNat - g.fst) ++ g.snd → bif decide ((↑g.fst : Int) < b.int) then I64 (b.int - 1) ∧ I64 (b.int - 1 - (↑g.fst : Int)) ∧ I64 (8 * (↑g.fst : Int)) ∧ 0 ≤ IntKind.u64.wrap (8 * (↑g.fst : Int)) ∧ Idx (b.int - 1 - (↑g.fst : Int)) b.int.toNat ∧ I64 ((↑g.fst : Int) + 1) ∧ ∃ (g_1 : Nat × List Int), (↑g.fst : Int) + 1 = (↑g_1.fst : Int) ∧ b.int.toNat = b.int.toNat ∧ setD (dI (List.replicate (b.int.toNat - g.fst) 0 ++ g.snd)) (b.int - 1 - (↑g.fst : Int)).toNat (D.i (IntKind.u8.wrap (bshr IntKind.u64 a.int (IntKind.u64.wrap (8 * (↑g.fst : Int)))))) = dI (List.replicate (b.int.toNat - g_1.fst) 0 ++ g_1.snd) ∧ (g_1.fst ≤ b.int.toNat ∧ g_1.snd.length = g_1.fst ∧ beL a.int b.int.toNat = beL (a.int / 256 ^ g_1.fst) (b.int.toNat - g_1.fst) ++ g_1.snd) ∧ b.int.toNat - g_1.fst < b.int.toNat - g.fst else strOfD (List.take b.int.toNat (dI (List.replicate (b.int.toNat - g.fst) 0 ++ g.snd))) = sL (beL a.int b.int.toNat)) = conGoal Tryz.prog noS fixC_an 200 46 fixC [a, b] := by kernel_rfl
theorem fixC_ok : ConOK Tryz.prog gl 46 fixC := con_of mo (noS_ok _) (an := fixC_an) 200 fun ds hl hp => by
  obtain ⟨a, b, rfl⟩ := len2 hl
  rw [← fixC_vc]
  have p0 : inU a.int := hp _ (.head _)
  have p1 : 0 ≤ b.int := hp _ (.tail _ (.head _))
  have p2 : b.int ≤ 8 := hp _ (.tail _ (.tail _ (.head _)))
  refine ⟨p1, rfl, by omega, by omega, by omega, (0, []), rfl, rfl, by simp [rep_dI], ⟨by simp, rfl, by simp⟩, ?_⟩
  rintro ⟨k, l⟩ ⟨h1, h2, h3⟩
  dsimp only at h1 h2 h3 ⊢
  by_cases hd : (k : Int) < b.int
  · rw [decide_eq_true hd]
    obtain ⟨m, hm⟩ : ∃ m, b.int.toNat - k = m + 1 := ⟨b.int.toNat - k - 1, by omega⟩
    have hw : bshr .u64 a.int (IntKind.u64.wrap (8 * (k : Int))) = a.int / 256 ^ k := by
      rw [show (8 * (k : Int)) = ((8 * k : Nat) : Int) by omega, u64n (by omega), shr64 p0.1 _ (by omega), pow256]
    refine ⟨⟨by omega, by omega⟩, ⟨by omega, by omega⟩, ⟨by omega, by omega⟩, by rw [show (8 * (k : Int)) = ((8 * k : Nat) : Int) by omega, u64n (by omega)]; omega, ⟨by omega, by omega⟩, ⟨by omega, by omega⟩, (k + 1, (a.int / 256 ^ k) % 256 :: l), by omega, rfl, ?_, ⟨by omega, by simp [h2], ?_⟩, by omega⟩
    · rw [hw, wrap8, hm, show (b.int - 1 - (k : Int)).toNat = m by omega, dI_set (by simp; omega), set_rep, show b.int.toNat - (k + 1) = m by omega]
    · rw [h3, hm, show b.int.toNat - (k + 1) = m by omega, beL, div256, List.append_assoc]; rfl
  · rw [decide_eq_false hd]
    show strOfD _ = _
    rw [dI_take, strOfD_dI, h3, show b.int.toNat - k = 0 by omega]
    rw [List.take_of_length_le (by simp [beL]; omega)]; rfl
def numC : Con := ⟨[.d true (.i .u64)], fun ds => (fun (a : D) => [inU a.int]) (nthD ds 0), [.d .s], fun ds => (fun (a : D) => [.s (sL (numL a.int))]) (nthD ds 0), fun ds => []⟩
def numC_an : Anns := fun f i => match f, i with
  | 19, 4 => some fun A st => match A.get 0 with
    | some (.v (.int _ x)) => ⟨Nat × Int, fun g => [(4, .v (.int .i64 g.1)), (5, .v (.int .u64 g.2))], fun _ => [], fun g => nb x = g.1 + nb g.2 ∧ inU g.2, fun g => g.2.toNat⟩
    | _ => LAnn.bad
  | 19, 9 => some fun A st => match A.get 0, A.get 4 with
    | some (.v (.int _ x)), some (.v (.int _ n)) => ⟨Nat × Int × List Int, fun g => [(6, .v (.int .i64 g.1)), (0, .v (.int .u64 g.2.1))], fun g => [(0, .q 71 (.i .u8) (arrN n.toNat g.1 g.2.2))], fun g => g.1 + g.2.2.length = n.toNat ∧ inU g.2.1 ∧ beL x n.toNat = beL g.2.1 g.1 ++ g.2.2, fun g => g.1⟩
    | _, _ => LAnn.bad
  | _, _ => none
theorem numC_vc (a : D) : (∃ (g : Nat × Int), EqI 0 (↑g.fst : Int) ∧ a.int = g.snd ∧ (nb a.int = g.fst + nb g.snd ∧ 0 ≤ g.snd ∧ g.snd < 18446744073709551616) ∧ ∀ (g : Nat × Int), nb a.int = g.fst + nb g.snd ∧ 0 ≤ g.snd ∧ g.snd < 18446744073709551616 → bif !decide (g.snd = 0) then I64 ((↑g.fst : Int) + 1) ∧ LeI 0 8 ∧ ∃ (g_1 : Nat × Int), (↑g.fst : Int) + 1 = (↑g_1.fst : Int) ∧ bshr IntKind.u64 g.snd 8 = g_1.snd ∧ (nb a.int = g_1.fst + nb g_1.snd ∧ 0 ≤ g_1.snd ∧ g_1.snd < 18446744073709551616) ∧ g_1.snd.toNat < g.snd.toNat else Idx 0 9 ∧ 9 ≤ 9 ∧ ∃ (g_1 : Nat × Int × List Int), (↑g.fst : Int) = (↑g_1.fst : Int) ∧ a.int = g_1.snd.fst ∧ [D.i (IntKind.u8.wrap (↑g.fst : Int)), D.i 0, D.i 0, D.i 0, D.i 0, D.i 0, D.i 0, D.i 0, D.i 0] = arrN g.fst g_1.fst g_1.snd.snd ∧ (g_1.fst + g_1.snd.snd.length = g.fst ∧ (0 ≤ g_1.snd.fst ∧ g_1.snd.fst < 18446744073709551616) ∧ beL a.int g.fst = beL g_1.snd.fst g_1.fst ++ g_1.snd.snd) ∧ ∀ (g_2 : Nat × Int × List Int), g_2.fst + g_2.snd.snd.length = g.fst ∧ (0 ≤ g_2.snd.fst ∧ g_2.snd.fst < 18446744073709551616) ∧ beL a.int g.fst = beL g_2.snd.fst g_2.fst ++ g_2.snd.snd → bif decide (0 < (↑g_2.fst : Int)) then Idx (↑g_2.fst : Int) 9 ∧ 9 ≤ (arrN g.fst g_2.fst g_2.snd.snd).length ∧ LeI 0 8 ∧ I64 ((↑g_2.fst : Int) - 1) ∧ ∃ (g_3 : Nat × Int × List Int), (↑g_2.fst : Int) - 1 = (↑g_3.fst : Int) ∧ bshr IntKind.u64 g_2.snd.fst 8 = g_3.snd.fst ∧ setD (arrN g.fst g_2.fst g_2.snd.snd) g_2.fst (D.i (IntKind.u8.wrap g_2.snd.fst)) = arrN g.fst g_3.fst g_3.snd.snd ∧ (g_3.fst + g_3.snd.snd.length = g.fst ∧ (0 ≤ g_3.snd.fst ∧ g_3.snd.fst < 18446744073709551616) ∧ beL a.int g.fst = beL g_3.snd.fst g_3.fst ++ g_3.snd.snd) ∧ g_3.fst < g_2.fst else I64 ((↑g.fst : Int) + 1) ∧ LeI 0 0 ∧ 0 ≤ (↑g.fst : Int) + 1 ∧ (↑g.fst : Int) + 1 ≤ (↑9 : Int) ∧ 9 ≤ (arrN g.fst g_2.fst g_2.snd.snd).length ∧ strOfD (List.take ((↑g.fst : Int) + 1 - 0).toNat (List.drop (Int.toNat 0) (arrN g.fst g_2.fst g_2.snd.snd))) = sL (numL a.int)) = conGoal Tryz.prog noS numC_an 200 19 numC [a] := by kernel_rfl
theorem numC_ok : ConOK Tryz.prog gl 19 numC := con_of mo (noS_ok _) (an := numC_an) 200 fun ds hl hp => by
  obtain ⟨a, rfl⟩ := len1 hl
  rw [← numC_vc]
  have p0 : inU a.int := hp _ (.head _)
  have hL := nb_le a.int
  refine ⟨(0, a.int), rfl, rfl, ⟨by simp, p0⟩, ?_⟩
  rintro ⟨k, y⟩ ⟨h1, h2⟩
  dsimp only at h1 h2 ⊢
  by_cases hd : y = 0
  · subst hd
    have hk : nb a.int = k := by rw [h1]; rfl
    refine ⟨⟨by decide, by decide⟩, by decide, (k, a.int, []), rfl, rfl, ?_, ⟨by simp, p0, by simp⟩, ?_⟩
    · rw [wrap8n (by omega)]
      simp only [arrN, List.append_nil, List.replicate_append_replicate, show k + (8 - k) = 8 by omega]
      rfl
    · rintro ⟨i, z, l⟩ ⟨h3, h4, h5⟩
      dsimp only at h3 h4 h5 ⊢
      by_cases hi : 0 < (i : Int)
      · rw [decide_eq_true hi]
        obtain ⟨m, rfl⟩ : ∃ m, i = m + 1 := ⟨i - 1, by omega⟩
        refine ⟨⟨by omega, by omega⟩, by rw [arrN_length h3 (by omega)]; decide, by decide, ⟨by omega, by omega⟩, (m, z / 256, z % 256 :: l), by omega, shr8 h4.1, by rw [wrap8, arrN_set (by omega)], ⟨by simp; omega, div_in h4 256 (by decide), ?_⟩, Nat.lt_succ_self m⟩
        rw [h5, beL, List.append_assoc]; rfl
      · rw [decide_eq_false hi]
        obtain rfl : i = 0 := by omega
        refine ⟨⟨by omega, by omega⟩, by decide, by omega, by omega, by rw [arrN_length h3 (by omega)]; decide, ?_⟩
        rw [show ((k : Int) + 1 - 0).toNat = k + 1 by omega]
        show strOfD (List.take (k + 1) (arrN k 0 l)) = _
        rw [arrN_take (by omega), strOfD_dI, numL, hk, h5]; rfl
  · rw [decide_eq_false hd]
    refine ⟨⟨by omega, by omega⟩, by decide, (k + 1, y / 256), by omega, shr8 h2.1, ⟨?_, div_in h2 256 (by decide)⟩, by show (y / 256).toNat < y.toNat; have := h2.1; omega⟩
    have := h2.1
    rw [h1, nb_step (by omega) h2.2]; show k + (nb (y / 256) + 1) = k + 1 + nb (y / 256); omega
def rnumC : Con := ⟨[.d true (.i .u64)], fun ds => (fun (a : D) => [inU a.int]) (nthD ds 0), [.d .s], fun ds => (fun (a : D) => [.s (sL (numL a.int))]) (nthD ds 0), fun ds => []⟩
def rnumC_an : Anns := fun f i => match f, i with
  | 26, 2 => some fun A st => match A.get 0 with
    | some (.v (.int _ x)) => ⟨Nat, fun k => [(3, .v (.int .i64 k))], fun _ => [], fun k => k ≤ 8 ∧ nb x = k + nb (x / 256 ^ k), fun k => 8 - k⟩
    | _ => LAnn.bad
  | _, _ => none
theorem rnumC_vc (a : D) : (∃ (g : Nat), EqI 0 (↑g : Int) ∧ (g ≤ 8 ∧ nb a.int = g + nb (a.int / 256 ^ g)) ∧ ∀ (g : Nat), g ≤ 8 ∧ nb a.int = g + nb (a.int / 256 ^ g) → (decide ((↑g : Int) < 8) = true → I64 (8 * (↑g : Int)) ∧ 0 ≤ IntKind.u64.wrap (8 * (↑g : Int))) ∧ bif decide ((↑g : Int) < 8) && !decide (bshr IntKind.u64 a.int (IntKind.u64.wrap (8 * (↑g : Int))) = 0) then I64 ((↑g : Int) + 1) ∧ ∃ (g_1 : Nat), (↑g : Int) + 1 = (↑g_1 : Int) ∧ (g_1 ≤ 8 ∧ nb a.int = g_1 + nb (a.int / 256 ^ g_1)) ∧ 8 - g_1 < 8 - g else (0 ≤ a.int ∧ a.int < 18446744073709551616) ∧ 0 ≤ (↑g : Int) ∧ (↑g : Int) ≤ 8 ∧ (0 ≤ a.int ∧ a.int < 18446744073709551616) ∧ 0 ≤ (↑g : Int) ∧ (↑g : Int) ≤ 8 ∧ sL (beL a.int g) = sL (beL a.int g) ∧ (strOfD [D.i (IntKind.u8.wrap (↑g : Int))]).size + (sL (beL a.int g)).size ≤ 9223372036854775807 ∧ strOfD [D.i (IntKind.u8.wrap (↑g : Int))] ++ sL (beL a.int g) = sL (numL a.int)) = conGoal Tryz.prog (addS 46 fixC noS) rnumC_an 200 26 rnumC [a] := by kernel_rfl
theorem rnumC_ok : ConOK Tryz.prog gl 26 rnumC := con_of mo (addS_ok fixC_ok (noS_ok _)) (an := rnumC_an) 200 fun ds hl hp => by
  obtain ⟨a, rfl⟩ := len1 hl
  rw [← rnumC_vc]
  have p0 : inU a.int := hp _ (.head _)
  have hL := nb_le a.int
  refine ⟨0, rfl, ⟨by simp, by simp⟩, ?_⟩
  rintro k ⟨h1, h2⟩
  have hw : k < 8 → bshr .u64 a.int (IntKind.u64.wrap (8 * (k : Int))) = a.int / 256 ^ k := fun h => by
      rw [show (8 * (k : Int)) = ((8 * k : Nat) : Int) by omega, u64n (by omega), shr64 p0.1 _ (by omega), pow256]
  have hi : inU (a.int / 256 ^ k) := div_in p0 _ (Int.pow_pos (by decide))
  refine ⟨fun h => ?_, ?_⟩
  · have h := of_decide_eq_true h
    exact ⟨⟨by omega, by omega⟩, by rw [show (8 * (k : Int)) = ((8 * k : Nat) : Int) by omega, u64n (by omega)]; omega⟩
  · by_cases hd : (k : Int) < 8 ∧ ¬ bshr .u64 a.int (IntKind.u64.wrap (8 * (k : Int))) = 0
    · rw [decide_eq_true hd.1, decide_eq_false hd.2]
      have h3 := hd.2
      rw [hw (by omega)] at h3
      refine ⟨⟨by omega, by omega⟩, k + 1, by omega, ⟨by omega, ?_⟩, by omega⟩
      rw [h2, nb_step (by have := hi.1; omega) hi.2, div256]; omega
    · have hz : nb a.int = k := by
        by_cases h8 : k < 8
        · have h0 : a.int / 256 ^ k = 0 := by
            rw [← hw h8]
            exact Classical.byContradiction fun h => hd ⟨by omega, h⟩
          rw [h0] at h2; rw [h2]; rfl
        · omega
      rw [show (decide ((k : Int) < 8) && !decide (bshr IntKind.u64 a.int (IntKind.u64.wrap (8 * (k : Int))) = 0)) = false by
        rw [Bool.eq_false_iff]; intro h; simp only [Bool.and_eq_true, decide_eq_true_eq, Bool.not_eq_true', decide_eq_false_iff_not] at h; exact hd h]
      have e : strOfD [D.i (IntKind.u8.wrap (k : Int))] = sL [(k : Int)] := by rw [wrap8n h1]; exact strOfD_dI [(k : Int)]
      refine ⟨p0, by omega, by omega, p0, by omega, by omega, rfl, ?_, ?_⟩
      · rw [e, sL_size, sL_size, beL_length]; simp; omega
      · rw [e, sL_append, numL, hz]; rfl
end Go.Proofs.YtnhfkdgambncfaaGreatDoor.XT
