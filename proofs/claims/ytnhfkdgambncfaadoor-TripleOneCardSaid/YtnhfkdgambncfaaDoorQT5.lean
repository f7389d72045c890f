/- Contracts, by the symbolic evaluator. -/
import Derived.Test.YtnhfkdgambncfaaDoorQT3
import Derived.Test.YtnhfkdgambncfaaDoorProg
import Derived.Test.YtnhfkdgambncfaaDoorQT4
import Derived.Test.YtnhfkdgambncfaaDoorQTL
set_option linter.unusedVariables false
set_option linter.unusedSimpArgs false
set_option linter.unusedSectionVars false
namespace Go.Proofs.YtnhfkdgambncfaaDoor.XT
open Go Go.RowKit Go.Proofs.YtnhfkdgambncfaaDoor.Sv
set_option maxRecDepth 100000
def eightC : Con := ⟨[.d true (.i .u64)], fun ds => (fun (a : D) => [inU a.int]) (nthD ds 0), [.d .s], fun ds => (fun (a : D) => [.s (sL (beL a.int 8))]) (nthD ds 0), fun ds => []⟩
def eightC_an : Anns := fun _ _ => none
theorem eightC_vc (a : D) : (I64 (8 * 0) ∧ I64 (56 - 8 * 0) ∧ LeI 0 (IntKind.u64.wrap (56 - 8 * 0)) ∧ Idx 0 8 ∧ 8 ≤ 8 ∧ I64 (0 + 1) ∧ I64 (8 * (0 + 1)) ∧ I64 (56 - 8 * (0 + 1)) ∧ LeI 0 (IntKind.u64.wrap (56 - 8 * (0 + 1))) ∧ Idx (0 + 1) 8 ∧ 8 ≤ [D.i (IntKind.u8.wrap (bshr IntKind.u64 a.int (IntKind.u64.wrap (56 - 8 * 0)))), D.i 0, D.i 0, D.i 0, D.i 0, D.i 0, D.i 0, D.i 0].length ∧ I64 (0 + 1 + 1) ∧ I64 (8 * (0 + 1 + 1)) ∧ I64 (56 - 8 * (0 + 1 + 1)) ∧ LeI 0 (IntKind.u64.wrap (56 - 8 * (0 + 1 + 1))) ∧ Idx (0 + 1 + 1) 8 ∧ 8 ≤ [D.i (IntKind.u8.wrap (bshr IntKind.u64 a.int (IntKind.u64.wrap (56 - 8 * 0)))), D.i (IntKind.u8.wrap (bshr IntKind.u64 a.int (IntKind.u64.wrap (56 - 8 * (0 + 1))))), D.i 0, D.i 0, D.i 0, D.i 0, D.i 0, D.i 0].length ∧ I64 (0 + 1 + 1 + 1) ∧ I64 (8 * (0 + 1 + 1 + 1)) ∧ I64 (56 - 8 * (0 + 1 + 1 + 1)) ∧ LeI 0 (IntKind.u64.wrap (56 - 8 * (0 + 1 + 1 + 1))) ∧ Idx (0 + 1 + 1 + 1) 8 ∧ 8 ≤ [D.i (IntKind.u8.wrap (bshr IntKind.u64 a.int (IntKind.u64.wrap (56 - 8 * 0)))), D.i (IntKind.u8.wrap (bshr IntKind.u64 a.int (IntKind.u64.wrap (56 - 8 * (0 + 1))))), D.i (IntKind.u8.wrap (bshr IntKind.u64 a.int (IntKind.u64.wrap (56 - 8 * (0 + 1 + 1))))), D.i 0, D.i 0, D.i 0, D.i 0, D.i 0].length ∧ I64 (0 + 1 + 1 + 1 + 1) ∧ I64 (8 * (0 + 1 + 1 + 1 + 1)) ∧ I64 (56 - 8 * (0 + 1 + 1 + 1 + 1)) ∧ LeI 0 (IntKind.u64.wrap (56 - 8 * (0 + 1 + 1 + 1 + 1))) ∧ Idx (0 + 1 + 1 + 1 + 1) 8 ∧ 8 ≤ [D.i (IntKind.u8.wrap (bshr IntKind.u64 a.int (IntKind.u64.wrap (56 - 8 * 0)))), D.i (IntKind.u8.wrap (bshr IntKind.u64 a.int (IntKind.u64.wrap (56 - 8 * (0 + 1))))), D.i (IntKind.u8.wrap (bshr IntKind.u64 a.int (IntKind.u64.wrap (56 - 8 * (0 + 1 + 1))))), D.i (IntKind.u8.wrap (bshr IntKind.u64 a.int (IntKind.u64.wrap (56 - 8 * (0 + 1 + 1 + 1))))), D.i 0, D.i 0, D.i 0, D.i 0].length ∧ I64 (0 + 1 + 1 + 1 + 1 + 1) ∧ I64 (8 * (0 + 1 + 1 + 1 + 1 + 1)) ∧ I64 (56 - 8 * (0 + 1 + 1 + 1 + 1 + 1)) ∧ LeI 0 (IntKind.u64.wrap (56 - 8 * (0 + 1 + 1 + 1 + 1 + 1))) ∧ Idx (0 + 1 + 1 + 1 + 1 + 1) 8 ∧ 8 ≤ [D.i (IntKind.u8.wrap (bshr IntKind.u64 a.int (IntKind.u64.wrap (56 - 8 * 0)))), D.i (IntKind.u8.wrap (bshr IntKind.u64 a.int (IntKind.u64.wrap (56 - 8 * (0 + 1))))), D.i (IntKind.u8.wrap (bshr IntKind.u64 a.int (IntKind.u64.wrap (56 - 8 * (0 + 1 + 1))))), D.i (IntKind.u8.wrap (bshr IntKind.u64 a.int (IntKind.u64.wrap (56 - 8 * (0 + 1 + 1 + 1))))), D.i (IntKind.u8.wrap (bshr IntKind.u64 a.int (IntKind.u64.wrap (56 - 8 * (0 + 1 + 1 + 1 + 1))))), D.i 0, D.i 0, D.i 0].length ∧ I64 (0 + 1 + 1 + 1 + 1 + 1 + 1) ∧ I64 (8 * (0 + 1 + 1 + 1 + 1 + 1 + 1)) ∧ I64 (56 - 8 * (0 + 1 + 1 + 1 + 1 + 1 + 1)) ∧ LeI 0 (IntKind.u64.wrap (56 - 8 * (0 + 1 + 1 + 1 + 1 + 1 + 1))) ∧ Idx (0 + 1 + 1 + 1 + 1 + 1 + 1) 8 ∧ 8 ≤ [D.i (IntKind.u8.wrap (bshr IntKind.u64 a.int (IntKind.u64.wrap (56 - 8 * 0)))), D.i (IntKind.u8.wrap (bshr IntKind.u64 a.int (IntKind.u64.wrap (56 - 8 * (0 + 1))))), D.i (IntKind.u8.wrap (bshr IntKind.u64 a.int (IntKind.u64.wrap (56 - 8 * (0 + 1 + 1))))), D.i (IntKind.u8.wrap (bshr IntKind.u64 a.int (IntKind.u64.wrap (56 - 8 * (0 + 1 + 1 + 1))))), D.i (IntKind.u8.wrap (bshr IntKind.u64 a.int (IntKind.u64.wrap (56 - 8 * (0 + 1 + 1 + 1 + 1))))), D.i (IntKind.u8.wrap (bshr IntKind.u64 a.int (IntKind.u64.wrap (56 - 8 * (0 + 1 + 1 + 1 + 1 + 1))))), D.i 0, D.i 0].length ∧ I64 (0 + 1 + 1 + 1 + 1 + 1 + 1 + 1) ∧ I64 (8 * (0 + 1 + 1 + 1 + 1 + 1 + 1 + 1)) ∧ I64 (56 - 8 * (0 + 1 + 1 + 1 + 1 + 1 + 1 + 1)) ∧ LeI 0 (IntKind.u64.wrap (56 - 8 * (0 + 1 + 1 + 1 + 1 + 1 + 1 + 1))) ∧ Idx (0 + 1 + 1 + 1 + 1 + 1 + 1 + 1) 8 ∧ 8 ≤ [D.i (IntKind.u8.wrap (bshr IntKind.u64 a.int (IntKind.u64.wrap (56 - 8 * 0)))), D.i (IntKind.u8.wrap (bshr IntKind.u64 a.int (IntKind.u64.wrap (56 - 8 * (0 + 1))))), D.i (IntKind.u8.wrap (bshr IntKind.u64 a.int (IntKind.u64.wrap (56 - 8 * (0 + 1 + 1))))), D.i (IntKind.u8.wrap (bshr IntKind.u64 a.int (IntKind.u64.wrap (56 - 8 * (0 + 1 + 1 + 1))))), D.i (IntKind.u8.wrap (bshr IntKind.u64 a.int (IntKind.u64.wrap (56 - 8 * (0 + 1 + 1 + 1 + 1))))), D.i (IntKind.u8.wrap (bshr IntKind.u64 a.int (IntKind.u64.wrap (56 - 8 * (0 + 1 + 1 + 1 + 1 + 1))))), D.i (IntKind.u8.wrap (bshr IntKind.u64 a.int (IntKind.u64.wrap (56 - 8 * (0 + 1 + 1 + 1 + 1 + 1 + 1))))), D.i 0].length ∧ I64 (0 + 1 + 1 + 1 + 1 + 1 + 1 + 1 + 1) ∧ LeI 0 0 ∧ LeI 0 (↑8 : Int) ∧ LeI (↑8 : Int) (↑8 : Int) ∧ 8 ≤ [D.i (IntKind.u8.wrap (bshr IntKind.u64 a.int (IntKind.u64.wrap (56 - 8 * 0)))), D.i (IntKind.u8.wrap (bshr IntKind.u64 a.int (IntKind.u64.wrap (56 - 8 * (0 + 1))))), D.i (IntKind.u8.wrap (bshr IntKind.u64 a.int (IntKind.u64.wrap (56 - 8 * (0 + 1 + 1))))), D.i (IntKind.u8.wrap (bshr IntKind.u64 a.int (IntKind.u64.wrap (56 - 8 * (0 + 1 + 1 + 1))))), D.i (IntKind.u8.wrap (bshr IntKind.u64 a.int (IntKind.u64.wrap (56 - 8 * (0 + 1 + 1 + 1 + 1))))), D.i (IntKind.u8.wrap (bshr IntKind.u64 a.int (IntKind.u64.wrap (56 - 8 * (0 + 1 + 1 + 1 + 1 + 1))))), D.i (IntKind.u8.wrap (bshr IntKind.u64 a.int (IntKind.u64.wrap (56 - 8 * (0 + 1 + 1 + 1 + 1 + 1 + 1))))), D.i (IntKind.u8.wrap (bshr IntKind.u64 a.int (IntKind.u64.wrap (56 - 8 * (0 + 1 + 1 + 1 + 1 + 1 + 1 + 1)))))].length ∧ strOfD (List.take ((↑8 : Int) - 0).toNat (List.drop (Int.toNat 0) [D.i (IntKind.u8.wrap (bshr IntKind.u64 a.int (IntKind.u64.wrap (56 - 8 * 0)))), D.i (IntKind.u8.wrap (bshr IntKind.u64 a.int (IntKind.u64.wrap (56 - 8 * (0 + 1))))), D.i (IntKind.u8.wrap (bshr IntKind.u64 a.int (IntKind.u64.wrap (56 - 8 * (0 + 1 + 1))))), D.i (IntKind.u8.wrap (bshr IntKind.u64 a.int (IntKind.u64.wrap (56 - 8 * (0 + 1 + 1 + 1))))), D.i (IntKind.u8.wrap (bshr IntKind.u64 a.int (IntKind.u64.wrap (56 - 8 * (0 + 1 + 1 + 1 + 1))))), D.i (IntKind.u8.wrap (bshr IntKind.u64 a.int (IntKind.u64.wrap (56 - 8 * (0 + 1 + 1 + 1 + 1 + 1))))), D.i (IntKind.u8.wrap (bshr IntKind.u64 a.int (IntKind.u64.wrap (56 - 8 * (0 + 1 + 1 + 1 + 1 + 1 + 1))))), D.i (IntKind.u8.wrap (bshr IntKind.u64 a.int (IntKind.u64.wrap (56 - 8 * (0 + 1 + 1 + 1 + 1 + 1 + 1 + 1)))))])) = sL (beL a.int 8)) = conGoal Tryd.prog noS eightC_an 200 42 eightC [a] := by kernel_rfl
theorem eightC_ok : ConOK Tryd.prog gl 42 eightC := con_of mo (noS_ok _) (an := eightC_an) 200 fun ds hl hp => by
  obtain ⟨a, rfl⟩ := len1 hl
  rw [← eightC_vc]
  have p0 : inU a.int := hp _ (.head _)
  repeat' apply And.intro
  all_goals first | decide | exact Nat.le_refl _ | skip
  simp (disch := decide) only [shrW p0.1, Int.reduceAdd, Int.reduceMul, Int.reduceSub, Int.reduceToNat, Int.reducePow, wrap8]
  rw [beL_eight]
  simp only [Int.ediv_one]
  rfl
def numC : Con := ⟨[.d true (.i .u64)], fun ds => (fun (a : D) => [inU a.int]) (nthD ds 0), [.d .s], fun ds => (fun (a : D) => [.s (sL (numL a.int))]) (nthD ds 0), fun ds => []⟩
def numC_an : Anns := fun f i => match f, i with
  | 15, 4 => some fun A st => match A.get 0 with
    | some (.v (.int _ x)) => ⟨Nat × Int, fun g => [(4, .v (.int .i64 g.1)), (5, .v (.int .u64 g.2))], fun _ => [], fun g => nb x = g.1 + nb g.2 ∧ inU g.2, fun g => g.2.toNat⟩
    | _ => LAnn.bad
  | 15, 9 => some fun A st => match A.get 0, A.get 4 with
    | some (.v (.int _ x)), some (.v (.int _ n)) => ⟨Nat × Int × List Int, fun g => [(6, .v (.int .i64 g.1)), (0, .v (.int .u64 g.2.1))], fun g => [(0, .q 63 (.i .u8) (arrN n.toNat g.1 g.2.2))], fun g => g.1 + g.2.2.length = n.toNat ∧ inU g.2.1 ∧ beL x n.toNat = beL g.2.1 g.1 ++ g.2.2, fun g => g.1⟩
    | _, _ => LAnn.bad
  | _, _ => none
theorem numC_vc (a : D) : (∃ (g : Nat × Int), EqI 0 (↑g.fst : Int) ∧ a.int = g.snd ∧ (nb a.int = g.fst + nb g.snd ∧ 0 ≤ g.snd ∧ g.snd < 18446744073709551616) ∧ ∀ (g : Nat × Int), nb a.int = g.fst + nb g.snd ∧ 0 ≤ g.snd ∧ g.snd < 18446744073709551616 → bif !decide (g.snd = 0) then I64 ((↑g.fst : Int) + 1) ∧ LeI 0 8 ∧ ∃ (g_1 : Nat × Int), (↑g.fst : Int) + 1 = (↑g_1.fst : Int) ∧ bshr IntKind.u64 g.snd 8 = g_1.snd ∧ (nb a.int = g_1.fst + nb g_1.snd ∧ 0 ≤ g_1.snd ∧ g_1.snd < 18446744073709551616) ∧ g_1.snd.toNat < g.snd.toNat else Idx 0 9 ∧ 9 ≤ 9 ∧ ∃ (g_1 : Nat × Int × List Int), (↑g.fst : Int) = (↑g_1.fst : Int) ∧ a.int = g_1.snd.fst ∧ [D.i (IntKind.u8.wrap (↑g.fst : Int)), D.i 0, D.i 0, D.i 0, D.i 0, D.i 0, D.i 0, D.i 0, D.i 0] = arrN g.fst g_1.fst g_1.snd.snd ∧ (g_1.fst + g_1.snd.snd.length = g.fst ∧ (0 ≤ g_1.snd.fst ∧ g_1.snd.fst < 18446744073709551616) ∧ beL a.int g.fst = beL g_1.snd.fst g_1.fst ++ g_1.snd.snd) ∧ ∀ (g_2 : Nat × Int × List Int), g_2.fst + g_2.snd.snd.length = g.fst ∧ (0 ≤ g_2.snd.fst ∧ g_2.snd.fst < 18446744073709551616) ∧ beL a.int g.fst = beL g_2.snd.fst g_2.fst ++ g_2.snd.snd → bif decide (0 < (↑g_2.fst : Int)) then Idx (↑g_2.fst : Int) 9 ∧ 9 ≤ (arrN g.fst g_2.fst g_2.snd.snd).length ∧ LeI 0 8 ∧ I64 ((↑g_2.fst : Int) - 1) ∧ ∃ (g_3 : Nat × Int × List Int), (↑g_2.fst : Int) - 1 = (↑g_3.fst : Int) ∧ bshr IntKind.u64 g_2.snd.fst 8 = g_3.snd.fst ∧ setD (arrN g.fst g_2.fst g_2.snd.snd) g_2.fst (D.i (IntKind.u8.wrap g_2.snd.fst)) = arrN g.fst g_3.fst g_3.snd.snd ∧ (g_3.fst + g_3.snd.snd.length = g.fst ∧ (0 ≤ g_3.snd.fst ∧ g_3.snd.fst < 18446744073709551616) ∧ beL a.int g.fst = beL g_3.snd.fst g_3.fst ++ g_3.snd.snd) ∧ g_3.fst < g_2.fst else I64 ((↑g.fst : Int) + 1) ∧ LeI 0 0 ∧ 0 ≤ (↑g.fst : Int) + 1 ∧ (↑g.fst : Int) + 1 ≤ (↑9 : Int) ∧ 9 ≤ (arrN g.fst g_2.fst g_2.snd.snd).length ∧ strOfD (List.take ((↑g.fst : Int) + 1 - 0).toNat (List.drop (Int.toNat 0) (arrN g.fst g_2.fst g_2.snd.snd))) = sL (numL a.int)) = conGoal Tryd.prog noS numC_an 200 15 numC [a] := by kernel_rfl
theorem numC_ok : ConOK Tryd.prog gl 15 numC := con_of mo (noS_ok _) (an := numC_an) 200 fun ds hl hp => by
  obtain ⟨a, rfl⟩ := len1 hl
  rw [← numC_vc]
  have p0 : inU a.int := hp _ (.head _)
  have hL := nb_le a.int
  refine ⟨(0, a.int), rfl, rfl, ⟨by simp, p0⟩, ?_⟩
  rintro ⟨k, y⟩ ⟨h1, h2⟩
  dsimp only at h1 h2 ⊢
  by_cases hd : y = 0
  · subst hd
    have hk : nb a.int = k := by rw [h1]; rfl
    refine ⟨⟨by decide, by decide⟩, by decide, (k, a.int, []), rfl, rfl, ?_, ⟨by simp, p0, by simp⟩, ?_⟩
    · rw [wrap8n (by omega)]
      simp only [arrN, List.append_nil, List.replicate_append_replicate, show k + (8 - k) = 8 by omega]
      rfl
    · rintro ⟨i, z, l⟩ ⟨h3, h4, h5⟩
      dsimp only at h3 h4 h5 ⊢
      by_cases hi : 0 < (i : Int)
      · rw [decide_eq_true hi]
        obtain ⟨m, rfl⟩ : ∃ m, i = m + 1 := ⟨i - 1, by omega⟩
        refine ⟨⟨by omega, by omega⟩, by rw [arrN_length h3 (by omega)]; decide, by decide, ⟨by omega, by omega⟩, (m, z / 256, z % 256 :: l), by omega, shr8 h4.1, by rw [wrap8, arrN_set (by omega)], ⟨by simp; omega, div_in h4 256 (by decide), ?_⟩, Nat.lt_succ_self m⟩
        rw [h5, beL, List.append_assoc]; rfl
      · rw [decide_eq_false hi]
        obtain rfl : i = 0 := by omega
        refine ⟨⟨by omega, by omega⟩, by decide, by omega, by omega, by rw [arrN_length h3 (by omega)]; decide, ?_⟩
        rw [show ((k : Int) + 1 - 0).toNat = k + 1 by omega]
        show strOfD (List.take (k + 1) (arrN k 0 l)) = _
        rw [arrN_take (by omega), strOfD_dI, numL, hk, h5]; rfl
  · rw [decide_eq_false hd]
    refine ⟨⟨by omega, by omega⟩, by decide, (k + 1, y / 256), by omega, shr8 h2.1, ⟨?_, div_in h2 256 (by decide)⟩, by show (y / 256).toNat < y.toNat; have := h2.1; omega⟩
    have := h2.1
    rw [h1, nb_step (by omega) h2.2]; show k + (nb (y / 256) + 1) = k + 1 + nb (y / 256); omega
end Go.Proofs.YtnhfkdgambncfaaDoor.XT
