/- Contracts, by the symbolic evaluator. -/
import Derived.Test.YtlfafkeamppakaaDoorQYC
import Derived.Test.YtlfafkeamppakaaDoorProg
set_option linter.unusedVariables false
set_option linter.unusedSimpArgs false
namespace Go.Proofs.YtlfafkeamppakaaDoor.XT
open Go Go.RowKit Go.Proofs.YtlfafkeamppakaaDoor.Sv
set_option maxRecDepth 100000
def rftC : Con := ⟨[.d true .s, .d true (.i .i64)], fun ds => (fun (a : D) (b : D) => [0 ≤ b.int, b.int < a.str.size, a.str.size ≤ 1099511627776]) (nthD ds 0) (nthD ds 1), [.d .s, .d (.i .i64), .d .b], fun ds => (fun (a : D) (b : D) => [.s (sL (txS ((bys a.str).drop b.int.toNat))), .i (b.int + (txK ((bys a.str).drop b.int.toNat) : Int)), .b (txO ((bys a.str).drop b.int.toNat))]) (nthD ds 0) (nthD ds 1), fun ds => []⟩
def rftC_an : Anns := fun f i => match f, i with
  | 44, 2000003 => some fun A st => ⟨Unit, fun _ => [], fun _ => [(7, .q 5 (.i .u8) [])], fun _ => True, fun _ => 0⟩
  | 44, 3 => some fun A st => match A.get 0, A.get 1 with
    | some (.v (.string s)), some (.v (.int _ i)) => ⟨Nat × List Int, fun g => [(8, .v (.int .i64 g.1)), (7, .ow st.nx g.2.length)], fun g => [(st.nx, .q 5 (.i .u8) (dI g.2))], fun g => i.toNat + 1 ≤ g.1 ∧ g.1 ≤ s.size ∧ g.2.length ≤ 4096 ∧ txG ((bys s).drop (i.toNat + 1)) 0 = (g.2 ++ (txG ((bys s).drop g.1) g.2.length).1, g.1 - (i.toNat + 1) + (txG ((bys s).drop g.1) g.2.length).2.1, (txG ((bys s).drop g.1) g.2.length).2.2), fun g => s.size - g.1⟩
    | _, _ => LAnn.bad
  | 44, 21 => some fun A st => match A.get 0, A.get 8 with
    | some (.v (.string s)), some (.v (.int _ k)) => ⟨Nat, fun g => [(9, .v (.int .i64 g))], fun _ => [], fun g => 1 ≤ g ∧ g ≤ 3 ∧ (2 ≤ g → k.toNat + 1 < s.size ∧ hxC (byteAt' s (k.toNat + 1)) = true) ∧ (3 ≤ g → k.toNat + 2 < s.size ∧ hxC (byteAt' s (k.toNat + 2)) = true), fun g => 3 - g⟩
    | _, _ => LAnn.bad
  | _, _ => none
theorem rftC_vc (a b : D) : (I64 (b.int + 1) ∧ ∃ (g : Unit), ∃ (g : Nat × List Int), b.int + 1 = (↑g.fst : Int) ∧ 0 = g.snd.length ∧ [] = dI g.snd ∧ (b.int.toNat + 1 ≤ g.fst ∧ g.fst ≤ a.str.size ∧ g.snd.length ≤ 4096 ∧ txG (List.drop (b.int.toNat + 1) (bys a.str)) 0 = (g.snd ++ (txG (List.drop g.fst (bys a.str)) g.snd.length).fst, g.fst - (b.int.toNat + 1) + (txG (List.drop g.fst (bys a.str)) g.snd.length).snd.fst, (txG (List.drop g.fst (bys a.str)) g.snd.length).snd.snd)) ∧ ∀ (g : Nat × List Int), b.int.toNat + 1 ≤ g.fst ∧ g.fst ≤ a.str.size ∧ g.snd.length ≤ 4096 ∧ txG (List.drop (b.int.toNat + 1) (bys a.str)) 0 = (g.snd ++ (txG (List.drop g.fst (bys a.str)) g.snd.length).fst, g.fst - (b.int.toNat + 1) + (txG (List.drop g.fst (bys a.str)) g.snd.length).snd.fst, (txG (List.drop g.fst (bys a.str)) g.snd.length).snd.snd) → (decide ((↑g.fst : Int) < (↑a.str.size : Int)) = true → Idx (↑g.fst : Int) a.str.size) ∧ bif decide ((↑g.fst : Int) < (↑a.str.size : Int)) && !decide (byteAt' a.str g.fst = 34) then Idx (↑g.fst : Int) a.str.size ∧ (decide (byteAt' a.str g.fst < 32) = false → Idx (↑g.fst : Int) a.str.size) ∧ bif decide (byteAt' a.str g.fst < 32) || decide (126 < byteAt' a.str g.fst) || decide ((↑g.snd.length : Int) = 4096) then (ByteArray.mk #[]) = sL (txS (List.drop b.int.toNat (bys a.str))) ∧ (↑g.fst : Int) = b.int + (↑(txK (List.drop b.int.toNat (bys a.str))) : Int) ∧ false = txO (List.drop b.int.toNat (bys a.str)) else Idx (↑g.fst : Int) a.str.size ∧ bif !decide (byteAt' a.str g.fst = 92) then Idx (↑g.fst : Int) a.str.size ∧ (g.snd.length + [D.i (byteAt' a.str g.fst)].length) * 1 ≤ 140737488355328 ∧ g.snd.length + [D.i (byteAt' a.str g.fst)].length ≤ 9223372036854775807 ∧ I64 ((↑g.fst : Int) + 1) ∧ ∃ (g_1 : Nat × List Int), (↑g.fst : Int) + 1 = (↑g_1.fst : Int) ∧ g.snd.length + [D.i (byteAt' a.str g.fst)].length = g_1.snd.length ∧ List.take g.snd.length (dI g.snd) ++ [D.i (byteAt' a.str g.fst)] = dI g_1.snd ∧ (b.int.toNat + 1 ≤ g_1.fst ∧ g_1.fst ≤ a.str.size ∧ g_1.snd.length ≤ 4096 ∧ txG (List.drop (b.int.toNat + 1) (bys a.str)) 0 = (g_1.snd ++ (txG (List.drop g_1.fst (bys a.str)) g_1.snd.length).fst, g_1.fst - (b.int.toNat + 1) + (txG (List.drop g_1.fst (bys a.str)) g_1.snd.length).snd.fst, (txG (List.drop g_1.fst (bys a.str)) g_1.snd.length).snd.snd)) ∧ a.str.size - g_1.fst < a.str.size - g.fst else I64 ((↑g.fst : Int) + 1) ∧ bif decide ((↑g.fst : Int) + 1 = (↑a.str.size : Int)) then (ByteArray.mk #[]) = sL (txS (List.drop b.int.toNat (bys a.str))) ∧ (↑g.fst : Int) + 1 = b.int + (↑(txK (List.drop b.int.toNat (bys a.str))) : Int) ∧ false = txO (List.drop b.int.toNat (bys a.str)) else Idx ((↑g.fst : Int) + 1) a.str.size ∧ bif decide (byteAt' a.str ((↑g.fst : Int) + 1).toNat = 92) then bif decide (byteAt' a.str ((↑g.fst : Int) + 1).toNat = 92) then Idx ((↑g.fst : Int) + 1) a.str.size ∧ (g.snd.length + [D.i (byteAt' a.str ((↑g.fst : Int) + 1).toNat)].length) * 1 ≤ 140737488355328 ∧ g.snd.length + [D.i (byteAt' a.str ((↑g.fst : Int) + 1).toNat)].length ≤ 9223372036854775807 ∧ I64 ((↑g.fst : Int) + 1 + 1) ∧ ∃ (g_1 : Nat × List Int), (↑g.fst : Int) + 1 + 1 = (↑g_1.fst : Int) ∧ g.snd.length + [D.i (byteAt' a.str ((↑g.fst : Int) + 1).toNat)].length = g_1.snd.length ∧ List.take g.snd.length (dI g.snd) ++ [D.i (byteAt' a.str ((↑g.fst : Int) + 1).toNat)] = dI g_1.snd ∧ (b.int.toNat + 1 ≤ g_1.fst ∧ g_1.fst ≤ a.str.size ∧ g_1.snd.length ≤ 4096 ∧ txG (List.drop (b.int.toNat + 1) (bys a.str)) 0 = (g_1.snd ++ (txG (List.drop g_1.fst (bys a.str)) g_1.snd.length).fst, g_1.fst - (b.int.toNat + 1) + (txG (List.drop g_1.fst (bys a.str)) g_1.snd.length).snd.fst, (txG (List.drop g_1.fst (bys a.str)) g_1.snd.length).snd.snd)) ∧ a.str.size - g_1.fst < a.str.size - g.fst else bif decide (byteAt' a.str ((↑g.fst : Int) + 1).toNat = 110) then (g.snd.length + [D.i 10].length) * 1 ≤ 140737488355328 ∧ g.snd.length + [D.i 10].length ≤ 9223372036854775807 ∧ I64 ((↑g.fst : Int) + 1 + 1) ∧ ∃ (g_1 : Nat × List Int), (↑g.fst : Int) + 1 + 1 = (↑g_1.fst : Int) ∧ g.snd.length + [D.i 10].length = g_1.snd.length ∧ List.take g.snd.length (dI g.snd) ++ [D.i 10] = dI g_1.snd ∧ (b.int.toNat + 1 ≤ g_1.fst ∧ g_1.fst ≤ a.str.size ∧ g_1.snd.length ≤ 4096 ∧ txG (List.drop (b.int.toNat + 1) (bys a.str)) 0 = (g_1.snd ++ (txG (List.drop g_1.fst (bys a.str)) g_1.snd.length).fst, g_1.fst - (b.int.toNat + 1) + (txG (List.drop g_1.fst (bys a.str)) g_1.snd.length).snd.fst, (txG (List.drop g_1.fst (bys a.str)) g_1.snd.length).snd.snd)) ∧ a.str.size - g_1.fst < a.str.size - g.fst else bif decide (byteAt' a.str ((↑g.fst : Int) + 1).toNat = 120) then ∃ (g_1 : Nat), EqI 1 (↑g_1 : Int) ∧ (1 ≤ g_1 ∧ g_1 ≤ 3 ∧ (2 ≤ g_1 → ((↑g.fst : Int) + 1).toNat + 1 < a.str.size ∧ hxC (byteAt' a.str (((↑g.fst : Int) + 1).toNat + 1)) = true) ∧ (3 ≤ g_1 → ((↑g.fst : Int) + 1).toNat + 2 < a.str.size ∧ hxC (byteAt' a.str (((↑g.fst : Int) + 1).toNat + 2)) = true)) ∧ ∀ (g_2 : Nat), 1 ≤ g_2 ∧ g_2 ≤ 3 ∧ (2 ≤ g_2 → ((↑g.fst : Int) + 1).toNat + 1 < a.str.size ∧ hxC (byteAt' a.str (((↑g.fst : Int) + 1).toNat + 1)) = true) ∧ (3 ≤ g_2 → ((↑g.fst : Int) + 1).toNat + 2 < a.str.size ∧ hxC (byteAt' a.str (((↑g.fst : Int) + 1).toNat + 2)) = true) → bif decide ((↑g_2 : Int) ≤ 2) then I64 ((↑g.fst : Int) + 1 + (↑g_2 : Int)) ∧ (decide ((↑g.fst : Int) + 1 + (↑g_2 : Int) = (↑a.str.size : Int)) = false → I64 ((↑g.fst : Int) + 1 + (↑g_2 : Int)) ∧ Idx ((↑g.fst : Int) + 1 + (↑g_2 : Int)) a.str.size) ∧ bif decide ((↑g.fst : Int) + 1 + (↑g_2 : Int) = (↑a.str.size : Int)) || decide ((if hxC (byteAt' a.str ((↑g.fst : Int) + 1 + (↑g_2 : Int)).toNat) = true then hxV' (byteAt' a.str ((↑g.fst : Int) + 1 + (↑g_2 : Int)).toNat) else -1) < 0) then I64 ((↑g.fst : Int) + 1 + (↑g_2 : Int)) ∧ (ByteArray.mk #[]) = sL (txS (List.drop b.int.toNat (bys a.str))) ∧ (↑g.fst : Int) + 1 + (↑g_2 : Int) = b.int + (↑(txK (List.drop b.int.toNat (bys a.str))) : Int) ∧ false = txO (List.drop b.int.toNat (bys a.str)) else I64 ((↑g_2 : Int) + 1) ∧ ∃ (g_3 : Nat), (↑g_2 : Int) + 1 = (↑g_3 : Int) ∧ (1 ≤ g_3 ∧ g_3 ≤ 3 ∧ (2 ≤ g_3 → ((↑g.fst : Int) + 1).toNat + 1 < a.str.size ∧ hxC (byteAt' a.str (((↑g.fst : Int) + 1).toNat + 1)) = true) ∧ (3 ≤ g_3 → ((↑g.fst : Int) + 1).toNat + 2 < a.str.size ∧ hxC (byteAt' a.str (((↑g.fst : Int) + 1).toNat + 2)) = true)) ∧ 3 - g_3 < 3 - g_2 else I64 ((↑g.fst : Int) + 1 + 1) ∧ Idx ((↑g.fst : Int) + 1 + 1) a.str.size ∧ ((if hxC (byteAt' a.str ((↑g.fst : Int) + 1 + 1).toNat) = true then hxV' (byteAt' a.str ((↑g.fst : Int) + 1 + 1).toNat) else -1) = if hxC (byteAt' a.str ((↑g.fst : Int) + 1 + 1).toNat) = true then hxV' (byteAt' a.str ((↑g.fst : Int) + 1 + 1).toNat) else -1) ∧ ((if hxC (byteAt' a.str ((↑g.fst : Int) + 1 + 1).toNat) = true then hxV' (byteAt' a.str ((↑g.fst : Int) + 1 + 1).toNat) else -1) = if hxC (byteAt' a.str ((↑g.fst : Int) + 1 + 1).toNat) = true then hxV' (byteAt' a.str ((↑g.fst : Int) + 1 + 1).toNat) else -1) ∧ I64 (16 * if hxC (byteAt' a.str ((↑g.fst : Int) + 1 + 1).toNat) = true then hxV' (byteAt' a.str ((↑g.fst : Int) + 1 + 1).toNat) else -1) ∧ I64 ((↑g.fst : Int) + 1 + 2) ∧ Idx ((↑g.fst : Int) + 1 + 2) a.str.size ∧ ((if hxC (byteAt' a.str ((↑g.fst : Int) + 1 + 2).toNat) = true then hxV' (byteAt' a.str ((↑g.fst : Int) + 1 + 2).toNat) else -1) = if hxC (byteAt' a.str ((↑g.fst : Int) + 1 + 2).toNat) = true then hxV' (byteAt' a.str ((↑g.fst : Int) + 1 + 2).toNat) else -1) ∧ I64 ((16 * if hxC (byteAt' a.str ((↑g.fst : Int) + 1 + 1).toNat) = true then hxV' (byteAt' a.str ((↑g.fst : Int) + 1 + 1).toNat) else -1) + if hxC (byteAt' a.str ((↑g.fst : Int) + 1 + 2).toNat) = true then hxV' (byteAt' a.str ((↑g.fst : Int) + 1 + 2).toNat) else -1) ∧ (g.snd.length + [D.i (IntKind.u8.wrap ((16 * if hxC (byteAt' a.str ((↑g.fst : Int) + 1 + 1).toNat) = true then hxV' (byteAt' a.str ((↑g.fst : Int) + 1 + 1).toNat) else -1) + if hxC (byteAt' a.str ((↑g.fst : Int) + 1 + 2).toNat) = true then hxV' (byteAt' a.str ((↑g.fst : Int) + 1 + 2).toNat) else -1))].length) * 1 ≤ 140737488355328 ∧ g.snd.length + [D.i (IntKind.u8.wrap ((16 * if hxC (byteAt' a.str ((↑g.fst : Int) + 1 + 1).toNat) = true then hxV' (byteAt' a.str ((↑g.fst : Int) + 1 + 1).toNat) else -1) + if hxC (byteAt' a.str ((↑g.fst : Int) + 1 + 2).toNat) = true then hxV' (byteAt' a.str ((↑g.fst : Int) + 1 + 2).toNat) else -1))].length ≤ 9223372036854775807 ∧ I64 ((↑g.fst : Int) + 1 + 2) ∧ I64 ((↑g.fst : Int) + 1 + 2 + 1) ∧ ∃ (g_3 : Nat × List Int), (↑g.fst : Int) + 1 + 2 + 1 = (↑g_3.fst : Int) ∧ g.snd.length + [D.i (IntKind.u8.wrap ((16 * if hxC (byteAt' a.str ((↑g.fst : Int) + 1 + 1).toNat) = true then hxV' (byteAt' a.str ((↑g.fst : Int) + 1 + 1).toNat) else -1) + if hxC (byteAt' a.str ((↑g.fst : Int) + 1 + 2).toNat) = true then hxV' (byteAt' a.str ((↑g.fst : Int) + 1 + 2).toNat) else -1))].length = g_3.snd.length ∧ List.take g.snd.length (dI g.snd) ++ [D.i (IntKind.u8.wrap ((16 * if hxC (byteAt' a.str ((↑g.fst : Int) + 1 + 1).toNat) = true then hxV' (byteAt' a.str ((↑g.fst : Int) + 1 + 1).toNat) else -1) + if hxC (byteAt' a.str ((↑g.fst : Int) + 1 + 2).toNat) = true then hxV' (byteAt' a.str ((↑g.fst : Int) + 1 + 2).toNat) else -1))] = dI g_3.snd ∧ (b.int.toNat + 1 ≤ g_3.fst ∧ g_3.fst ≤ a.str.size ∧ g_3.snd.length ≤ 4096 ∧ txG (List.drop (b.int.toNat + 1) (bys a.str)) 0 = (g_3.snd ++ (txG (List.drop g_3.fst (bys a.str)) g_3.snd.length).fst, g_3.fst - (b.int.toNat + 1) + (txG (List.drop g_3.fst (bys a.str)) g_3.snd.length).snd.fst, (txG (List.drop g_3.fst (bys a.str)) g_3.snd.length).snd.snd)) ∧ a.str.size - g_3.fst < a.str.size - g.fst else (ByteArray.mk #[]) = sL (txS (List.drop b.int.toNat (bys a.str))) ∧ (↑g.fst : Int) + 1 = b.int + (↑(txK (List.drop b.int.toNat (bys a.str))) : Int) ∧ false = txO (List.drop b.int.toNat (bys a.str)) else bif decide (byteAt' a.str ((↑g.fst : Int) + 1).toNat = 34) then Idx ((↑g.fst : Int) + 1) a.str.size ∧ (g.snd.length + [D.i (byteAt' a.str ((↑g.fst : Int) + 1).toNat)].length) * 1 ≤ 140737488355328 ∧ g.snd.length + [D.i (byteAt' a.str ((↑g.fst : Int) + 1).toNat)].length ≤ 9223372036854775807 ∧ I64 ((↑g.fst : Int) + 1 + 1) ∧ ∃ (g_1 : Nat × List Int), (↑g.fst : Int) + 1 + 1 = (↑g_1.fst : Int) ∧ g.snd.length + [D.i (byteAt' a.str ((↑g.fst : Int) + 1).toNat)].length = g_1.snd.length ∧ List.take g.snd.length (dI g.snd) ++ [D.i (byteAt' a.str ((↑g.fst : Int) + 1).toNat)] = dI g_1.snd ∧ (b.int.toNat + 1 ≤ g_1.fst ∧ g_1.fst ≤ a.str.size ∧ g_1.snd.length ≤ 4096 ∧ txG (List.drop (b.int.toNat + 1) (bys a.str)) 0 = (g_1.snd ++ (txG (List.drop g_1.fst (bys a.str)) g_1.snd.length).fst, g_1.fst - (b.int.toNat + 1) + (txG (List.drop g_1.fst (bys a.str)) g_1.snd.length).snd.fst, (txG (List.drop g_1.fst (bys a.str)) g_1.snd.length).snd.snd)) ∧ a.str.size - g_1.fst < a.str.size - g.fst else bif decide (byteAt' a.str ((↑g.fst : Int) + 1).toNat = 110) then (g.snd.length + [D.i 10].length) * 1 ≤ 140737488355328 ∧ g.snd.length + [D.i 10].length ≤ 9223372036854775807 ∧ I64 ((↑g.fst : Int) + 1 + 1) ∧ ∃ (g_1 : Nat × List Int), (↑g.fst : Int) + 1 + 1 = (↑g_1.fst : Int) ∧ g.snd.length + [D.i 10].length = g_1.snd.length ∧ List.take g.snd.length (dI g.snd) ++ [D.i 10] = dI g_1.snd ∧ (b.int.toNat + 1 ≤ g_1.fst ∧ g_1.fst ≤ a.str.size ∧ g_1.snd.length ≤ 4096 ∧ txG (List.drop (b.int.toNat + 1) (bys a.str)) 0 = (g_1.snd ++ (txG (List.drop g_1.fst (bys a.str)) g_1.snd.length).fst, g_1.fst - (b.int.toNat + 1) + (txG (List.drop g_1.fst (bys a.str)) g_1.snd.length).snd.fst, (txG (List.drop g_1.fst (bys a.str)) g_1.snd.length).snd.snd)) ∧ a.str.size - g_1.fst < a.str.size - g.fst else bif decide (byteAt' a.str ((↑g.fst : Int) + 1).toNat = 120) then ∃ (g_1 : Nat), EqI 1 (↑g_1 : Int) ∧ (1 ≤ g_1 ∧ g_1 ≤ 3 ∧ (2 ≤ g_1 → ((↑g.fst : Int) + 1).toNat + 1 < a.str.size ∧ hxC (byteAt' a.str (((↑g.fst : Int) + 1).toNat + 1)) = true) ∧ (3 ≤ g_1 → ((↑g.fst : Int) + 1).toNat + 2 < a.str.size ∧ hxC (byteAt' a.str (((↑g.fst : Int) + 1).toNat + 2)) = true)) ∧ ∀ (g_2 : Nat), 1 ≤ g_2 ∧ g_2 ≤ 3 ∧ (2 ≤ g_2 → ((↑g.fst : Int) + 1).toNat + 1 < a.str.size ∧ hxC (byteAt' a.str (((↑g.fst : Int) + 1).toNat + 1)) = true) ∧ (3 ≤ g_2 → ((↑g.fst : Int) + 1).toNat + 2 < a.str.size ∧ hxC (byteAt' a.str (((↑g.fst : Int) + 1).toNat + 2)) = true) → bif decide ((↑g_2 : Int) ≤ 2) then I64 ((↑g.fst : Int) + 1 + (↑g_2 : Int)) ∧ (decide ((↑g.fst : Int) + 1 + (↑g_2 : Int) = (↑a.str.size : Int)) = false → I64 ((↑g.fst : Int) + 1 + (↑g_2 : Int)) ∧ Idx ((↑g.fst : Int) + 1 + (↑g_2 : Int)) a.str.size) ∧ bif decide ((↑g.fst : Int) + 1 + (↑g_2 : Int) = (↑a.str.size : Int)) || decide ((if hxC (byteAt' a.str ((↑g.fst : Int) + 1 + (↑g_2 : Int)).toNat) = true then hxV' (byteAt' a.str ((↑g.fst : Int) + 1 + (↑g_2 : Int)).toNat) else -1) < 0) then I64 ((↑g.fst : Int) + 1 + (↑g_2 : Int)) ∧ (ByteArray.mk #[]) = sL (txS (List.drop b.int.toNat (bys a.str))) ∧ (↑g.fst : Int) + 1 + (↑g_2 : Int) = b.int + (↑(txK (List.drop b.int.toNat (bys a.str))) : Int) ∧ false = txO (List.drop b.int.toNat (bys a.str)) else I64 ((↑g_2 : Int) + 1) ∧ ∃ (g_3 : Nat), (↑g_2 : Int) + 1 = (↑g_3 : Int) ∧ (1 ≤ g_3 ∧ g_3 ≤ 3 ∧ (2 ≤ g_3 → ((↑g.fst : Int) + 1).toNat + 1 < a.str.size ∧ hxC (byteAt' a.str (((↑g.fst : Int) + 1).toNat + 1)) = true) ∧ (3 ≤ g_3 → ((↑g.fst : Int) + 1).toNat + 2 < a.str.size ∧ hxC (byteAt' a.str (((↑g.fst : Int) + 1).toNat + 2)) = true)) ∧ 3 - g_3 < 3 - g_2 else I64 ((↑g.fst : Int) + 1 + 1) ∧ Idx ((↑g.fst : Int) + 1 + 1) a.str.size ∧ ((if hxC (byteAt' a.str ((↑g.fst : Int) + 1 + 1).toNat) = true then hxV' (byteAt' a.str ((↑g.fst : Int) + 1 + 1).toNat) else -1) = if hxC (byteAt' a.str ((↑g.fst : Int) + 1 + 1).toNat) = true then hxV' (byteAt' a.str ((↑g.fst : Int) + 1 + 1).toNat) else -1) ∧ ((if hxC (byteAt' a.str ((↑g.fst : Int) + 1 + 1).toNat) = true then hxV' (byteAt' a.str ((↑g.fst : Int) + 1 + 1).toNat) else -1) = if hxC (byteAt' a.str ((↑g.fst : Int) + 1 + 1).toNat) = true then hxV' (byteAt' a.str ((↑g.fst : Int) + 1 + 1).toNat) else -1) ∧ I64 (16 * if hxC (byteAt' a.str ((↑g.fst : Int) + 1 + 1).toNat) = true then hxV' (byteAt' a.str ((↑g.fst : Int) + 1 + 1).toNat) else -1) ∧ I64 ((↑g.fst : Int) + 1 + 2) ∧ Idx ((↑g.fst : Int) + 1 + 2) a.str.size ∧ ((if hxC (byteAt' a.str ((↑g.fst : Int) + 1 + 2).toNat) = true then hxV' (byteAt' a.str ((↑g.fst : Int) + 1 + 2).toNat) else -1) = if hxC (byteAt' a.str ((↑g.fst : Int) + 1 + 2).toNat) = true then hxV' (byteAt' a.str ((↑g.fst : Int) + 1 + 2).toNat) else -1) ∧ I64 ((16 * if hxC (byteAt' a.str ((↑g.fst : Int) + 1 + 1).toNat) = true then hxV' (byteAt' a.str ((↑g.fst : Int) + 1 + 1).toNat) else -1) + if hxC (byteAt' a.str ((↑g.fst : Int) + 1 + 2).toNat) = true then hxV' (byteAt' a.str ((↑g.fst : Int) + 1 + 2).toNat) else -1) ∧ (g.snd.length + [D.i (IntKind.u8.wrap ((16 * if hxC (byteAt' a.str ((↑g.fst : Int) + 1 + 1).toNat) = true then hxV' (byteAt' a.str ((↑g.fst : Int) + 1 + 1).toNat) else -1) + if hxC (byteAt' a.str ((↑g.fst : Int) + 1 + 2).toNat) = true then hxV' (byteAt' a.str ((↑g.fst : Int) + 1 + 2).toNat) else -1))].length) * 1 ≤ 140737488355328 ∧ g.snd.length + [D.i (IntKind.u8.wrap ((16 * if hxC (byteAt' a.str ((↑g.fst : Int) + 1 + 1).toNat) = true then hxV' (byteAt' a.str ((↑g.fst : Int) + 1 + 1).toNat) else -1) + if hxC (byteAt' a.str ((↑g.fst : Int) + 1 + 2).toNat) = true then hxV' (byteAt' a.str ((↑g.fst : Int) + 1 + 2).toNat) else -1))].length ≤ 9223372036854775807 ∧ I64 ((↑g.fst : Int) + 1 + 2) ∧ I64 ((↑g.fst : Int) + 1 + 2 + 1) ∧ ∃ (g_3 : Nat × List Int), (↑g.fst : Int) + 1 + 2 + 1 = (↑g_3.fst : Int) ∧ g.snd.length + [D.i (IntKind.u8.wrap ((16 * if hxC (byteAt' a.str ((↑g.fst : Int) + 1 + 1).toNat) = true then hxV' (byteAt' a.str ((↑g.fst : Int) + 1 + 1).toNat) else -1) + if hxC (byteAt' a.str ((↑g.fst : Int) + 1 + 2).toNat) = true then hxV' (byteAt' a.str ((↑g.fst : Int) + 1 + 2).toNat) else -1))].length = g_3.snd.length ∧ List.take g.snd.length (dI g.snd) ++ [D.i (IntKind.u8.wrap ((16 * if hxC (byteAt' a.str ((↑g.fst : Int) + 1 + 1).toNat) = true then hxV' (byteAt' a.str ((↑g.fst : Int) + 1 + 1).toNat) else -1) + if hxC (byteAt' a.str ((↑g.fst : Int) + 1 + 2).toNat) = true then hxV' (byteAt' a.str ((↑g.fst : Int) + 1 + 2).toNat) else -1))] = dI g_3.snd ∧ (b.int.toNat + 1 ≤ g_3.fst ∧ g_3.fst ≤ a.str.size ∧ g_3.snd.length ≤ 4096 ∧ txG (List.drop (b.int.toNat + 1) (bys a.str)) 0 = (g_3.snd ++ (txG (List.drop g_3.fst (bys a.str)) g_3.snd.length).fst, g_3.fst - (b.int.toNat + 1) + (txG (List.drop g_3.fst (bys a.str)) g_3.snd.length).snd.fst, (txG (List.drop g_3.fst (bys a.str)) g_3.snd.length).snd.snd)) ∧ a.str.size - g_3.fst < a.str.size - g.fst else (ByteArray.mk #[]) = sL (txS (List.drop b.int.toNat (bys a.str))) ∧ (↑g.fst : Int) + 1 = b.int + (↑(txK (List.drop b.int.toNat (bys a.str))) : Int) ∧ false = txO (List.drop b.int.toNat (bys a.str)) else bif decide ((↑g.fst : Int) = (↑a.str.size : Int)) then (ByteArray.mk #[]) = sL (txS (List.drop b.int.toNat (bys a.str))) ∧ (↑g.fst : Int) = b.int + (↑(txK (List.drop b.int.toNat (bys a.str))) : Int) ∧ false = txO (List.drop b.int.toNat (bys a.str)) else I64 ((↑g.fst : Int) + 1) ∧ strOfD (List.take g.snd.length (dI g.snd)) = sL (txS (List.drop b.int.toNat (bys a.str))) ∧ (↑g.fst : Int) + 1 = b.int + (↑(txK (List.drop b.int.toNat (bys a.str))) : Int) ∧ true = txO (List.drop b.int.toNat (bys a.str))) = conGoal Tryd.prog (addS 56 rfhC noS) rftC_an 200 44 rftC [a, b] := by kernel_rfl
set_option maxHeartbeats 2000000 in
theorem rftC_ok : ConOK Tryd.prog gl 44 rftC := con_of mo (addS_ok rfhC_ok (noS_ok _)) (an := rftC_an) 200 fun ds hl hp => by
  obtain ⟨a, b, rfl⟩ := len2 hl
  rw [← rftC_vc]
  have p0 : 0 ≤ b.int := hp _ (.head _)
  have p1 : b.int < a.str.size := hp _ (.tail _ (.head _))
  have p2 : a.str.size ≤ 1099511627776 := hp _ (.tail _ (.tail _ (.head _)))
  obtain ⟨p, hp⟩ := Int.eq_ofNat_of_zero_le p0
  rw [hp] at p1
  rw [hp, Int.toNat_natCast]
  generalize a.str = s at *
  have hd1 : ((bys s).drop p).drop 1 = (bys s).drop (p + 1) := by rw [List.drop_drop]
  have eS : txS ((bys s).drop p) = if (txG ((bys s).drop (p + 1)) 0).2.2 = true then (txG ((bys s).drop (p + 1)) 0).1 else [] := by rw [txS, hd1]
  have eK : txK ((bys s).drop p) = 1 + (txG ((bys s).drop (p + 1)) 0).2.1 := by rw [txK, hd1]
  have eO : txO ((bys s).drop p) = (txG ((bys s).drop (p + 1)) 0).2.2 := by rw [txO, hd1]
  generalize txS ((bys s).drop p) = tS at eS ⊢
  generalize txK ((bys s).drop p) = tK at eK ⊢
  generalize txO ((bys s).drop p) = tO at eO ⊢
  refine ⟨⟨by omega, by omega⟩, (), (p + 1, []), rfl, rfl, rfl, ⟨Nat.le_refl _, by show p + 1 ≤ s.size; omega, Nat.zero_le _, by simp⟩, ?_⟩
  rintro ⟨k, l⟩ ⟨h1, h2, h3, h4⟩
  dsimp only at h1 h2 h3 h4 ⊢
  have fail : ∀ (j : Nat) (x : Int), txG ((bys s).drop k) l.length = ([], j, false) → x = (k : Int) + j → ((ByteArray.mk #[]) = sL tS ∧ x = (p : Int) + (tK : Int) ∧ false = tO) := fun j x hx he => by
    rw [hx] at h4
    rw [h4] at eS eK eO
    rw [eS, eK, eO]
    exact ⟨rfl, by simp only; omega, rfl⟩
  refine ⟨fun h => ⟨by omega, by have := of_decide_eq_true h; omega⟩, cond_of (fun c => ?_) (fun c => ?_)⟩
  · simp only [Bool.and_eq_true, decide_eq_true_eq, Bool.not_eq_true', decide_eq_false_iff_not] at c
    obtain ⟨c1, c2⟩ := c
    have hk : k < s.size := by omega
    have hd := bys_drop hk
    refine ⟨⟨by omega, by omega⟩, fun _ => ⟨by omega, by omega⟩, cond_of (fun d => ?_) (fun d => ?_)⟩
    · refine fail 0 _ ?_ (by omega)
      rw [hd]
      refine txBad c2 ?_
      simp only [Bool.or_eq_true, decide_eq_true_eq] at d
      omega
    have hb : ¬ (byteAt' s k < 32 ∨ 126 < byteAt' s k ∨ l.length = 4096) := by
      simp only [Bool.or_eq_false_iff, decide_eq_false_iff_not] at d
      rintro (h | h | h)
      · exact d.1.1 h
      · exact d.1.2 h
      · exact d.2 (by omega)
    have hl : l.length < 4096 := by
      have : ¬ l.length = 4096 := fun h => hb (.inr (.inr h))
      omega
    have step : ∀ (v : Int) (j : Nat) (x : Int), 1 ≤ j → k + j ≤ s.size → x = (k : Int) + j → txG ((bys s).drop k) l.length = (v :: (txG ((bys s).drop (k + j)) (l.length + 1)).1, (txG ((bys s).drop (k + j)) (l.length + 1)).2.1 + j, (txG ((bys s).drop (k + j)) (l.length + 1)).2.2) →
      ∃ g_1 : Nat × List Int, x = (g_1.fst : Int) ∧ l.length + [D.i v].length = g_1.snd.length ∧ List.take l.length (dI l) ++ [D.i v] = dI g_1.snd ∧ (p + 1 ≤ g_1.fst ∧ g_1.fst ≤ s.size ∧ g_1.snd.length ≤ 4096 ∧ txG (List.drop (p + 1) (bys s)) 0 = (g_1.snd ++ (txG (List.drop g_1.fst (bys s)) g_1.snd.length).fst, g_1.fst - (p + 1) + (txG (List.drop g_1.fst (bys s)) g_1.snd.length).snd.fst, (txG (List.drop g_1.fst (bys s)) g_1.snd.length).snd.snd)) ∧ s.size - g_1.fst < s.size - k := by
      intro v j x hj hk hx he
      have hlen : (l ++ [v]).length = l.length + 1 := by simp
      refine ⟨(k + j, l ++ [v]), by rw [hx]; simp, by simp, by rw [take_dI]; simp [dI], ⟨by show p + 1 ≤ k + j; omega, hk, by show (l ++ [v]).length ≤ 4096; omega, ?_⟩, by show s.size - (k + j) < s.size - k; omega⟩
      show txG (List.drop (p + 1) (bys s)) 0 = (l ++ [v] ++ (txG (List.drop (k + j) (bys s)) (l ++ [v]).length).fst, k + j - (p + 1) + (txG (List.drop (k + j) (bys s)) (l ++ [v]).length).snd.fst, (txG (List.drop (k + j) (bys s)) (l ++ [v]).length).snd.snd)
      rw [hlen, h4, he]
      simp only [List.append_assoc, List.singleton_append, Prod.mk.injEq, and_true, true_and]
      omega
    refine ⟨⟨by omega, by omega⟩, cond_of (fun e => ?_) (fun e => ?_)⟩
    · have e : ¬ byteAt' s k = 92 := by simpa using e
      refine ⟨⟨by omega, by omega⟩, by simp; omega, by simp; omega, ⟨by omega, by omega⟩, step _ 1 _ (Nat.le_refl _) (by omega) (by omega) ?_⟩
      rw [hd]; exact txPl c2 hb e
    · have e : byteAt' s k = 92 := by simpa using e
      have he := tx_esc ((bys s).drop (k + 1)) l.length (by omega)
      rw [← e, ← hd] at he
      have t1 : ((k : Int) + 1).toNat = k + 1 := rfl
      refine ⟨⟨by omega, by omega⟩, cond_of (fun f => ?_) (fun f => ?_)⟩
      · have f := of_decide_eq_true f
        refine fail 1 _ ?_ (by omega)
        rw [he, bys_end (by omega)]; rfl
      have f := of_decide_eq_false f
      have hk1 : k + 1 < s.size := by omega
      have g0 : ((bys s).drop (k + 1)).getD 0 0 = byteAt' s (k + 1) := by rw [getD_drop (by omega), Nat.add_zero]
      rw [t1]
      refine ⟨⟨by omega, by omega⟩, cond_of (fun f2 => ?_) (fun f2 => ?_)⟩
      · have f3 := of_decide_eq_true f2
        refine cond_of (fun _ => ?_) (fun c' => by rw [f2] at c'; cases c')
        have o1 : esO ((bys s).drop (k + 1)) = true := by unfold esO; rw [g0, f3]; rfl
        have o2 : esV ((bys s).drop (k + 1)) = byteAt' s (k + 1) := by unfold esV; rw [g0, f3]; rfl
        have o3 : esK ((bys s).drop (k + 1)) = 1 := by unfold esK; rw [g0, f3]; rfl
        rw [if_pos o1, o2, o3, List.drop_drop] at he
        exact ⟨⟨by omega, by omega⟩, by simp; omega, by simp; omega, ⟨by omega, by omega⟩, step _ 2 _ (by omega) (by omega) (by omega) he⟩
      have n92 := of_decide_eq_false f2
      refine cond_of (fun f5 => ?_) (fun f5 => ?_)
      · have f3 := of_decide_eq_true f5
        have o1 : esO ((bys s).drop (k + 1)) = true := by unfold esO; rw [g0, f3]; rfl
        have o2 : esV ((bys s).drop (k + 1)) = byteAt' s (k + 1) := by unfold esV; rw [g0, f3]; rfl
        have o3 : esK ((bys s).drop (k + 1)) = 1 := by unfold esK; rw [g0, f3]; rfl
        rw [if_pos o1, o2, o3, List.drop_drop] at he
        exact ⟨⟨by omega, by omega⟩, by simp; omega, by simp; omega, ⟨by omega, by omega⟩, step _ 2 _ (by omega) (by omega) (by omega) he⟩
      have n34 := of_decide_eq_false f5
      refine cond_of (fun f6 => ?_) (fun f6 => ?_)
      · have f3 := of_decide_eq_true f6
        have o1 : esO ((bys s).drop (k + 1)) = true := by unfold esO; rw [g0, f3]; rfl
        have o2 : esV ((bys s).drop (k + 1)) = 10 := by unfold esV; rw [g0, f3]; rfl
        have o3 : esK ((bys s).drop (k + 1)) = 1 := by unfold esK; rw [g0, f3]; rfl
        rw [if_pos o1, o2, o3, List.drop_drop] at he
        exact ⟨by simp; omega, by simp; omega, ⟨by omega, by omega⟩, step _ 2 _ (by omega) (by omega) (by omega) he⟩
      have n110 := of_decide_eq_false f6
      refine cond_of (fun f7 => ?_) (fun f7 => ?_)
      · have f3 := of_decide_eq_true f7
        have h0x : hxC 0 = false := by decide
        have o : esO ((bys s).drop (k + 1)) = (hxC (((bys s).drop (k + 1)).getD 1 0) && hxC (((bys s).drop (k + 1)).getD 2 0)) := by unfold esO; rw [g0, f3]; rfl
        have oK : esK ((bys s).drop (k + 1)) = if hxC (((bys s).drop (k + 1)).getD 1 0) = false then 1 else if hxC (((bys s).drop (k + 1)).getD 2 0) = false then 2 else 3 := by unfold esK; rw [g0, f3]; rfl
        have oV : hxC (((bys s).drop (k + 1)).getD 1 0) = true → hxC (((bys s).drop (k + 1)).getD 2 0) = true → esV ((bys s).drop (k + 1)) = 16 * hxV' (((bys s).drop (k + 1)).getD 1 0) + hxV' (((bys s).drop (k + 1)).getD 2 0) := fun h1 h2 => by
          unfold esV; rw [g0, f3, if_neg (by decide), if_neg (by decide), if_pos ⟨rfl, h1, h2⟩]
        refine ⟨1, rfl, ⟨Nat.le_refl _, by omega, fun h => absurd h (by omega), fun h => absurd h (by omega)⟩, ?_⟩
        rintro g ⟨q1, q2, q3, q4⟩
        have tg : ((k : Int) + 1 + (g : Int)).toNat = k + 1 + g := by omega
        rw [tg]
        refine cond_of (fun d => ?_) (fun d => ?_)
        · have d := of_decide_eq_true d
          have hsz : k + 1 + g ≤ s.size := by
            rcases (show g = 1 ∨ g = 2 by omega) with rfl | rfl
            · omega
            · have := (q3 (by omega)).1; omega
          refine ⟨⟨by omega, by omega⟩, fun e => ⟨⟨by omega, by omega⟩, ⟨by omega, by have := of_decide_eq_false e; omega⟩⟩, cond_of (fun e => ?_) (fun e => ?_)⟩
          · have bad : hxC (((bys s).drop (k + 1)).getD g 0) = false := by
              rcases Nat.lt_or_ge (k + 1 + g) s.size with h | h
              · rw [getD_drop h]
                simp only [Bool.or_eq_true, decide_eq_true_eq, hx_neg] at e
                rcases e with e | e
                · omega
                · exact e
              · rw [List.getD_eq_getElem?_getD, List.getElem?_eq_none (by rw [List.length_drop, bys_length]; omega)]; exact h0x
            refine ⟨⟨by omega, by omega⟩, fail (1 + g) _ ?_ (by omega)⟩
            rcases (show g = 1 ∨ g = 2 by omega) with rfl | rfl
            · have oK1 : esK ((bys s).drop (k + 1)) = 1 := by rw [oK, if_pos bad]
              have o1 : esO ((bys s).drop (k + 1)) = false := by rw [o, bad]; rfl
              rw [if_neg (by rw [o1]; decide), oK1] at he; exact he
            · have e1 : hxC (((bys s).drop (k + 1)).getD 1 0) = true := by rw [getD_drop (q3 (by omega)).1]; exact (q3 (by omega)).2
              have oK1 : esK ((bys s).drop (k + 1)) = 2 := by rw [oK, if_neg (by rw [e1]; decide), if_pos bad]
              have o1 : esO ((bys s).drop (k + 1)) = false := by rw [o, bad, Bool.and_false]
              rw [if_neg (by rw [o1]; decide), oK1] at he; exact he
          · simp only [Bool.or_eq_false_iff, decide_eq_false_iff_not, hx_neg] at e
            have e1 : k + 1 + g < s.size := by have := e.1; omega
            have e2 : hxC (byteAt' s (k + 1 + g)) = true := by simpa using e.2
            refine ⟨⟨by omega, by omega⟩, g + 1, by omega, ⟨by omega, by omega, fun h => ?_, fun h => ?_⟩, by omega⟩
            · rcases (show g = 1 ∨ g = 2 by omega) with rfl | rfl
              · exact ⟨e1, e2⟩
              · exact q3 (by omega)
            · rcases (show g = 2 by omega) with rfl
              exact ⟨e1, e2⟩
        · have d := of_decide_eq_false d
          obtain ⟨w1, w2⟩ := q3 (by omega)
          obtain ⟨w3, w4⟩ := q4 (by omega)
          have tt1 : ((k : Int) + 1 + 1).toNat = k + 1 + 1 := by omega
          have tt2 : ((k : Int) + 1 + 2).toNat = k + 1 + 2 := by omega
          rw [tt1, tt2, if_pos w2, if_pos w4]
          have v1 := hxV_in w2
          have v2 := hxV_in w4
          have e1 : ((bys s).drop (k + 1)).getD 1 0 = byteAt' s (k + 1 + 1) := getD_drop w1
          have e2 : ((bys s).drop (k + 1)).getD 2 0 = byteAt' s (k + 1 + 2) := getD_drop w3
          have oK1 : esK ((bys s).drop (k + 1)) = 3 := by rw [oK, e1, e2, if_neg (by rw [w2]; decide), if_neg (by rw [w4]; decide)]
          have o1 : esO ((bys s).drop (k + 1)) = true := by rw [o, e1, e2, w2, w4]; rfl
          rw [if_pos o1, oV (by rw [e1]; exact w2) (by rw [e2]; exact w4), oK1, e1, e2, List.drop_drop] at he
          generalize hxV' (byteAt' s (k + 1 + 1)) = V1 at *
          generalize hxV' (byteAt' s (k + 1 + 2)) = V2 at *
          have w : IntKind.u8.wrap (16 * V1 + V2) = 16 * V1 + V2 := by rw [wrap8]; omega
          rw [w]
          exact ⟨⟨by omega, by omega⟩, ⟨by omega, by omega⟩, rfl, rfl, ⟨by omega, by omega⟩, ⟨by omega, by omega⟩, ⟨by omega, by omega⟩, rfl, ⟨by omega, by omega⟩, by simp; omega, by simp; omega, ⟨by omega, by omega⟩, ⟨by omega, by omega⟩, step _ 4 _ (by omega) (by omega) (by omega) he⟩
      · have n120 := of_decide_eq_false f7
        have o1 : esO ((bys s).drop (k + 1)) = false := by unfold esO; rw [g0, f2, f5, f6, f7]; rfl
        have o3 : esK ((bys s).drop (k + 1)) = 0 := by
          unfold esK; rw [g0, if_neg (by omega), if_neg n120]
        rw [if_neg (by rw [o1]; decide), o3] at he
        exact fail 1 _ he (by omega)
  · refine cond_of (fun d => ?_) (fun d => ?_)
    · have d := of_decide_eq_true d
      refine fail 0 _ ?_ (by omega)
      rw [bys_end (by omega)]; rfl
    · have d := of_decide_eq_false d
      have hk : k < s.size := by omega
      have c34 : byteAt' s k = 34 := by
        rw [decide_eq_true (show (k : Int) < (s.size : Int) by omega), Bool.true_and] at c
        simpa using c
      have hx : txG ((bys s).drop k) l.length = ([], 1, true) := by rw [bys_drop hk]; exact tx34 c34
      rw [hx] at h4
      rw [h4] at eS eK eO
      rw [eS, eK, eO, take_dI, strOfD_dI]
      exact ⟨⟨by omega, by omega⟩, by simp, by simp only; omega, rfl⟩
end Go.Proofs.YtlfafkeamppakaaDoor.XT
