/- Contracts, by the symbolic evaluator. -/
import Derived.Test.YtbbjonjhaoeidaaGreatDoorQT9
import Derived.Test.YtbbjonjhaoeidaaGreatDoorProg
import Derived.Test.YtbbjonjhaoeidaaGreatDoorQH2
set_option linter.unusedVariables false
set_option linter.unusedSimpArgs false
namespace Go.Proofs.YtbbjonjhaoeidaaGreatDoor.XT
open Go Go.RowKit Go.Proofs.YtbbjonjhaoeidaaGreatDoor.Sv
set_option maxRecDepth 100000
theorem bytesD_nth {s : ByteArray} {k : Nat} (h : k < s.size) : (nthD (bytesD s) k).int = byteAt' s k := by
  have hl : k < (bytesD s).length := by rw [bytesD_length]; exact h
  have h1 := get_nthD hl
  have h2 : k < s.data.size := h
  rw [bytesD, List.getElem?_map, Array.getElem?_toList, Array.getElem?_eq_getElem h2] at h1
  have h3 := Option.some.inj h1
  rw [show (nthD (bytesD s) k) = D.i (s.data[k].toNat) from h3.symm]
  simp [byteAt', D.int, Array.getD, h2]
  rw [dif_pos h]
theorem bor_in (c : Int) : 0 ≤ bor .u8 c 32 ∧ bor .u8 c 32 < 256 := by
  unfold bor
  rw [wrap8]; omega
/-- a digit's number, 99 for what is none -/
def digV (c : Int) : Int := if 48 ≤ c ∧ c ≤ 57 then c - 48 else if 97 ≤ bor .u8 c 32 ∧ bor .u8 c 32 ≤ 122 then bor .u8 c 32 - 87 else 99
/-- ParseUint's number at base 16, in any case -/
def puV (mx : Int) : List Int → Int → Int
  | [], n => n
  | c :: r, n => if 16 ≤ digV c then 0 else if 1152921504606846976 ≤ n then mx else if mx < n * 16 + digV c then mx else puV mx r (n * 16 + digV c)
theorem pu_step (mx : Int) {s : ByteArray} {k : Nat} {n : Int} (h : k < s.size) : puV mx ((bys s).drop k) n = if 16 ≤ digV (byteAt' s k) then 0 else if 1152921504606846976 ≤ n then mx else if mx < n * 16 + digV (byteAt' s k) then mx else puV mx ((bys s).drop (k + 1)) (n * 16 + digV (byteAt' s k)) := by
  have hl : k < (bys s).length := by rw [bys_length]; exact h
  rw [List.drop_eq_getElem_cons hl, puV]
  have : (bys s)[k] = byteAt' s k := by
    have h' : k < s.data.size := h
    simp [bys, byteAt', Array.getD, h']
    rw [dif_pos h]
  rw [this]
def pu64C : Con := ⟨[.d true .s, .d true (.i .i64), .d true (.i .i64)], fun ds => (fun (a : D) (b : D) (c : D) => [b.int = 16, c.int = 64, a.str.size ≤ 140737488355328]) (nthD ds 0) (nthD ds 1) (nthD ds 2), [.d (.i .u64), .any], fun ds => (fun (a : D) (b : D) (c : D) => [.i (puV 18446744073709551615 (bys a.str) 0), .i 0]) (nthD ds 0) (nthD ds 1) (nthD ds 2), fun ds => []⟩
def pu64C_an : Anns := fun f i => match f, i with
  | 64, 36 => some fun A st => match A.get 0 with
    | some (.v (.string s)) => ⟨Nat × Int, fun g => [(101, .v (.int .i64 g.1)), (13, .v (.int .u64 g.2)), (12, .v (.bool false))], fun _ => [], fun g => g.1 ≤ s.size ∧ 0 ≤ g.2 ∧ g.2 ≤ 18446744073709551615 ∧ puV 18446744073709551615 (bys s) 0 = puV 18446744073709551615 ((bys s).drop g.1) g.2, fun g => s.size - g.1⟩
    | _ => LAnn.bad
  | _, _ => none
theorem pu64C_vc (a b c : D) : (bif decide (a.str = (ByteArray.mk #[])) then a.str.size ≤ 281474976710656 ∧ EqI 0 (puV 18446744073709551615 (bys a.str) 0) else LeI 0 (IntKind.u64.wrap 64) ∧ a.str.size ≤ 140737488355328 ∧ ∃ (g : Nat × Int), EqI 0 (↑g.fst : Int) ∧ EqI 0 g.snd ∧ false = false ∧ (g.fst ≤ a.str.size ∧ 0 ≤ g.snd ∧ g.snd ≤ 18446744073709551615 ∧ puV 18446744073709551615 (bys a.str) 0 = puV 18446744073709551615 (List.drop g.fst (bys a.str)) g.snd) ∧ ∀ (g : Nat × Int), g.fst ≤ a.str.size ∧ 0 ≤ g.snd ∧ g.snd ≤ 18446744073709551615 ∧ puV 18446744073709551615 (bys a.str) 0 = puV 18446744073709551615 (List.drop g.fst (bys a.str)) g.snd → bif decide ((↑g.fst : Int) < (↑(bytesD a.str).length : Int)) then Idx (↑g.fst : Int) (bytesD a.str).length ∧ bif decide ((nthD (bytesD a.str) g.fst).int = 95) && decide (EqI 16 0) then I64 ((↑g.fst : Int) + 1) ∧ ∃ (g_1 : Nat × Int), (↑g.fst : Int) + 1 = (↑g_1.fst : Int) ∧ g.snd = g_1.snd ∧ true = false ∧ (g_1.fst ≤ a.str.size ∧ 0 ≤ g_1.snd ∧ g_1.snd ≤ 18446744073709551615 ∧ puV 18446744073709551615 (bys a.str) 0 = puV 18446744073709551615 (List.drop g_1.fst (bys a.str)) g_1.snd) ∧ a.str.size - g_1.fst < a.str.size - g.fst else bif decide (48 ≤ (nthD (bytesD a.str) g.fst).int) && decide ((nthD (bytesD a.str) g.fst).int ≤ 57) then bif decide (IntKind.u8.wrap 16 ≤ IntKind.u8.wrap ((nthD (bytesD a.str) g.fst).int - 48)) then a.str.size ≤ 281474976710656 ∧ EqI 0 (puV 18446744073709551615 (bys a.str) 0) else bif decide (1152921504606846976 ≤ g.snd) then a.str.size ≤ 281474976710656 ∧ EqI (IntKind.u64.wrap (bshl IntKind.u64 1 (IntKind.u64.wrap 64) - 1)) (puV 18446744073709551615 (bys a.str) 0) else bif decide (IntKind.u64.wrap (IntKind.u64.wrap (g.snd * IntKind.u64.wrap 16) + IntKind.u64.wrap (IntKind.u8.wrap ((nthD (bytesD a.str) g.fst).int - 48))) < IntKind.u64.wrap (g.snd * IntKind.u64.wrap 16)) || decide (IntKind.u64.wrap (bshl IntKind.u64 1 (IntKind.u64.wrap 64) - 1) < IntKind.u64.wrap (IntKind.u64.wrap (g.snd * IntKind.u64.wrap 16) + IntKind.u64.wrap (IntKind.u8.wrap ((nthD (bytesD a.str) g.fst).int - 48)))) then a.str.size ≤ 281474976710656 ∧ EqI (IntKind.u64.wrap (bshl IntKind.u64 1 (IntKind.u64.wrap 64) - 1)) (puV 18446744073709551615 (bys a.str) 0) else I64 ((↑g.fst : Int) + 1) ∧ ∃ (g_1 : Nat × Int), (↑g.fst : Int) + 1 = (↑g_1.fst : Int) ∧ IntKind.u64.wrap (IntKind.u64.wrap (g.snd * IntKind.u64.wrap 16) + IntKind.u64.wrap (IntKind.u8.wrap ((nthD (bytesD a.str) g.fst).int - 48))) = g_1.snd ∧ false = false ∧ (g_1.fst ≤ a.str.size ∧ 0 ≤ g_1.snd ∧ g_1.snd ≤ 18446744073709551615 ∧ puV 18446744073709551615 (bys a.str) 0 = puV 18446744073709551615 (List.drop g_1.fst (bys a.str)) g_1.snd) ∧ a.str.size - g_1.fst < a.str.size - g.fst else bif decide (97 ≤ bor IntKind.u8 (nthD (bytesD a.str) g.fst).int 32) && decide (bor IntKind.u8 (nthD (bytesD a.str) g.fst).int 32 ≤ 122) then bif decide (IntKind.u8.wrap 16 ≤ IntKind.u8.wrap (IntKind.u8.wrap (bor IntKind.u8 (nthD (bytesD a.str) g.fst).int 32 - 97) + 10)) then a.str.size ≤ 281474976710656 ∧ EqI 0 (puV 18446744073709551615 (bys a.str) 0) else bif decide (1152921504606846976 ≤ g.snd) then a.str.size ≤ 281474976710656 ∧ EqI (IntKind.u64.wrap (bshl IntKind.u64 1 (IntKind.u64.wrap 64) - 1)) (puV 18446744073709551615 (bys a.str) 0) else bif decide (IntKind.u64.wrap (IntKind.u64.wrap (g.snd * IntKind.u64.wrap 16) + IntKind.u64.wrap (IntKind.u8.wrap (IntKind.u8.wrap (bor IntKind.u8 (nthD (bytesD a.str) g.fst).int 32 - 97) + 10))) < IntKind.u64.wrap (g.snd * IntKind.u64.wrap 16)) || decide (IntKind.u64.wrap (bshl IntKind.u64 1 (IntKind.u64.wrap 64) - 1) < IntKind.u64.wrap (IntKind.u64.wrap (g.snd * IntKind.u64.wrap 16) + IntKind.u64.wrap (IntKind.u8.wrap (IntKind.u8.wrap (bor IntKind.u8 (nthD (bytesD a.str) g.fst).int 32 - 97) + 10)))) then a.str.size ≤ 281474976710656 ∧ EqI (IntKind.u64.wrap (bshl IntKind.u64 1 (IntKind.u64.wrap 64) - 1)) (puV 18446744073709551615 (bys a.str) 0) else I64 ((↑g.fst : Int) + 1) ∧ ∃ (g_1 : Nat × Int), (↑g.fst : Int) + 1 = (↑g_1.fst : Int) ∧ IntKind.u64.wrap (IntKind.u64.wrap (g.snd * IntKind.u64.wrap 16) + IntKind.u64.wrap (IntKind.u8.wrap (IntKind.u8.wrap (bor IntKind.u8 (nthD (bytesD a.str) g.fst).int 32 - 97) + 10))) = g_1.snd ∧ false = false ∧ (g_1.fst ≤ a.str.size ∧ 0 ≤ g_1.snd ∧ g_1.snd ≤ 18446744073709551615 ∧ puV 18446744073709551615 (bys a.str) 0 = puV 18446744073709551615 (List.drop g_1.fst (bys a.str)) g_1.snd) ∧ a.str.size - g_1.fst < a.str.size - g.fst else a.str.size ≤ 281474976710656 ∧ EqI 0 (puV 18446744073709551615 (bys a.str) 0) else (false = true → False) ∧ g.snd = puV 18446744073709551615 (bys a.str) 0) = conGoal Tryz.prog (addS 117 tzC (addS 87 rngC (addS 86 synC (addS 85 usC (addS 84 lowC noS))))) pu64C_an 200 41 pu64C [a, D.i 16, D.i 64] := by kernel_rfl
theorem pu64C_ok : ConOK Tryz.prog gl 41 pu64C := con_of mo (addS_ok tzC_ok (addS_ok rngC_ok (addS_ok synC_ok (addS_ok usC_ok (addS_ok lowC_ok (noS_ok _)))))) (an := pu64C_an) 200 fun ds hl hp => by
  obtain ⟨a, b, c, rfl⟩ := len3 hl
  have p0 : b.int = 16 := hp _ (.head _)
  have p1 : c.int = 64 := hp _ (.tail _ (.head _))
  have p2 : a.str.size ≤ 140737488355328 := hp _ (.tail _ (.tail _ (.head _)))
  have hat : conGoal Tryz.prog (addS 117 tzC (addS 87 rngC (addS 86 synC (addS 85 usC (addS 84 lowC noS))))) pu64C_an 200 41 pu64C [a, b, c] = conGoal Tryz.prog (addS 117 tzC (addS 87 rngC (addS 86 synC (addS 85 usC (addS 84 lowC noS))))) pu64C_an 200 41 pu64C [a, D.i 16, D.i 64] := by
    unfold conGoal
    have e : startAs pu64C.args [a, b, c] 0 = startAs pu64C.args [a, D.i 16, D.i 64] 0 := by
      show [_, AV.v (.int .i64 b.int), AV.v (.int .i64 c.int)] = _
      rw [p0, p1]; rfl
    rw [e]; rfl
  rw [hat, ← pu64C_vc a b c]
  have hmx : IntKind.u64.wrap (bshl IntKind.u64 1 (IntKind.u64.wrap 64) - 1) = 18446744073709551615 := by decide
  have h16 : IntKind.u8.wrap 16 = 16 := by decide
  have h16' : IntKind.u64.wrap 16 = 16 := by decide
  rw [hmx, h16, h16']
  refine cond_of (fun c0 => ?_) (fun c0 => ?_)
  · have c0 := of_decide_eq_true c0
    refine ⟨by omega, ?_⟩
    rw [c0]; rfl
  · refine ⟨by decide, p2, (0, 0), rfl, rfl, rfl, ⟨Nat.zero_le _, by decide, by decide, rfl⟩, ?_⟩
    rintro ⟨k, n⟩ ⟨h1, h2, h3, h4⟩
    dsimp only at h1 h2 h3 h4 ⊢
    rw [bytesD_length]
    refine cond_of (fun c => ?_) (fun c => ?_)
    · have c := of_decide_eq_true c
      have hk : k < a.str.size := by omega
      obtain ⟨b0, b1⟩ := byte_in a.str k
      obtain ⟨o0, o1⟩ := bor_in (byteAt' a.str k)
      rw [bytesD_nth hk]
      have hst := pu_step 18446744073709551615 (n := n) hk
      rw [← h4] at hst
      have tail : ∀ d : Int, digV (byteAt' a.str k) = d → 0 ≤ d → d < 256 → (bif decide (16 ≤ d) then a.str.size ≤ 281474976710656 ∧ EqI 0 (puV 18446744073709551615 (bys a.str) 0) else bif decide (1152921504606846976 ≤ n) then a.str.size ≤ 281474976710656 ∧ EqI 18446744073709551615 (puV 18446744073709551615 (bys a.str) 0) else bif decide (IntKind.u64.wrap (IntKind.u64.wrap (n * 16) + IntKind.u64.wrap d) < IntKind.u64.wrap (n * 16)) || decide (18446744073709551615 < IntKind.u64.wrap (IntKind.u64.wrap (n * 16) + IntKind.u64.wrap d)) then a.str.size ≤ 281474976710656 ∧ EqI 18446744073709551615 (puV 18446744073709551615 (bys a.str) 0) else I64 ((k : Int) + 1) ∧ ∃ g_1 : Nat × Int, (k : Int) + 1 = (g_1.fst : Int) ∧ IntKind.u64.wrap (IntKind.u64.wrap (n * 16) + IntKind.u64.wrap d) = g_1.snd ∧ false = false ∧ (g_1.fst ≤ a.str.size ∧ 0 ≤ g_1.snd ∧ g_1.snd ≤ 18446744073709551615 ∧ puV 18446744073709551615 (bys a.str) 0 = puV 18446744073709551615 ((bys a.str).drop g_1.fst) g_1.snd) ∧ a.str.size - g_1.fst < a.str.size - k) := by
        intro d hd d0 d1
        rw [hd] at hst
        refine cond_of (fun e => ?_) (fun e => cond_of (fun e2 => ?_) (fun e2 => ?_))
        · exact ⟨by omega, by show 0 = _; rw [hst, if_pos (of_decide_eq_true e)]⟩
        · exact ⟨by omega, by show 18446744073709551615 = _; rw [hst, if_neg (of_decide_eq_false e), if_pos (of_decide_eq_true e2)]⟩
        · have e := of_decide_eq_false e
          have e2 := of_decide_eq_false e2
          rw [wrap64 (x := n * 16) (by omega) (by omega), wrap64 (x := d) (by omega) (by omega), wrap64 (x := n * 16 + d) (by omega) (by omega)]
          refine cond_of (fun e3 => ?_) (fun e3 => ?_)
          · simp only [Bool.or_eq_true, decide_eq_true_eq] at e3
            have e4 : 18446744073709551615 < n * 16 + d := by omega
            exact ⟨by omega, by show 18446744073709551615 = _; rw [hst, if_neg e, if_neg e2, if_pos e4]⟩
          · simp only [Bool.or_eq_false_iff, decide_eq_false_iff_not] at e3
            exact ⟨⟨by omega, by omega⟩, (k + 1, n * 16 + d), by simp, rfl, rfl, ⟨hk, by show 0 ≤ n * 16 + d; omega, by show n * 16 + d ≤ 18446744073709551615; omega, by rw [hst, if_neg e, if_neg e2, if_neg e3.2]⟩, by show a.str.size - (k + 1) < _; omega⟩
      refine ⟨⟨by omega, by omega⟩, cond_of (fun e => ?_) (fun _ => cond_of (fun e => ?_) (fun e => cond_of (fun e2 => ?_) (fun e2 => ?_)))⟩
      · simp [EqI] at e
      · simp only [Bool.and_eq_true, decide_eq_true_eq] at e
        rw [show IntKind.u8.wrap (byteAt' a.str k - 48) = byteAt' a.str k - 48 by rw [wrap8]; omega]
        exact tail _ (by rw [digV, if_pos e]) (by omega) (by omega)
      · simp only [Bool.and_eq_true, decide_eq_true_eq] at e2
        simp only [Bool.and_eq_false_iff, decide_eq_false_iff_not] at e
        rw [show IntKind.u8.wrap (IntKind.u8.wrap (bor IntKind.u8 (byteAt' a.str k) 32 - 97) + 10) = bor IntKind.u8 (byteAt' a.str k) 32 - 87 by rw [wrap8, wrap8]; omega]
        exact tail _ (by rw [digV, if_neg (by omega), if_pos e2]) (by omega) (by omega)
      · simp only [Bool.and_eq_false_iff, decide_eq_false_iff_not] at e e2
        have hd : digV (byteAt' a.str k) = 99 := by rw [digV, if_neg (by omega), if_neg (by omega)]
        rw [hd, if_pos (by decide)] at hst
        exact ⟨by omega, hst.symm⟩
    · have c := of_decide_eq_false c
      refine ⟨fun h => (by cases h), ?_⟩
      rw [h4, List.drop_of_length_le (by rw [bys_length]; omega)]; rfl
def pu8C : Con := ⟨[.d true .s, .d true (.i .i64), .d true (.i .i64)], fun ds => (fun (a : D) (b : D) (c : D) => [b.int = 16, c.int = 8, a.str.size ≤ 140737488355328]) (nthD ds 0) (nthD ds 1) (nthD ds 2), [.d (.i .u64), .any], fun ds => (fun (a : D) (b : D) (c : D) => [.i (puV 255 (bys a.str) 0), .i 0]) (nthD ds 0) (nthD ds 1) (nthD ds 2), fun ds => []⟩
def pu8C_an : Anns := fun f i => match f, i with
  | 64, 36 => some fun A st => match A.get 0 with
    | some (.v (.string s)) => ⟨Nat × Int, fun g => [(101, .v (.int .i64 g.1)), (13, .v (.int .u64 g.2)), (12, .v (.bool false))], fun _ => [], fun g => g.1 ≤ s.size ∧ 0 ≤ g.2 ∧ g.2 ≤ 255 ∧ puV 255 (bys s) 0 = puV 255 ((bys s).drop g.1) g.2, fun g => s.size - g.1⟩
    | _ => LAnn.bad
  | _, _ => none
theorem pu8C_vc (a b c : D) : (bif decide (a.str = (ByteArray.mk #[])) then a.str.size ≤ 281474976710656 ∧ EqI 0 (puV 255 (bys a.str) 0) else LeI 0 (IntKind.u64.wrap 8) ∧ a.str.size ≤ 140737488355328 ∧ ∃ (g : Nat × Int), EqI 0 (↑g.fst : Int) ∧ EqI 0 g.snd ∧ false = false ∧ (g.fst ≤ a.str.size ∧ 0 ≤ g.snd ∧ g.snd ≤ 255 ∧ puV 255 (bys a.str) 0 = puV 255 (List.drop g.fst (bys a.str)) g.snd) ∧ ∀ (g : Nat × Int), g.fst ≤ a.str.size ∧ 0 ≤ g.snd ∧ g.snd ≤ 255 ∧ puV 255 (bys a.str) 0 = puV 255 (List.drop g.fst (bys a.str)) g.snd → bif decide ((↑g.fst : Int) < (↑(bytesD a.str).length : Int)) then Idx (↑g.fst : Int) (bytesD a.str).length ∧ bif decide ((nthD (bytesD a.str) g.fst).int = 95) && decide (EqI 16 0) then I64 ((↑g.fst : Int) + 1) ∧ ∃ (g_1 : Nat × Int), (↑g.fst : Int) + 1 = (↑g_1.fst : Int) ∧ g.snd = g_1.snd ∧ true = false ∧ (g_1.fst ≤ a.str.size ∧ 0 ≤ g_1.snd ∧ g_1.snd ≤ 255 ∧ puV 255 (bys a.str) 0 = puV 255 (List.drop g_1.fst (bys a.str)) g_1.snd) ∧ a.str.size - g_1.fst < a.str.size - g.fst else bif decide (48 ≤ (nthD (bytesD a.str) g.fst).int) && decide ((nthD (bytesD a.str) g.fst).int ≤ 57) then bif decide (IntKind.u8.wrap 16 ≤ IntKind.u8.wrap ((nthD (bytesD a.str) g.fst).int - 48)) then a.str.size ≤ 281474976710656 ∧ EqI 0 (puV 255 (bys a.str) 0) else bif decide (1152921504606846976 ≤ g.snd) then a.str.size ≤ 281474976710656 ∧ EqI (IntKind.u64.wrap (bshl IntKind.u64 1 (IntKind.u64.wrap 8) - 1)) (puV 255 (bys a.str) 0) else bif decide (IntKind.u64.wrap (IntKind.u64.wrap (g.snd * IntKind.u64.wrap 16) + IntKind.u64.wrap (IntKind.u8.wrap ((nthD (bytesD a.str) g.fst).int - 48))) < IntKind.u64.wrap (g.snd * IntKind.u64.wrap 16)) || decide (IntKind.u64.wrap (bshl IntKind.u64 1 (IntKind.u64.wrap 8) - 1) < IntKind.u64.wrap (IntKind.u64.wrap (g.snd * IntKind.u64.wrap 16) + IntKind.u64.wrap (IntKind.u8.wrap ((nthD (bytesD a.str) g.fst).int - 48)))) then a.str.size ≤ 281474976710656 ∧ EqI (IntKind.u64.wrap (bshl IntKind.u64 1 (IntKind.u64.wrap 8) - 1)) (puV 255 (bys a.str) 0) else I64 ((↑g.fst : Int) + 1) ∧ ∃ (g_1 : Nat × Int), (↑g.fst : Int) + 1 = (↑g_1.fst : Int) ∧ IntKind.u64.wrap (IntKind.u64.wrap (g.snd * IntKind.u64.wrap 16) + IntKind.u64.wrap (IntKind.u8.wrap ((nthD (bytesD a.str) g.fst).int - 48))) = g_1.snd ∧ false = false ∧ (g_1.fst ≤ a.str.size ∧ 0 ≤ g_1.snd ∧ g_1.snd ≤ 255 ∧ puV 255 (bys a.str) 0 = puV 255 (List.drop g_1.fst (bys a.str)) g_1.snd) ∧ a.str.size - g_1.fst < a.str.size - g.fst else bif decide (97 ≤ bor IntKind.u8 (nthD (bytesD a.str) g.fst).int 32) && decide (bor IntKind.u8 (nthD (bytesD a.str) g.fst).int 32 ≤ 122) then bif decide (IntKind.u8.wrap 16 ≤ IntKind.u8.wrap (IntKind.u8.wrap (bor IntKind.u8 (nthD (bytesD a.str) g.fst).int 32 - 97) + 10)) then a.str.size ≤ 281474976710656 ∧ EqI 0 (puV 255 (bys a.str) 0) else bif decide (1152921504606846976 ≤ g.snd) then a.str.size ≤ 281474976710656 ∧ EqI (IntKind.u64.wrap (bshl IntKind.u64 1 (IntKind.u64.wrap 8) - 1)) (puV 255 (bys a.str) 0) else bif decide (IntKind.u64.wrap (IntKind.u64.wrap (g.snd * IntKind.u64.wrap 16) + IntKind.u64.wrap (IntKind.u8.wrap (IntKind.u8.wrap (bor IntKind.u8 (nthD (bytesD a.str) g.fst).int 32 - 97) + 10))) < IntKind.u64.wrap (g.snd * IntKind.u64.wrap 16)) || decide (IntKind.u64.wrap (bshl IntKind.u64 1 (IntKind.u64.wrap 8) - 1) < IntKind.u64.wrap (IntKind.u64.wrap (g.snd * IntKind.u64.wrap 16) + IntKind.u64.wrap (IntKind.u8.wrap (IntKind.u8.wrap (bor IntKind.u8 (nthD (bytesD a.str) g.fst).int 32 - 97) + 10)))) then a.str.size ≤ 281474976710656 ∧ EqI (IntKind.u64.wrap (bshl IntKind.u64 1 (IntKind.u64.wrap 8) - 1)) (puV 255 (bys a.str) 0) else I64 ((↑g.fst : Int) + 1) ∧ ∃ (g_1 : Nat × Int), (↑g.fst : Int) + 1 = (↑g_1.fst : Int) ∧ IntKind.u64.wrap (IntKind.u64.wrap (g.snd * IntKind.u64.wrap 16) + IntKind.u64.wrap (IntKind.u8.wrap (IntKind.u8.wrap (bor IntKind.u8 (nthD (bytesD a.str) g.fst).int 32 - 97) + 10))) = g_1.snd ∧ false = false ∧ (g_1.fst ≤ a.str.size ∧ 0 ≤ g_1.snd ∧ g_1.snd ≤ 255 ∧ puV 255 (bys a.str) 0 = puV 255 (List.drop g_1.fst (bys a.str)) g_1.snd) ∧ a.str.size - g_1.fst < a.str.size - g.fst else a.str.size ≤ 281474976710656 ∧ EqI 0 (puV 255 (bys a.str) 0) else (false = true → False) ∧ g.snd = puV 255 (bys a.str) 0) = conGoal Tryz.prog (addS 117 tzC (addS 87 rngC (addS 86 synC (addS 85 usC (addS 84 lowC noS))))) pu8C_an 200 41 pu8C [a, D.i 16, D.i 8] := by kernel_rfl
theorem pu8C_ok : ConOK Tryz.prog gl 41 pu8C := con_of mo (addS_ok tzC_ok (addS_ok rngC_ok (addS_ok synC_ok (addS_ok usC_ok (addS_ok lowC_ok (noS_ok _)))))) (an := pu8C_an) 200 fun ds hl hp => by
  obtain ⟨a, b, c, rfl⟩ := len3 hl
  have p0 : b.int = 16 := hp _ (.head _)
  have p1 : c.int = 8 := hp _ (.tail _ (.head _))
  have p2 : a.str.size ≤ 140737488355328 := hp _ (.tail _ (.tail _ (.head _)))
  have hat : conGoal Tryz.prog (addS 117 tzC (addS 87 rngC (addS 86 synC (addS 85 usC (addS 84 lowC noS))))) pu8C_an 200 41 pu8C [a, b, c] = conGoal Tryz.prog (addS 117 tzC (addS 87 rngC (addS 86 synC (addS 85 usC (addS 84 lowC noS))))) pu8C_an 200 41 pu8C [a, D.i 16, D.i 8] := by
    unfold conGoal
    have e : startAs pu8C.args [a, b, c] 0 = startAs pu8C.args [a, D.i 16, D.i 8] 0 := by
      show [_, AV.v (.int .i64 b.int), AV.v (.int .i64 c.int)] = _
      rw [p0, p1]; rfl
    rw [e]; rfl
  rw [hat, ← pu8C_vc a b c]
  have hmx : IntKind.u64.wrap (bshl IntKind.u64 1 (IntKind.u64.wrap 8) - 1) = 255 := by decide
  have h16 : IntKind.u8.wrap 16 = 16 := by decide
  have h16' : IntKind.u64.wrap 16 = 16 := by decide
  rw [hmx, h16, h16']
  refine cond_of (fun c0 => ?_) (fun c0 => ?_)
  · have c0 := of_decide_eq_true c0
    refine ⟨by omega, ?_⟩
    rw [c0]; rfl
  · refine ⟨by decide, p2, (0, 0), rfl, rfl, rfl, ⟨Nat.zero_le _, by decide, by decide, rfl⟩, ?_⟩
    rintro ⟨k, n⟩ ⟨h1, h2, h3, h4⟩
    dsimp only at h1 h2 h3 h4 ⊢
    rw [bytesD_length]
    refine cond_of (fun c => ?_) (fun c => ?_)
    · have c := of_decide_eq_true c
      have hk : k < a.str.size := by omega
      obtain ⟨b0, b1⟩ := byte_in a.str k
      obtain ⟨o0, o1⟩ := bor_in (byteAt' a.str k)
      rw [bytesD_nth hk]
      have hst := pu_step 255 (n := n) hk
      rw [← h4] at hst
      have tail : ∀ d : Int, digV (byteAt' a.str k) = d → 0 ≤ d → d < 256 → (bif decide (16 ≤ d) then a.str.size ≤ 281474976710656 ∧ EqI 0 (puV 255 (bys a.str) 0) else bif decide (1152921504606846976 ≤ n) then a.str.size ≤ 281474976710656 ∧ EqI 255 (puV 255 (bys a.str) 0) else bif decide (IntKind.u64.wrap (IntKind.u64.wrap (n * 16) + IntKind.u64.wrap d) < IntKind.u64.wrap (n * 16)) || decide (255 < IntKind.u64.wrap (IntKind.u64.wrap (n * 16) + IntKind.u64.wrap d)) then a.str.size ≤ 281474976710656 ∧ EqI 255 (puV 255 (bys a.str) 0) else I64 ((k : Int) + 1) ∧ ∃ g_1 : Nat × Int, (k : Int) + 1 = (g_1.fst : Int) ∧ IntKind.u64.wrap (IntKind.u64.wrap (n * 16) + IntKind.u64.wrap d) = g_1.snd ∧ false = false ∧ (g_1.fst ≤ a.str.size ∧ 0 ≤ g_1.snd ∧ g_1.snd ≤ 255 ∧ puV 255 (bys a.str) 0 = puV 255 ((bys a.str).drop g_1.fst) g_1.snd) ∧ a.str.size - g_1.fst < a.str.size - k) := by
        intro d hd d0 d1
        rw [hd] at hst
        refine cond_of (fun e => ?_) (fun e => cond_of (fun e2 => ?_) (fun e2 => ?_))
        · exact ⟨by omega, by show 0 = _; rw [hst, if_pos (of_decide_eq_true e)]⟩
        · exact ⟨by omega, by show 255 = _; rw [hst, if_neg (of_decide_eq_false e), if_pos (of_decide_eq_true e2)]⟩
        · have e := of_decide_eq_false e
          have e2 := of_decide_eq_false e2
          rw [wrap64 (x := n * 16) (by omega) (by omega), wrap64 (x := d) (by omega) (by omega), wrap64 (x := n * 16 + d) (by omega) (by omega)]
          refine cond_of (fun e3 => ?_) (fun e3 => ?_)
          · simp only [Bool.or_eq_true, decide_eq_true_eq] at e3
            have e4 : 255 < n * 16 + d := by omega
            exact ⟨by omega, by show 255 = _; rw [hst, if_neg e, if_neg e2, if_pos e4]⟩
          · simp only [Bool.or_eq_false_iff, decide_eq_false_iff_not] at e3
            exact ⟨⟨by omega, by omega⟩, (k + 1, n * 16 + d), by simp, rfl, rfl, ⟨hk, by show 0 ≤ n * 16 + d; omega, by show n * 16 + d ≤ 255; omega, by rw [hst, if_neg e, if_neg e2, if_neg e3.2]⟩, by show a.str.size - (k + 1) < _; omega⟩
      refine ⟨⟨by omega, by omega⟩, cond_of (fun e => ?_) (fun _ => cond_of (fun e => ?_) (fun e => cond_of (fun e2 => ?_) (fun e2 => ?_)))⟩
      · simp [EqI] at e
      · simp only [Bool.and_eq_true, decide_eq_true_eq] at e
        rw [show IntKind.u8.wrap (byteAt' a.str k - 48) = byteAt' a.str k - 48 by rw [wrap8]; omega]
        exact tail _ (by rw [digV, if_pos e]) (by omega) (by omega)
      · simp only [Bool.and_eq_true, decide_eq_true_eq] at e2
        simp only [Bool.and_eq_false_iff, decide_eq_false_iff_not] at e
        rw [show IntKind.u8.wrap (IntKind.u8.wrap (bor IntKind.u8 (byteAt' a.str k) 32 - 97) + 10) = bor IntKind.u8 (byteAt' a.str k) 32 - 87 by rw [wrap8, wrap8]; omega]
        exact tail _ (by rw [digV, if_neg (by omega), if_pos e2]) (by omega) (by omega)
      · simp only [Bool.and_eq_false_iff, decide_eq_false_iff_not] at e e2
        have hd : digV (byteAt' a.str k) = 99 := by rw [digV, if_neg (by omega), if_neg (by omega)]
        rw [hd, if_pos (by decide)] at hst
        exact ⟨by omega, hst.symm⟩
    · have c := of_decide_eq_false c
      refine ⟨fun h => (by cases h), ?_⟩
      rw [h4, List.drop_of_length_le (by rw [bys_length]; omega)]; rfl
end Go.Proofs.YtbbjonjhaoeidaaGreatDoor.XT
