/- Contracts, by the symbolic evaluator. -/
import Derived.Test.YtdjniofefijokaaDoorQTE0
import Derived.Test.YtdjniofefijokaaDoorProg
set_option linter.unusedVariables false
set_option linter.unusedSimpArgs false
set_option linter.unusedSectionVars false
namespace Go.Proofs.YtdjniofefijokaaDoor.XT
open Go Go.RowKit Go.Proofs.YtdjniofefijokaaDoor.Sv
set_option maxRecDepth 100000
variable {Γ : Gl}
def risC : Con := ⟨[.d false (.l .s)], fun ds => (fun (a : D) => [a.list.length ≤ 1000000]) (nthD ds 0), [.d (.l .s)], fun ds => (fun (a : D) => [.l (risD a.list)]) (nthD ds 0), fun ds => []⟩
def risC_an : Anns := fun f i => match f, i with
  | 14, 2000003 => some fun A st => ⟨Unit, fun _ => [], fun _ => [(3, .q 9 .s [])], fun _ => True, fun _ => 0⟩
  | 14, 3 => some fun A st => match A.get 0 with
    | some (.dl _ _ xs) => ⟨Nat, fun g => [(4, .v (.int .i64 g)), (3, .ow st.nx (risD (xs.take g)).length)], fun g => [(st.nx, .q 9 .s (risD (xs.take g)))], fun g => g ≤ xs.length, fun g => xs.length - g⟩
    | _ => LAnn.bad
  | 14, 6 => some fun A st => match A.get 0, A.get 4, A.get 3 with
    | some (.dl _ _ xs), some (.v (.int _ i)), some (.ow l m) => match st.h.get l with
      | some (.q _ _ os) => ⟨Nat, fun k => [(5, .v (.int .i64 k))], fun _ => [], fun k => k ≤ os.length ∧ ∀ j, k ≤ j → j < os.length → ltS (nthD xs i.toNat).str (nthD os j).str = true, fun k => k⟩
      | _ => LAnn.bad
    | _, _, _ => LAnn.bad
  | 14, 11 => some fun A st => match A.get 3, A.get 5 with
    | some (.ow l m), some (.v (.int _ k)) => match st.h.get l with
      | some (.q _ _ os) => ⟨Nat, fun j => [(6, .v (.int .i64 j))], fun j => [(l, .q 9 .s (os.take (j + 1) ++ (os.drop j).take (os.length - 1 - j)))], fun j => k ≤ (j : Int) ∧ j < os.length, fun j => j⟩
      | _ => LAnn.bad
    | _, _ => LAnn.bad
  | _, _ => none
theorem risC_vc (a : D) : (∃ (g : Unit), ∃ (g : Nat), EqI 0 (↑g : Int) ∧ 0 = (risD (List.take g a.list)).length ∧ [] = risD (List.take g a.list) ∧ g ≤ a.list.length ∧ ∀ (g : Nat), g ≤ a.list.length → bif decide ((↑g : Int) < (↑a.list.length : Int)) then ∃ (g_1 : Nat), (↑(risD (List.take g a.list)).length : Int) = (↑g_1 : Int) ∧ (g_1 ≤ (risD (List.take g a.list)).length ∧ ∀ (j : Nat), g_1 ≤ j → j < (risD (List.take g a.list)).length → ltS (nthD a.list g).str (nthD (risD (List.take g a.list)) j).str = true) ∧ ∀ (g_2 : Nat), (g_2 ≤ (risD (List.take g a.list)).length ∧ ∀ (j : Nat), g_2 ≤ j → j < (risD (List.take g a.list)).length → ltS (nthD a.list g).str (nthD (risD (List.take g a.list)) j).str = true) → (decide (0 < (↑g_2 : Int)) = true → I64 ((↑g_2 : Int) - 1) ∧ Idx ((↑g_2 : Int) - 1) (risD (List.take g a.list)).length ∧ Idx (↑g : Int) a.list.length) ∧ bif decide (0 < (↑g_2 : Int)) && !(Op.bytesLess (nthD (risD (List.take g a.list)) ((↑g_2 : Int) - 1).toNat).str.toList (nthD a.list g).str.toList || decide ((nthD (risD (List.take g a.list)) ((↑g_2 : Int) - 1).toNat).str = (nthD a.list g).str)) then I64 ((↑g_2 : Int) - 1) ∧ ∃ (g_3 : Nat), (↑g_2 : Int) - 1 = (↑g_3 : Int) ∧ (g_3 ≤ (risD (List.take g a.list)).length ∧ ∀ (j : Nat), g_3 ≤ j → j < (risD (List.take g a.list)).length → ltS (nthD a.list g).str (nthD (risD (List.take g a.list)) j).str = true) ∧ g_3 < g_2 else (decide (0 < (↑g_2 : Int)) = true → I64 ((↑g_2 : Int) - 1) ∧ Idx ((↑g_2 : Int) - 1) (risD (List.take g a.list)).length ∧ Idx (↑g : Int) a.list.length) ∧ bif decide (0 < (↑g_2 : Int)) && decide ((nthD (risD (List.take g a.list)) ((↑g_2 : Int) - 1).toNat).str = (nthD a.list g).str) then I64 ((↑g : Int) + 1) ∧ ∃ (g_3 : Nat), (↑g : Int) + 1 = (↑g_3 : Int) ∧ (risD (List.take g a.list)).length = (risD (List.take g_3 a.list)).length ∧ risD (List.take g a.list) = risD (List.take g_3 a.list) ∧ g_3 ≤ a.list.length ∧ a.list.length - g_3 < a.list.length - g else ((risD (List.take g a.list)).length + [D.s (ByteArray.mk #[])].length) * 16 ≤ 140737488355328 ∧ (risD (List.take g a.list)).length + [D.s (ByteArray.mk #[])].length ≤ 9223372036854775807 ∧ I64 ((↑((risD (List.take g a.list)).length + [D.s (ByteArray.mk #[])].length) : Int) - 1) ∧ ∃ (g_3 : Nat), (↑((risD (List.take g a.list)).length + [D.s (ByteArray.mk #[])].length) : Int) - 1 = (↑g_3 : Int) ∧ List.take (risD (List.take g a.list)).length (risD (List.take g a.list)) ++ [D.s (ByteArray.mk #[])] = List.take (g_3 + 1) (List.take (risD (List.take g a.list)).length (risD (List.take g a.list)) ++ [D.s (ByteArray.mk #[])]) ++ List.take ((List.take (risD (List.take g a.list)).length (risD (List.take g a.list)) ++ [D.s (ByteArray.mk #[])]).length - 1 - g_3) (List.drop g_3 (List.take (risD (List.take g a.list)).length (risD (List.take g a.list)) ++ [D.s (ByteArray.mk #[])])) ∧ ((↑g_2 : Int) ≤ (↑g_3 : Int) ∧ g_3 < (List.take (risD (List.take g a.list)).length (risD (List.take g a.list)) ++ [D.s (ByteArray.mk #[])]).length) ∧ ∀ (g_4 : Nat), (↑g_2 : Int) ≤ (↑g_4 : Int) ∧ g_4 < (List.take (risD (List.take g a.list)).length (risD (List.take g a.list)) ++ [D.s (ByteArray.mk #[])]).length → bif decide ((↑g_2 : Int) < (↑g_4 : Int)) then I64 ((↑g_4 : Int) - 1) ∧ Idx ((↑g_4 : Int) - 1) ((risD (List.take g a.list)).length + [D.s (ByteArray.mk #[])].length) ∧ Idx (↑g_4 : Int) ((risD (List.take g a.list)).length + [D.s (ByteArray.mk #[])].length) ∧ I64 ((↑g_4 : Int) - 1) ∧ ∃ (g_5 : Nat), (↑g_4 : Int) - 1 = (↑g_5 : Int) ∧ setD (List.take (g_4 + 1) (List.take (risD (List.take g a.list)).length (risD (List.take g a.list)) ++ [D.s (ByteArray.mk #[])]) ++ List.take ((List.take (risD (List.take g a.list)).length (risD (List.take g a.list)) ++ [D.s (ByteArray.mk #[])]).length - 1 - g_4) (List.drop g_4 (List.take (risD (List.take g a.list)).length (risD (List.take g a.list)) ++ [D.s (ByteArray.mk #[])]))) g_4 (D.s (nthD (List.take (g_4 + 1) (List.take (risD (List.take g a.list)).length (risD (List.take g a.list)) ++ [D.s (ByteArray.mk #[])]) ++ List.take ((List.take (risD (List.take g a.list)).length (risD (List.take g a.list)) ++ [D.s (ByteArray.mk #[])]).length - 1 - g_4) (List.drop g_4 (List.take (risD (List.take g a.list)).length (risD (List.take g a.list)) ++ [D.s (ByteArray.mk #[])]))) ((↑g_4 : Int) - 1).toNat).str) = List.take (g_5 + 1) (List.take (risD (List.take g a.list)).length (risD (List.take g a.list)) ++ [D.s (ByteArray.mk #[])]) ++ List.take ((List.take (risD (List.take g a.list)).length (risD (List.take g a.list)) ++ [D.s (ByteArray.mk #[])]).length - 1 - g_5) (List.drop g_5 (List.take (risD (List.take g a.list)).length (risD (List.take g a.list)) ++ [D.s (ByteArray.mk #[])])) ∧ ((↑g_2 : Int) ≤ (↑g_5 : Int) ∧ g_5 < (List.take (risD (List.take g a.list)).length (risD (List.take g a.list)) ++ [D.s (ByteArray.mk #[])]).length) ∧ g_5 < g_4 else Idx (↑g : Int) a.list.length ∧ Idx (↑g_2 : Int) ((risD (List.take g a.list)).length + [D.s (ByteArray.mk #[])].length) ∧ I64 ((↑g : Int) + 1) ∧ ∃ (g_5 : Nat), (↑g : Int) + 1 = (↑g_5 : Int) ∧ (risD (List.take g a.list)).length + [D.s (ByteArray.mk #[])].length = (risD (List.take g_5 a.list)).length ∧ setD (List.take (g_4 + 1) (List.take (risD (List.take g a.list)).length (risD (List.take g a.list)) ++ [D.s (ByteArray.mk #[])]) ++ List.take ((List.take (risD (List.take g a.list)).length (risD (List.take g a.list)) ++ [D.s (ByteArray.mk #[])]).length - 1 - g_4) (List.drop g_4 (List.take (risD (List.take g a.list)).length (risD (List.take g a.list)) ++ [D.s (ByteArray.mk #[])]))) g_2 (D.s (nthD a.list g).str) = risD (List.take g_5 a.list) ∧ g_5 ≤ a.list.length ∧ a.list.length - g_5 < a.list.length - g else List.take (risD (List.take g a.list)).length (risD (List.take g a.list)) = risD a.list) = conGoal Tryd.prog noS risC_an 200 14 risC [a] := by kernel_rfl
theorem risC_ok : ConOK Tryd.prog Γ 14 risC := con_of mo (noS_ok _) (an := risC_an) 200 fun ds hl hp => by
  obtain ⟨a, rfl⟩ := len1 hl
  rw [← risC_vc]
  have p0 : a.list.length ≤ 1000000 := hp _ (.head _)
  refine ⟨(), 0, rfl, rfl, rfl, Nat.zero_le _, fun g hg => cond_of (fun c => ?_) (fun c => ?_)⟩
  · have c : g < a.list.length := by simpa using c
    have hml := risD_len a.list g
    have hnext := risD_at c
    have hspec := (ris_spec ordS ((a.list.take g).map D.str)).1
    have hO : risD (a.list.take g) = (risL ltS ((a.list.take g).map D.str)).map D.s := rfl
    generalize hB : risL ltS ((a.list.take g).map D.str) = B at hnext hspec hO
    generalize hOO : risD (a.list.take g) = O at hml hO ⊢
    have hm : O.length = B.length := by rw [hO, List.length_map]
    have hnth : ∀ j (h : j < B.length), nthD O j = D.s B[j] := fun j h => by rw [hO]; exact nthD_smap h
    have hst : ∀ j (h : j < B.length), (nthD O j).str = B[j] := fun j h => by rw [hnth j h]; rfl
    have hcan : ∀ j, j < O.length → D.s (nthD O j).str = nthD O j := fun j h => by have := hnth j (by omega); rw [this]; rfl
    refine ⟨O.length, rfl, ⟨Nat.le_refl _, fun j h1 h2 => by omega⟩, fun k ⟨k1, k2⟩ => ⟨fun p => ?_, cond_of (fun e => ?_) (fun e => ⟨fun p => ?_, cond_of (fun f => ?_) (fun f => ?_)⟩)⟩⟩
    · have p := of_decide_eq_true p
      exact ⟨⟨by omega, by omega⟩, ⟨by omega, by omega⟩, ⟨by omega, by omega⟩⟩
    · rw [Bool.and_eq_true, decide_eq_true_iff, show ((k : Int) - 1).toNat = k - 1 by omega] at e
      obtain ⟨e1, e2⟩ := e
      have e2 : ltS (nthD a.list g).str (nthD O (k - 1)).str = true := (gtS _ _).symm.trans e2
      refine ⟨⟨by omega, by omega⟩, k - 1, by omega, ⟨by omega, fun j h1 h2 => ?_⟩, by omega⟩
      by_cases h : j = k - 1
      · rw [h]; exact e2
      · exact k2 j (by omega) h2
    · have p := of_decide_eq_true p
      exact ⟨⟨by omega, by omega⟩, ⟨by omega, by omega⟩, ⟨by omega, by omega⟩⟩
    · rw [Bool.and_eq_true, decide_eq_true_iff, decide_eq_true_iff, show ((k : Int) - 1).toNat = k - 1 by omega] at f
      obtain ⟨f1, f2⟩ := f
      have hat := (insU_at ordS (x := (nthD a.list g).str) (k := k) hspec (by omega) (fun j h hj => by rw [← hst j h]; exact k2 j hj (by omega)) (fun h _ => by rw [← hst _ h, f2, ordS.irr])).1 (by omega) (by omega) (by rw [← hst _ (by omega), f2])
      rw [hat, ← hO] at hnext
      exact ⟨⟨by omega, by omega⟩, g + 1, by omega, by rw [hnext], hnext.symm, by omega, by omega⟩
    · rw [show ((k : Int) - 1).toNat = k - 1 by omega] at e f
      have hle : ∀ (h : k - 1 < B.length), 0 < k → ltS (nthD a.list g).str B[k - 1] = false := by
        intro h hk
        rw [decide_eq_true (show (0 : Int) < k by omega), Bool.true_and] at e
        rw [← hst _ h]
        exact (gtS _ _).symm.trans e
      have hne : ∀ (h : k - 1 < B.length), 0 < k → B[k - 1] ≠ (nthD a.list g).str := by
        intro h hk
        rw [decide_eq_true (show (0 : Int) < k by omega), Bool.true_and, decide_eq_false_iff_not] at f
        rw [← hst _ h]; exact f
      have hat := (insU_at ordS (x := (nthD a.list g).str) (k := k) hspec (by omega) (fun j h hj => by rw [← hst j h]; exact k2 j hj (by omega)) hle).2 hne
      rw [List.take_length]
      have hlen : ([D.s (ByteArray.mk #[])] : List D).length = 1 := rfl
      rw [hlen]
      generalize hW : O ++ [D.s (ByteArray.mk #[])] = W
      have hWl : W.length = O.length + 1 := by rw [← hW, List.length_append]; rfl
      refine ⟨by omega, by omega, ⟨by omega, by omega⟩, O.length, by omega, ?_, ⟨by omega, by omega⟩, fun j ⟨j1, j2⟩ => cond_of (fun d => ?_) (fun d => ?_)⟩
      · rw [show W.length - 1 - O.length = 0 by omega, List.take_zero, List.append_nil, List.take_of_length_le (by omega)]
      · have d := of_decide_eq_true d
        obtain ⟨i, rfl⟩ : ∃ i, j = i + 1 := ⟨j - 1, by omega⟩
        rw [show (((i + 1 : Nat) : Int) - 1).toNat = i by omega, setD_mid (by omega), nthD_takeL (by omega) (by omega)]
        have hWi : nthD W i = nthD O i := by
          refine nthD_get ?_
          rw [← hW, List.getElem?_append_left (by omega)]
          exact get_nthD (by omega)
        refine ⟨⟨by omega, by omega⟩, ⟨by omega, by omega⟩, ⟨by omega, by omega⟩, ⟨by omega, by omega⟩, i, by omega, ?_, ⟨by omega, by omega⟩, by omega⟩
        rw [shift_rhs (by omega), hWi, hcan i (by omega)]
      · have d := of_decide_eq_false d
        have d : j = k := by omega
        subst d
        have hres : setD (List.take (j + 1) W ++ List.take (W.length - 1 - j) (List.drop j W)) j (D.s (nthD a.list g).str) = risD (a.list.take (g + 1)) := by
          rw [setD_mid (by omega), hnext, hat, List.map_append, List.map_cons, List.map_take, List.map_drop, ← hO, ← hW]
          congr 1
          · rw [List.take_append_of_le_length (by omega)]
          · congr 1
            rw [List.drop_append_of_le_length (by omega), List.length_append, hlen, List.take_append_of_le_length (by rw [List.length_drop]; omega), List.take_of_length_le (by rw [List.length_drop]; omega)]
        have hl2 : O.length + 1 = (risD (a.list.take (g + 1))).length := by
          rw [hnext, hat, List.length_map, List.length_append, List.length_cons, List.length_take, List.length_drop]; omega
        exact ⟨⟨by omega, by omega⟩, ⟨by omega, by omega⟩, ⟨by omega, by omega⟩, g + 1, by omega, hl2, hres, by omega, by omega⟩
  · have c : g = a.list.length := by have := of_decide_eq_false c; omega
    subst c
    rw [List.take_length, List.take_length]
def rtermsC : Con := ⟨[.d true .s], fun ds => (fun (a : D) => [a.str.size ≤ 16384]) (nthD ds 0), [.d (.l .s)], fun ds => (fun (a : D) => [.l (tmD a.str)]) (nthD ds 0), fun ds => []⟩
def rtermsC_an : Anns := fun f i => match f, i with
  | 6, 2000004 => some fun A st => ⟨Unit, fun _ => [], fun _ => [(3, .q 9 .s []), (4, .q 5 (.i .u8) [])], fun _ => True, fun _ => 0⟩
  | 6, 4000005 => some fun A st => match A.get 4 with
    | some (.v (.slice none 0 0)) => ⟨Unit, fun _ => [], fun _ => [(4, .q 5 (.i .u8) [])], fun _ => True, fun _ => 0⟩
    | _ => ⟨Unit, fun _ => [], fun _ => [], fun _ => True, fun _ => 0⟩
  | 6, 4 => some fun A st => match A.get 0 with
    | some (.v (.string s)) => ⟨Nat, fun g => [(5, .v (.int .i64 g)), (3, .ow st.nx (rawP s g).2.length), (4, .ow (st.nx + 1) (rawP s g).1.length)], fun g => [(st.nx, .q 9 .s ((rawP s g).2.map D.s)), (st.nx + 1, .q 5 (.i .u8) (dI (rawP s g).1))], fun g => g ≤ s.size + 1, fun g => s.size + 1 - g⟩
    | _ => LAnn.bad
  | _, _ => none
theorem rtermsC_vc (a : D) : (∃ (g : Unit), ∃ (g : Nat), EqI 0 (↑g : Int) ∧ 0 = (rawP a.str g).snd.length ∧ 0 = (rawP a.str g).fst.length ∧ [] = List.map D.s (rawP a.str g).snd ∧ [] = dI (rawP a.str g).fst ∧ g ≤ a.str.size + 1 ∧ ∀ (g : Nat), g ≤ a.str.size + 1 → bif decide ((↑g : Int) ≤ (↑a.str.size : Int)) then bif decide ((↑g : Int) < (↑a.str.size : Int)) then Idx (↑g : Int) a.str.size ∧ bif decide (65 ≤ byteAt' a.str g) && decide (byteAt' a.str g ≤ 90) then bif decide (97 ≤ IntKind.u8.wrap (byteAt' a.str g + 32)) && decide (IntKind.u8.wrap (byteAt' a.str g + 32) ≤ 122) || decide (48 ≤ IntKind.u8.wrap (byteAt' a.str g + 32)) && decide (IntKind.u8.wrap (byteAt' a.str g + 32) ≤ 57) || decide (127 < IntKind.u8.wrap (byteAt' a.str g + 32)) then ((rawP a.str g).fst.length + [D.i (IntKind.u8.wrap (byteAt' a.str g + 32))].length) * 1 ≤ 140737488355328 ∧ (rawP a.str g).fst.length + [D.i (IntKind.u8.wrap (byteAt' a.str g + 32))].length ≤ 9223372036854775807 ∧ ∃ (g_1 : Unit), I64 ((↑g : Int) + 1) ∧ ∃ (g_2 : Nat), (↑g : Int) + 1 = (↑g_2 : Int) ∧ (rawP a.str g).snd.length = (rawP a.str g_2).snd.length ∧ (rawP a.str g).fst.length + [D.i (IntKind.u8.wrap (byteAt' a.str g + 32))].length = (rawP a.str g_2).fst.length ∧ List.map D.s (rawP a.str g).snd = List.map D.s (rawP a.str g_2).snd ∧ List.take (rawP a.str g).fst.length (dI (rawP a.str g).fst) ++ [D.i (IntKind.u8.wrap (byteAt' a.str g + 32))] = dI (rawP a.str g_2).fst ∧ g_2 ≤ a.str.size + 1 ∧ a.str.size + 1 - g_2 < a.str.size + 1 - g else bif decide (64 < (↑(rawP a.str g).fst.length : Int)) then LeI 0 64 ∧ 64 ≤ (↑(rawP a.str g).fst.length : Int) ∧ ((rawP a.str g).snd.length + [D.s (strOfD (List.take (Int.toNat 64) (dI (rawP a.str g).fst)))].length) * 16 ≤ 140737488355328 ∧ (rawP a.str g).snd.length + [D.s (strOfD (List.take (Int.toNat 64) (dI (rawP a.str g).fst)))].length ≤ 9223372036854775807 ∧ ∃ (g_1 : Unit), I64 ((↑g : Int) + 1) ∧ ∃ (g_2 : Nat), (↑g : Int) + 1 = (↑g_2 : Int) ∧ (rawP a.str g).snd.length + [D.s (strOfD (List.take (Int.toNat 64) (dI (rawP a.str g).fst)))].length = (rawP a.str g_2).snd.length ∧ 0 = (rawP a.str g_2).fst.length ∧ List.take (rawP a.str g).snd.length (List.map D.s (rawP a.str g).snd) ++ [D.s (strOfD (List.take (Int.toNat 64) (dI (rawP a.str g).fst)))] = List.map D.s (rawP a.str g_2).snd ∧ [] = dI (rawP a.str g_2).fst ∧ g_2 ≤ a.str.size + 1 ∧ a.str.size + 1 - g_2 < a.str.size + 1 - g else bif decide (0 < (↑(rawP a.str g).fst.length : Int)) then ((rawP a.str g).snd.length + [D.s (strOfD (List.take (rawP a.str g).fst.length (dI (rawP a.str g).fst)))].length) * 16 ≤ 140737488355328 ∧ (rawP a.str g).snd.length + [D.s (strOfD (List.take (rawP a.str g).fst.length (dI (rawP a.str g).fst)))].length ≤ 9223372036854775807 ∧ ∃ (g_1 : Unit), I64 ((↑g : Int) + 1) ∧ ∃ (g_2 : Nat), (↑g : Int) + 1 = (↑g_2 : Int) ∧ (rawP a.str g).snd.length + [D.s (strOfD (List.take (rawP a.str g).fst.length (dI (rawP a.str g).fst)))].length = (rawP a.str g_2).snd.length ∧ 0 = (rawP a.str g_2).fst.length ∧ List.take (rawP a.str g).snd.length (List.map D.s (rawP a.str g).snd) ++ [D.s (strOfD (List.take (rawP a.str g).fst.length (dI (rawP a.str g).fst)))] = List.map D.s (rawP a.str g_2).snd ∧ [] = dI (rawP a.str g_2).fst ∧ g_2 ≤ a.str.size + 1 ∧ a.str.size + 1 - g_2 < a.str.size + 1 - g else ∃ (g_1 : Unit), I64 ((↑g : Int) + 1) ∧ ∃ (g_2 : Nat), (↑g : Int) + 1 = (↑g_2 : Int) ∧ (rawP a.str g).snd.length = (rawP a.str g_2).snd.length ∧ 0 = (rawP a.str g_2).fst.length ∧ List.map D.s (rawP a.str g).snd = List.map D.s (rawP a.str g_2).snd ∧ [] = dI (rawP a.str g_2).fst ∧ g_2 ≤ a.str.size + 1 ∧ a.str.size + 1 - g_2 < a.str.size + 1 - g else bif decide (97 ≤ byteAt' a.str g) && decide (byteAt' a.str g ≤ 122) || decide (48 ≤ byteAt' a.str g) && decide (byteAt' a.str g ≤ 57) || decide (127 < byteAt' a.str g) then ((rawP a.str g).fst.length + [D.i (byteAt' a.str g)].length) * 1 ≤ 140737488355328 ∧ (rawP a.str g).fst.length + [D.i (byteAt' a.str g)].length ≤ 9223372036854775807 ∧ ∃ (g_1 : Unit), I64 ((↑g : Int) + 1) ∧ ∃ (g_2 : Nat), (↑g : Int) + 1 = (↑g_2 : Int) ∧ (rawP a.str g).snd.length = (rawP a.str g_2).snd.length ∧ (rawP a.str g).fst.length + [D.i (byteAt' a.str g)].length = (rawP a.str g_2).fst.length ∧ List.map D.s (rawP a.str g).snd = List.map D.s (rawP a.str g_2).snd ∧ List.take (rawP a.str g).fst.length (dI (rawP a.str g).fst) ++ [D.i (byteAt' a.str g)] = dI (rawP a.str g_2).fst ∧ g_2 ≤ a.str.size + 1 ∧ a.str.size + 1 - g_2 < a.str.size + 1 - g else bif decide (64 < (↑(rawP a.str g).fst.length : Int)) then LeI 0 64 ∧ 64 ≤ (↑(rawP a.str g).fst.length : Int) ∧ ((rawP a.str g).snd.length + [D.s (strOfD (List.take (Int.toNat 64) (dI (rawP a.str g).fst)))].length) * 16 ≤ 140737488355328 ∧ (rawP a.str g).snd.length + [D.s (strOfD (List.take (Int.toNat 64) (dI (rawP a.str g).fst)))].length ≤ 9223372036854775807 ∧ ∃ (g_1 : Unit), I64 ((↑g : Int) + 1) ∧ ∃ (g_2 : Nat), (↑g : Int) + 1 = (↑g_2 : Int) ∧ (rawP a.str g).snd.length + [D.s (strOfD (List.take (Int.toNat 64) (dI (rawP a.str g).fst)))].length = (rawP a.str g_2).snd.length ∧ 0 = (rawP a.str g_2).fst.length ∧ List.take (rawP a.str g).snd.length (List.map D.s (rawP a.str g).snd) ++ [D.s (strOfD (List.take (Int.toNat 64) (dI (rawP a.str g).fst)))] = List.map D.s (rawP a.str g_2).snd ∧ [] = dI (rawP a.str g_2).fst ∧ g_2 ≤ a.str.size + 1 ∧ a.str.size + 1 - g_2 < a.str.size + 1 - g else bif decide (0 < (↑(rawP a.str g).fst.length : Int)) then ((rawP a.str g).snd.length + [D.s (strOfD (List.take (rawP a.str g).fst.length (dI (rawP a.str g).fst)))].length) * 16 ≤ 140737488355328 ∧ (rawP a.str g).snd.length + [D.s (strOfD (List.take (rawP a.str g).fst.length (dI (rawP a.str g).fst)))].length ≤ 9223372036854775807 ∧ ∃ (g_1 : Unit), I64 ((↑g : Int) + 1) ∧ ∃ (g_2 : Nat), (↑g : Int) + 1 = (↑g_2 : Int) ∧ (rawP a.str g).snd.length + [D.s (strOfD (List.take (rawP a.str g).fst.length (dI (rawP a.str g).fst)))].length = (rawP a.str g_2).snd.length ∧ 0 = (rawP a.str g_2).fst.length ∧ List.take (rawP a.str g).snd.length (List.map D.s (rawP a.str g).snd) ++ [D.s (strOfD (List.take (rawP a.str g).fst.length (dI (rawP a.str g).fst)))] = List.map D.s (rawP a.str g_2).snd ∧ [] = dI (rawP a.str g_2).fst ∧ g_2 ≤ a.str.size + 1 ∧ a.str.size + 1 - g_2 < a.str.size + 1 - g else ∃ (g_1 : Unit), I64 ((↑g : Int) + 1) ∧ ∃ (g_2 : Nat), (↑g : Int) + 1 = (↑g_2 : Int) ∧ (rawP a.str g).snd.length = (rawP a.str g_2).snd.length ∧ 0 = (rawP a.str g_2).fst.length ∧ List.map D.s (rawP a.str g).snd = List.map D.s (rawP a.str g_2).snd ∧ [] = dI (rawP a.str g_2).fst ∧ g_2 ≤ a.str.size + 1 ∧ a.str.size + 1 - g_2 < a.str.size + 1 - g else bif decide (64 < (↑(rawP a.str g).fst.length : Int)) then LeI 0 64 ∧ 64 ≤ (↑(rawP a.str g).fst.length : Int) ∧ ((rawP a.str g).snd.length + [D.s (strOfD (List.take (Int.toNat 64) (dI (rawP a.str g).fst)))].length) * 16 ≤ 140737488355328 ∧ (rawP a.str g).snd.length + [D.s (strOfD (List.take (Int.toNat 64) (dI (rawP a.str g).fst)))].length ≤ 9223372036854775807 ∧ ∃ (g_1 : Unit), I64 ((↑g : Int) + 1) ∧ ∃ (g_2 : Nat), (↑g : Int) + 1 = (↑g_2 : Int) ∧ (rawP a.str g).snd.length + [D.s (strOfD (List.take (Int.toNat 64) (dI (rawP a.str g).fst)))].length = (rawP a.str g_2).snd.length ∧ 0 = (rawP a.str g_2).fst.length ∧ List.take (rawP a.str g).snd.length (List.map D.s (rawP a.str g).snd) ++ [D.s (strOfD (List.take (Int.toNat 64) (dI (rawP a.str g).fst)))] = List.map D.s (rawP a.str g_2).snd ∧ [] = dI (rawP a.str g_2).fst ∧ g_2 ≤ a.str.size + 1 ∧ a.str.size + 1 - g_2 < a.str.size + 1 - g else bif decide (0 < (↑(rawP a.str g).fst.length : Int)) then ((rawP a.str g).snd.length + [D.s (strOfD (List.take (rawP a.str g).fst.length (dI (rawP a.str g).fst)))].length) * 16 ≤ 140737488355328 ∧ (rawP a.str g).snd.length + [D.s (strOfD (List.take (rawP a.str g).fst.length (dI (rawP a.str g).fst)))].length ≤ 9223372036854775807 ∧ ∃ (g_1 : Unit), I64 ((↑g : Int) + 1) ∧ ∃ (g_2 : Nat), (↑g : Int) + 1 = (↑g_2 : Int) ∧ (rawP a.str g).snd.length + [D.s (strOfD (List.take (rawP a.str g).fst.length (dI (rawP a.str g).fst)))].length = (rawP a.str g_2).snd.length ∧ 0 = (rawP a.str g_2).fst.length ∧ List.take (rawP a.str g).snd.length (List.map D.s (rawP a.str g).snd) ++ [D.s (strOfD (List.take (rawP a.str g).fst.length (dI (rawP a.str g).fst)))] = List.map D.s (rawP a.str g_2).snd ∧ [] = dI (rawP a.str g_2).fst ∧ g_2 ≤ a.str.size + 1 ∧ a.str.size + 1 - g_2 < a.str.size + 1 - g else ∃ (g_1 : Unit), I64 ((↑g : Int) + 1) ∧ ∃ (g_2 : Nat), (↑g : Int) + 1 = (↑g_2 : Int) ∧ (rawP a.str g).snd.length = (rawP a.str g_2).snd.length ∧ 0 = (rawP a.str g_2).fst.length ∧ List.map D.s (rawP a.str g).snd = List.map D.s (rawP a.str g_2).snd ∧ [] = dI (rawP a.str g_2).fst ∧ g_2 ≤ a.str.size + 1 ∧ a.str.size + 1 - g_2 < a.str.size + 1 - g else (List.take (rawP a.str g).snd.length (List.map D.s (rawP a.str g).snd)).length ≤ 1000000 ∧ risD (List.take (rawP a.str g).snd.length (List.map D.s (rawP a.str g).snd)) = tmD a.str) = conGoal Tryd.prog (addS 14 risC noS) rtermsC_an 200 6 rtermsC [a] := by kernel_rfl
theorem rtermsC_ok : ConOK Tryd.prog Γ 6 rtermsC := con_of mo (addS_ok risC_ok (noS_ok _)) (an := rtermsC_an) 200 fun ds hl hp => by
  obtain ⟨a, rfl⟩ := len1 hl
  rw [← rtermsC_vc]
  have p0 : a.str.size ≤ 16384 := hp _ (.head _)
  refine ⟨(), 0, rfl, by rw [rawP_0]; rfl, by rw [rawP_0]; rfl, by rw [rawP_0]; rfl, by rw [rawP_0]; rfl, Nat.zero_le _, fun g hg => ?_⟩
  obtain ⟨q1, q2⟩ := rawP_lens hg
  refine cond_of (fun c => cond_of (fun d => ⟨⟨by omega, by have := of_decide_eq_true d; omega⟩, cond_of (fun u => ?_) (fun u => ?_)⟩) (fun d => ?_)) (fun c => ?_)
  · have d : g < a.str.size := by have := of_decide_eq_true d; omega
    obtain ⟨w, t⟩ := up_tm u
    have E : rawP a.str (g + 1) = ((rawP a.str g).1 ++ [byteAt' a.str g + 32], (rawP a.str g).2) := by rw [rawP_le (by omega), rawP_le (by omega), runT_succ d, step_up (show isUp (byteAt' a.str g) = true from u)]
    rw [w]
    refine cond_of (fun _ => ?_) (fun k => by rw [t] at k; cases k)
    exact ⟨(by show (_ + 1) * 1 ≤ _; omega), (by show _ + 1 ≤ _; omega), (), ⟨by omega, by omega⟩, g + 1, by omega, (by rw [E]), (by rw [E, List.length_append]; rfl), (by rw [E]), (by rw [List.take_of_length_le (by rw [dI_length]; exact Nat.le_refl _), E, ← dI_append]; rfl), by omega, by omega⟩
  · have d : g < a.str.size := by have := of_decide_eq_true d; omega
    have hu : isUp (byteAt' a.str g) = false := u
    refine cond_of (fun t => ?_) (fun t => ?_)
    · have E : rawP a.str (g + 1) = ((rawP a.str g).1 ++ [byteAt' a.str g], (rawP a.str g).2) := by rw [rawP_le (by omega), rawP_le (by omega), runT_succ d, step_tm hu ((tm_eq _).symm.trans t)]
      exact ⟨(by show (_ + 1) * 1 ≤ _; omega), (by show _ + 1 ≤ _; omega), (), ⟨by omega, by omega⟩, g + 1, by omega, (by rw [E]), (by rw [E, List.length_append]; rfl), (by rw [E]), (by rw [List.take_of_length_le (by rw [dI_length]; exact Nat.le_refl _), E, ← dI_append]; rfl), by omega, by omega⟩
    · have E : rawP a.str (g + 1) = ([], (endT (rawP a.str g)).2) := by
        rw [rawP_le (by omega), rawP_le (by omega), runT_succ d, step_no hu ((tm_eq _).symm.trans t)]
        exact Prod.ext (endT_fst _) rfl
      refine cond_of (fun l1 => ?_) (fun l1 => cond_of (fun l2 => ?_) (fun l2 => ?_))
      · have l1 := of_decide_eq_true l1
        have e2 := end_64 (st := rawP a.str g) (by omega)
        rw [str_take]
        exact ⟨by decide, by omega, (by show (_ + 1) * 16 ≤ _; omega), (by show _ + 1 ≤ _; omega), (), ⟨by omega, by omega⟩, g + 1, by omega, (by rw [E, e2, List.length_append]; rfl), (by rw [E]; rfl), (by rw [List.take_of_length_le (by rw [List.length_map]; exact Nat.le_refl _), E, e2, List.map_append]; rfl), (by rw [E]; rfl), by omega, by omega⟩
      · have l1 := of_decide_eq_false l1
        have l2 := of_decide_eq_true l2
        have e2 := end_64 (st := rawP a.str g) (by omega)
        have e3 : (rawP a.str g).1.take 64 = (rawP a.str g).1 := List.take_of_length_le (by omega)
        rw [str_take, List.take_length]
        exact ⟨(by show (_ + 1) * 16 ≤ _; omega), (by show _ + 1 ≤ _; omega), (), ⟨by omega, by omega⟩, g + 1, by omega, (by rw [E, e2, List.length_append]; rfl), (by rw [E]; rfl), (by rw [List.take_of_length_le (by rw [List.length_map]; exact Nat.le_refl _), E, e2, e3, List.map_append]; rfl), (by rw [E]; rfl), by omega, by omega⟩
      · have l2 := of_decide_eq_false l2
        have e2 := end_0 (st := rawP a.str g) (by omega)
        exact ⟨(), ⟨by omega, by omega⟩, g + 1, by omega, (by rw [E, e2]), (by rw [E]; rfl), (by rw [E, e2]), (by rw [E]; rfl), by omega, by omega⟩
  · have d : g = a.str.size := by have := of_decide_eq_false d; have := of_decide_eq_true c; omega
    subst d
    have E : rawP a.str (a.str.size + 1) = ([], (endT (rawP a.str a.str.size)).2) := by rw [rawP_end, rawP_le (Nat.le_refl _)]; rfl
    refine cond_of (fun l1 => ?_) (fun l1 => cond_of (fun l2 => ?_) (fun l2 => ?_))
    · have l1 := of_decide_eq_true l1
      have e2 := end_64 (st := rawP a.str a.str.size) (by omega)
      rw [str_take]
      exact ⟨by decide, by omega, (by show (_ + 1) * 16 ≤ _; omega), (by show _ + 1 ≤ _; omega), (), ⟨by omega, by omega⟩, a.str.size + 1, by omega, (by rw [E, e2, List.length_append]; rfl), (by rw [E]; rfl), (by rw [List.take_of_length_le (by rw [List.length_map]; exact Nat.le_refl _), E, e2, List.map_append]; rfl), (by rw [E]; rfl), by omega, by omega⟩
    · have l1 := of_decide_eq_false l1
      have l2 := of_decide_eq_true l2
      have e2 := end_64 (st := rawP a.str a.str.size) (by omega)
      have e3 : (rawP a.str a.str.size).1.take 64 = (rawP a.str a.str.size).1 := List.take_of_length_le (by omega)
      rw [str_take, List.take_length]
      exact ⟨(by show (_ + 1) * 16 ≤ _; omega), (by show _ + 1 ≤ _; omega), (), ⟨by omega, by omega⟩, a.str.size + 1, by omega, (by rw [E, e2, List.length_append]; rfl), (by rw [E]; rfl), (by rw [List.take_of_length_le (by rw [List.length_map]; exact Nat.le_refl _), E, e2, e3, List.map_append]; rfl), (by rw [E]; rfl), by omega, by omega⟩
    · have l2 := of_decide_eq_false l2
      have e2 := end_0 (st := rawP a.str a.str.size) (by omega)
      exact ⟨(), ⟨by omega, by omega⟩, a.str.size + 1, by omega, (by rw [E, e2]), (by rw [E]; rfl), (by rw [E, e2]), (by rw [E]; rfl), by omega, by omega⟩
  · have c : g = a.str.size + 1 := by have := of_decide_eq_false c; omega
    subst c
    rw [List.take_of_length_le (by rw [List.length_map]; exact Nat.le_refl _), rawP_end]
    rw [rawP_end] at q2
    refine ⟨by rw [List.length_map]; show (rawT a.str).length ≤ _; have q2 : (rawT a.str).length ≤ _ := q2; omega, ?_⟩
    show (risL ltS ((((rawT a.str).map D.s)).map D.str)).map D.s = (termsL a.str).map D.s
    rw [str_map]; rfl
end Go.Proofs.YtdjniofefijokaaDoor.XT
