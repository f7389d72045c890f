/- Contracts, by the symbolic evaluator. -/
import Derived.Test.YtcinjnkgopoclaaGreatDoorQO1
import Derived.Test.YtcinjnkgopoclaaGreatDoorProg
set_option linter.unusedVariables false
set_option linter.unusedSimpArgs false
set_option linter.unusedSectionVars false
namespace Go.Proofs.YtcinjnkgopoclaaGreatDoor.XT
open Go Go.RowKit Go.Proofs.YtcinjnkgopoclaaGreatDoor.Sv
set_option maxRecDepth 100000
variable {Γ : Gl}
def mayL (xs : List D) : Bool := (List.range xs.length).all fun j => mayV (nthD xs j)
theorem mayL_at {xs : List D} (h : mayL xs = true) (j : Nat) (hj : j < xs.length) : mayV (nthD xs j) = true := List.all_eq_true.1 h j (List.mem_range.2 hj)
theorem gtV {p q : D} (hp : mayV p = true) (hq : mayV q = true) : decide (0 < rcmpV p q) = ltV (ofV q) (ofV p) := by
  rw [← cmpV_may hp hq, cmpV_cf]
  exact decide_eq_decide.2 (goodV.anti _ _).symm
theorem eqF (a b : D) : (decide ((a.fld 0).int = (b.fld 0).int) && ((a.fld 1).bool == (b.fld 1).bool && (decide ((a.fld 2).int = (b.fld 2).int) && (decide ((a.fld 3).str = (b.fld 3).str) && (decide ((a.fld 4).int = (b.fld 4).int) && true))))) = decide (ofV a = ofV b) := by
  unfold ofV
  simp only [Prod.mk.injEq, Bool.and_true, Bool.decide_and]
  cases (a.fld 1).bool <;> cases (b.fld 1).bool <;> rfl
theorem putV (d : D) : putF valT d [] = toV (ofV d) := rfl
noncomputable def rsortC : Con := ⟨[.d false (.l valT)], fun ds => (fun (a : D) => [a.list.length ≤ 1000000, mayL a.list = true]) (nthD ds 0), [.d (.l valT)], fun ds => (fun (a : D) => [.l (risV a.list)]) (nthD ds 0), fun ds => []⟩
noncomputable def rsortC_an : Anns := fun f i => match f, i with
  | 9, 2000003 => some fun A st => ⟨Unit, fun _ => [], fun _ => [(3, .q 25 valT [])], fun _ => True, fun _ => 0⟩
  | 9, 3 => some fun A st => match A.get 0 with
    | some (.dl _ _ xs) => ⟨Nat, fun g => [(4, .v (.int .i64 g)), (3, .ow st.nx (risV (xs.take g)).length)], fun g => [(st.nx, .q 25 valT (risV (xs.take g)))], fun g => g ≤ xs.length, fun g => xs.length - g⟩
    | _ => LAnn.bad
  | 9, 6 => some fun A st => match A.get 0, A.get 4, A.get 3 with
    | some (.dl _ _ xs), some (.v (.int _ i)), some (.ow l m) => match st.h.get l with
      | some (.q _ _ os) => ⟨Nat, fun k => [(5, .v (.int .i64 k))], fun _ => [], fun k => k ≤ os.length ∧ ∀ j, k ≤ j → j < os.length → ltV (ofV (nthD xs i.toNat)) (ofV (nthD os j)) = true, fun k => k⟩
      | _ => LAnn.bad
    | _, _, _ => LAnn.bad
  | 9, 11 => some fun A st => match A.get 3, A.get 5 with
    | some (.ow l m), some (.v (.int _ k)) => match st.h.get l with
      | some (.q _ _ os) => ⟨Nat, fun j => [(6, .v (.int .i64 j))], fun j => [(l, .q 25 valT (os.take (j + 1) ++ (os.drop j).take (os.length - 1 - j)))], fun j => k ≤ (j : Int) ∧ j < os.length, fun j => j⟩
      | _ => LAnn.bad
    | _, _ => LAnn.bad
  | _, _ => none
theorem rsortC_vc (a : D) : (∃ (g : Unit), ∃ (g : Nat), EqI 0 (↑g : Int) ∧ 0 = (risV (List.take g a.list)).length ∧ [] = risV (List.take g a.list) ∧ g ≤ a.list.length ∧ ∀ (g : Nat), g ≤ a.list.length → bif decide ((↑g : Int) < (↑a.list.length : Int)) then ∃ (g_1 : Nat), (↑(risV (List.take g a.list)).length : Int) = (↑g_1 : Int) ∧ (g_1 ≤ (risV (List.take g a.list)).length ∧ ∀ (j : Nat), g_1 ≤ j → j < (risV (List.take g a.list)).length → ltV (ofV (nthD a.list g)) (ofV (nthD (risV (List.take g a.list)) j)) = true) ∧ ∀ (g_2 : Nat), (g_2 ≤ (risV (List.take g a.list)).length ∧ ∀ (j : Nat), g_2 ≤ j → j < (risV (List.take g a.list)).length → ltV (ofV (nthD a.list g)) (ofV (nthD (risV (List.take g a.list)) j)) = true) → (decide (0 < (↑g_2 : Int)) = true → I64 ((↑g_2 : Int) - 1) ∧ Idx ((↑g_2 : Int) - 1) (risV (List.take g a.list)).length ∧ Idx (↑g : Int) a.list.length) ∧ bif decide (0 < (↑g_2 : Int)) && decide (0 < rcmpV (nthD (risV (List.take g a.list)) ((↑g_2 : Int) - 1).toNat) (nthD a.list g)) then I64 ((↑g_2 : Int) - 1) ∧ ∃ (g_3 : Nat), (↑g_2 : Int) - 1 = (↑g_3 : Int) ∧ (g_3 ≤ (risV (List.take g a.list)).length ∧ ∀ (j : Nat), g_3 ≤ j → j < (risV (List.take g a.list)).length → ltV (ofV (nthD a.list g)) (ofV (nthD (risV (List.take g a.list)) j)) = true) ∧ g_3 < g_2 else (decide (0 < (↑g_2 : Int)) = true → I64 ((↑g_2 : Int) - 1) ∧ Idx ((↑g_2 : Int) - 1) (risV (List.take g a.list)).length ∧ Idx (↑g : Int) a.list.length) ∧ bif decide (0 < (↑g_2 : Int)) && (decide (((nthD (risV (List.take g a.list)) ((↑g_2 : Int) - 1).toNat).fld 0).int = ((nthD a.list g).fld 0).int) && (((nthD (risV (List.take g a.list)) ((↑g_2 : Int) - 1).toNat).fld 1).bool == ((nthD a.list g).fld 1).bool && (decide (((nthD (risV (List.take g a.list)) ((↑g_2 : Int) - 1).toNat).fld 2).int = ((nthD a.list g).fld 2).int) && (decide (((nthD (risV (List.take g a.list)) ((↑g_2 : Int) - 1).toNat).fld 3).str = ((nthD a.list g).fld 3).str) && (decide (((nthD (risV (List.take g a.list)) ((↑g_2 : Int) - 1).toNat).fld 4).int = ((nthD a.list g).fld 4).int) && true))))) then I64 ((↑g : Int) + 1) ∧ ∃ (g_3 : Nat), (↑g : Int) + 1 = (↑g_3 : Int) ∧ (risV (List.take g a.list)).length = (risV (List.take g_3 a.list)).length ∧ risV (List.take g a.list) = risV (List.take g_3 a.list) ∧ g_3 ≤ a.list.length ∧ a.list.length - g_3 < a.list.length - g else ((risV (List.take g a.list)).length + [D.t [D.i 0, D.b false, D.i 0, D.s (ByteArray.mk #[]), D.i 0]].length) * 40 ≤ 140737488355328 ∧ (risV (List.take g a.list)).length + [D.t [D.i 0, D.b false, D.i 0, D.s (ByteArray.mk #[]), D.i 0]].length ≤ 9223372036854775807 ∧ I64 ((↑((risV (List.take g a.list)).length + [D.t [D.i 0, D.b false, D.i 0, D.s (ByteArray.mk #[]), D.i 0]].length) : Int) - 1) ∧ ∃ (g_3 : Nat), (↑((risV (List.take g a.list)).length + [D.t [D.i 0, D.b false, D.i 0, D.s (ByteArray.mk #[]), D.i 0]].length) : Int) - 1 = (↑g_3 : Int) ∧ List.take (risV (List.take g a.list)).length (risV (List.take g a.list)) ++ [D.t [D.i 0, D.b false, D.i 0, D.s (ByteArray.mk #[]), D.i 0]] = List.take (g_3 + 1) (List.take (risV (List.take g a.list)).length (risV (List.take g a.list)) ++ [D.t [D.i 0, D.b false, D.i 0, D.s (ByteArray.mk #[]), D.i 0]]) ++ List.take ((List.take (risV (List.take g a.list)).length (risV (List.take g a.list)) ++ [D.t [D.i 0, D.b false, D.i 0, D.s (ByteArray.mk #[]), D.i 0]]).length - 1 - g_3) (List.drop g_3 (List.take (risV (List.take g a.list)).length (risV (List.take g a.list)) ++ [D.t [D.i 0, D.b false, D.i 0, D.s (ByteArray.mk #[]), D.i 0]])) ∧ ((↑g_2 : Int) ≤ (↑g_3 : Int) ∧ g_3 < (List.take (risV (List.take g a.list)).length (risV (List.take g a.list)) ++ [D.t [D.i 0, D.b false, D.i 0, D.s (ByteArray.mk #[]), D.i 0]]).length) ∧ ∀ (g_4 : Nat), (↑g_2 : Int) ≤ (↑g_4 : Int) ∧ g_4 < (List.take (risV (List.take g a.list)).length (risV (List.take g a.list)) ++ [D.t [D.i 0, D.b false, D.i 0, D.s (ByteArray.mk #[]), D.i 0]]).length → bif decide ((↑g_2 : Int) < (↑g_4 : Int)) then I64 ((↑g_4 : Int) - 1) ∧ Idx ((↑g_4 : Int) - 1) ((risV (List.take g a.list)).length + [D.t [D.i 0, D.b false, D.i 0, D.s (ByteArray.mk #[]), D.i 0]].length) ∧ Idx (↑g_4 : Int) ((risV (List.take g a.list)).length + [D.t [D.i 0, D.b false, D.i 0, D.s (ByteArray.mk #[]), D.i 0]].length) ∧ I64 ((↑g_4 : Int) - 1) ∧ ∃ (g_5 : Nat), (↑g_4 : Int) - 1 = (↑g_5 : Int) ∧ setD (List.take (g_4 + 1) (List.take (risV (List.take g a.list)).length (risV (List.take g a.list)) ++ [D.t [D.i 0, D.b false, D.i 0, D.s (ByteArray.mk #[]), D.i 0]]) ++ List.take ((List.take (risV (List.take g a.list)).length (risV (List.take g a.list)) ++ [D.t [D.i 0, D.b false, D.i 0, D.s (ByteArray.mk #[]), D.i 0]]).length - 1 - g_4) (List.drop g_4 (List.take (risV (List.take g a.list)).length (risV (List.take g a.list)) ++ [D.t [D.i 0, D.b false, D.i 0, D.s (ByteArray.mk #[]), D.i 0]]))) g_4 (putF valT (nthD (List.take (g_4 + 1) (List.take (risV (List.take g a.list)).length (risV (List.take g a.list)) ++ [D.t [D.i 0, D.b false, D.i 0, D.s (ByteArray.mk #[]), D.i 0]]) ++ List.take ((List.take (risV (List.take g a.list)).length (risV (List.take g a.list)) ++ [D.t [D.i 0, D.b false, D.i 0, D.s (ByteArray.mk #[]), D.i 0]]).length - 1 - g_4) (List.drop g_4 (List.take (risV (List.take g a.list)).length (risV (List.take g a.list)) ++ [D.t [D.i 0, D.b false, D.i 0, D.s (ByteArray.mk #[]), D.i 0]]))) ((↑g_4 : Int) - 1).toNat) []) = List.take (g_5 + 1) (List.take (risV (List.take g a.list)).length (risV (List.take g a.list)) ++ [D.t [D.i 0, D.b false, D.i 0, D.s (ByteArray.mk #[]), D.i 0]]) ++ List.take ((List.take (risV (List.take g a.list)).length (risV (List.take g a.list)) ++ [D.t [D.i 0, D.b false, D.i 0, D.s (ByteArray.mk #[]), D.i 0]]).length - 1 - g_5) (List.drop g_5 (List.take (risV (List.take g a.list)).length (risV (List.take g a.list)) ++ [D.t [D.i 0, D.b false, D.i 0, D.s (ByteArray.mk #[]), D.i 0]])) ∧ ((↑g_2 : Int) ≤ (↑g_5 : Int) ∧ g_5 < (List.take (risV (List.take g a.list)).length (risV (List.take g a.list)) ++ [D.t [D.i 0, D.b false, D.i 0, D.s (ByteArray.mk #[]), D.i 0]]).length) ∧ g_5 < g_4 else Idx (↑g : Int) a.list.length ∧ Idx (↑g_2 : Int) ((risV (List.take g a.list)).length + [D.t [D.i 0, D.b false, D.i 0, D.s (ByteArray.mk #[]), D.i 0]].length) ∧ I64 ((↑g : Int) + 1) ∧ ∃ (g_5 : Nat), (↑g : Int) + 1 = (↑g_5 : Int) ∧ (risV (List.take g a.list)).length + [D.t [D.i 0, D.b false, D.i 0, D.s (ByteArray.mk #[]), D.i 0]].length = (risV (List.take g_5 a.list)).length ∧ setD (List.take (g_4 + 1) (List.take (risV (List.take g a.list)).length (risV (List.take g a.list)) ++ [D.t [D.i 0, D.b false, D.i 0, D.s (ByteArray.mk #[]), D.i 0]]) ++ List.take ((List.take (risV (List.take g a.list)).length (risV (List.take g a.list)) ++ [D.t [D.i 0, D.b false, D.i 0, D.s (ByteArray.mk #[]), D.i 0]]).length - 1 - g_4) (List.drop g_4 (List.take (risV (List.take g a.list)).length (risV (List.take g a.list)) ++ [D.t [D.i 0, D.b false, D.i 0, D.s (ByteArray.mk #[]), D.i 0]]))) g_2 (putF valT (nthD a.list g) []) = risV (List.take g_5 a.list) ∧ g_5 ≤ a.list.length ∧ a.list.length - g_5 < a.list.length - g else List.take (risV (List.take g a.list)).length (risV (List.take g a.list)) = risV a.list) = conGoal Tryz.prog (addS 6 rcmpVC noS) rsortC_an 200 9 rsortC [a] := by kernel_rfl
theorem rsortC_ok : ConOK Tryz.prog Γ 9 rsortC := con_of mo (addS_ok rcmpVC_ok (noS_ok _)) (an := rsortC_an) 200 fun ds hl hp => by
  obtain ⟨a, rfl⟩ := len1 hl
  rw [← rsortC_vc]
  have p0 : a.list.length ≤ 1000000 := hp _ (.head _)
  have p1 : mayL a.list = true := hp _ (.tail _ (.head _))
  have hmay := mayL_at p1
  simp only [eqF, putV]
  refine ⟨(), 0, rfl, rfl, rfl, Nat.zero_le _, fun g hg => cond_of (fun c => ?_) (fun c => ?_)⟩
  · have c : g < a.list.length := by simpa using c
    have hml := risV_len a.list g
    have hnext := risV_at c
    have hspec := (ris_spec goodV.ord ((a.list.take g).map ofV)).1
    have hO : risV (a.list.take g) = (risL ltV ((a.list.take g).map ofV)).map toV := rfl
    have hmem : ∀ v ∈ risL ltV ((a.list.take g).map ofV), mayV (toV v) = true := fun v hv => by
      have h1 := ((ris_spec goodV.ord _).2 v).1 hv
      obtain ⟨d, h2, rfl⟩ := List.mem_map.1 h1
      obtain ⟨i, h3, rfl⟩ := List.mem_iff_getElem.1 (List.mem_of_mem_take h2)
      have := hmay i h3
      rw [nthD_get (List.getElem?_eq_getElem h3)] at this
      exact this
    generalize hB : risL ltV ((a.list.take g).map ofV) = B at hnext hspec hO hmem
    generalize hOO : risV (a.list.take g) = O at hml hO ⊢
    have hm : O.length = B.length := by rw [hO, List.length_map]
    have hnth : ∀ j (h : j < B.length), nthD O j = toV B[j] := fun j h => by rw [hO]; exact nthD_smap h
    have hst : ∀ j (h : j < B.length), ofV (nthD O j) = B[j] := fun j h => by rw [hnth j h]; rfl
    have hmx : mayV (nthD a.list g) = true := hmay g c
    have hmo : ∀ j, j < O.length → mayV (nthD O j) = true := fun j h => by
      rw [hnth j (by omega)]; exact hmem _ (List.getElem_mem _)
    have hcan : ∀ j, j < O.length → toV (ofV (nthD O j)) = nthD O j := fun j h => by have := hnth j (by omega); rw [this]; rfl
    refine ⟨O.length, rfl, ⟨Nat.le_refl _, fun j h1 h2 => by omega⟩, fun k ⟨k1, k2⟩ => ⟨fun p => ?_, cond_of (fun e => ?_) (fun e => ⟨fun p => ?_, cond_of (fun f => ?_) (fun f => ?_)⟩)⟩⟩
    · have p := of_decide_eq_true p
      exact ⟨⟨by omega, by omega⟩, ⟨by omega, by omega⟩, ⟨by omega, by omega⟩⟩
    · rw [Bool.and_eq_true, decide_eq_true_iff, show ((k : Int) - 1).toNat = k - 1 by omega] at e
      obtain ⟨e1, e2⟩ := e
      have e2 : ltV (ofV (nthD a.list g)) (ofV (nthD O (k - 1))) = true := (gtV (hmo _ (by omega)) hmx).symm.trans e2
      refine ⟨⟨by omega, by omega⟩, k - 1, by omega, ⟨by omega, fun j h1 h2 => ?_⟩, by omega⟩
      by_cases h : j = k - 1
      · rw [h]; exact e2
      · exact k2 j (by omega) h2
    · have p := of_decide_eq_true p
      exact ⟨⟨by omega, by omega⟩, ⟨by omega, by omega⟩, ⟨by omega, by omega⟩⟩
    · rw [Bool.and_eq_true, decide_eq_true_iff, decide_eq_true_iff, show ((k : Int) - 1).toNat = k - 1 by omega] at f
      obtain ⟨f1, f2⟩ := f
      have hat := (insU_at goodV.ord (x := (ofV (nthD a.list g))) (k := k) hspec (by omega) (fun j h hj => by rw [← hst j h]; exact k2 j hj (by omega)) (fun h _ => by rw [← hst _ h, f2, goodV.ord.irr])).1 (by omega) (by omega) (by rw [← hst _ (by omega), f2])
      rw [hat, ← hO] at hnext
      exact ⟨⟨by omega, by omega⟩, g + 1, by omega, by rw [hnext], hnext.symm, by omega, by omega⟩
    · rw [show ((k : Int) - 1).toNat = k - 1 by omega] at e f
      have hle : ∀ (h : k - 1 < B.length), 0 < k → ltV (ofV (nthD a.list g)) B[k - 1] = false := by
        intro h hk
        rw [decide_eq_true (show (0 : Int) < k by omega), Bool.true_and] at e
        rw [← hst _ h]
        exact (gtV (hmo _ (by omega)) hmx).symm.trans e
      have hne : ∀ (h : k - 1 < B.length), 0 < k → B[k - 1] ≠ (ofV (nthD a.list g)) := by
        intro h hk
        rw [decide_eq_true (show (0 : Int) < k by omega), Bool.true_and, decide_eq_false_iff_not] at f
        rw [← hst _ h]; exact f
      have hat := (insU_at goodV.ord (x := (ofV (nthD a.list g))) (k := k) hspec (by omega) (fun j h hj => by rw [← hst j h]; exact k2 j hj (by omega)) hle).2 hne
      rw [List.take_length]
      have hlen : ([D.t [D.i 0, D.b false, D.i 0, D.s (ByteArray.mk #[]), D.i 0]] : List D).length = 1 := rfl
      rw [hlen]
      generalize hW : O ++ [D.t [D.i 0, D.b false, D.i 0, D.s (ByteArray.mk #[]), D.i 0]] = W
      have hWl : W.length = O.length + 1 := by rw [← hW, List.length_append]; rfl
      refine ⟨by omega, by omega, ⟨by omega, by omega⟩, O.length, by omega, ?_, ⟨by omega, by omega⟩, fun j ⟨j1, j2⟩ => cond_of (fun d => ?_) (fun d => ?_)⟩
      · rw [show W.length - 1 - O.length = 0 by omega, List.take_zero, List.append_nil, List.take_of_length_le (by omega)]
      · have d := of_decide_eq_true d
        obtain ⟨i, rfl⟩ : ∃ i, j = i + 1 := ⟨j - 1, by omega⟩
        rw [show (((i + 1 : Nat) : Int) - 1).toNat = i by omega, setD_mid (by omega), nthD_takeL (by omega) (by omega)]
        have hWi : nthD W i = nthD O i := by
          refine nthD_get ?_
          rw [← hW, List.getElem?_append_left (by omega)]
          exact get_nthD (by omega)
        refine ⟨⟨by omega, by omega⟩, ⟨by omega, by omega⟩, ⟨by omega, by omega⟩, ⟨by omega, by omega⟩, i, by omega, ?_, ⟨by omega, by omega⟩, by omega⟩
        rw [shift_rhs (by omega), hWi, hcan i (by omega)]
      · have d := of_decide_eq_false d
        have d : j = k := by omega
        subst d
        have hres : setD (List.take (j + 1) W ++ List.take (W.length - 1 - j) (List.drop j W)) j (toV (ofV (nthD a.list g))) = risV (a.list.take (g + 1)) := by
          rw [setD_mid (by omega), hnext, hat, List.map_append, List.map_cons, List.map_take, List.map_drop, ← hO, ← hW]
          congr 1
          · rw [List.take_append_of_le_length (by omega)]
          · congr 1
            rw [List.drop_append_of_le_length (by omega), List.length_append, hlen, List.take_append_of_le_length (by rw [List.length_drop]; omega), List.take_of_length_le (by rw [List.length_drop]; omega)]
        have hl2 : O.length + 1 = (risV (a.list.take (g + 1))).length := by
          rw [hnext, hat, List.length_map, List.length_append, List.length_cons, List.length_take, List.length_drop]; omega
        exact ⟨⟨by omega, by omega⟩, ⟨by omega, by omega⟩, ⟨by omega, by omega⟩, g + 1, by omega, hl2, hres, by omega, by omega⟩
  · have c : g = a.list.length := by have := of_decide_eq_false c; omega
    subst c
    rw [List.take_length, List.take_length]
end Go.Proofs.YtcinjnkgopoclaaGreatDoor.XT
