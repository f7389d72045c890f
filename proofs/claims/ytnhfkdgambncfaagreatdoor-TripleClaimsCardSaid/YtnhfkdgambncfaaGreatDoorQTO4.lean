/- Contracts, by the symbolic evaluator. -/
import Derived.Test.YtnhfkdgambncfaaGreatDoorQTOR
import Derived.Test.YtnhfkdgambncfaaGreatDoorProg
set_option linter.unusedVariables false
set_option linter.unusedSimpArgs false
set_option linter.unusedSectionVars false
namespace Go.Proofs.YtnhfkdgambncfaaGreatDoor.XT
open Go Go.RowKit Go.Proofs.YtnhfkdgambncfaaGreatDoor.Sv
set_option maxRecDepth 100000
noncomputable def risC : Con := ⟨[.d false (.l .s)], fun ds => (fun (a : D) => [a.list.length ≤ 1000000]) (nthD ds 0), [.d (.l .s)], fun ds => (fun (a : D) => [.l (risD a.list)]) (nthD ds 0), fun ds => []⟩
noncomputable def risC_an : Anns := fun f i => match f, i with
  | 28, 2000003 => some fun A st => ⟨Unit, fun _ => [], fun _ => [(3, .q 9 .s [])], fun _ => True, fun _ => 0⟩
  | 28, 3 => some fun A st => match A.get 0 with
    | some (.dl _ _ xs) => ⟨Nat, fun g => [(4, .v (.int .i64 g)), (3, .ow st.nx (risD (xs.take g)).length)], fun g => [(st.nx, .q 9 .s (risD (xs.take g)))], fun g => g ≤ xs.length, fun g => xs.length - g⟩
    | _ => LAnn.bad
  | 28, 6 => some fun A st => match A.get 0, A.get 4, A.get 3 with
    | some (.dl _ _ xs), some (.v (.int _ i)), some (.ow l m) => match st.h.get l with
      | some (.q _ _ os) => ⟨Nat, fun k => [(5, .v (.int .i64 k))], fun _ => [], fun k => k ≤ os.length ∧ ∀ j, k ≤ j → j < os.length → ltS (nthD xs i.toNat).str (nthD os j).str = true, fun k => k⟩
      | _ => LAnn.bad
    | _, _, _ => LAnn.bad
  | 28, 11 => some fun A st => match A.get 3, A.get 5 with
    | some (.ow l m), some (.v (.int _ k)) => match st.h.get l with
      | some (.q _ _ os) => ⟨Nat, fun j => [(6, .v (.int .i64 j))], fun j => [(l, .q 9 .s (os.take (j + 1) ++ (os.drop j).take (os.length - 1 - j)))], fun j => k ≤ (j : Int) ∧ j < os.length, fun j => j⟩
      | _ => LAnn.bad
    | _, _ => LAnn.bad
  | _, _ => none
theorem risC_vc (a : D) : (∃ (g : Unit), ∃ (g : Nat), EqI 0 (↑g : Int) ∧ 0 = (risD (List.take g a.list)).length ∧ [] = risD (List.take g a.list) ∧ g ≤ a.list.length ∧ ∀ (g : Nat), g ≤ a.list.length → bif decide ((↑g : Int) < (↑a.list.length : Int)) then ∃ (g_1 : Nat), (↑(risD (List.take g a.list)).length : Int) = (↑g_1 : Int) ∧ (g_1 ≤ (risD (List.take g a.list)).length ∧ ∀ (j : Nat), g_1 ≤ j → j < (risD (List.take g a.list)).length → ltS (nthD a.list g).str (nthD (risD (List.take g a.list)) j).str = true) ∧ ∀ (g_2 : Nat), (g_2 ≤ (risD (List.take g a.list)).length ∧ ∀ (j : Nat), g_2 ≤ j → j < (risD (List.take g a.list)).length → ltS (nthD a.list g).str (nthD (risD (List.take g a.list)) j).str = true) → (decide (0 < (↑g_2 : Int)) = true → I64 ((↑g_2 : Int) - 1) ∧ Idx ((↑g_2 : Int) - 1) (risD (List.take g a.list)).length ∧ Idx (↑g : Int) a.list.length) ∧ bif decide (0 < (↑g_2 : Int)) && !(Op.bytesLess (nthD (risD (List.take g a.list)) ((↑g_2 : Int) - 1).toNat).str.toList (nthD a.list g).str.toList || decide ((nthD (risD (List.take g a.list)) ((↑g_2 : Int) - 1).toNat).str = (nthD a.list g).str)) then I64 ((↑g_2 : Int) - 1) ∧ ∃ (g_3 : Nat), (↑g_2 : Int) - 1 = (↑g_3 : Int) ∧ (g_3 ≤ (risD (List.take g a.list)).length ∧ ∀ (j : Nat), g_3 ≤ j → j < (risD (List.take g a.list)).length → ltS (nthD a.list g).str (nthD (risD (List.take g a.list)) j).str = true) ∧ g_3 < g_2 else (decide (0 < (↑g_2 : Int)) = true → I64 ((↑g_2 : Int) - 1) ∧ Idx ((↑g_2 : Int) - 1) (risD (List.take g a.list)).length ∧ Idx (↑g : Int) a.list.length) ∧ bif decide (0 < (↑g_2 : Int)) && decide ((nthD (risD (List.take g a.list)) ((↑g_2 : Int) - 1).toNat).str = (nthD a.list g).str) then I64 ((↑g : Int) + 1) ∧ ∃ (g_3 : Nat), (↑g : Int) + 1 = (↑g_3 : Int) ∧ (risD (List.take g a.list)).length = (risD (List.take g_3 a.list)).length ∧ risD (List.take g a.list) = risD (List.take g_3 a.list) ∧ g_3 ≤ a.list.length ∧ a.list.length - g_3 < a.list.length - g else ((risD (List.take g a.list)).length + [D.s (ByteArray.mk #[])].length) * 16 ≤ 140737488355328 ∧ (risD (List.take g a.list)).length + [D.s (ByteArray.mk #[])].length ≤ 9223372036854775807 ∧ I64 ((↑((risD (List.take g a.list)).length + [D.s (ByteArray.mk #[])].length) : Int) - 1) ∧ ∃ (g_3 : Nat), (↑((risD (List.take g a.list)).length + [D.s (ByteArray.mk #[])].length) : Int) - 1 = (↑g_3 : Int) ∧ List.take (risD (List.take g a.list)).length (risD (List.take g a.list)) ++ [D.s (ByteArray.mk #[])] = List.take (g_3 + 1) (List.take (risD (List.take g a.list)).length (risD (List.take g a.list)) ++ [D.s (ByteArray.mk #[])]) ++ List.take ((List.take (risD (List.take g a.list)).length (risD (List.take g a.list)) ++ [D.s (ByteArray.mk #[])]).length - 1 - g_3) (List.drop g_3 (List.take (risD (List.take g a.list)).length (risD (List.take g a.list)) ++ [D.s (ByteArray.mk #[])])) ∧ ((↑g_2 : Int) ≤ (↑g_3 : Int) ∧ g_3 < (List.take (risD (List.take g a.list)).length (risD (List.take g a.list)) ++ [D.s (ByteArray.mk #[])]).length) ∧ ∀ (g_4 : Nat), (↑g_2 : Int) ≤ (↑g_4 : Int) ∧ g_4 < (List.take (risD (List.take g a.list)).length (risD (List.take g a.list)) ++ [D.s (ByteArray.mk #[])]).length → bif decide ((↑g_2 : Int) < (↑g_4 : Int)) then I64 ((↑g_4 : Int) - 1) ∧ Idx ((↑g_4 : Int) - 1) ((risD (List.take g a.list)).length + [D.s (ByteArray.mk #[])].length) ∧ Idx (↑g_4 : Int) ((risD (List.take g a.list)).length + [D.s (ByteArray.mk #[])].length) ∧ I64 ((↑g_4 : Int) - 1) ∧ ∃ (g_5 : Nat), (↑g_4 : Int) - 1 = (↑g_5 : Int) ∧ setD (List.take (g_4 + 1) (List.take (risD (List.take g a.list)).length (risD (List.take g a.list)) ++ [D.s (ByteArray.mk #[])]) ++ List.take ((List.take (risD (List.take g a.list)).length (risD (List.take g a.list)) ++ [D.s (ByteArray.mk #[])]).length - 1 - g_4) (List.drop g_4 (List.take (risD (List.take g a.list)).length (risD (List.take g a.list)) ++ [D.s (ByteArray.mk #[])]))) g_4 (D.s (nthD (List.take (g_4 + 1) (List.take (risD (List.take g a.list)).length (risD (List.take g a.list)) ++ [D.s (ByteArray.mk #[])]) ++ List.take ((List.take (risD (List.take g a.list)).length (risD (List.take g a.list)) ++ [D.s (ByteArray.mk #[])]).length - 1 - g_4) (List.drop g_4 (List.take (risD (List.take g a.list)).length (risD (List.take g a.list)) ++ [D.s (ByteArray.mk #[])]))) ((↑g_4 : Int) - 1).toNat).str) = List.take (g_5 + 1) (List.take (risD (List.take g a.list)).length (risD (List.take g a.list)) ++ [D.s (ByteArray.mk #[])]) ++ List.take ((List.take (risD (List.take g a.list)).length (risD (List.take g a.list)) ++ [D.s (ByteArray.mk #[])]).length - 1 - g_5) (List.drop g_5 (List.take (risD (List.take g a.list)).length (risD (List.take g a.list)) ++ [D.s (ByteArray.mk #[])])) ∧ ((↑g_2 : Int) ≤ (↑g_5 : Int) ∧ g_5 < (List.take (risD (List.take g a.list)).length (risD (List.take g a.list)) ++ [D.s (ByteArray.mk #[])]).length) ∧ g_5 < g_4 else Idx (↑g : Int) a.list.length ∧ Idx (↑g_2 : Int) ((risD (List.take g a.list)).length + [D.s (ByteArray.mk #[])].length) ∧ I64 ((↑g : Int) + 1) ∧ ∃ (g_5 : Nat), (↑g : Int) + 1 = (↑g_5 : Int) ∧ (risD (List.take g a.list)).length + [D.s (ByteArray.mk #[])].length = (risD (List.take g_5 a.list)).length ∧ setD (List.take (g_4 + 1) (List.take (risD (List.take g a.list)).length (risD (List.take g a.list)) ++ [D.s (ByteArray.mk #[])]) ++ List.take ((List.take (risD (List.take g a.list)).length (risD (List.take g a.list)) ++ [D.s (ByteArray.mk #[])]).length - 1 - g_4) (List.drop g_4 (List.take (risD (List.take g a.list)).length (risD (List.take g a.list)) ++ [D.s (ByteArray.mk #[])]))) g_2 (D.s (nthD a.list g).str) = risD (List.take g_5 a.list) ∧ g_5 ≤ a.list.length ∧ a.list.length - g_5 < a.list.length - g else List.take (risD (List.take g a.list)).length (risD (List.take g a.list)) = risD a.list) = conGoal Tryz.prog noS risC_an 200 28 risC [a] := by kernel_rfl
theorem risC_ok : ConOK Tryz.prog gl 28 risC := con_of mo (noS_ok _) (an := risC_an) 200 fun ds hl hp => by
  obtain ⟨a, rfl⟩ := len1 hl
  rw [← risC_vc]
  have p0 : a.list.length ≤ 1000000 := hp _ (.head _)
  refine ⟨(), 0, rfl, rfl, rfl, Nat.zero_le _, fun g hg => cond_of (fun c => ?_) (fun c => ?_)⟩
  · have c : g < a.list.length := by simpa using c
    have hml := risD_len a.list g
    have hnext := risD_at c
    have hspec := (ris_spec ordS ((a.list.take g).map D.str)).1
    have hO : risD (a.list.take g) = (risL ltS ((a.list.take g).map D.str)).map D.s := rfl
    generalize hB : risL ltS ((a.list.take g).map D.str) = B at hnext hspec hO
    generalize hOO : risD (a.list.take g) = O at hml hO ⊢
    have hm : O.length = B.length := by rw [hO, List.length_map]
    have hnth : ∀ j (h : j < B.length), nthD O j = D.s B[j] := fun j h => by rw [hO]; exact nthD_smap h
    have hst : ∀ j (h : j < B.length), (nthD O j).str = B[j] := fun j h => by rw [hnth j h]; rfl
    have hcan : ∀ j, j < O.length → D.s (nthD O j).str = nthD O j := fun j h => by have := hnth j (by omega); rw [this]; rfl
    refine ⟨O.length, rfl, ⟨Nat.le_refl _, fun j h1 h2 => by omega⟩, fun k ⟨k1, k2⟩ => ⟨fun p => ?_, cond_of (fun e => ?_) (fun e => ⟨fun p => ?_, cond_of (fun f => ?_) (fun f => ?_)⟩)⟩⟩
    · have p := of_decide_eq_true p
      exact ⟨⟨by omega, by omega⟩, ⟨by omega, by omega⟩, ⟨by omega, by omega⟩⟩
    · rw [Bool.and_eq_true, decide_eq_true_iff, show ((k : Int) - 1).toNat = k - 1 by omega] at e
      obtain ⟨e1, e2⟩ := e
      have e2 : ltS (nthD a.list g).str (nthD O (k - 1)).str = true := (gtS _ _).symm.trans e2
      refine ⟨⟨by omega, by omega⟩, k - 1, by omega, ⟨by omega, fun j h1 h2 => ?_⟩, by omega⟩
      by_cases h : j = k - 1
      · rw [h]; exact e2
      · exact k2 j (by omega) h2
    · have p := of_decide_eq_true p
      exact ⟨⟨by omega, by omega⟩, ⟨by omega, by omega⟩, ⟨by omega, by omega⟩⟩
    · rw [Bool.and_eq_true, decide_eq_true_iff, decide_eq_true_iff, show ((k : Int) - 1).toNat = k - 1 by omega] at f
      obtain ⟨f1, f2⟩ := f
      have hat := (insU_at ordS (x := (nthD a.list g).str) (k := k) hspec (by omega) (fun j h hj => by rw [← hst j h]; exact k2 j hj (by omega)) (fun h _ => by rw [← hst _ h, f2, ordS.irr])).1 (by omega) (by omega) (by rw [← hst _ (by omega), f2])
      rw [hat, ← hO] at hnext
      exact ⟨⟨by omega, by omega⟩, g + 1, by omega, by rw [hnext], hnext.symm, by omega, by omega⟩
    · rw [show ((k : Int) - 1).toNat = k - 1 by omega] at e f
      have hle : ∀ (h : k - 1 < B.length), 0 < k → ltS (nthD a.list g).str B[k - 1] = false := by
        intro h hk
        rw [decide_eq_true (show (0 : Int) < k by omega), Bool.true_and] at e
        rw [← hst _ h]
        exact (gtS _ _).symm.trans e
      have hne : ∀ (h : k - 1 < B.length), 0 < k → B[k - 1] ≠ (nthD a.list g).str := by
        intro h hk
        rw [decide_eq_true (show (0 : Int) < k by omega), Bool.true_and, decide_eq_false_iff_not] at f
        rw [← hst _ h]; exact f
      have hat := (insU_at ordS (x := (nthD a.list g).str) (k := k) hspec (by omega) (fun j h hj => by rw [← hst j h]; exact k2 j hj (by omega)) hle).2 hne
      rw [List.take_length]
      have hlen : ([D.s (ByteArray.mk #[])] : List D).length = 1 := rfl
      rw [hlen]
      generalize hW : O ++ [D.s (ByteArray.mk #[])] = W
      have hWl : W.length = O.length + 1 := by rw [← hW, List.length_append]; rfl
      refine ⟨by omega, by omega, ⟨by omega, by omega⟩, O.length, by omega, ?_, ⟨by omega, by omega⟩, fun j ⟨j1, j2⟩ => cond_of (fun d => ?_) (fun d => ?_)⟩
      · rw [show W.length - 1 - O.length = 0 by omega, List.take_zero, List.append_nil, List.take_of_length_le (by omega)]
      · have d := of_decide_eq_true d
        obtain ⟨i, rfl⟩ : ∃ i, j = i + 1 := ⟨j - 1, by omega⟩
        rw [show (((i + 1 : Nat) : Int) - 1).toNat = i by omega, setD_mid (by omega), nthD_takeL (by omega) (by omega)]
        have hWi : nthD W i = nthD O i := by
          refine nthD_get ?_
          rw [← hW, List.getElem?_append_left (by omega)]
          exact get_nthD (by omega)
        refine ⟨⟨by omega, by omega⟩, ⟨by omega, by omega⟩, ⟨by omega, by omega⟩, ⟨by omega, by omega⟩, i, by omega, ?_, ⟨by omega, by omega⟩, by omega⟩
        rw [shift_rhs (by omega), hWi, hcan i (by omega)]
      · have d := of_decide_eq_false d
        have d : j = k := by omega
        subst d
        have hres : setD (List.take (j + 1) W ++ List.take (W.length - 1 - j) (List.drop j W)) j (D.s (nthD a.list g).str) = risD (a.list.take (g + 1)) := by
          rw [setD_mid (by omega), hnext, hat, List.map_append, List.map_cons, List.map_take, List.map_drop, ← hO, ← hW]
          congr 1
          · rw [List.take_append_of_le_length (by omega)]
          · congr 1
            rw [List.drop_append_of_le_length (by omega), List.length_append, hlen, List.take_append_of_le_length (by rw [List.length_drop]; omega), List.take_of_length_le (by rw [List.length_drop]; omega)]
        have hl2 : O.length + 1 = (risD (a.list.take (g + 1))).length := by
          rw [hnext, hat, List.length_map, List.length_append, List.length_cons, List.length_take, List.length_drop]; omega
        exact ⟨⟨by omega, by omega⟩, ⟨by omega, by omega⟩, ⟨by omega, by omega⟩, g + 1, by omega, hl2, hres, by omega, by omega⟩
  · have c : g = a.list.length := by have := of_decide_eq_false c; omega
    subst c
    rw [List.take_length, List.take_length]
def prB (w : List D) (j : Nat) : ByteArray := (D.str (D.fld ((D.fld (nthD w j) 1)) 1))
noncomputable def prD (w : List D) : List D := (risL ltS ((List.range w.length).map (prB w))).map D.s
def sameB (a b : List D) : Bool := decide (a.length = b.length) && (List.range a.length).all fun j => decide ((nthD a j).str = (nthD b j).str)
def wrI (l : List D) : Int := if firstF l.length (badS l) < l.length then firstF l.length (badS l) else -1
def fiI (l : List D) (p : ByteArray) : Int := if firstF l.length (fun j => decide ((D.str (D.fld (nthD l j) 0)) = p)) < l.length then firstF l.length (fun j => decide ((D.str (D.fld (nthD l j) 0)) = p)) else -1
theorem sameB_self (a : List D) : sameB a a = true := by
  unfold sameB
  rw [decide_eq_true rfl, Bool.true_and, List.all_eq_true]
  exact fun j _ => decide_eq_true rfl
theorem step_lt {n k : Nat} {P : Nat → Prop} (h : ∀ j, j < k → P j) (hk : P k) : ∀ j, j < k + 1 → P j := fun j hj => by
  rcases Nat.lt_or_ge j k with q | q
  · exact h j q
  · obtain rfl : j = k := by omega
    exact hk
theorem mayT_eta (x : D) : mayT ((D.fld (etaD wrT x) 1)) = mayT ((D.fld x 1)) := by unfold mayT; rfl
theorem schI_eta (s : D) : schI (etaD schT s) = schI s := by unfold schI schBad; rfl
theorem firstF_spec (n : Nat) (f : Nat → Bool) : (firstF n f < n → f (firstF n f) = true ∧ ∀ j, j < firstF n f → f j = false) ∧ (¬ firstF n f < n → ∀ j, j < n → f j = false) := by
  cases h : (List.range n).find? f with
  | some k =>
    obtain ⟨h1, h2, h3⟩ := List.find?_range_eq_some.1 h
    have e : firstF n f = k := by unfold firstF; rw [h]; rfl
    rw [e]
    exact ⟨fun _ => ⟨h1, fun j hj => by simpa using h3 j hj⟩, fun hn => absurd (List.mem_range.1 h2) hn⟩
  | none =>
    have e : firstF n f = n := by unfold firstF; rw [h]; rfl
    rw [e]
    exact ⟨fun hn => absurd hn (Nat.lt_irrefl _), fun _ j hj => by simpa using List.find?_eq_none.1 h j (List.mem_range.2 hj)⟩
theorem bad_old {l : List D} {g : Nat} (h : ¬ g = 256) : (!decide (schI (nthD l g) = 0) || decide (0 < (g : Int)) && !Op.bytesLess ((D.str (D.fld (nthD l ((g : Int) - 1).toNat) 0))).toList ((D.str (D.fld (nthD l g) 0))).toList) = badS l g := by
  unfold badS
  rw [decide_eq_false (show ¬ (g : Int) = 256 by omega), Bool.false_or]
  cases g with
  | zero => rfl
  | succ k =>
    rw [show (((k + 1 : Nat) : Int) - 1).toNat = k by omega]
    have h1 := gtS ((D.str (D.fld (nthD l (k + 1)) 0))) ((D.str (D.fld (nthD l k) 0)))
    have h2 : (!ltS ((D.str (D.fld (nthD l k) 0))) ((D.str (D.fld (nthD l (k + 1)) 0)))) = (ltS ((D.str (D.fld (nthD l (k + 1)) 0))) (lastP l (k + 1)) || decide ((D.str (D.fld (nthD l (k + 1)) 0)) = lastP l (k + 1))) := by
      rw [← h1, Bool.not_not]; rfl
    rw [← h2]
theorem bad_sch {l : List D} {g : Nat} (h : badS l g = false) : schI (nthD l g) = 0 := by
  unfold badS at h
  rw [Bool.or_eq_false_iff, Bool.or_eq_false_iff] at h
  simpa using h.1.2
theorem bad_lt {l : List D} {k : Nat} (h : badS l (k + 1) = false) : ltS ((D.str (D.fld (nthD l k) 0))) ((D.str (D.fld (nthD l (k + 1)) 0))) = true := by
  unfold badS at h
  rw [Bool.or_eq_false_iff] at h
  have h2 := h.2
  rw [decide_eq_true (show (0 : Int) < ((k + 1 : Nat) : Int) by omega), Bool.true_and] at h2
  have h1 := gtS ((D.str (D.fld (nthD l (k + 1)) 0))) ((D.str (D.fld (nthD l k) 0)))
  rw [← h1]
  have h2 : (ltS ((D.str (D.fld (nthD l (k + 1)) 0))) ((D.str (D.fld (nthD l k) 0))) || decide ((D.str (D.fld (nthD l (k + 1)) 0)) = (D.str (D.fld (nthD l k) 0)))) = false := h2
  rw [h2]; rfl
theorem bad_rise {l : List D} {n : Nat} (h : ∀ j, j < n → badS l j = false) : ∀ (d i : Nat), i + d + 1 < n → ltS ((D.str (D.fld (nthD l i) 0))) ((D.str (D.fld (nthD l (i + d + 1)) 0))) = true
  | 0, i, hi => bad_lt (h _ hi)
  | d + 1, i, hi => ordS.tr _ _ _ (bad_rise h d i (by omega)) (bad_lt (h _ hi))
theorem bad_uniq {l : List D} {n : Nat} (h : ∀ j, j < n → badS l j = false) {i j : Nat} (hi : i < n) (hj : j < n) (he : (D.str (D.fld (nthD l i) 0)) = (D.str (D.fld (nthD l j) 0))) : i = j := by
  rcases Nat.lt_trichotomy i j with q | q | q
  · obtain ⟨d, rfl⟩ : ∃ d, j = i + d + 1 := ⟨j - i - 1, by omega⟩
    have := bad_rise h d i hj
    rw [he, ordS.irr] at this; cases this
  · exact q
  · obtain ⟨d, rfl⟩ : ∃ d, i = j + d + 1 := ⟨i - j - 1, by omega⟩
    have := bad_rise h d j hi
    rw [he, ordS.irr] at this; cases this
theorem byM_some {l : List D} {n : Nat} (h : ∀ j, j < n → badS l j = false) {p : ByteArray} {j : Nat} (hp : (D.str (D.fld (nthD l j) 0)) = p) : ∀ k, j < k → k ≤ n → getE .s (.s p) (byM l k).es = some (etaD schT (nthD l j))
  | 0, hj, _ => by omega
  | k + 1, hj, hk => by
    show getE .s (.s p) (putE .s (.s ((D.str (D.fld (nthD l k) 0)))) (etaD schT (nthD l k)) (byM l k).ck (byM l k).es) = _
    rw [getE_put]
    by_cases hq : p = (D.str (D.fld (nthD l k) 0))
    · rw [if_pos (show (D.s p).str = (D.s ((D.str (D.fld (nthD l k) 0)))).str from hq), bad_uniq h (i := j) (j := k) (by omega) (by omega) (hp.trans hq)]
    · rw [if_neg (show ¬ (D.s p).str = (D.s ((D.str (D.fld (nthD l k) 0)))).str from hq)]
      have : j ≠ k := fun e => hq (by rw [← hp, e])
      exact byM_some h hp k (by omega) (by omega)
theorem byM_none {l : List D} {p : ByteArray} : ∀ k, (∀ j, j < k → (D.str (D.fld (nthD l j) 0)) ≠ p) → getE .s (.s p) (byM l k).es = none
  | 0, _ => rfl
  | k + 1, h => by
    show getE .s (.s p) (putE .s (.s ((D.str (D.fld (nthD l k) 0)))) (etaD schT (nthD l k)) (byM l k).ck (byM l k).es) = _
    rw [getE_put, if_neg (show ¬ (D.s p).str = (D.s ((D.str (D.fld (nthD l k) 0)))).str from fun e => h k (by omega) (Eq.symm e))]
    exact byM_none k fun j hj => h j (by omega)
theorem find_eq {l : List D} (h : ∀ j, j < l.length → badS l j = false) (p : ByteArray) : (firstF l.length (fun j => decide ((D.str (D.fld (nthD l j) 0)) = p)) < l.length → findS l p = some (etaD schT (nthD l (firstF l.length (fun j => decide ((D.str (D.fld (nthD l j) 0)) = p))))) ∧ (D.str (D.fld (nthD l (firstF l.length (fun j => decide ((D.str (D.fld (nthD l j) 0)) = p)))) 0)) = p) ∧ (¬ firstF l.length (fun j => decide ((D.str (D.fld (nthD l j) 0)) = p)) < l.length → findS l p = none) := by
  obtain ⟨h1, h2⟩ := firstF_spec l.length (fun j => decide ((D.str (D.fld (nthD l j) 0)) = p))
  refine ⟨fun hf => ?_, fun hf => ?_⟩
  · have hp := of_decide_eq_true (h1 hf).1
    exact ⟨byM_some h hp _ hf (Nat.le_refl _), hp⟩
  · exact byM_none _ fun j hj => of_decide_eq_false (h2 hf j hj)
theorem row_snoc (f : Nat → ByteArray) (k : Nat) : ((List.range (k + 1)).map f).map D.s = ((List.range k).map f).map D.s ++ [D.s (f k)] := by rw [List.range_succ, List.map_append, List.map_append]; rfl
theorem row_len (f : Nat → ByteArray) (k : Nat) : (((List.range k).map f).map D.s).length = k := by rw [List.length_map, List.length_map, List.length_range]
noncomputable def sameC : Con := ⟨[.d false (.l .s), .d false (.l .s)], fun ds => (fun (a : D) (b : D) => [a.list.length < 4611686018427387904]) (nthD ds 0) (nthD ds 1), [.d .b], fun ds => (fun (a : D) (b : D) => [.b (sameB a.list b.list)]) (nthD ds 0) (nthD ds 1), fun ds => []⟩
noncomputable def sameC_an : Anns := fun f i => match f, i with
  | 9, 4 => some fun A st => match A.get 0, A.get 1 with
    | some (.dl _ _ xs), some (.dl _ _ ys) => ⟨Nat, fun k => [(5, .v (.int .i64 k))], fun _ => [], fun k => k ≤ xs.length ∧ ∀ j, j < k → decide ((nthD xs j).str = (nthD ys j).str) = true, fun k => xs.length - k⟩
    | _, _ => LAnn.bad
  | _, _ => none
theorem sameC_vc (a b : D) : (bif !decide ((↑a.list.length : Int) = (↑b.list.length : Int)) then false = sameB a.list b.list else ∃ (g : Nat), EqI 0 (↑g : Int) ∧ (g ≤ a.list.length ∧ ∀ (j : Nat), j < g → decide ((nthD a.list j).str = (nthD b.list j).str) = true) ∧ ∀ (g : Nat), (g ≤ a.list.length ∧ ∀ (j : Nat), j < g → decide ((nthD a.list j).str = (nthD b.list j).str) = true) → bif decide ((↑g : Int) < (↑a.list.length : Int)) then Idx (↑g : Int) a.list.length ∧ Idx (↑g : Int) b.list.length ∧ bif !decide ((nthD a.list g).str = (nthD b.list g).str) then false = sameB a.list b.list else I64 ((↑g : Int) + 1) ∧ ∃ (g_1 : Nat), (↑g : Int) + 1 = (↑g_1 : Int) ∧ (g_1 ≤ a.list.length ∧ ∀ (j : Nat), j < g_1 → decide ((nthD a.list j).str = (nthD b.list j).str) = true) ∧ a.list.length - g_1 < a.list.length - g else true = sameB a.list b.list) = conGoal Tryz.prog noS sameC_an 200 9 sameC [a, b] := by kernel_rfl
theorem sameC_ok : ConOK Tryz.prog gl 9 sameC := con_of mo (noS_ok _) (an := sameC_an) 200 fun ds hl hp => by
  obtain ⟨a, b, rfl⟩ := len2 hl
  rw [← sameC_vc]
  have p0 : a.list.length < 4611686018427387904 := hp _ (.head _)
  refine cond_of (fun c => ?_) (fun c => ⟨0, rfl, ⟨Nat.zero_le _, fun j hj => absurd hj (by omega)⟩, fun g ⟨h1, h2⟩ => cond_of (fun d => ?_) (fun d => ?_)⟩)
  · have c' : ¬ a.list.length = b.list.length := by have := of_decide_eq_false (show decide ((a.list.length : Int) = b.list.length) = false by simpa using c); omega
    unfold sameB; rw [decide_eq_false c']; rfl
  · have c' : a.list.length = b.list.length := by have : decide ((a.list.length : Int) = b.list.length) = true := by simpa using c
                                                  have := of_decide_eq_true this; omega
    have d' := of_decide_eq_true d
    refine ⟨⟨by omega, by omega⟩, ⟨by omega, by omega⟩, cond_of (fun e => ?_) (fun e => ?_)⟩
    · have e' : decide ((nthD a.list g).str = (nthD b.list g).str) = false := by simpa using e
      unfold sameB
      rw [Bool.and_eq_false_iff.2 (.inr (List.all_eq_false.2 ⟨g, List.mem_range.2 (by omega), by rw [e']; exact Bool.false_ne_true⟩))]
    · have e' : decide ((nthD a.list g).str = (nthD b.list g).str) = true := by simpa using e
      exact ⟨⟨by omega, by omega⟩, g + 1, by omega, ⟨by omega, step_lt (n := 0) h2 e'⟩, by omega⟩
  · have c' : a.list.length = b.list.length := by have : decide ((a.list.length : Int) = b.list.length) = true := by simpa using c
                                                  have := of_decide_eq_true this; omega
    have d' := of_decide_eq_false d
    unfold sameB
    rw [decide_eq_true c', Bool.true_and, List.all_eq_true.2 fun j hj => h2 j (by have := List.mem_range.1 hj; omega)]
noncomputable def rclashC : Con := ⟨[.d false (.l .s), .d false (.l .s)], fun ds => (fun (a : D) (b : D) => [a.list.length < 4611686018427387904, b.list.length < 4611686018427387904]) (nthD ds 0) (nthD ds 1), [.d .b], fun ds => (fun (a : D) (b : D) => [.b (clB a.list b.list)]) (nthD ds 0) (nthD ds 1), fun ds => []⟩
noncomputable def rclashC_an : Anns := fun f i => match f, i with
  | 11, 2 => some fun A st => match A.get 0, A.get 1 with
    | some (.dl _ _ xs), some (.dl _ _ ys) => ⟨Nat, fun k => [(5, .v (.int .i64 k))], fun _ => [], fun k => k ≤ xs.length ∧ ∀ j, j < k → inS ys (nthD xs j).str = false, fun k => xs.length - k⟩
    | _, _ => LAnn.bad
  | 11, 5 => some fun A st => match A.get 0, A.get 1, A.get 5 with
    | some (.dl _ _ xs), some (.dl _ _ ys), some (.v (.int _ i)) => ⟨Nat, fun k => [(6, .v (.int .i64 k))], fun _ => [], fun k => k ≤ ys.length ∧ ∀ j, j < k → decide ((nthD xs i.toNat).str = (nthD ys j).str) = false, fun k => ys.length - k⟩
    | _, _, _ => LAnn.bad
  | _, _ => none
theorem rclashC_vc (a b : D) : (∃ (g : Nat), EqI 0 (↑g : Int) ∧ (g ≤ a.list.length ∧ ∀ (j : Nat), j < g → inS b.list (nthD a.list j).str = false) ∧ ∀ (g : Nat), (g ≤ a.list.length ∧ ∀ (j : Nat), j < g → inS b.list (nthD a.list j).str = false) → bif decide ((↑g : Int) < (↑a.list.length : Int)) then ∃ (g_1 : Nat), EqI 0 (↑g_1 : Int) ∧ (g_1 ≤ b.list.length ∧ ∀ (j : Nat), j < g_1 → decide ((nthD a.list g).str = (nthD b.list j).str) = false) ∧ ∀ (g_2 : Nat), (g_2 ≤ b.list.length ∧ ∀ (j : Nat), j < g_2 → decide ((nthD a.list g).str = (nthD b.list j).str) = false) → bif decide ((↑g_2 : Int) < (↑b.list.length : Int)) then Idx (↑g : Int) a.list.length ∧ Idx (↑g_2 : Int) b.list.length ∧ bif decide ((nthD a.list g).str = (nthD b.list g_2).str) then true = clB a.list b.list else I64 ((↑g_2 : Int) + 1) ∧ ∃ (g_3 : Nat), (↑g_2 : Int) + 1 = (↑g_3 : Int) ∧ (g_3 ≤ b.list.length ∧ ∀ (j : Nat), j < g_3 → decide ((nthD a.list g).str = (nthD b.list j).str) = false) ∧ b.list.length - g_3 < b.list.length - g_2 else I64 ((↑g : Int) + 1) ∧ ∃ (g_3 : Nat), (↑g : Int) + 1 = (↑g_3 : Int) ∧ (g_3 ≤ a.list.length ∧ ∀ (j : Nat), j < g_3 → inS b.list (nthD a.list j).str = false) ∧ a.list.length - g_3 < a.list.length - g else false = clB a.list b.list) = conGoal Tryz.prog noS rclashC_an 200 11 rclashC [a, b] := by kernel_rfl
theorem rclashC_ok : ConOK Tryz.prog gl 11 rclashC := con_of mo (noS_ok _) (an := rclashC_an) 200 fun ds hl hp => by
  obtain ⟨a, b, rfl⟩ := len2 hl
  rw [← rclashC_vc]
  have p0 : a.list.length < 4611686018427387904 := hp _ (.head _)
  have p1 : b.list.length < 4611686018427387904 := hp _ (.tail _ (.head _))
  refine ⟨0, rfl, ⟨Nat.zero_le _, fun j hj => absurd hj (by omega)⟩, fun g ⟨h1, h2⟩ => cond_of (fun d => ?_) (fun d => ?_)⟩
  · have d' := of_decide_eq_true d
    refine ⟨0, rfl, ⟨Nat.zero_le _, fun j hj => absurd hj (by omega)⟩, fun k ⟨k1, k2⟩ => cond_of (fun e => ?_) (fun e => ?_)⟩
    · have e' := of_decide_eq_true e
      refine ⟨⟨by omega, by omega⟩, ⟨by omega, by omega⟩, cond_of (fun q => ?_) (fun q => ?_)⟩
      · have : clB a.list b.list = true := range_any (k := g) (by omega) (range_any (k := k) (by omega) q)
        rw [this]
      · exact ⟨⟨by omega, by omega⟩, k + 1, by omega, ⟨by omega, step_lt (n := 0) k2 q⟩, by omega⟩
    · have e' := of_decide_eq_false e
      have hi : inS b.list (nthD a.list g).str = false := range_none fun j hj => k2 j (by omega)
      exact ⟨⟨by omega, by omega⟩, g + 1, by omega, ⟨by omega, step_lt (n := 0) h2 hi⟩, by omega⟩
  · have d' := of_decide_eq_false d
    have : clB a.list b.list = false := range_none fun j hj => h2 j (by omega)
    rw [this]
noncomputable def predsC : Con := ⟨[.d false (.l wrT)], fun ds => (fun (a : D) => [a.list.length ≤ 300]) (nthD ds 0), [.d (.l .s)], fun ds => (fun (a : D) => [.l (prD a.list)]) (nthD ds 0), fun ds => []⟩
noncomputable def predsC_an : Anns := fun f i => match f, i with
  | 7, 3 => some fun A st => match A.get 7, A.get 3 with
    | some (.dl _ _ ws), some (.mpv m) => ⟨Nat, fun k => [(9, .v (.int .i64 k))], fun k => [(m, .mp .s (.t []) (mapT (prB ws) (.t []) k))], fun k => k ≤ ws.length, fun k => ws.length - k⟩
    | _, _ => LAnn.bad
  | 21, 2000003 => some fun A st => ⟨Unit, fun _ => [], fun _ => [(3, .q 9 .s [])], fun _ => True, fun _ => 0⟩
  | 21, 3 => some fun A st => match A.get 6 with
    | some (.ptr i 0) => match st.h.get i with
      | some (.it l n _) => match st.h.get l with
        | some (.mp _ _ m) => ⟨List Nat × List D, fun g => [(3, .ow st.nx g.2.length)], fun g => [(i, .it l n g.1), (st.nx, .q 9 .s g.2)], fun g => (g.2 ++ (leftM m g.1).map fun e => e.2.1).Perm (ksM m), fun g => (leftM m g.1).length⟩
        | _ => LAnn.bad
      | _ => LAnn.bad
    | _ => LAnn.bad
  | _, _ => none
theorem predsC_vc (a : D) : (∃ (g : Nat), EqI 0 (↑g : Int) ∧ newM = mapT (prB a.list) (D.t []) g ∧ g ≤ a.list.length ∧ ∀ (g : Nat), g ≤ a.list.length → bif decide ((↑g : Int) < (↑a.list.length : Int)) then Idx (↑g : Int) a.list.length ∧ I64 ((↑g : Int) + 1) ∧ ∃ (g_1 : Nat), (↑g : Int) + 1 = (↑g_1 : Int) ∧ putM DT.s (D.s ((D.fld (D.fld (nthD a.list g) 1) 1)).str) (D.t []) (mapT (prB a.list) (D.t []) g) = mapT (prB a.list) (D.t []) g_1 ∧ g_1 ≤ a.list.length ∧ a.list.length - g_1 < a.list.length - g else ∃ (g_1 : Unit), ∃ (g_2 : List Nat × List D), 0 = g_2.snd.length ∧ (mapT (prB a.list) (D.t []) g).ck = (mapT (prB a.list) (D.t []) g).ck ∧ [] = g_2.fst ∧ [] = g_2.snd ∧ (g_2.snd ++ List.map (fun (e : Nat × D × D) ↦ e.snd.fst) (leftM (mapT (prB a.list) (D.t []) g) g_2.fst)).Perm (ksM (mapT (prB a.list) (D.t []) g)) ∧ ∀ (g_3 : List Nat × List D), (g_3.snd ++ List.map (fun (e : Nat × D × D) ↦ e.snd.fst) (leftM (mapT (prB a.list) (D.t []) g) g_3.fst)).Perm (ksM (mapT (prB a.list) (D.t []) g)) → (mapT (prB a.list) (D.t []) g).ck = (mapT (prB a.list) (D.t []) g).ck ∧ (leftM (mapT (prB a.list) (D.t []) g) g_3.fst = [] → g_3.snd.length = g_3.snd.length ∧ g_3.snd.length < 4611686018427387904 ∧ 0 ≤ (↑g_3.snd.length : Int) ∧ (↑g_3.snd.length : Int) ≤ (↑g_3.snd.length : Int) ∧ (↑g_3.snd.length : Int) = (↑g_3.snd.length : Int) ∧ List.take g_3.snd.length (srtD g_3.snd) = prD a.list) ∧ ∀ (a_3 b : List (Nat × D × D)) (e : Nat × D × D), leftM (mapT (prB a.list) (D.t []) g) g_3.fst = a_3 ++ e :: b → leftM (mapT (prB a.list) (D.t []) g) (g_3.fst ++ [e.fst]) = a_3 ++ b → entM (mapT (prB a.list) (D.t []) g) (g_3.fst ++ [e.fst]) = e.snd → (∃ (g_4 : Nat), (g_3.fst ++ [e.fst]).getLast? = some g_4 ∧ ∃ (g_5 : Nat × D × D), g_5 ∈ (mapT (prB a.list) (D.t []) g).es ∧ g_5.fst = g_4) → (mapT (prB a.list) (D.t []) g).ck = (mapT (prB a.list) (D.t []) g).ck ∧ (∃ (g_4 : Nat), (g_3.fst ++ [e.fst]).getLast? = some g_4 ∧ ∃ (g_5 : Nat × D × D), g_5 ∈ (mapT (prB a.list) (D.t []) g).es ∧ g_5.fst = g_4) ∧ (g_3.snd.length + [D.s (entM (mapT (prB a.list) (D.t []) g) (g_3.fst ++ [e.fst])).fst.str].length) * 16 ≤ 140737488355328 ∧ g_3.snd.length + [D.s (entM (mapT (prB a.list) (D.t []) g) (g_3.fst ++ [e.fst])).fst.str].length ≤ 9223372036854775807 ∧ ∃ (g_4 : List Nat × List D), g_3.snd.length + [D.s (entM (mapT (prB a.list) (D.t []) g) (g_3.fst ++ [e.fst])).fst.str].length = g_4.snd.length ∧ (mapT (prB a.list) (D.t []) g).ck = (mapT (prB a.list) (D.t []) g).ck ∧ g_3.fst ++ [e.fst] = g_4.fst ∧ List.take g_3.snd.length g_3.snd ++ [D.s (entM (mapT (prB a.list) (D.t []) g) (g_3.fst ++ [e.fst])).fst.str] = g_4.snd ∧ (g_4.snd ++ List.map (fun (e : Nat × D × D) ↦ e.snd.fst) (leftM (mapT (prB a.list) (D.t []) g) g_4.fst)).Perm (ksM (mapT (prB a.list) (D.t []) g)) ∧ (leftM (mapT (prB a.list) (D.t []) g) g_4.fst).length < (leftM (mapT (prB a.list) (D.t []) g) g_3.fst).length) = conGoal Tryz.prog (addS 41 sortsC noS) predsC_an 200 7 predsC [a] := by kernel_rfl
theorem predsC_ok : ConOK Tryz.prog gl 7 predsC := con_of mo (addR_ok sortsC_ok (noS_ok _)) (an := predsC_an) 200 fun ds hl hp => by
  obtain ⟨a, rfl⟩ := len1 hl
  rw [← predsC_vc]
  have p0 : a.list.length ≤ 300 := hp _ (.head _)
  refine ⟨0, rfl, rfl, Nat.zero_le _, fun g hg => cond_of (fun d => ?_) (fun d => ?_)⟩
  · have d' := of_decide_eq_true d
    exact ⟨⟨by omega, by omega⟩, ⟨by omega, by omega⟩, g + 1, by omega, rfl, by omega, by omega⟩
  have hk : g = a.list.length := by have := of_decide_eq_false d; omega
  subst hk
  have hlen := mapT_len (prB a.list) (.t []) a.list.length
  have hkey := mapT_key (prB a.list) (.t []) a.list.length
  have hris : srtD (ksM (mapT (prB a.list) (.t []) a.list.length)) = prD a.list := keys_ris _ _ _
  generalize mapT (prB a.list) (.t []) a.list.length = m at hlen hkey hris ⊢
  refine ⟨(), ([], []), rfl, rfl, rfl, rfl, (by show ([] ++ (leftM m []).map fun e : Nat × D × D => e.2.1).Perm (ksM m); rw [left_nil]; exact List.Perm.refl _), ?_⟩
  rintro ⟨sn, xs⟩ hp
  replace hp : (xs ++ (leftM m sn).map fun e => e.2.1).Perm (ksM m) := hp
  have hxl : xs.length ≤ 300 := by
    have := hp.length_eq
    rw [List.length_append] at this
    have h2 : (ksM m).length = m.es.length := by simp [ksM]
    omega
  refine ⟨rfl, fun hl => ?_, fun u v e q1 q2 q3 q4 => ?_⟩
  · replace hl : leftM m sn = [] := hl
    rw [hl, List.map_nil, List.append_nil] at hp
    have e1 : List.take xs.length (srtD xs) = prD a.list := by rw [List.take_of_length_le (by rw [srtD_len]; exact Nat.le_refl _), srtD_perm hp, hris]
    exact ⟨rfl, (by show xs.length < _; omega), (by show (0 : Int) ≤ (xs.length : Int); omega), Int.le_refl _, rfl, e1⟩
  · replace q1 : leftM m sn = u ++ e :: v := q1
    replace q2 : leftM m (sn ++ [e.1]) = u ++ v := q2
    replace q3 : entM m (sn ++ [e.1]) = e.2 := q3
    have hin : e ∈ m.es := by
      have : e ∈ leftM m sn := by rw [q1]; simp
      exact (List.mem_filter.1 this).1
    show _ ∧ _
    refine ⟨rfl, q4, (by show (xs.length + 1) * 16 ≤ _; omega), (by show xs.length + 1 ≤ _; omega), (sn ++ [e.1], xs ++ [D.s e.2.1.str]), by simp, rfl, rfl, (by show List.take xs.length xs ++ [D.s (entM m (sn ++ [e.1])).1.str] = xs ++ [D.s e.2.1.str]; rw [List.take_of_length_le (Nat.le_refl _), q3]), ?_, ?_⟩
    · show ((xs ++ [D.s e.2.1.str]) ++ (leftM m (sn ++ [e.1])).map fun e => e.2.1).Perm (ksM m)
      rw [q2, ← hkey e hin]
      rw [q1] at hp
      refine List.Perm.trans ?_ hp
      rw [List.append_assoc, List.map_append, List.map_append, List.map_cons, List.singleton_append]
      exact List.Perm.append_left _ List.perm_middle.symm
    · show (leftM m (sn ++ [e.1])).length < (leftM m sn).length
      rw [q2, q1]; simp
noncomputable def rpredsC : Con := ⟨[.d false (.l wrT)], fun ds => (fun (a : D) => [a.list.length ≤ 300]) (nthD ds 0), [.d (.l .s)], fun ds => (fun (a : D) => [.l (prD a.list)]) (nthD ds 0), fun ds => []⟩
noncomputable def rpredsC_an : Anns := fun f i => match f, i with
  | 8, 2000003 => some fun A st => ⟨Unit, fun _ => [], fun _ => [(3, .q 9 .s [])], fun _ => True, fun _ => 0⟩
  | 8, 3 => some fun A st => match A.get 0 with
    | some (.dl _ _ ws) => ⟨Nat, fun k => [(4, .v (.int .i64 k)), (3, .ow st.nx k)], fun k => [(st.nx, .q 9 .s (((List.range k).map (prB ws)).map D.s))], fun k => k ≤ ws.length, fun k => ws.length - k⟩
    | _ => LAnn.bad
  | _, _ => none
theorem rpredsC_vc (a : D) : (∃ (g : Unit), ∃ (g : Nat), EqI 0 (↑g : Int) ∧ 0 = g ∧ [] = List.map D.s (List.map (prB a.list) (List.range g)) ∧ g ≤ a.list.length ∧ ∀ (g : Nat), g ≤ a.list.length → bif decide ((↑g : Int) < (↑a.list.length : Int)) then Idx (↑g : Int) a.list.length ∧ (g + [D.s ((D.fld (D.fld (nthD a.list g) 1) 1)).str].length) * 16 ≤ 140737488355328 ∧ g + [D.s ((D.fld (D.fld (nthD a.list g) 1) 1)).str].length ≤ 9223372036854775807 ∧ I64 ((↑g : Int) + 1) ∧ ∃ (g_1 : Nat), (↑g : Int) + 1 = (↑g_1 : Int) ∧ g + [D.s ((D.fld (D.fld (nthD a.list g) 1) 1)).str].length = g_1 ∧ List.take g (List.map D.s (List.map (prB a.list) (List.range g))) ++ [D.s ((D.fld (D.fld (nthD a.list g) 1) 1)).str] = List.map D.s (List.map (prB a.list) (List.range g_1)) ∧ g_1 ≤ a.list.length ∧ a.list.length - g_1 < a.list.length - g else (List.take g (List.map D.s (List.map (prB a.list) (List.range g)))).length ≤ 1000000 ∧ risD (List.take g (List.map D.s (List.map (prB a.list) (List.range g)))) = prD a.list) = conGoal Tryz.prog (addS 28 risC noS) rpredsC_an 200 8 rpredsC [a] := by kernel_rfl
theorem rpredsC_ok : ConOK Tryz.prog gl 8 rpredsC := con_of mo (addS_ok risC_ok (noS_ok _)) (an := rpredsC_an) 200 fun ds hl hp => by
  obtain ⟨a, rfl⟩ := len1 hl
  rw [← rpredsC_vc]
  have p0 : a.list.length ≤ 300 := hp _ (.head _)
  refine ⟨(), 0, rfl, rfl, rfl, Nat.zero_le _, fun g hg => cond_of (fun d => ?_) (fun d => ?_)⟩
  · have d' := of_decide_eq_true d
    exact ⟨⟨by omega, by omega⟩, (by show (g + 1) * 16 ≤ _; omega), (by show g + 1 ≤ _; omega), ⟨by omega, by omega⟩, g + 1, by omega, rfl, (by rw [row_snoc, List.take_of_length_le (by rw [row_len]; exact Nat.le_refl _)]; rfl), by omega, by omega⟩
  · have hk : g = a.list.length := by have := of_decide_eq_false d; omega
    subst hk
    rw [List.take_of_length_le (by rw [row_len]; exact Nat.le_refl _)]
    refine ⟨by rw [row_len]; omega, ?_⟩
    unfold risD
    rw [str_map]
    rfl
noncomputable def wrongC : Con := ⟨[.d false (.l schT)], fun ds => (fun (a : D) => [a.list.length < 4611686018427387904, ∀ s ∈ a.list, okS s]) (nthD ds 0), [.d (.i .i64)], fun ds => (fun (a : D) => [.i (wrI a.list)]) (nthD ds 0), fun ds => []⟩
noncomputable def wrongC_an : Anns := fun f i => match f, i with
  | 22, 2 => some fun A st => match A.get 0 with
    | some (.dl _ _ xs) => ⟨Nat, fun k => [(3, .v (.int .i64 k))], fun _ => [], fun k => k ≤ xs.length ∧ k ≤ 256 ∧ ∀ j, j < k → badS xs j = false, fun k => xs.length - k⟩
    | _ => LAnn.bad
  | _, _ => none
theorem wrongC_vc (a : D) : (∃ (g : Nat), EqI 0 (↑g : Int) ∧ (g ≤ a.list.length ∧ g ≤ 256 ∧ ∀ (j : Nat), j < g → badS a.list j = false) ∧ ∀ (g : Nat), (g ≤ a.list.length ∧ g ≤ 256 ∧ ∀ (j : Nat), j < g → badS a.list j = false) → bif decide ((↑g : Int) < (↑a.list.length : Int)) then bif decide (256 ≤ (↑g : Int)) then EqI 256 (wrI a.list) else Idx (↑g : Int) a.list.length ∧ ((nthD a.list g).fld 0).str.size ≤ 9223372036854775807 ∧ ((!decide (schI (nthD a.list g) = 0)) = false → decide (0 < (↑g : Int)) = true → I64 ((↑g : Int) - 1) ∧ Idx ((↑g : Int) - 1) a.list.length ∧ Idx (↑g : Int) a.list.length) ∧ bif !decide (schI (nthD a.list g) = 0) || decide (0 < (↑g : Int)) && !Op.bytesLess ((nthD a.list ((↑g : Int) - 1).toNat).fld 0).str.toList ((nthD a.list g).fld 0).str.toList then (↑g : Int) = wrI a.list else I64 ((↑g : Int) + 1) ∧ ∃ (g_1 : Nat), (↑g : Int) + 1 = (↑g_1 : Int) ∧ (g_1 ≤ a.list.length ∧ g_1 ≤ 256 ∧ ∀ (j : Nat), j < g_1 → badS a.list j = false) ∧ a.list.length - g_1 < a.list.length - g else EqI (-1) (wrI a.list)) = conGoal Tryz.prog (addS 43 rschC noS) wrongC_an 200 22 wrongC [a] := by kernel_rfl
theorem wrongC_ok : ConOK Tryz.prog gl 22 wrongC := con_of mo (addS_ok rschC_ok (noS_ok _)) (an := wrongC_an) 200 fun ds hl hp => by
  obtain ⟨a, rfl⟩ := len1 hl
  rw [← wrongC_vc]
  have p0 : a.list.length < 4611686018427387904 := hp _ (.head _)
  have p1 : ∀ s ∈ a.list, okS s := hp _ (.tail _ (.head _))
  refine ⟨0, rfl, ⟨Nat.zero_le _, Nat.zero_le _, fun j hj => absurd hj (by omega)⟩, fun g ⟨h1, h0, h2⟩ => cond_of (fun c => ?_) (fun c => ?_)⟩
  · have c' : g < a.list.length := by have := of_decide_eq_true c; omega
    refine cond_of (fun e => ?_) (fun e => ?_)
    · have e' : g = 256 := by have := of_decide_eq_true e; omega
      subst e'
      have hb : badS a.list 256 = true := by unfold badS; rw [decide_eq_true (show (((256 : Nat) : Int)) = 256 by rfl)]; rfl
      have : wrI a.list = 256 := by unfold wrI; rw [firstF_at c' hb h2, if_pos c']; rfl
      rw [this]
    · have e' : ¬ 256 ≤ g := by have := of_decide_eq_false e; omega
      refine ⟨⟨by omega, by omega⟩, p1 _ (mem_nthD c'), fun _ q => ?_, ?_⟩
      · have q' := of_decide_eq_true q
        exact ⟨⟨by omega, by omega⟩, ⟨by omega, by omega⟩, ⟨by omega, by omega⟩⟩
      rw [bad_old (by omega)]
      refine cond_of (fun q => ?_) (fun q => ?_)
      · show (g : Int) = wrI a.list
        unfold wrI
        rw [firstF_at c' q h2, if_pos c']
      · exact ⟨⟨by omega, by omega⟩, g + 1, by omega, ⟨by omega, by omega, step_lt (n := 0) h2 q⟩, by omega⟩
  · have c' := of_decide_eq_false c
    have : wrI a.list = -1 := by unfold wrI; rw [firstF_none fun j hj => h2 j (by omega), if_neg (Nat.lt_irrefl _)]
    rw [this]
noncomputable def findC : Con := ⟨[.d false (.l schT), .d true .s], fun ds => (fun (a : D) (b : D) => [a.list.length < 4611686018427387904]) (nthD ds 0) (nthD ds 1), [.d (.i .i64)], fun ds => (fun (a : D) (b : D) => [.i (fiI a.list b.str)]) (nthD ds 0) (nthD ds 1), fun ds => []⟩
noncomputable def findC_an : Anns := fun f i => match f, i with
  | 24, 2 => some fun A st => match A.get 0, A.get 1 with
    | some (.dl _ _ xs), some (.v (.string s)) => ⟨Nat, fun k => [(5, .v (.int .i64 k))], fun _ => [], fun k => k ≤ xs.length ∧ ∀ j, j < k → decide ((D.str (D.fld (nthD xs j) 0)) = s) = false, fun k => xs.length - k⟩
    | _, _ => LAnn.bad
  | _, _ => none
theorem findC_vc (a b : D) : (∃ (g : Nat), EqI 0 (↑g : Int) ∧ (g ≤ a.list.length ∧ ∀ (j : Nat), j < g → decide (((nthD a.list j).fld 0).str = b.str) = false) ∧ ∀ (g : Nat), (g ≤ a.list.length ∧ ∀ (j : Nat), j < g → decide (((nthD a.list j).fld 0).str = b.str) = false) → bif decide ((↑g : Int) < (↑a.list.length : Int)) then Idx (↑g : Int) a.list.length ∧ bif decide (((nthD a.list g).fld 0).str = b.str) then (↑g : Int) = fiI a.list b.str else I64 ((↑g : Int) + 1) ∧ ∃ (g_1 : Nat), (↑g : Int) + 1 = (↑g_1 : Int) ∧ (g_1 ≤ a.list.length ∧ ∀ (j : Nat), j < g_1 → decide (((nthD a.list j).fld 0).str = b.str) = false) ∧ a.list.length - g_1 < a.list.length - g else EqI (-1) (fiI a.list b.str)) = conGoal Tryz.prog noS findC_an 200 24 findC [a, b] := by kernel_rfl
theorem findC_ok : ConOK Tryz.prog gl 24 findC := con_of mo (noS_ok _) (an := findC_an) 200 fun ds hl hp => by
  obtain ⟨a, b, rfl⟩ := len2 hl
  rw [← findC_vc]
  have p0 : a.list.length < 4611686018427387904 := hp _ (.head _)
  refine ⟨0, rfl, ⟨Nat.zero_le _, fun j hj => absurd hj (by omega)⟩, fun g ⟨h1, h2⟩ => cond_of (fun c => ?_) (fun c => ?_)⟩
  · have c' := of_decide_eq_true c
    refine ⟨⟨by omega, by omega⟩, cond_of (fun e => ?_) (fun e => ?_)⟩
    · show (g : Int) = fiI a.list b.str
      unfold fiI
      rw [firstF_at (show g < a.list.length by omega) e h2, if_pos (by omega)]
    · exact ⟨⟨by omega, by omega⟩, g + 1, by omega, ⟨by omega, step_lt (n := 0) h2 e⟩, by omega⟩
  · have c' := of_decide_eq_false c
    show _ = fiI a.list b.str
    unfold fiI
    rw [firstF_none fun j hj => h2 j (by omega), if_neg (Nat.lt_irrefl _)]
noncomputable def rclaimsC : Con := ⟨[.d false (.l schT), .d false (.l wrT)], fun ds => (fun (a : D) (b : D) => [a.list.length < 4611686018427387904, b.list.length < 4611686018427387904, ∀ s ∈ a.list, okS s, ∀ x ∈ b.list, okT ((D.fld x 1))]) (nthD ds 0) (nthD ds 1), [.d (.l .s), .d (.i .i64), .d (.i .i64)], fun ds => (fun (a : D) (b : D) => [nthD (clm a.list b.list) 0, nthD (clm a.list b.list) 1, nthD (clm a.list b.list) 2]) (nthD ds 0) (nthD ds 1), fun ds => []⟩
noncomputable def rclaimsC_an : Anns := fun f i => match f, i with
  | 6, 2000008 => some fun A st => ⟨Unit, fun _ => [], fun _ => [(8, .q 9 .s [])], fun _ => True, fun _ => 0⟩
  | 6, 8 => some fun A st => match A.get 0, A.get 1 with
    | some (.dl _ _ xs), some (.dl _ _ ws) => ⟨Nat, fun k => [(9, .v (.int .i64 k)), (8, .ow st.nx k)], fun k => [(st.nx, .q 9 .s (((List.range k).map fun j => keyW xs (nthD ws j)).map D.s))], fun k => k ≤ ws.length ∧ ∀ j, j < k → errW xs (nthD ws j) = 0, fun k => ws.length - k⟩
    | _, _ => LAnn.bad
  | _, _ => none
theorem rclaimsC_vc (a b : D) : (a.list.length < 4611686018427387904 ∧ (∀ (s : D), s ∈ a.list → okS s) ∧ bif decide (0 ≤ wrI a.list) then [] = (nthD (clm a.list b.list) 0).list ∧ wrI a.list = (nthD (clm a.list b.list) 1).int ∧ EqI 43 (nthD (clm a.list b.list) 2).int else bif decide (256 < (↑b.list.length : Int)) then [] = (nthD (clm a.list b.list) 0).list ∧ EqI 256 (nthD (clm a.list b.list) 1).int ∧ EqI 4 (nthD (clm a.list b.list) 2).int else ∃ (g : Unit), ∃ (g : Nat), EqI 0 (↑g : Int) ∧ 0 = g ∧ [] = List.map D.s (List.map (fun (j : Nat) ↦ keyW a.list (nthD b.list j)) (List.range g)) ∧ (g ≤ b.list.length ∧ ∀ (j : Nat), j < g → errW a.list (nthD b.list j) = 0) ∧ ∀ (g : Nat), (g ≤ b.list.length ∧ ∀ (j : Nat), j < g → errW a.list (nthD b.list j) = 0) → bif decide ((↑g : Int) < (↑b.list.length : Int)) then Idx (↑g : Int) b.list.length ∧ ((D.fld (D.fld (nthD b.list g) 1) 1)).str.size ≤ 9223372036854775807 ∧ bif !decide (mayT (D.fld (nthD b.list g) 1) = 0) then [] = (nthD (clm a.list b.list) 0).list ∧ (↑g : Int) = (nthD (clm a.list b.list) 1).int ∧ mayT (D.fld (nthD b.list g) 1) = (nthD (clm a.list b.list) 2).int else Idx (↑g : Int) b.list.length ∧ a.list.length < 4611686018427387904 ∧ bif decide (fiI a.list ((D.fld (D.fld (nthD b.list g) 1) 1)).str < 0) then [] = (nthD (clm a.list b.list) 0).list ∧ (↑g : Int) = (nthD (clm a.list b.list) 1).int ∧ EqI 5 (nthD (clm a.list b.list) 2).int else Idx (↑g : Int) b.list.length ∧ Idx (fiI a.list ((D.fld (D.fld (nthD b.list g) 1) 1)).str) a.list.length ∧ bif !decide ((((D.fld (D.fld (nthD b.list g) 1) 2)).fld 0).int = ((D.fld (nthD a.list (fiI a.list ((D.fld (D.fld (nthD b.list g) 1) 1)).str).toNat) 1)).int) then [] = (nthD (clm a.list b.list) 0).list ∧ (↑g : Int) = (nthD (clm a.list b.list) 1).int ∧ EqI 42 (nthD (clm a.list b.list) 2).int else Idx (↑g : Int) b.list.length ∧ ((D.fld (D.fld (nthD b.list g) 1) 1)).str.size ≤ 16777216 ∧ Idx (↑g : Int) b.list.length ∧ (0 ≤ (((D.fld (nthD b.list g) 1)).fld 0).int ∧ (((D.fld (nthD b.list g) 1)).fld 0).int < 18446744073709551616) ∧ (sL (keyL (bys ((D.fld (D.fld (nthD b.list g) 1) 1)).str) ++ [0, 1])).size + (sL (numL (((D.fld (nthD b.list g) 1)).fld 0).int)).size ≤ 9223372036854775807 ∧ Idx (fiI a.list ((D.fld (D.fld (nthD b.list g) 1) 1)).str) a.list.length ∧ bif ((D.fld (nthD a.list (fiI a.list ((D.fld (D.fld (nthD b.list g) 1) 1)).str).toNat) 2)).bool then Idx (↑g : Int) b.list.length ∧ (0 ≤ (((D.fld (D.fld (nthD b.list g) 1) 2)).fld 0).int ∧ (((D.fld (D.fld (nthD b.list g) 1) 2)).fld 0).int < 256 ∧ I64 ((D.fld (D.fld (D.fld (nthD b.list g) 1) 2) 2)).int ∧ 0 ≤ (((D.fld (D.fld (nthD b.list g) 1) 2)).fld 4).int ∧ (((D.fld (D.fld (nthD b.list g) 1) 2)).fld 4).int < 18446744073709551616) ∧ mayV (D.fld (D.fld (nthD b.list g) 1) 2) = true ∧ (sL (keyL (bys ((D.fld (D.fld (nthD b.list g) 1) 1)).str) ++ [0, 1]) ++ sL (numL (((D.fld (nthD b.list g) 1)).fld 0).int)).size + (sL (valB (D.fld (D.fld (nthD b.list g) 1) 2))).size ≤ 9223372036854775807 ∧ (g + [D.s (sL (keyL (bys ((D.fld (D.fld (nthD b.list g) 1) 1)).str) ++ [0, 1]) ++ sL (numL (((D.fld (nthD b.list g) 1)).fld 0).int) ++ sL (valB (D.fld (D.fld (nthD b.list g) 1) 2)))].length) * 16 ≤ 140737488355328 ∧ g + [D.s (sL (keyL (bys ((D.fld (D.fld (nthD b.list g) 1) 1)).str) ++ [0, 1]) ++ sL (numL (((D.fld (nthD b.list g) 1)).fld 0).int) ++ sL (valB (D.fld (D.fld (nthD b.list g) 1) 2)))].length ≤ 9223372036854775807 ∧ I64 ((↑g : Int) + 1) ∧ ∃ (g_1 : Nat), (↑g : Int) + 1 = (↑g_1 : Int) ∧ g + [D.s (sL (keyL (bys ((D.fld (D.fld (nthD b.list g) 1) 1)).str) ++ [0, 1]) ++ sL (numL (((D.fld (nthD b.list g) 1)).fld 0).int) ++ sL (valB (D.fld (D.fld (nthD b.list g) 1) 2)))].length = g_1 ∧ List.take g (List.map D.s (List.map (fun (j : Nat) ↦ keyW a.list (nthD b.list j)) (List.range g))) ++ [D.s (sL (keyL (bys ((D.fld (D.fld (nthD b.list g) 1) 1)).str) ++ [0, 1]) ++ sL (numL (((D.fld (nthD b.list g) 1)).fld 0).int) ++ sL (valB (D.fld (D.fld (nthD b.list g) 1) 2)))] = List.map D.s (List.map (fun (j : Nat) ↦ keyW a.list (nthD b.list j)) (List.range g_1)) ∧ (g_1 ≤ b.list.length ∧ ∀ (j : Nat), j < g_1 → errW a.list (nthD b.list j) = 0) ∧ b.list.length - g_1 < b.list.length - g else (g + [D.s (sL (keyL (bys ((D.fld (D.fld (nthD b.list g) 1) 1)).str) ++ [0, 1]) ++ sL (numL (((D.fld (nthD b.list g) 1)).fld 0).int))].length) * 16 ≤ 140737488355328 ∧ g + [D.s (sL (keyL (bys ((D.fld (D.fld (nthD b.list g) 1) 1)).str) ++ [0, 1]) ++ sL (numL (((D.fld (nthD b.list g) 1)).fld 0).int))].length ≤ 9223372036854775807 ∧ I64 ((↑g : Int) + 1) ∧ ∃ (g_1 : Nat), (↑g : Int) + 1 = (↑g_1 : Int) ∧ g + [D.s (sL (keyL (bys ((D.fld (D.fld (nthD b.list g) 1) 1)).str) ++ [0, 1]) ++ sL (numL (((D.fld (nthD b.list g) 1)).fld 0).int))].length = g_1 ∧ List.take g (List.map D.s (List.map (fun (j : Nat) ↦ keyW a.list (nthD b.list j)) (List.range g))) ++ [D.s (sL (keyL (bys ((D.fld (D.fld (nthD b.list g) 1) 1)).str) ++ [0, 1]) ++ sL (numL (((D.fld (nthD b.list g) 1)).fld 0).int))] = List.map D.s (List.map (fun (j : Nat) ↦ keyW a.list (nthD b.list j)) (List.range g_1)) ∧ (g_1 ≤ b.list.length ∧ ∀ (j : Nat), j < g_1 → errW a.list (nthD b.list j) = 0) ∧ b.list.length - g_1 < b.list.length - g else (List.take g (List.map D.s (List.map (fun (j : Nat) ↦ keyW a.list (nthD b.list j)) (List.range g)))).length ≤ 1000000 ∧ risD (List.take g (List.map D.s (List.map (fun (j : Nat) ↦ keyW a.list (nthD b.list j)) (List.range g)))) = (nthD (clm a.list b.list) 0).list ∧ (↑b.list.length : Int) = (nthD (clm a.list b.list) 1).int ∧ EqI 0 (nthD (clm a.list b.list) 2).int) = conGoal Tryz.prog (addS 28 risC (addS 27 rvBC (addS 26 rnumC (addS 25 rkeyC (addS 24 findC (addS 23 rmayTC (addS 22 wrongC noS))))))) rclaimsC_an 200 6 rclaimsC [a, b] := by kernel_rfl
theorem rclaimsC_ok : ConOK Tryz.prog gl 6 rclaimsC := con_of mo (addS_ok risC_ok (addS_ok rvBC_ok (addS_ok rnumC_ok (addS_ok rkeyC_ok (addS_ok findC_ok (addS_ok rmayTC_ok (addS_ok wrongC_ok (noS_ok _)))))))) (an := rclaimsC_an) 200 fun ds hl hp => by
  obtain ⟨a, b, rfl⟩ := len2 hl
  rw [← rclaimsC_vc]
  have p0 : a.list.length < 4611686018427387904 := hp _ (.head _)
  have p1 : b.list.length < 4611686018427387904 := hp _ (.tail _ (.head _))
  have p2 : ∀ s ∈ a.list, okS s := hp _ (.tail _ (.tail _ (.head _)))
  have p3 : ∀ x ∈ b.list, okT ((D.fld x 1)) := hp _ (.tail _ (.tail _ (.tail _ (.head _))))
  refine ⟨p0, p2, ?_⟩
  obtain ⟨w1, w2⟩ := firstF_spec a.list.length (badS a.list)
  by_cases hW : firstF a.list.length (badS a.list) < a.list.length
  · have e1 : wrI a.list = firstF a.list.length (badS a.list) := by unfold wrI; rw [if_pos hW]
    have hr : clm a.list b.list = [.l [], .i (firstF a.list.length (badS a.list)), .i 43] := by unfold clm; rw [if_pos hW]
    rw [e1, hr, decide_eq_true (by omega)]
    exact ⟨rfl, rfl, rfl⟩
  have h2 := w2 hW
  have hF : firstF a.list.length (badS a.list) = a.list.length := firstF_none h2
  have e1 : wrI a.list = -1 := by unfold wrI; rw [if_neg hW]
  rw [e1, decide_eq_false (by decide)]
  refine cond_of (fun q => absurd q Bool.false_ne_true) (fun _ => cond_of (fun c2 => ?_) (fun c2 => ?_))
  · have c2' : 256 < b.list.length := by have := of_decide_eq_true c2; omega
    have hr : clm a.list b.list = [.l [], .i 256, .i 4] := by unfold clm; rw [hF, if_neg (Nat.lt_irrefl _), if_pos c2']
    rw [hr]; exact ⟨rfl, rfl, rfl⟩
  have c2' : ¬ 256 < b.list.length := by have := of_decide_eq_false c2; omega
  refine ⟨(), 0, rfl, rfl, rfl, ⟨Nat.zero_le _, fun j hj => absurd hj (by omega)⟩, ?_⟩
  rintro k ⟨k1, k2⟩
  refine cond_of (fun d => ?_) (fun d => ?_)
  · have d' : k < b.list.length := by have := of_decide_eq_true d; omega
    obtain ⟨o1, o2, o3⟩ := p3 _ (mem_nthD d')
    have ix : Idx (k : Int) b.list.length := ⟨by omega, by omega⟩
    have hbad : errW a.list (nthD b.list k) ≠ 0 → clm a.list b.list = [.l [], .i k, .i (errW a.list (nthD b.list k))] := fun he => by
      have hf : firstF b.list.length (fun i => !decide (errW a.list (nthD b.list i) = 0)) = k := firstF_at d' (by rw [decide_eq_false he]; rfl) fun j hj => by rw [decide_eq_true (k2 j hj)]; rfl
      unfold clm; rw [hF, if_neg (Nat.lt_irrefl _), if_neg c2', hf, if_pos d']
    obtain ⟨f1, f2⟩ := find_eq h2 ((D.str (D.fld ((D.fld (nthD b.list k) 1)) 1)))
    refine ⟨ix, o2, ?_⟩
    by_cases hm : mayT ((D.fld (nthD b.list k) 1)) = 0
    · rw [decide_eq_true hm]
      refine ⟨ix, p0, ?_⟩
      by_cases hfd : firstF a.list.length (fun j => decide ((D.str (D.fld (nthD a.list j) 0)) = (D.str (D.fld ((D.fld (nthD b.list k) 1)) 1)))) < a.list.length
      · obtain ⟨g1, g2⟩ := f1 hfd
        have e2 : fiI a.list ((D.str (D.fld ((D.fld (nthD b.list k) 1)) 1))) = firstF a.list.length (fun j => decide ((D.str (D.fld (nthD a.list j) 0)) = (D.str (D.fld ((D.fld (nthD b.list k) 1)) 1)))) := by unfold fiI; rw [if_pos hfd]
        have hok := h2 _ hfd
        rw [e2]
        generalize firstF a.list.length (fun j => decide ((D.str (D.fld (nthD a.list j) 0)) = (D.str (D.fld ((D.fld (nthD b.list k) 1)) 1)))) = f at hfd g1 g2 hok ⊢
        have hs : schI (nthD a.list f) = 0 := bad_sch hok
        have he : errW a.list (nthD b.list k) = if (D.int (D.fld ((D.fld ((D.fld (nthD b.list k) 1)) 2)) 0)) = (D.int (D.fld (nthD a.list f) 1)) then 0 else 42 := by
          unfold errW
          rw [if_neg (by omega), g1]
          show fitsI (etaD schT (nthD a.list f)) (nthD b.list k) = _
          have e3 : fitsI (etaD schT (nthD a.list f)) (nthD b.list k) = fitsI (nthD a.list f) (nthD b.list k) := by unfold fitsI; rw [schI_eta]; rfl
          rw [e3]
          unfold fitsI
          rw [if_neg (by omega), if_neg (by omega), if_neg (fun h => h g2.symm)]
          by_cases hk : (D.int (D.fld ((D.fld ((D.fld (nthD b.list k) 1)) 2)) 0)) = (D.int (D.fld (nthD a.list f) 1))
          · rw [if_pos hk, if_neg (fun h => h hk)]
          · rw [if_neg hk, if_pos hk]
        have ixf : Idx (f : Int) a.list.length := ⟨by omega, by omega⟩
        have tf : ((f : Int)).toNat = f := by omega
        rw [decide_eq_false (by omega), tf]
        refine ⟨ix, ixf, cond_of (fun q => ?_) (fun q => ?_)⟩
        · have q' : ¬ (D.int (D.fld ((D.fld ((D.fld (nthD b.list k) 1)) 2)) 0)) = (D.int (D.fld (nthD a.list f) 1)) := by
            intro h; have q : (!decide ((D.int (D.fld ((D.fld ((D.fld (nthD b.list k) 1)) 2)) 0)) = (D.int (D.fld (nthD a.list f) 1)))) = true := q
            rw [decide_eq_true h] at q; cases q
          rw [if_neg q'] at he
          rw [hbad (by rw [he]; decide), he]
          exact ⟨rfl, rfl, rfl⟩
        · have q' : (D.int (D.fld ((D.fld ((D.fld (nthD b.list k) 1)) 2)) 0)) = (D.int (D.fld (nthD a.list f) 1)) := by
            apply Classical.byContradiction
            intro h; have q : (!decide ((D.int (D.fld ((D.fld ((D.fld (nthD b.list k) 1)) 2)) 0)) = (D.int (D.fld (nthD a.list f) 1)))) = false := q
            rw [decide_eq_false h] at q; cases q
          rw [if_pos q'] at he
          obtain ⟨m1, m2, m3⟩ := mayT_zero hm
          have z1 := predB_size m2
          have z2 := keyL_length (bys ((D.str (D.fld ((D.fld (nthD b.list k) 1)) 1))))
          have z3 := numL_length ((D.int (D.fld ((D.fld (nthD b.list k) 1)) 0)))
          rw [bys_length] at z2
          have n1 := nb_le ((D.int (D.fld ((D.fld (nthD b.list k) 1)) 0)))
          have key : ∀ t : ByteArray, (match findS a.list ((D.str (D.fld ((D.fld (nthD b.list k) 1)) 1))) with | none => (ByteArray.mk #[]) | some s => bif (s.fld 2).bool then sL (valB ((D.fld ((D.fld (nthD b.list k) 1)) 2))) else (ByteArray.mk #[])) = t → keyW a.list (nthD b.list k) = sL (keyL (bys ((D.str (D.fld ((D.fld (nthD b.list k) 1)) 1)))) ++ [0, 1]) ++ sL (numL ((D.int (D.fld ((D.fld (nthD b.list k) 1)) 0)))) ++ t := fun t ht => by unfold keyW; exact congrArg (fun z => sL (keyL (bys ((D.str (D.fld ((D.fld (nthD b.list k) 1)) 1)))) ++ [0, 1]) ++ sL (numL ((D.int (D.fld ((D.fld (nthD b.list k) 1)) 0)))) ++ z) ht
          have nx : ∀ X : ByteArray, keyW a.list (nthD b.list k) = X → ∃ (g : Nat), (↑k : Int) + 1 = (↑g : Int) ∧ k + [D.s X].length = g ∧ List.take k (List.map D.s (List.map (fun (j : Nat) => keyW a.list (nthD b.list j)) (List.range k))) ++ [D.s X] = List.map D.s (List.map (fun (j : Nat) => keyW a.list (nthD b.list j)) (List.range g)) ∧ (g ≤ b.list.length ∧ ∀ (j : Nat), j < g → errW a.list (nthD b.list j) = 0) ∧ b.list.length - g < b.list.length - k := fun X hX => ⟨k + 1, by omega, rfl, by rw [row_snoc, List.take_of_length_le (by rw [row_len]; exact Nat.le_refl _), hX], ⟨by omega, step_lt (n := 0) k2 he⟩, by omega⟩
          have s1 : (sL (keyL (bys ((D.str (D.fld ((D.fld (nthD b.list k) 1)) 1)))) ++ [0, 1])).size + (sL (numL ((D.int (D.fld ((D.fld (nthD b.list k) 1)) 0))))).size ≤ 1000 := by
            rw [sL_size, sL_size, List.length_append]; simp only [List.length_cons, List.length_nil]; omega
          refine ⟨ix, by omega, ix, o1, by omega, ixf, ?_⟩
          rw [g1] at key
          have hL0 : ((etaD schT (nthD a.list f)).fld 2).bool = ((nthD a.list f).fld 2).bool := rfl
          cases hL : ((nthD a.list f).fld 2).bool with
          | true =>
            have kt := key (sL (valB ((D.fld ((D.fld (nthD b.list k) 1)) 2)))) (by show (bif ((etaD schT (nthD a.list f)).fld 2).bool then _ else (ByteArray.mk #[])) = _; rw [hL0, hL]; rfl)
            have hv := valB_length (v := (D.fld ((D.fld (nthD b.list k) 1)) 2)) (mayV_size m3)
            have hv2 : (sL (valB ((D.fld ((D.fld (nthD b.list k) 1)) 2)))).size ≤ 33554436 := by rw [sL_size]; exact hv
            exact ⟨ix, o3, m3, by rw [ByteArray.size_append]; omega, (by show (k + 1) * 16 ≤ _; omega), (by show k + 1 ≤ _; omega), ⟨by omega, by omega⟩, nx _ kt⟩
          | false =>
            have kt := key (ByteArray.mk #[]) (by show (bif ((etaD schT (nthD a.list f)).fld 2).bool then _ else (ByteArray.mk #[])) = _; rw [hL0, hL]; rfl)
            exact ⟨(by show (k + 1) * 16 ≤ _; omega), (by show k + 1 ≤ _; omega), ⟨by omega, by omega⟩, nx _ (by rw [kt]; exact app_em _)⟩
      · have e2 : fiI a.list ((D.str (D.fld ((D.fld (nthD b.list k) 1)) 1))) = -1 := by unfold fiI; rw [if_neg hfd]
        have he : errW a.list (nthD b.list k) = 5 := by unfold errW; rw [if_neg (by omega), f2 hfd]
        rw [e2, hbad (by rw [he]; decide), he, decide_eq_true (by decide)]
        exact ⟨rfl, rfl, rfl⟩
    · rw [decide_eq_false hm]
      have he : errW a.list (nthD b.list k) = mayT ((D.fld (nthD b.list k) 1)) := by unfold errW; rw [if_pos hm]
      rw [hbad (by rw [he]; exact hm), he]
      exact ⟨rfl, rfl, rfl⟩
  have hk : k = b.list.length := by have := of_decide_eq_false d; omega
  subst hk
  have hE : firstF b.list.length (fun i => !decide (errW a.list (nthD b.list i) = 0)) = b.list.length := firstF_none fun j hj => by rw [decide_eq_true (k2 j hj)]; rfl
  have hr : clm a.list b.list = [.l (srtD (ksM (setK a.list b.list b.list.length))), .i b.list.length, .i 0] := by unfold clm; rw [hF, if_neg (Nat.lt_irrefl _), if_neg c2', hE, if_neg (Nat.lt_irrefl _)]
  rw [hr, List.take_of_length_le (by rw [row_len]; exact Nat.le_refl _)]
  refine ⟨by rw [row_len]; omega, ?_, rfl, rfl⟩
  show risD _ = srtD (ksM (setK a.list b.list b.list.length))
  rw [setK_map, keys_ris]
  unfold risD
  rw [str_map]
end Go.Proofs.YtnhfkdgambncfaaGreatDoor.XT
