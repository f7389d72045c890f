/- Contracts, by the symbolic evaluator. -/
import Derived.Test.YtcinjnkgopoclaaGreatDoorQO2
import Derived.Test.YtcinjnkgopoclaaGreatDoorProg
set_option linter.unusedVariables false
set_option linter.unusedSimpArgs false
set_option linter.unusedSectionVars false
namespace Go.Proofs.YtcinjnkgopoclaaGreatDoor.XT
open Go Go.RowKit Go.Proofs.YtcinjnkgopoclaaGreatDoor.Sv
set_option maxRecDepth 100000
variable {Γ : Gl}
theorem mayL_of {xs : List D} (h : ∀ j, j < xs.length → mayV (nthD xs j) = true) : mayL xs = true := List.all_eq_true.2 fun j hj => h j (List.mem_range.1 hj)
noncomputable def vsortC : Con := ⟨[.d false (.l valT)], fun ds => (fun (a : D) => [a.list.length ≤ 1000000, ∀ j, j < a.list.length → 0 ≤ (D.int (D.fld (nthD a.list j) 4))]) (nthD ds 0), [.d (.l valT), .d (.i .i64)], fun ds => (fun (a : D) => [.l (bif mayL a.list then risV a.list else []), .i (bif mayL a.list then 0 else 30)]) (nthD ds 0), fun ds => []⟩
noncomputable def vsortC_an : Anns := fun f i => match f, i with
  | 8, 2 => some fun A st => match A.get 0 with
    | some (.dl _ _ xs) => ⟨Nat, fun k => [(10, .v (.int .i64 k))], fun _ => [], fun k => k ≤ xs.length ∧ ∀ j, j < k → mayV (nthD xs j) = true, fun k => xs.length - k⟩
    | _ => LAnn.bad
  | 18, 4 => some fun A st => match A.get 0 with
    | some (.ow l m) => match st.h.get l with
      | some (.q _ _ xs) => ⟨Nat, fun k => [(3, .v (.int .i64 k))], fun _ => [], fun k => 1 ≤ k ∧ k ≤ xs.length ∧ ∀ j, 0 < j → j < k → ofV (nthD xs j) ≠ ofV (nthD xs (j - 1)), fun k => xs.length - k⟩
      | _ => LAnn.bad
    | _ => LAnn.bad
  | 18, 9 => some fun A st => match A.get 0, A.get 3 with
    | some (.ow l m), some (.v (.int _ k0)) => match st.h.get l with
      | some (.q _ _ xs) => ⟨Nat × List D, fun g => [(5, .v (.int .i64 g.1)), (3, .v (.int .i64 (ddV (xs.take (k0.toNat + g.1))).length))], fun g => [(l, .q 25 valT g.2)], fun g => 1 ≤ g.1 ∧ k0.toNat + g.1 ≤ xs.length ∧ g.2.length = xs.length ∧ g.2.take (ddV (xs.take (k0.toNat + g.1))).length = ddV (xs.take (k0.toNat + g.1)) ∧ g.2.drop (k0.toNat + g.1 - 1) = xs.drop (k0.toNat + g.1 - 1), fun g => xs.length - g.1⟩
      | _ => LAnn.bad
    | _, _ => LAnn.bad
  | _, _ => none
theorem vsortC_vc (a : D) : (∃ (g : Nat), EqI 0 (↑g : Int) ∧ (g ≤ a.list.length ∧ ∀ (j : Nat), j < g → mayV (nthD a.list j) = true) ∧ ∀ (g : Nat), (g ≤ a.list.length ∧ ∀ (j : Nat), j < g → mayV (nthD a.list j) = true) → bif decide ((↑g : Int) < (↑a.list.length : Int)) then Idx (↑g : Int) a.list.length ∧ 0 ≤ ((nthD a.list g).fld 4).int ∧ bif !decide (condI (mayV (nthD a.list g)) 0 30 = 0) then ([] = bif mayL a.list then risV a.list else []) ∧ condI (mayV (nthD a.list g)) 0 30 = condI (mayL a.list) 0 30 else I64 ((↑g : Int) + 1) ∧ ∃ (g_1 : Nat), (↑g : Int) + 1 = (↑g_1 : Int) ∧ (g_1 ≤ a.list.length ∧ ∀ (j : Nat), j < g_1 → mayV (nthD a.list j) = true) ∧ a.list.length - g_1 < a.list.length - g else a.list.length ≤ 1000000 ∧ a.list.length = a.list.length ∧ a.list.length < 4611686018427387904 ∧ bif decide ((↑a.list.length : Int) < 2) then 0 ≤ (↑a.list.length : Int) ∧ (↑a.list.length : Int) ≤ (↑a.list.length : Int) ∧ (↑a.list.length : Int) = (↑a.list.length : Int) ∧ (List.take a.list.length (srtV a.list) = bif mayL a.list then risV a.list else []) ∧ EqI 0 (condI (mayL a.list) 0 30) else ∃ (g : Nat), EqI 1 (↑g : Int) ∧ (1 ≤ g ∧ g ≤ (srtV a.list).length ∧ ∀ (j : Nat), 0 < j → j < g → ofV (nthD (srtV a.list) j) ≠ ofV (nthD (srtV a.list) (j - 1))) ∧ ∀ (g : Nat), (1 ≤ g ∧ g ≤ (srtV a.list).length ∧ ∀ (j : Nat), 0 < j → j < g → ofV (nthD (srtV a.list) j) ≠ ofV (nthD (srtV a.list) (j - 1))) → bif decide ((↑g : Int) < (↑a.list.length : Int)) then Idx (↑g : Int) a.list.length ∧ I64 ((↑g : Int) - 1) ∧ Idx ((↑g : Int) - 1) a.list.length ∧ bif decide (((nthD (srtV a.list) g).fld 0).int = ((nthD (srtV a.list) ((↑g : Int) - 1).toNat).fld 0).int) && (((nthD (srtV a.list) g).fld 1).bool == ((nthD (srtV a.list) ((↑g : Int) - 1).toNat).fld 1).bool && (decide (((nthD (srtV a.list) g).fld 2).int = ((nthD (srtV a.list) ((↑g : Int) - 1).toNat).fld 2).int) && (decide (((nthD (srtV a.list) g).fld 3).str = ((nthD (srtV a.list) ((↑g : Int) - 1).toNat).fld 3).str) && (decide (((nthD (srtV a.list) g).fld 4).int = ((nthD (srtV a.list) ((↑g : Int) - 1).toNat).fld 4).int) && true)))) then 0 ≤ (↑g : Int) ∧ (↑g : Int) ≤ (↑a.list.length : Int) ∧ (↑a.list.length : Int) ≤ (↑a.list.length : Int) ∧ ∃ (g_1 : Nat × List D), EqI 1 (↑g_1.fst : Int) ∧ (↑g : Int) = (↑(ddV (List.take (g + g_1.fst) (srtV a.list))).length : Int) ∧ srtV a.list = g_1.snd ∧ (1 ≤ g_1.fst ∧ g + g_1.fst ≤ (srtV a.list).length ∧ g_1.snd.length = (srtV a.list).length ∧ List.take (ddV (List.take (g + g_1.fst) (srtV a.list))).length g_1.snd = ddV (List.take (g + g_1.fst) (srtV a.list)) ∧ List.drop (g + g_1.fst - 1) g_1.snd = List.drop (g + g_1.fst - 1) (srtV a.list)) ∧ ∀ (g_2 : Nat × List D), 1 ≤ g_2.fst ∧ g + g_2.fst ≤ (srtV a.list).length ∧ g_2.snd.length = (srtV a.list).length ∧ List.take (ddV (List.take (g + g_2.fst) (srtV a.list))).length g_2.snd = ddV (List.take (g + g_2.fst) (srtV a.list)) ∧ List.drop (g + g_2.fst - 1) g_2.snd = List.drop (g + g_2.fst - 1) (srtV a.list) → bif decide ((↑g_2.fst : Int) < (↑((↑a.list.length : Int) - (↑g : Int)).toNat : Int)) then Idx (↑g_2.fst : Int) ((↑a.list.length : Int) - (↑g : Int)).toNat ∧ I64 ((↑g_2.fst : Int) - 1) ∧ Idx ((↑g_2.fst : Int) - 1) ((↑a.list.length : Int) - (↑g : Int)).toNat ∧ bif !(decide (((nthD g_2.snd (g + g_2.fst)).fld 0).int = ((nthD g_2.snd (g + ((↑g_2.fst : Int) - 1).toNat)).fld 0).int) && (((nthD g_2.snd (g + g_2.fst)).fld 1).bool == ((nthD g_2.snd (g + ((↑g_2.fst : Int) - 1).toNat)).fld 1).bool && (decide (((nthD g_2.snd (g + g_2.fst)).fld 2).int = ((nthD g_2.snd (g + ((↑g_2.fst : Int) - 1).toNat)).fld 2).int) && (decide (((nthD g_2.snd (g + g_2.fst)).fld 3).str = ((nthD g_2.snd (g + ((↑g_2.fst : Int) - 1).toNat)).fld 3).str) && (decide (((nthD g_2.snd (g + g_2.fst)).fld 4).int = ((nthD g_2.snd (g + ((↑g_2.fst : Int) - 1).toNat)).fld 4).int) && true))))) then Idx (↑g_2.fst : Int) ((↑a.list.length : Int) - (↑g : Int)).toNat ∧ Idx (↑(ddV (List.take (g + g_2.fst) (srtV a.list))).length : Int) a.list.length ∧ I64 ((↑(ddV (List.take (g + g_2.fst) (srtV a.list))).length : Int) + 1) ∧ I64 ((↑g_2.fst : Int) + 1) ∧ ∃ (g_3 : Nat × List D), (↑g_2.fst : Int) + 1 = (↑g_3.fst : Int) ∧ (↑(ddV (List.take (g + g_2.fst) (srtV a.list))).length : Int) + 1 = (↑(ddV (List.take (g + g_3.fst) (srtV a.list))).length : Int) ∧ setD g_2.snd (ddV (List.take (g + g_2.fst) (srtV a.list))).length (putF valT (nthD g_2.snd (g + g_2.fst)) []) = g_3.snd ∧ (1 ≤ g_3.fst ∧ g + g_3.fst ≤ (srtV a.list).length ∧ g_3.snd.length = (srtV a.list).length ∧ List.take (ddV (List.take (g + g_3.fst) (srtV a.list))).length g_3.snd = ddV (List.take (g + g_3.fst) (srtV a.list)) ∧ List.drop (g + g_3.fst - 1) g_3.snd = List.drop (g + g_3.fst - 1) (srtV a.list)) ∧ (srtV a.list).length - g_3.fst < (srtV a.list).length - g_2.fst else I64 ((↑g_2.fst : Int) + 1) ∧ ∃ (g_3 : Nat × List D), (↑g_2.fst : Int) + 1 = (↑g_3.fst : Int) ∧ (↑(ddV (List.take (g + g_2.fst) (srtV a.list))).length : Int) = (↑(ddV (List.take (g + g_3.fst) (srtV a.list))).length : Int) ∧ g_2.snd = g_3.snd ∧ (1 ≤ g_3.fst ∧ g + g_3.fst ≤ (srtV a.list).length ∧ g_3.snd.length = (srtV a.list).length ∧ List.take (ddV (List.take (g + g_3.fst) (srtV a.list))).length g_3.snd = ddV (List.take (g + g_3.fst) (srtV a.list)) ∧ List.drop (g + g_3.fst - 1) g_3.snd = List.drop (g + g_3.fst - 1) (srtV a.list)) ∧ (srtV a.list).length - g_3.fst < (srtV a.list).length - g_2.fst else 0 ≤ (↑(ddV (List.take (g + g_2.fst) (srtV a.list))).length : Int) ∧ (↑(ddV (List.take (g + g_2.fst) (srtV a.list))).length : Int) ≤ (↑a.list.length : Int) ∧ (↑a.list.length : Int) ≤ (↑a.list.length : Int) ∧ 0 ≤ (↑(ddV (List.take (g + g_2.fst) (srtV a.list))).length : Int) ∧ (↑(ddV (List.take (g + g_2.fst) (srtV a.list))).length : Int) ≤ (↑a.list.length : Int) ∧ 0 ≤ (↑(ddV (List.take (g + g_2.fst) (srtV a.list))).length : Int) ∧ (↑(ddV (List.take (g + g_2.fst) (srtV a.list))).length : Int) ≤ (↑(ddV (List.take (g + g_2.fst) (srtV a.list))).length : Int) ∧ (↑(ddV (List.take (g + g_2.fst) (srtV a.list))).length : Int) = (↑(ddV (List.take (g + g_2.fst) (srtV a.list))).length : Int) ∧ (List.take (ddV (List.take (g + g_2.fst) (srtV a.list))).length (List.take (ddV (List.take (g + g_2.fst) (srtV a.list))).length g_2.snd ++ (List.replicate ((↑a.list.length : Int) - (↑(ddV (List.take (g + g_2.fst) (srtV a.list))).length : Int)).toNat (D.t [D.i 0, D.b false, D.i 0, D.s (ByteArray.mk #[]), D.i 0]) ++ List.drop ((ddV (List.take (g + g_2.fst) (srtV a.list))).length + ((↑a.list.length : Int) - (↑(ddV (List.take (g + g_2.fst) (srtV a.list))).length : Int)).toNat) g_2.snd)) = bif mayL a.list then risV a.list else []) ∧ EqI 0 (condI (mayL a.list) 0 30) else I64 ((↑g : Int) + 1) ∧ ∃ (g_1 : Nat), (↑g : Int) + 1 = (↑g_1 : Int) ∧ (1 ≤ g_1 ∧ g_1 ≤ (srtV a.list).length ∧ ∀ (j : Nat), 0 < j → j < g_1 → ofV (nthD (srtV a.list) j) ≠ ofV (nthD (srtV a.list) (j - 1))) ∧ (srtV a.list).length - g_1 < (srtV a.list).length - g else 0 ≤ (↑a.list.length : Int) ∧ (↑a.list.length : Int) ≤ (↑a.list.length : Int) ∧ (↑a.list.length : Int) = (↑a.list.length : Int) ∧ (List.take a.list.length (srtV a.list) = bif mayL a.list then risV a.list else []) ∧ EqI 0 (condI (mayL a.list) 0 30)) = conGoal Tryz.prog (addS 11 cmpVC (addS 16 sortVC (addS 15 cloneVC (addS 10 mayVC noS)))) vsortC_an 200 8 vsortC [a] := by kernel_rfl
theorem vsortC_ok : ConOK Tryz.prog Γ 8 vsortC := con_of mo (addS_ok cmpVC_ok (addR_ok sortVC_ok (addS_ok cloneVC_ok (addS_ok mayVC_ok (noS_ok _))))) (an := vsortC_an) 200 fun ds hl hp => by
  obtain ⟨a, rfl⟩ := len1 hl
  rw [← vsortC_vc]
  have p0 : a.list.length ≤ 1000000 := hp _ (.head _)
  have p1 : ∀ j, j < a.list.length → 0 ≤ (D.int (D.fld (nthD a.list j) 4)) := hp _ (.tail _ (.head _))
  simp only [eqF, putV]
  refine ⟨0, rfl, ⟨Nat.zero_le _, fun j h => absurd h (Nat.not_lt_zero _)⟩, fun g ⟨g1, g2⟩ => cond_of (fun c => ?_) (fun c => ?_)⟩
  · have c : g < a.list.length := by have := of_decide_eq_true c; omega
    refine ⟨⟨by omega, by omega⟩, p1 g c, cond_of (fun m => ?_) (fun m => ?_)⟩
    · have hmg : mayV (nthD a.list g) = false := by
        cases h : mayV (nthD a.list g) with
        | false => rfl
        | true => rw [h] at m; exact absurd m (by decide)
      have hL : mayL a.list = false := by
        cases h : mayL a.list with
        | false => rfl
        | true => rw [mayL_at h g c] at hmg; cases hmg
      rw [hL, hmg]; exact ⟨rfl, rfl⟩
    · have hmg : mayV (nthD a.list g) = true := by
        cases h : mayV (nthD a.list g) with
        | true => rfl
        | false => rw [h] at m; exact absurd m (by decide)
      refine ⟨⟨by omega, by omega⟩, g + 1, by omega, ⟨by omega, fun j hj => ?_⟩, by omega⟩
      by_cases e : j = g
      · rw [e]; exact hmg
      · exact g2 j (by omega)
  · have c : g = a.list.length := by have := of_decide_eq_false c; omega
    subst c
    have hL : mayL a.list = true := mayL_of g2
    rw [hL]
    simp only [cond_true]
    have hfin := srt_ris a.list
    have hcan := srt_can a.list
    have hX : (srtV a.list).length = a.list.length := srtV_len _
    clear hL g1 g2 p1
    generalize srtV a.list = X at hfin hcan hX ⊢
    generalize risV a.list = R at hfin ⊢
    generalize a.list.length = N at p0 hX ⊢
    have hN := p0
    have hfull : ddV (X.take N) = R := by rw [List.take_of_length_le (by omega)]; exact hfin
    refine ⟨p0, trivial, by omega, cond_of (fun q => ?_) (fun q => ?_)⟩
    · have q := of_decide_eq_true q
      refine ⟨by omega, Int.le_refl _, by trivial, ?_, trivial⟩
      rw [← hfull, ddV_none hcan (by omega) (fun j h1 h2 => by omega)]
    have q := of_decide_eq_false q
    refine ⟨1, rfl, ⟨Nat.le_refl _, by omega, fun j h1 h2 => by omega⟩, fun k ⟨k1, k2, k3⟩ => cond_of (fun d => ⟨⟨by omega, by have := of_decide_eq_true d; omega⟩, ⟨by omega, by omega⟩, ⟨by omega, by omega⟩, cond_of (fun e => ?_) (fun e => ?_)⟩) (fun d => ?_)⟩
    · have d := of_decide_eq_true d
      rw [show ((k : Int) - 1).toNat = k - 1 by omega] at e
      have e := of_decide_eq_true e
      have hnone := ddV_none hcan (k := k) (by omega) k3
      have hdup : ddV (X.take (k + 1)) = X.take k := by rw [ddV_at (by omega), if_pos ⟨by omega, e.symm⟩, List.append_nil, hnone]
      have hk : (ddV (X.take (k + 1))).length = k := by rw [hdup, List.length_take]; omega
      refine ⟨by omega, by omega, Int.le_refl _, (1, X), rfl, ?_, rfl, ⟨Nat.le_refl _, ?_, rfl, ?_, rfl⟩, ?_⟩
      · show (k : Int) = ((ddV (X.take (k + 1))).length : Int)
        rw [hk]
      · show k + 1 ≤ _; omega
      · show X.take (ddV (X.take (k + 1))).length = ddV (X.take (k + 1))
        rw [hk, hdup]
      rintro ⟨j, ys⟩ ⟨j1, j2, j3, j4, j5⟩
      simp only at j1 j2 j3 j4 j5 ⊢
      obtain ⟨i, rfl⟩ : ∃ i, j = i + 1 := ⟨j - 1, by omega⟩
      have hlt := ddV_lt hk (j := i) j2
      have j6 : ys.drop (k + (i + 1)) = X.drop (k + (i + 1)) := by
        have := congrArg (List.drop 1) j5
        rwa [List.drop_drop, List.drop_drop, show k + (i + 1) - 1 + 1 = k + (i + 1) by omega] at this
      refine cond_of (fun d2 => ⟨⟨by omega, by have := of_decide_eq_true d2; omega⟩, ⟨by omega, by omega⟩, ⟨by omega, by have := of_decide_eq_true d2; omega⟩, ?_⟩) (fun d2 => ?_)
      · have d2 := of_decide_eq_true d2
        have hy1 : nthD ys (k + (i + 1)) = nthD X (k + (i + 1)) := nthD_dropE j6
        have hy2 : nthD ys (k + (((i + 1 : Nat) : Int) - 1).toNat) = nthD X (k + i) := by
          rw [show (((i + 1 : Nat) : Int) - 1).toNat = i by omega]
          exact nthD_dropE (by rwa [show k + (i + 1) - 1 = k + i by omega] at j5)
        rw [hy1, hy2]
        refine cond_of (fun f => ?_) (fun f => ?_)
        · have f : ¬ ofV (nthD X (k + (i + 1))) = ofV (nthD X (k + i)) := by simpa using f
          have hn : ddV (X.take (k + (i + 1 + 1))) = ddV (X.take (k + (i + 1))) ++ [toV (ofV (nthD X (k + (i + 1))))] := by
            rw [show k + (i + 1 + 1) = (k + (i + 1)) + 1 by omega, ddV_at (by omega), if_neg (fun z => f (by rw [show k + (i + 1) - 1 = k + i by omega] at z; exact z.2.symm))]
          have hnl : (ddV (X.take (k + (i + 1 + 1)))).length = (ddV (X.take (k + (i + 1)))).length + 1 := by rw [hn, List.length_append]; rfl
          refine ⟨⟨by omega, by omega⟩, ⟨by omega, by omega⟩, ⟨by omega, by omega⟩, ⟨by omega, by omega⟩, (i + 1 + 1, setD ys (ddV (X.take (k + (i + 1)))).length (toV (ofV (nthD X (k + (i + 1)))))), by simp, ?_, rfl, ⟨by show 1 ≤ i + 1 + 1; omega, by show k + (i + 1 + 1) ≤ _; omega, ?_, ?_, ?_⟩, by show _ - (i + 1 + 1) < _ - (i + 1); omega⟩
          · show _ = ((ddV (X.take (k + (i + 1 + 1)))).length : Int)
            rw [hnl]; omega
          · show (setD ys _ _).length = _
            rw [setD_lenE (by omega)]; exact j3
          · show List.take (ddV (X.take (k + (i + 1 + 1)))).length (setD ys _ _) = ddV (X.take (k + (i + 1 + 1)))
            rw [hnl, setD_takeE (by omega), j4, hn]
          · show List.drop (k + (i + 1 + 1) - 1) (setD ys _ _) = _
            rw [setD_dropE (by omega) (by omega), show k + (i + 1 + 1) - 1 = k + (i + 1) by omega]
            exact j6
        · have f : ofV (nthD X (k + (i + 1))) = ofV (nthD X (k + i)) := by simpa using f
          have hn : ddV (X.take (k + (i + 1 + 1))) = ddV (X.take (k + (i + 1))) := by
            rw [show k + (i + 1 + 1) = (k + (i + 1)) + 1 by omega, ddV_at (by omega), if_pos ⟨by omega, by rw [show k + (i + 1) - 1 = k + i by omega]; exact f.symm⟩, List.append_nil]
          refine ⟨⟨by omega, by omega⟩, (i + 1 + 1, ys), by simp, ?_, rfl, ⟨by show 1 ≤ i + 1 + 1; omega, by show k + (i + 1 + 1) ≤ _; omega, j3, ?_, ?_⟩, by show _ - (i + 1 + 1) < _ - (i + 1); omega⟩
          · show _ = ((ddV (X.take (k + (i + 1 + 1)))).length : Int)
            rw [hn]
          · show List.take (ddV (X.take (k + (i + 1 + 1)))).length ys = ddV (X.take (k + (i + 1 + 1)))
            rw [hn]; exact j4
          · show List.drop (k + (i + 1 + 1) - 1) ys = List.drop (k + (i + 1 + 1) - 1) X
            rw [show k + (i + 1 + 1) - 1 = k + (i + 1) by omega]
            exact j6
      · have d2 := of_decide_eq_false d2
        have hkN : k + (i + 1) = N := by omega
        refine ⟨by omega, by omega, Int.le_refl _, by omega, by omega, by omega, Int.le_refl _, by trivial, ?_, trivial⟩
        rw [List.take_append_of_le_length (by rw [List.length_take]; omega), List.take_take, Nat.min_self, j4, hkN, hfull]
    · rw [show ((k : Int) - 1).toNat = k - 1 by omega] at e
      have e := of_decide_eq_false e
      have d := of_decide_eq_true d
      refine ⟨⟨by omega, by omega⟩, k + 1, by omega, ⟨by omega, by omega, fun j h1 h2 => ?_⟩, by omega⟩
      by_cases hj : j = k
      · rw [hj]; exact e
      · exact k3 j h1 (by omega)
    · have d : k = N := by have := of_decide_eq_false d; omega
      subst d
      refine ⟨by omega, Int.le_refl _, by trivial, ?_, trivial⟩
      rw [← hfull, ddV_none hcan (by omega) k3]
end Go.Proofs.YtcinjnkgopoclaaGreatDoor.XT
