/- Contracts, by the symbolic evaluator. -/
import Derived.Test.YtcinjnkgopoclaaGreatDoorQOD
import Derived.Test.YtcinjnkgopoclaaGreatDoorProg
set_option linter.unusedVariables false
set_option linter.unusedSimpArgs false
set_option linter.unusedSectionVars false
namespace Go.Proofs.YtcinjnkgopoclaaGreatDoor.XT
open Go Go.RowKit Go.Proofs.YtcinjnkgopoclaaGreatDoor.Sv
set_option maxRecDepth 100000
variable {Γ : Gl}
noncomputable def rmayVC : Con := ⟨[.d true valT], fun ds => [], [.d .b], fun ds => (fun (a : D) => [.b (mayV a)]) (nthD ds 0), fun ds => []⟩
noncomputable def rmayVC_an : Anns := fun _ _ => none
theorem rmayVC_vc (a : D) : (bif decide ((a.fld 0).int = 1) then (decide ((a.fld 2).int = 0) && decide ((a.fld 3).str = (ByteArray.mk #[])) && decide ((a.fld 4).int = 0)) = mayV a else bif decide ((a.fld 0).int = 2) then (!(a.fld 1).bool && decide ((a.fld 3).str = (ByteArray.mk #[])) && decide ((a.fld 4).int = 0)) = mayV a else bif decide ((a.fld 0).int = 3) then (!(a.fld 1).bool && decide ((a.fld 2).int = 0) && decide ((a.fld 4).int = 0) && decide ((↑(a.fld 3).str.size : Int) ≤ 4096)) = mayV a else bif decide ((a.fld 0).int = 4) then (!(a.fld 1).bool && decide ((a.fld 2).int = 0) && decide ((a.fld 3).str = (ByteArray.mk #[])) && decide (0 < (a.fld 4).int)) = mayV a else false = mayV a) = conGoal Tryz.prog noS rmayVC_an 200 5 rmayVC [a] := by kernel_rfl
theorem rmayVC_ok : ConOK Tryz.prog Γ 5 rmayVC := con_of mo (noS_ok _) (an := rmayVC_an) 200 fun ds hl hp => by
  obtain ⟨a, rfl⟩ := len1 hl
  rw [← rmayVC_vc]
  refine cond_of (fun k1 => ?_) (fun k1 => cond_of (fun k2 => ?_) (fun k2 => cond_of (fun k3 => ?_) (fun k3 => cond_of (fun k4 => ?_) (fun k4 => ?_))))
  all_goals (simp only [decide_eq_true_eq, decide_eq_false_iff_not] at *; simp [mayV, *])
noncomputable def mayVC : Con := ⟨[.d true valT], fun ds => (fun (a : D) => [0 ≤ (D.int (D.fld a 4))]) (nthD ds 0), [.d (.i .i64)], fun ds => (fun (a : D) => [.i (bif mayV a then 0 else 30)]) (nthD ds 0), fun ds => []⟩
noncomputable def mayVC_an : Anns := fun _ _ => none
theorem mayVC_vc (a : D) : (bif decide ((a.fld 0).int = 1) then bif !(decide ((a.fld 0).int = (a.fld 0).int) && (false == false && (decide ((a.fld 2).int = 0) && (decide ((a.fld 3).str = (ByteArray.mk #[])) && (decide ((a.fld 4).int = 0) && true))))) || decide ((a.fld 0).int < 1) || decide (4 < (a.fld 0).int) || decide (4096 < (↑(a.fld 3).str.size : Int)) || decide ((a.fld 0).int = 4) && decide ((a.fld 4).int = 0) then EqI 30 (condI (mayV a) 0 30) else EqI 0 (condI (mayV a) 0 30) else bif decide ((a.fld 0).int = 2) then bif !(decide ((a.fld 0).int = (a.fld 0).int) && ((a.fld 1).bool == false && (decide (EqI 0 0) && (decide ((a.fld 3).str = (ByteArray.mk #[])) && (decide ((a.fld 4).int = 0) && true))))) || decide ((a.fld 0).int < 1) || decide (4 < (a.fld 0).int) || decide (4096 < (↑(a.fld 3).str.size : Int)) || decide ((a.fld 0).int = 4) && decide ((a.fld 4).int = 0) then EqI 30 (condI (mayV a) 0 30) else EqI 0 (condI (mayV a) 0 30) else bif decide ((a.fld 0).int = 3) then bif !(decide ((a.fld 0).int = (a.fld 0).int) && ((a.fld 1).bool == false && (decide ((a.fld 2).int = 0) && (decide ((ByteArray.mk #[]) = (ByteArray.mk #[])) && (decide ((a.fld 4).int = 0) && true))))) || decide ((a.fld 0).int < 1) || decide (4 < (a.fld 0).int) || decide (4096 < (↑(a.fld 3).str.size : Int)) || decide ((a.fld 0).int = 4) && decide ((a.fld 4).int = 0) then EqI 30 (condI (mayV a) 0 30) else EqI 0 (condI (mayV a) 0 30) else bif decide ((a.fld 0).int = 4) then bif !(decide ((a.fld 0).int = (a.fld 0).int) && ((a.fld 1).bool == false && (decide ((a.fld 2).int = 0) && (decide ((a.fld 3).str = (ByteArray.mk #[])) && (decide (EqI 0 0) && true))))) || decide ((a.fld 0).int < 1) || decide (4 < (a.fld 0).int) || decide (4096 < (↑(a.fld 3).str.size : Int)) || decide ((a.fld 0).int = 4) && decide ((a.fld 4).int = 0) then EqI 30 (condI (mayV a) 0 30) else EqI 0 (condI (mayV a) 0 30) else bif !(decide ((a.fld 0).int = (a.fld 0).int) && ((a.fld 1).bool == false && (decide ((a.fld 2).int = 0) && (decide ((a.fld 3).str = (ByteArray.mk #[])) && (decide ((a.fld 4).int = 0) && true))))) || decide ((a.fld 0).int < 1) || decide (4 < (a.fld 0).int) || decide (4096 < (↑(a.fld 3).str.size : Int)) || decide ((a.fld 0).int = 4) && decide ((a.fld 4).int = 0) then EqI 30 (condI (mayV a) 0 30) else EqI 0 (condI (mayV a) 0 30)) = conGoal Tryz.prog noS mayVC_an 200 10 mayVC [a] := by kernel_rfl
theorem mayVC_ok : ConOK Tryz.prog Γ 10 mayVC := con_of mo (noS_ok _) (an := mayVC_an) 200 fun ds hl hp => by
  obtain ⟨a, rfl⟩ := len1 hl
  rw [← mayVC_vc]
  have p0 : 0 ≤ (D.int (D.fld a 4)) := hp _ (.head _)
  refine cond_of (fun k1 => ?_) (fun k1 => cond_of (fun k2 => ?_) (fun k2 => cond_of (fun k3 => ?_) (fun k3 => cond_of (fun k4 => ?_) (fun k4 => ?_))))
  all_goals (have z : (((ByteArray.mk #[])).size : Int) = 0 := rfl; refine cond_of (fun e => ?_) (fun e => ?_) <;> simp only [EqI, Bool.cond_eq_ite] <;> grind [mayV])
noncomputable def orC : Con := ⟨[.d false (.l (.i .i64))], fun ds => (fun (a : D) => [a.list.length < 4611686018427387904]) (nthD ds 0), [.d (.i .i64)], fun ds => (fun (a : D) => [.i (firstNZ a.list)]) (nthD ds 0), fun ds => []⟩
noncomputable def orC_an : Anns := fun f i => match f, i with
  | 19, 3 => some fun A st => match A.get 6 with
    | some (.dl _ _ xs) => ⟨Nat, fun k => [(8, .v (.int .i64 k))], fun _ => [], fun k => k ≤ xs.length ∧ firstNZ xs = firstNZ (xs.drop k), fun k => xs.length - k⟩
    | _ => LAnn.bad
  | _, _ => none
theorem orC_vc (a : D) : (∃ (g : Nat), EqI 0 (↑g : Int) ∧ (g ≤ a.list.length ∧ firstNZ a.list = firstNZ (List.drop g a.list)) ∧ ∀ (g : Nat), g ≤ a.list.length ∧ firstNZ a.list = firstNZ (List.drop g a.list) → bif decide ((↑g : Int) < (↑a.list.length : Int)) then Idx (↑g : Int) a.list.length ∧ bif !decide ((nthD a.list g).int = 0) then (nthD a.list g).int = firstNZ a.list else I64 ((↑g : Int) + 1) ∧ ∃ (g_1 : Nat), (↑g : Int) + 1 = (↑g_1 : Int) ∧ (g_1 ≤ a.list.length ∧ firstNZ a.list = firstNZ (List.drop g_1 a.list)) ∧ a.list.length - g_1 < a.list.length - g else EqI 0 (firstNZ a.list)) = conGoal Tryz.prog noS orC_an 200 19 orC [a] := by kernel_rfl
theorem orC_ok : ConOK Tryz.prog Γ 19 orC := con_of mo (noS_ok _) (an := orC_an) 200 fun ds hl hp => by
  obtain ⟨a, rfl⟩ := len1 hl
  rw [← orC_vc]
  have p0 : a.list.length < 4611686018427387904 := hp _ (.head _)
  refine ⟨0, rfl, ⟨Nat.zero_le _, by simp⟩, fun g ⟨h1, h2⟩ => cond_of (fun c => ?_) (fun c => ?_)⟩
  · simp only [decide_eq_true_eq] at c
    have c' : g < a.list.length := by omega
    refine ⟨⟨by omega, by omega⟩, cond_of (fun e => ?_) (fun e => ?_)⟩
    · have e : ¬ (nthD a.list g).int = 0 := by simpa using e
      rw [h2, firstNZ_drop c', if_neg e]
    · have e : (nthD a.list g).int = 0 := by simpa using e
      exact ⟨⟨by omega, by omega⟩, g + 1, by omega, ⟨by omega, by rw [h2, firstNZ_drop c', if_pos e]⟩, by omega⟩
  · simp only [decide_eq_false_iff_not] at c
    have c' : g = a.list.length := by omega
    rw [h2, c', List.drop_length]; rfl
noncomputable def cmpSC : Con := ⟨[.d true .s, .d true .s], fun ds => [], [.d (.i .i64)], fun ds => (fun (a : D) (b : D) => [.i (cmpS a.str b.str)]) (nthD ds 0) (nthD ds 1), fun ds => []⟩
noncomputable def cmpSC_an : Anns := fun _ _ => none
theorem cmpSC_vc (a b : D) : (bif !decide (a.str = a.str) then bif !decide (b.str = b.str) then EqI 0 (cmpS a.str b.str) else EqI (-1) (cmpS a.str b.str) else bif !decide (b.str = b.str) then EqI 1 (cmpS a.str b.str) else bif Op.bytesLess a.str.toList b.str.toList then EqI (-1) (cmpS a.str b.str) else bif !(Op.bytesLess a.str.toList b.str.toList || decide (a.str = b.str)) then EqI 1 (cmpS a.str b.str) else EqI 0 (cmpS a.str b.str)) = conGoal Tryz.prog noS cmpSC_an 200 24 cmpSC [a, b] := by kernel_rfl
theorem cmpSC_ok : ConOK Tryz.prog Γ 24 cmpSC := con_of mo (noS_ok _) (an := cmpSC_an) 200 fun ds hl hp => by
  obtain ⟨a, b, rfl⟩ := len2 hl
  rw [← cmpSC_vc]
  rw [gtS]; grind [cmpS]
noncomputable def cmpUC : Con := ⟨[.d true (.i .u64), .d true (.i .u64)], fun ds => [], [.d (.i .i64)], fun ds => (fun (a : D) (b : D) => [.i (cmpI a.int b.int)]) (nthD ds 0) (nthD ds 1), fun ds => []⟩
noncomputable def cmpUC_an : Anns := fun _ _ => none
theorem cmpUC_vc (a b : D) : (bif !decide (a.int = a.int) then bif !decide (b.int = b.int) then EqI 0 (cmpI a.int b.int) else EqI (-1) (cmpI a.int b.int) else bif !decide (b.int = b.int) then EqI 1 (cmpI a.int b.int) else bif decide (a.int < b.int) then EqI (-1) (cmpI a.int b.int) else bif decide (b.int < a.int) then EqI 1 (cmpI a.int b.int) else EqI 0 (cmpI a.int b.int)) = conGoal Tryz.prog noS cmpUC_an 200 25 cmpUC [a, b] := by kernel_rfl
theorem cmpUC_ok : ConOK Tryz.prog Γ 25 cmpUC := con_of mo (noS_ok _) (an := cmpUC_an) 200 fun ds hl hp => by
  obtain ⟨a, b, rfl⟩ := len2 hl
  rw [← cmpUC_vc]
  grind [cmpI]
noncomputable def cmpKC : Con := ⟨[.d true (.i .u8), .d true (.i .u8)], fun ds => [], [.d (.i .i64)], fun ds => (fun (a : D) (b : D) => [.i (cmpI a.int b.int)]) (nthD ds 0) (nthD ds 1), fun ds => []⟩
noncomputable def cmpKC_an : Anns := fun _ _ => none
theorem cmpKC_vc (a b : D) : (bif !decide (a.int = a.int) then bif !decide (b.int = b.int) then EqI 0 (cmpI a.int b.int) else EqI (-1) (cmpI a.int b.int) else bif !decide (b.int = b.int) then EqI 1 (cmpI a.int b.int) else bif decide (a.int < b.int) then EqI (-1) (cmpI a.int b.int) else bif decide (b.int < a.int) then EqI 1 (cmpI a.int b.int) else EqI 0 (cmpI a.int b.int)) = conGoal Tryz.prog noS cmpKC_an 200 20 cmpKC [a, b] := by kernel_rfl
theorem cmpKC_ok : ConOK Tryz.prog Γ 20 cmpKC := con_of mo (noS_ok _) (an := cmpKC_an) 200 fun ds hl hp => by
  obtain ⟨a, b, rfl⟩ := len2 hl
  rw [← cmpKC_vc]
  grind [cmpI]
noncomputable def cmpIC : Con := ⟨[.d true (.i .i64), .d true (.i .i64)], fun ds => [], [.d (.i .i64)], fun ds => (fun (a : D) (b : D) => [.i (cmpI a.int b.int)]) (nthD ds 0) (nthD ds 1), fun ds => []⟩
noncomputable def cmpIC_an : Anns := fun _ _ => none
theorem cmpIC_vc (a b : D) : (bif !decide (a.int = a.int) then bif !decide (b.int = b.int) then EqI 0 (cmpI a.int b.int) else EqI (-1) (cmpI a.int b.int) else bif !decide (b.int = b.int) then EqI 1 (cmpI a.int b.int) else bif decide (a.int < b.int) then EqI (-1) (cmpI a.int b.int) else bif decide (b.int < a.int) then EqI 1 (cmpI a.int b.int) else EqI 0 (cmpI a.int b.int)) = conGoal Tryz.prog noS cmpIC_an 200 21 cmpIC [a, b] := by kernel_rfl
theorem cmpIC_ok : ConOK Tryz.prog Γ 21 cmpIC := con_of mo (noS_ok _) (an := cmpIC_an) 200 fun ds hl hp => by
  obtain ⟨a, b, rfl⟩ := len2 hl
  rw [← cmpIC_vc]
  grind [cmpI]
noncomputable def cmpNC : Con := ⟨[.d true (.i .i64), .d true (.i .i64)], fun ds => [], [.d (.i .i64)], fun ds => (fun (a : D) (b : D) => [.i (cmpI a.int b.int)]) (nthD ds 0) (nthD ds 1), fun ds => []⟩
noncomputable def cmpNC_an : Anns := fun _ _ => none
theorem cmpNC_vc (a b : D) : (bif !decide (a.int = a.int) then bif !decide (b.int = b.int) then EqI 0 (cmpI a.int b.int) else EqI (-1) (cmpI a.int b.int) else bif !decide (b.int = b.int) then EqI 1 (cmpI a.int b.int) else bif decide (a.int < b.int) then EqI (-1) (cmpI a.int b.int) else bif decide (b.int < a.int) then EqI 1 (cmpI a.int b.int) else EqI 0 (cmpI a.int b.int)) = conGoal Tryz.prog noS cmpNC_an 200 23 cmpNC [a, b] := by kernel_rfl
theorem cmpNC_ok : ConOK Tryz.prog Γ 23 cmpNC := con_of mo (noS_ok _) (an := cmpNC_an) 200 fun ds hl hp => by
  obtain ⟨a, b, rfl⟩ := len2 hl
  rw [← cmpNC_vc]
  grind [cmpI]
noncomputable def truC : Con := ⟨[.d true .b], fun ds => [], [.d (.i .i64)], fun ds => (fun (a : D) => [.i (truI a.bool)]) (nthD ds 0), fun ds => []⟩
noncomputable def truC_an : Anns := fun _ _ => none
theorem truC_vc (a : D) : (bif a.bool then EqI 1 (truI a.bool) else EqI 0 (truI a.bool)) = conGoal Tryz.prog noS truC_an 200 22 truC [a] := by kernel_rfl
theorem truC_ok : ConOK Tryz.prog Γ 22 truC := con_of mo (noS_ok _) (an := truC_an) 200 fun ds hl hp => by
  obtain ⟨a, rfl⟩ := len1 hl
  rw [← truC_vc]
  grind [truI]
noncomputable def cmpVC : Con := ⟨[.d true valT, .d true valT], fun ds => [], [.d (.i .i64)], fun ds => (fun (a : D) (b : D) => [.i (cmpV a b)]) (nthD ds 0) (nthD ds 1), fun ds => []⟩
noncomputable def cmpVC_an : Anns := fun _ _ => none
theorem cmpVC_vc (a b : D) : ((a.fld 0).int = (a.fld 0).int ∧ (b.fld 0).int = (b.fld 0).int ∧ (a.fld 1).bool = (a.fld 1).bool ∧ truI (a.fld 1).bool = truI (a.fld 1).bool ∧ (b.fld 1).bool = (b.fld 1).bool ∧ truI (b.fld 1).bool = truI (b.fld 1).bool ∧ (a.fld 2).int = (a.fld 2).int ∧ (b.fld 2).int = (b.fld 2).int ∧ (a.fld 3).str = (a.fld 3).str ∧ (b.fld 3).str = (b.fld 3).str ∧ (a.fld 4).int = (a.fld 4).int ∧ (b.fld 4).int = (b.fld 4).int ∧ [D.i (cmpI (a.fld 0).int (b.fld 0).int), D.i (cmpI (truI (a.fld 1).bool) (truI (b.fld 1).bool)), D.i (cmpI (a.fld 2).int (b.fld 2).int), D.i (cmpS (a.fld 3).str (b.fld 3).str), D.i (cmpI (a.fld 4).int (b.fld 4).int)].length < 4611686018427387904 ∧ firstNZ [D.i (cmpI (a.fld 0).int (b.fld 0).int), D.i (cmpI (truI (a.fld 1).bool) (truI (b.fld 1).bool)), D.i (cmpI (a.fld 2).int (b.fld 2).int), D.i (cmpS (a.fld 3).str (b.fld 3).str), D.i (cmpI (a.fld 4).int (b.fld 4).int)] = cmpV a b) = conGoal Tryz.prog (addS 19 orC (addS 25 cmpUC (addS 24 cmpSC (addS 23 cmpNC (addS 21 cmpIC (addS 22 truC (addS 20 cmpKC noS))))))) cmpVC_an 200 11 cmpVC [a, b] := by kernel_rfl
theorem cmpVC_ok : ConOK Tryz.prog Γ 11 cmpVC := con_of mo (addS_ok orC_ok (addS_ok cmpUC_ok (addS_ok cmpSC_ok (addS_ok cmpNC_ok (addS_ok cmpIC_ok (addS_ok truC_ok (addS_ok cmpKC_ok (noS_ok _)))))))) (an := cmpVC_an) 200 fun ds hl hp => by
  obtain ⟨a, b, rfl⟩ := len2 hl
  rw [← cmpVC_vc]
  simp [cmpV]
noncomputable def vCmpC : Con := ⟨[.d true valT, .d true valT], fun ds => (fun (a : D) (b : D) => [0 ≤ (D.int (D.fld a 4)), 0 ≤ (D.int (D.fld b 4))]) (nthD ds 0) (nthD ds 1), [.d (.i .i64), .d (.i .i64)], fun ds => (fun (a : D) (b : D) => [.i (bif mayV a && mayV b then cmpV a b else 0), .i (bif mayV a && mayV b then 0 else 30)]) (nthD ds 0) (nthD ds 1), fun ds => []⟩
noncomputable def vCmpC_an : Anns := fun _ _ => none
theorem vCmpC_vc (a b : D) : (0 ≤ (a.fld 4).int ∧ ((!decide (condI (mayV a) 0 30 = 0)) = false → 0 ≤ (b.fld 4).int) ∧ bif !decide (condI (mayV a) 0 30 = 0) || !decide (condI (mayV b) 0 30 = 0) then EqI 0 (bif mayV a && mayV b then cmpV a b else 0) ∧ EqI 30 (condI (mayV a && mayV b) 0 30) else (cmpV a b = bif mayV a && mayV b then cmpV a b else 0) ∧ EqI 0 (condI (mayV a && mayV b) 0 30)) = conGoal Tryz.prog (addS 11 cmpVC (addS 10 mayVC noS)) vCmpC_an 200 4 vCmpC [a, b] := by kernel_rfl
theorem vCmpC_ok : ConOK Tryz.prog Γ 4 vCmpC := con_of mo (addS_ok cmpVC_ok (addS_ok mayVC_ok (noS_ok _))) (an := vCmpC_an) 200 fun ds hl hp => by
  obtain ⟨a, b, rfl⟩ := len2 hl
  rw [← vCmpC_vc]
  have p0 : 0 ≤ (D.int (D.fld a 4)) := hp _ (.head _)
  have p1 : 0 ≤ (D.int (D.fld b 4)) := hp _ (.tail _ (.head _))
  simp only [condI, EqI, Bool.cond_eq_ite]; grind
noncomputable def rcmpVC : Con := ⟨[.d true valT, .d true valT], fun ds => [], [.d (.i .i64)], fun ds => (fun (a : D) (b : D) => [.i (rcmpV a b)]) (nthD ds 0) (nthD ds 1), fun ds => []⟩
noncomputable def rcmpVC_an : Anns := fun _ _ => none
theorem rcmpVC_vc (a b : D) : (bif decide ((a.fld 0).int = (b.fld 0).int) && ((a.fld 1).bool == (b.fld 1).bool && (decide ((a.fld 2).int = (b.fld 2).int) && (decide ((a.fld 3).str = (b.fld 3).str) && (decide ((a.fld 4).int = (b.fld 4).int) && true)))) then EqI 0 (rcmpV a b) else bif decide ((a.fld 0).int = (b.fld 0).int) then bif !(a.fld 1).bool && (b.fld 1).bool || decide ((a.fld 2).int < (b.fld 2).int) || Op.bytesLess (a.fld 3).str.toList (b.fld 3).str.toList || decide ((a.fld 4).int < (b.fld 4).int) then EqI (-1) (rcmpV a b) else EqI 1 (rcmpV a b) else bif decide ((a.fld 0).int < (b.fld 0).int) then EqI (-1) (rcmpV a b) else EqI 1 (rcmpV a b)) = conGoal Tryz.prog noS rcmpVC_an 200 6 rcmpVC [a, b] := by kernel_rfl
theorem rcmpVC_ok : ConOK Tryz.prog Γ 6 rcmpVC := con_of mo (noS_ok _) (an := rcmpVC_an) 200 fun ds hl hp => by
  obtain ⟨a, b, rfl⟩ := len2 hl
  rw [← rcmpVC_vc]
  simp only [EqI, Bool.cond_eq_ite]; grind [rcmpV, eqV]
end Go.Proofs.YtcinjnkgopoclaaGreatDoor.XT
