/- Contracts, by the symbolic evaluator. -/
import Derived.Test.YtnhfkdgambncfaaGreatDoorQT0
import Derived.Test.YtnhfkdgambncfaaGreatDoorProg
set_option linter.unusedVariables false
set_option linter.unusedSimpArgs false
set_option linter.unusedSectionVars false
namespace Go.Proofs.YtnhfkdgambncfaaGreatDoor.XT
open Go Go.RowKit Go.Proofs.YtnhfkdgambncfaaGreatDoor.Sv
set_option maxRecDepth 100000
def rpredC : Con := ⟨[.d true .s], fun ds => (fun (a : D) => [a.str.size ≤ 9223372036854775807]) (nthD ds 0), [.d .b], fun ds => (fun (a : D) => [.b (predB a.str)]) (nthD ds 0), fun ds => []⟩
def rpredC_an : Anns := fun f i => match f, i with
  | 44, 4 => some fun A st => match A.get 0 with
    | some (.v (.string s)) => ⟨Nat, fun k => [(3, .v (.int .i64 k))], fun _ => [], fun k => k ≤ s.size ∧ ∀ j, j < k → predC (byteAt' s j) = true, fun k => s.size - k⟩
    | _ => LAnn.bad
  | _, _ => none
theorem rpredC_vc (a : D) : (((decide ((↑a.str.size : Int) < 1) || decide (64 < (↑a.str.size : Int))) = false → Idx 0 a.str.size) ∧ ((decide ((↑a.str.size : Int) < 1) || decide (64 < (↑a.str.size : Int)) || decide (byteAt' a.str (Int.toNat 0) < 97)) = false → Idx 0 a.str.size) ∧ bif decide ((↑a.str.size : Int) < 1) || decide (64 < (↑a.str.size : Int)) || decide (byteAt' a.str (Int.toNat 0) < 97) || decide (122 < byteAt' a.str (Int.toNat 0)) then false = predB a.str else ∃ (g : Nat), EqI 0 (↑g : Int) ∧ (g ≤ a.str.size ∧ ∀ (j : Nat), j < g → predC (byteAt' a.str j) = true) ∧ ∀ (g : Nat), (g ≤ a.str.size ∧ ∀ (j : Nat), j < g → predC (byteAt' a.str j) = true) → bif decide ((↑g : Int) < (↑a.str.size : Int)) then Idx (↑g : Int) a.str.size ∧ bif (decide (byteAt' a.str g < 97) || decide (122 < byteAt' a.str g)) && (decide (byteAt' a.str g < 48) || decide (57 < byteAt' a.str g)) && !decide (byteAt' a.str g = 95) && !decide (byteAt' a.str g = 46) then false = predB a.str else I64 ((↑g : Int) + 1) ∧ ∃ (g_1 : Nat), (↑g : Int) + 1 = (↑g_1 : Int) ∧ (g_1 ≤ a.str.size ∧ ∀ (j : Nat), j < g_1 → predC (byteAt' a.str j) = true) ∧ a.str.size - g_1 < a.str.size - g else true = predB a.str) = conGoal Tryz.prog noS rpredC_an 200 44 rpredC [a] := by kernel_rfl
theorem rpredC_ok : ConOK Tryz.prog gl 44 rpredC := con_of mo (noS_ok _) (an := rpredC_an) 200 fun ds hl hp => by
  obtain ⟨a, rfl⟩ := len1 hl
  rw [← rpredC_vc]
  have p0 : a.str.size ≤ 9223372036854775807 := hp _ (.head _)
  refine ⟨fun h => ⟨by omega, by simp at h; omega⟩, fun h => ⟨by omega, by simp at h; omega⟩, cond_of (fun c => ?_) (fun c => ⟨0, rfl, ⟨Nat.zero_le _, by omega⟩, fun g ⟨h1, h2⟩ => cond_of (fun d => ⟨⟨by omega, by simp at d; omega⟩, cond_of (fun e => ?_) (fun e => ⟨⟨by omega, by simp at d; omega⟩, g + 1, by omega, ⟨by simp at d; omega, fun j hj => ?_⟩, by simp at d; omega⟩)⟩) (fun d => ?_)⟩)⟩
  · have : predHead a.str = false := congrArg not c
    rw [predB, this]; rfl
  · simp at d
    symm
    rw [predB, Bool.and_eq_false_iff]
    right
    rw [List.all_eq_false]
    refine ⟨g, by simpa using d, ?_⟩
    have : predC (byteAt' a.str g) = false := congrArg not e
    rw [this]; exact Bool.false_ne_true
  · by_cases hjg : j = g
    · subst hjg; exact congrArg not e
    · exact h2 j (by omega)
  · simp at d
    have hg : g = a.str.size := by omega
    symm
    rw [predB, Bool.and_eq_true]
    refine ⟨congrArg not c, ?_⟩
    rw [List.all_eq_true]
    intro j hj
    exact h2 j (by simpa [hg] using hj)
def rmayVC : Con := ⟨[.d true valT], fun ds => [], [.d .b], fun ds => (fun (a : D) => [.b (mayV a)]) (nthD ds 0), fun ds => []⟩
def rmayVC_an : Anns := fun _ _ => none
theorem rmayVC_vc (a : D) : (bif decide ((a.fld 0).int = 1) then (decide ((a.fld 2).int = 0) && decide ((a.fld 3).str = (ByteArray.mk #[])) && decide ((a.fld 4).int = 0)) = mayV a else bif decide ((a.fld 0).int = 2) then (!(a.fld 1).bool && decide ((a.fld 3).str = (ByteArray.mk #[])) && decide ((a.fld 4).int = 0)) = mayV a else bif decide ((a.fld 0).int = 3) then (!(a.fld 1).bool && decide ((a.fld 2).int = 0) && decide ((a.fld 4).int = 0) && decide ((↑(a.fld 3).str.size : Int) ≤ 4096)) = mayV a else bif decide ((a.fld 0).int = 4) then (!(a.fld 1).bool && decide ((a.fld 2).int = 0) && decide ((a.fld 3).str = (ByteArray.mk #[])) && decide (0 < (a.fld 4).int)) = mayV a else false = mayV a) = conGoal Tryz.prog noS rmayVC_an 200 45 rmayVC [a] := by kernel_rfl
theorem rmayVC_ok : ConOK Tryz.prog gl 45 rmayVC := con_of mo (noS_ok _) (an := rmayVC_an) 200 fun ds hl hp => by
  obtain ⟨a, rfl⟩ := len1 hl
  rw [← rmayVC_vc]
  refine cond_of (fun k1 => ?_) (fun k1 => cond_of (fun k2 => ?_) (fun k2 => cond_of (fun k3 => ?_) (fun k3 => cond_of (fun k4 => ?_) (fun k4 => ?_))))
  all_goals (simp only [decide_eq_true_eq, decide_eq_false_iff_not] at *; simp [mayV, *])
def mayVC : Con := ⟨[.d true valT], fun ds => (fun (a : D) => [0 ≤ (D.int (D.fld a 4))]) (nthD ds 0), [.d (.i .i64)], fun ds => (fun (a : D) => [.i (bif mayV a then 0 else 30)]) (nthD ds 0), fun ds => []⟩
def mayVC_an : Anns := fun _ _ => none
theorem mayVC_vc (a : D) : (bif decide ((a.fld 0).int = 1) then bif !(decide ((a.fld 0).int = (a.fld 0).int) && (false == false && (decide ((a.fld 2).int = 0) && (decide ((a.fld 3).str = (ByteArray.mk #[])) && (decide ((a.fld 4).int = 0) && true))))) || decide ((a.fld 0).int < 1) || decide (4 < (a.fld 0).int) || decide (4096 < (↑(a.fld 3).str.size : Int)) || decide ((a.fld 0).int = 4) && decide ((a.fld 4).int = 0) then EqI 30 (condI (mayV a) 0 30) else EqI 0 (condI (mayV a) 0 30) else bif decide ((a.fld 0).int = 2) then bif !(decide ((a.fld 0).int = (a.fld 0).int) && ((a.fld 1).bool == false && (decide (EqI 0 0) && (decide ((a.fld 3).str = (ByteArray.mk #[])) && (decide ((a.fld 4).int = 0) && true))))) || decide ((a.fld 0).int < 1) || decide (4 < (a.fld 0).int) || decide (4096 < (↑(a.fld 3).str.size : Int)) || decide ((a.fld 0).int = 4) && decide ((a.fld 4).int = 0) then EqI 30 (condI (mayV a) 0 30) else EqI 0 (condI (mayV a) 0 30) else bif decide ((a.fld 0).int = 3) then bif !(decide ((a.fld 0).int = (a.fld 0).int) && ((a.fld 1).bool == false && (decide ((a.fld 2).int = 0) && (decide ((ByteArray.mk #[]) = (ByteArray.mk #[])) && (decide ((a.fld 4).int = 0) && true))))) || decide ((a.fld 0).int < 1) || decide (4 < (a.fld 0).int) || decide (4096 < (↑(a.fld 3).str.size : Int)) || decide ((a.fld 0).int = 4) && decide ((a.fld 4).int = 0) then EqI 30 (condI (mayV a) 0 30) else EqI 0 (condI (mayV a) 0 30) else bif decide ((a.fld 0).int = 4) then bif !(decide ((a.fld 0).int = (a.fld 0).int) && ((a.fld 1).bool == false && (decide ((a.fld 2).int = 0) && (decide ((a.fld 3).str = (ByteArray.mk #[])) && (decide (EqI 0 0) && true))))) || decide ((a.fld 0).int < 1) || decide (4 < (a.fld 0).int) || decide (4096 < (↑(a.fld 3).str.size : Int)) || decide ((a.fld 0).int = 4) && decide ((a.fld 4).int = 0) then EqI 30 (condI (mayV a) 0 30) else EqI 0 (condI (mayV a) 0 30) else bif !(decide ((a.fld 0).int = (a.fld 0).int) && ((a.fld 1).bool == false && (decide ((a.fld 2).int = 0) && (decide ((a.fld 3).str = (ByteArray.mk #[])) && (decide ((a.fld 4).int = 0) && true))))) || decide ((a.fld 0).int < 1) || decide (4 < (a.fld 0).int) || decide (4096 < (↑(a.fld 3).str.size : Int)) || decide ((a.fld 0).int = 4) && decide ((a.fld 4).int = 0) then EqI 30 (condI (mayV a) 0 30) else EqI 0 (condI (mayV a) 0 30)) = conGoal Tryz.prog noS mayVC_an 200 37 mayVC [a] := by kernel_rfl
theorem mayVC_ok : ConOK Tryz.prog gl 37 mayVC := con_of mo (noS_ok _) (an := mayVC_an) 200 fun ds hl hp => by
  obtain ⟨a, rfl⟩ := len1 hl
  rw [← mayVC_vc]
  have p0 : 0 ≤ (D.int (D.fld a 4)) := hp _ (.head _)
  refine cond_of (fun k1 => ?_) (fun k1 => cond_of (fun k2 => ?_) (fun k2 => cond_of (fun k3 => ?_) (fun k3 => cond_of (fun k4 => ?_) (fun k4 => ?_))))
  all_goals (have z : (((ByteArray.mk #[])).size : Int) = 0 := rfl; refine cond_of (fun e => ?_) (fun e => ?_) <;> simp only [EqI, Bool.cond_eq_ite] <;> grind [mayV])
end Go.Proofs.YtnhfkdgambncfaaGreatDoor.XT
