/- Contracts, by the symbolic evaluator. -/
import Derived.Test.YtcinjnkgopoclaaGreatDoorQO4
import Derived.Test.YtcinjnkgopoclaaGreatDoorProg
set_option linter.unusedVariables false
set_option linter.unusedSimpArgs false
set_option linter.unusedSectionVars false
namespace Go.Proofs.YtcinjnkgopoclaaGreatDoor.XT
open Go Go.RowKit Go.Proofs.YtcinjnkgopoclaaGreatDoor.Sv
set_option maxRecDepth 100000

/-- some one ahead may not be -/
def badB (xs : List D) (g : Nat) : Bool := (List.range g).any fun j => !mayV (nthD xs j)
theorem badB_succ (xs : List D) (g : Nat) : badB xs (g + 1) = (badB xs g || !mayV (nthD xs g)) := by
  unfold badB
  rw [List.range_succ, List.any_append]
  simp
theorem badB_all (xs : List D) : badB xs xs.length = !mayL xs := by
  unfold badB mayL
  rw [List.not_all_eq_any_not]
noncomputable def vordLC : Con := ⟨[.d true valT, .d true valT, .d true (.l valT)], fun ds => (fun (a : D) (b : D) (c : D) => [0 ≤ (D.int (D.fld a 4)), 0 ≤ (D.int (D.fld b 4)), ∀ j, j < c.list.length → 0 ≤ (D.int (D.fld (nthD c.list j) 4))]) (nthD ds 0) (nthD ds 1) (nthD ds 2), [.d .b], fun ds => (fun (a : D) (b : D) (c : D) => [.b true]) (nthD ds 0) (nthD ds 1) (nthD ds 2), fun ds => []⟩
noncomputable def vordLC_an : Anns := fun f i => match f, i with
  | 3, 1000007 => some fun A st => ⟨Unit, fun _ => [], fun _ => [], fun _ => True, fun _ => 0⟩
  | 3, 13 => some fun A st => match A.get 2 with
    | some (.dl _ _ xs) => ⟨Nat, fun g => [(13, .v (.int .i64 g)), (12, .v (.bool (badB xs g)))], fun _ => [], fun g => g ≤ xs.length, fun g => xs.length - g⟩
    | _ => LAnn.bad
  | 3, 24 => some fun A st => match A.get 10 with
    | some (.dl _ _ xs) => ⟨Nat, fun g => [(15, .v (.int .i64 g))], fun _ => [], fun g => g ≤ xs.length, fun g => xs.length - g⟩
    | _ => LAnn.bad
  | _, _ => none
theorem vordLC_vc (a b c : D) : (0 ≤ (a.fld 4).int ∧ 0 ≤ (b.fld 4).int ∧ (bif !mayV a || !mayV b then bif !decide ((bif mayV a && mayV b then cmpV a b else 0) = 0) || !decide (condI (mayV a && mayV b) 0 30 = 30) then false = true else ∃ (g : Unit), True else bif !decide ((bif mayV a && mayV b then cmpV a b else 0) = rcmpV a b) || !decide (condI (mayV a && mayV b) 0 30 = 0) then false = true else ∃ (g : Unit), True) ∧ ∀ (g : Unit), True → bif decide (200 < (↑c.list.length : Int)) then true = true else c.list.length * 40 ≤ 140737488355328 ∧ c.list.length ≤ 9223372036854775807 ∧ (List.take c.list.length c.list).length ≤ 1000000 ∧ (∀ (j : Nat), j < (List.take c.list.length c.list).length → 0 ≤ ((nthD (List.take c.list.length c.list) j).fld 4).int) ∧ ∃ (g : Nat), EqI 0 (↑g : Int) ∧ false = badB c.list g ∧ g ≤ c.list.length ∧ ∀ (g : Nat), g ≤ c.list.length → bif decide ((↑g : Int) < (↑c.list.length : Int)) then (badB c.list g = false → Idx (↑g : Int) c.list.length) ∧ Idx (↑g : Int) c.list.length ∧ Idx (↑g : Int) c.list.length ∧ bif !(decide (((nthD c.list g).fld 0).int = ((nthD c.list g).fld 0).int) && (((nthD c.list g).fld 1).bool == ((nthD c.list g).fld 1).bool && (decide (((nthD c.list g).fld 2).int = ((nthD c.list g).fld 2).int) && (decide (((nthD c.list g).fld 3).str = ((nthD c.list g).fld 3).str) && (decide (((nthD c.list g).fld 4).int = ((nthD c.list g).fld 4).int) && true))))) then false = true else I64 ((↑g : Int) + 1) ∧ ∃ (g_1 : Nat), (↑g : Int) + 1 = (↑g_1 : Int) ∧ (badB c.list g || !mayV (nthD c.list g)) = badB c.list g_1 ∧ g_1 ≤ c.list.length ∧ c.list.length - g_1 < c.list.length - g else bif badB c.list g then (decide ((↑(bif mayL (List.take c.list.length c.list) then risV (List.take c.list.length c.list) else []).length : Int) = 0) && decide (condI (mayL (List.take c.list.length c.list)) 0 30 = 30) && true) = true else c.list.length ≤ 1000000 ∧ mayL c.list = true ∧ bif !decide ((↑(bif mayL (List.take c.list.length c.list) then risV (List.take c.list.length c.list) else []).length : Int) = (↑(risV c.list).length : Int)) || !decide (condI (mayL (List.take c.list.length c.list)) 0 30 = 0) then false = true else ∃ (g : Nat), EqI 0 (↑g : Int) ∧ g ≤ (bif mayL (List.take c.list.length c.list) then risV (List.take c.list.length c.list) else []).length ∧ ∀ (g : Nat), g ≤ (bif mayL (List.take c.list.length c.list) then risV (List.take c.list.length c.list) else []).length → bif decide ((↑g : Int) < (↑(bif mayL (List.take c.list.length c.list) then risV (List.take c.list.length c.list) else []).length : Int)) then Idx (↑g : Int) (bif mayL (List.take c.list.length c.list) then risV (List.take c.list.length c.list) else []).length ∧ Idx (↑g : Int) (risV c.list).length ∧ bif !(decide (((nthD (bif mayL (List.take c.list.length c.list) then risV (List.take c.list.length c.list) else []) g).fld 0).int = ((nthD (risV c.list) g).fld 0).int) && (((nthD (bif mayL (List.take c.list.length c.list) then risV (List.take c.list.length c.list) else []) g).fld 1).bool == ((nthD (risV c.list) g).fld 1).bool && (decide (((nthD (bif mayL (List.take c.list.length c.list) then risV (List.take c.list.length c.list) else []) g).fld 2).int = ((nthD (risV c.list) g).fld 2).int) && (decide (((nthD (bif mayL (List.take c.list.length c.list) then risV (List.take c.list.length c.list) else []) g).fld 3).str = ((nthD (risV c.list) g).fld 3).str) && (decide (((nthD (bif mayL (List.take c.list.length c.list) then risV (List.take c.list.length c.list) else []) g).fld 4).int = ((nthD (risV c.list) g).fld 4).int) && true))))) then false = true else I64 ((↑g : Int) + 1) ∧ ∃ (g_1 : Nat), (↑g : Int) + 1 = (↑g_1 : Int) ∧ g_1 ≤ (bif mayL (List.take c.list.length c.list) then risV (List.take c.list.length c.list) else []).length ∧ (bif mayL (List.take c.list.length c.list) then risV (List.take c.list.length c.list) else []).length - g_1 < (bif mayL (List.take c.list.length c.list) then risV (List.take c.list.length c.list) else []).length - g else true = true) = conGoal Tryz.prog (addS 9 rsortC (addS 8 vsortC (addS 7 aliveC (addS 6 rcmpVC (addS 5 rmayVC (addS 4 vCmpC noS)))))) vordLC_an 200 3 vordLC [a, b, c] := by kernel_rfl
theorem vordLC_ok : ConOK Tryz.prog gl 3 vordLC := con_of mo (addS_ok rsortC_ok (addS_ok vsortC_ok (addS_ok aliveC_ok (addS_ok rcmpVC_ok (addS_ok rmayVC_ok (addS_ok vCmpC_ok (noS_ok _))))))) (an := vordLC_an) 200 fun ds hl hp => by
  obtain ⟨a, b, c, rfl⟩ := len3 hl
  rw [← vordLC_vc]
  have p0 : 0 ≤ (D.int (D.fld a 4)) := hp _ (.head _)
  have p1 : 0 ≤ (D.int (D.fld b 4)) := hp _ (.tail _ (.head _))
  have p2 : ∀ j, j < c.list.length → 0 ≤ (D.int (D.fld (nthD c.list j) 4)) := hp _ (.tail _ (.tail _ (.head _)))
  simp only [List.take_length]
  refine ⟨p0, p1, cond_of (fun m => ?_) (fun m => ?_), fun _ _ => cond_of (fun _ => by trivial) (fun q => ?_)⟩
  · have hm : (mayV a && mayV b) = false := by cases h1 : mayV a <;> cases h2 : mayV b <;> rw [h1, h2] at m <;> first | rfl | exact absurd m (by decide)
    rw [hm]
    exact cond_of (fun h => absurd h (by simp [condI])) (fun _ => ⟨(), trivial⟩)
  · have ha : mayV a = true := by cases h1 : mayV a <;> rw [h1] at m <;> first | rfl | exact absurd m (by cases mayV b <;> decide)
    have hb : mayV b = true := by cases h1 : mayV b <;> rw [h1] at m <;> first | rfl | exact absurd m (by cases mayV a <;> decide)
    rw [ha, hb, cmpV_may ha hb]
    exact cond_of (fun h => by rw [decide_eq_true (show (bif true && true then rcmpV a b else 0) = rcmpV a b from rfl)] at h; exact absurd h (by decide)) (fun _ => ⟨(), trivial⟩)
  have q := of_decide_eq_false q
  refine ⟨by omega, by omega, by omega, p2, 0, rfl, rfl, Nat.zero_le _, fun g hg => cond_of (fun d => ?_) (fun d => ?_)⟩
  · have d := of_decide_eq_true d
    refine ⟨fun _ => ⟨by omega, by omega⟩, ⟨by omega, by omega⟩, ⟨by omega, by omega⟩, cond_of (fun h => absurd h (by simp)) (fun _ => ?_)⟩
    exact ⟨⟨by omega, by omega⟩, g + 1, by omega, (badB_succ _ _).symm, by omega, by omega⟩
  have d : g = c.list.length := by have := of_decide_eq_false d; omega
  subst d
  rw [badB_all]
  cases hL : mayL c.list with
  | false => exact rfl
  | true =>
    refine ⟨by omega, rfl, ?_⟩
    simp only [cond_true]
    have hR : (risV c.list).length ≤ 200 := by
      have := risV_len c.list c.list.length
      rw [List.take_length] at this
      omega
    generalize risV c.list = R at hR ⊢
    refine cond_of (fun h => absurd h (by simp)) (fun _ => ⟨0, rfl, Nat.zero_le _, fun g hg => cond_of (fun d => ?_) (fun _ => by trivial)⟩)
    have d := of_decide_eq_true d
    refine ⟨⟨by omega, by omega⟩, ⟨by omega, by omega⟩, cond_of (fun h => absurd h (by simp)) (fun _ => ?_)⟩
    exact ⟨⟨by omega, by omega⟩, g + 1, by omega, by omega, by omega⟩
end Go.Proofs.YtcinjnkgopoclaaGreatDoor.XT
