/- Contracts, by the symbolic evaluator. -/
import Derived.Test.YtbbjonjhaoeidaaGreatDoorQT1
import Derived.Test.YtbbjonjhaoeidaaGreatDoorProg
set_option linter.unusedVariables false
set_option linter.unusedSimpArgs false
namespace Go.Proofs.YtbbjonjhaoeidaaGreatDoor.XT
open Go Go.RowKit Go.Proofs.YtbbjonjhaoeidaaGreatDoor.Sv
set_option maxRecDepth 100000
def firstNZ : List D → Int
  | [] => 0
  | d :: r => if d.int = 0 then firstNZ r else d.int
theorem firstNZ_drop {xs : List D} {k : Nat} (h : k < xs.length) : firstNZ (xs.drop k) = if (nthD xs k).int = 0 then firstNZ (xs.drop (k + 1)) else (nthD xs k).int := by
  rw [List.drop_eq_getElem_cons h, firstNZ]
  have : xs[k] = nthD xs k := by
    have := get_nthD h
    rw [List.getElem?_eq_getElem h] at this
    exact Option.some.inj this
  rw [this]
def mayT (t : D) : Int := if (D.int (D.fld t 0)) = 0 then 41 else if predB ((D.str (D.fld t 1))) = false then 40 else if mayV ((D.fld t 2)) = false then 30 else 0
def schBad (s : D) : Bool := decide ((D.int (D.fld s 1)) < 1) || decide (4 < (D.int (D.fld s 1))) || (s.fld 4).bool && !(decide ((D.int (D.fld s 1)) = 3)) || (s.fld 5).bool && !(decide ((D.int (D.fld s 1)) = 2)) || (s.fld 6).bool && !(decide ((D.int (D.fld s 1)) = 4))
def schI (s : D) : Int := if predB ((D.str (D.fld s 0))) = false then 40 else if schBad s = true then 43 else 0
def fitsI (s w : D) : Int := if schI s ≠ 0 then schI s else if mayT ((D.fld w 1)) ≠ 0 then mayT ((D.fld w 1)) else if (D.str (D.fld ((D.fld w 1)) 1)) ≠ (D.str (D.fld s 0)) then 2 else if (D.int (D.fld ((D.fld ((D.fld w 1)) 2)) 0)) ≠ (D.int (D.fld s 1)) then 42 else 0
def firstC : Con := ⟨[.d false (.l (.i .i64))], fun ds => (fun (a : D) => [a.list.length < 4611686018427387904]) (nthD ds 0), [.d (.i .i64)], fun ds => (fun (a : D) => [.i (firstNZ a.list)]) (nthD ds 0), fun ds => []⟩
def firstC_an : Anns := fun f i => match f, i with
  | 59, 3 => some fun A st => match A.get 6 with
    | some (.dl _ _ xs) => ⟨Nat, fun k => [(8, .v (.int .i64 k))], fun _ => [], fun k => k ≤ xs.length ∧ firstNZ xs = firstNZ (xs.drop k), fun k => xs.length - k⟩
    | _ => LAnn.bad
  | _, _ => none
theorem firstC_vc (a : D) : (∃ (g : Nat), EqI 0 (↑g : Int) ∧ (g ≤ a.list.length ∧ firstNZ a.list = firstNZ (List.drop g a.list)) ∧ ∀ (g : Nat), g ≤ a.list.length ∧ firstNZ a.list = firstNZ (List.drop g a.list) → bif decide ((↑g : Int) < (↑a.list.length : Int)) then Idx (↑g : Int) a.list.length ∧ bif !decide ((nthD a.list g).int = 0) then (nthD a.list g).int = firstNZ a.list else I64 ((↑g : Int) + 1) ∧ ∃ (g_1 : Nat), (↑g : Int) + 1 = (↑g_1 : Int) ∧ (g_1 ≤ a.list.length ∧ firstNZ a.list = firstNZ (List.drop g_1 a.list)) ∧ a.list.length - g_1 < a.list.length - g else EqI 0 (firstNZ a.list)) = conGoal Tryz.prog noS firstC_an 200 33 firstC [a] := by kernel_rfl
theorem firstC_ok : ConOK Tryz.prog gl 33 firstC := con_of mo (noS_ok _) (an := firstC_an) 200 fun ds hl hp => by
  obtain ⟨a, rfl⟩ := len1 hl
  rw [← firstC_vc]
  have p0 : a.list.length < 4611686018427387904 := hp _ (.head _)
  refine ⟨0, rfl, ⟨Nat.zero_le _, by simp⟩, fun g ⟨h1, h2⟩ => cond_of (fun c => ?_) (fun c => ?_)⟩
  · simp only [decide_eq_true_eq] at c
    have c' : g < a.list.length := by omega
    refine ⟨⟨by omega, by omega⟩, cond_of (fun e => ?_) (fun e => ?_)⟩
    · have e : ¬ (nthD a.list g).int = 0 := by simpa using e
      rw [h2, firstNZ_drop c', if_neg e]
    · have e : (nthD a.list g).int = 0 := by simpa using e
      exact ⟨⟨by omega, by omega⟩, g + 1, by omega, ⟨by omega, by rw [h2, firstNZ_drop c', if_pos e]⟩, by omega⟩
  · simp only [decide_eq_false_iff_not] at c
    have c' : g = a.list.length := by omega
    rw [h2, c', List.drop_length]; rfl
def rmayTC : Con := ⟨[.d true triT], fun ds => (fun (a : D) => [((D.str (D.fld a 1))).size ≤ 9223372036854775807]) (nthD ds 0), [.d (.i .i64)], fun ds => (fun (a : D) => [.i (mayT a)]) (nthD ds 0), fun ds => []⟩
def rmayTC_an : Anns := fun _ _ => none
theorem rmayTC_vc (a : D) : (bif decide ((a.fld 0).int = 0) then EqI 41 (mayT a) else ((D.fld a 1)).str.size ≤ 9223372036854775807 ∧ bif !predB ((D.fld a 1)).str then EqI 40 (mayT a) else bif !mayV (D.fld a 2) then EqI 30 (mayT a) else EqI 0 (mayT a)) = conGoal Tryz.prog (addS 37 rmayVC (addS 38 rpredC noS)) rmayTC_an 200 20 rmayTC [a] := by kernel_rfl
theorem rmayTC_ok : ConOK Tryz.prog gl 20 rmayTC := con_of mo (addS_ok rmayVC_ok (addS_ok rpredC_ok (noS_ok _))) (an := rmayTC_an) 200 fun ds hl hp => by
  obtain ⟨a, rfl⟩ := len1 hl
  rw [← rmayTC_vc]
  have p0 : ((D.str (D.fld a 1))).size ≤ 9223372036854775807 := hp _ (.head _)
  grind [mayT]
def mayTC : Con := ⟨[.d true triT], fun ds => (fun (a : D) => [((D.str (D.fld a 1))).size ≤ 9223372036854775807, 0 ≤ (D.int (D.fld ((D.fld a 2)) 4))]) (nthD ds 0), [.d (.i .i64)], fun ds => (fun (a : D) => [.i (mayT a)]) (nthD ds 0), fun ds => []⟩
def mayTC_an : Anns := fun _ _ => none
theorem mayTC_vc (a : D) : (bif decide ((a.fld 0).int = 0) then EqI 41 (mayT a) else ((D.fld a 1)).str = ((D.fld a 1)).str ∧ ((D.fld a 1)).str.size ≤ 9223372036854775807 ∧ (((D.fld a 2)).fld 0).int = (((D.fld a 2)).fld 0).int ∧ ((D.fld (D.fld a 2) 1)).bool = ((D.fld (D.fld a 2) 1)).bool ∧ ((D.fld (D.fld a 2) 2)).int = ((D.fld (D.fld a 2) 2)).int ∧ (((D.fld a 2)).fld 3).str = (((D.fld a 2)).fld 3).str ∧ (((D.fld a 2)).fld 4).int = (((D.fld a 2)).fld 4).int ∧ 0 ≤ (((D.fld a 2)).fld 4).int ∧ [D.i (condI (predB ((D.fld a 1)).str) 0 40), D.i (condI (mayV (D.fld a 2)) 0 30)].length < 4611686018427387904 ∧ firstNZ [D.i (condI (predB ((D.fld a 1)).str) 0 40), D.i (condI (mayV (D.fld a 2)) 0 30)] = mayT a) = conGoal Tryz.prog (addS 33 firstC (addS 32 mayVC (addS 28 predCon noS))) mayTC_an 200 16 mayTC [a] := by kernel_rfl
theorem mayTC_ok : ConOK Tryz.prog gl 16 mayTC := con_of mo (addS_ok firstC_ok (addS_ok mayVC_ok (addS_ok predCon_ok (noS_ok _)))) (an := mayTC_an) 200 fun ds hl hp => by
  obtain ⟨a, rfl⟩ := len1 hl
  rw [← mayTC_vc]
  have p0 : ((D.str (D.fld a 1))).size ≤ 9223372036854775807 := hp _ (.head _)
  have p1 : 0 ≤ (D.int (D.fld ((D.fld a 2)) 4)) := hp _ (.tail _ (.head _))
  simp only [condI, firstNZ, int_i, Bool.cond_eq_ite]; grind [mayT]
end Go.Proofs.YtbbjonjhaoeidaaGreatDoor.XT
