/- Contracts, by the symbolic evaluator. -/
import Derived.Test.YtnhfkdgambncfaaGreatDoorQT1
import Derived.Test.YtnhfkdgambncfaaGreatDoorProg
set_option linter.unusedVariables false
set_option linter.unusedSimpArgs false
set_option linter.unusedSectionVars false
namespace Go.Proofs.YtnhfkdgambncfaaGreatDoor.XT
open Go Go.RowKit Go.Proofs.YtnhfkdgambncfaaGreatDoor.Sv
set_option maxRecDepth 100000
def firstNZ : List D → Int
  | [] => 0
  | d :: r => if d.int = 0 then firstNZ r else d.int
theorem firstNZ_drop {xs : List D} {k : Nat} (h : k < xs.length) : firstNZ (xs.drop k) = if (nthD xs k).int = 0 then firstNZ (xs.drop (k + 1)) else (nthD xs k).int := by
  rw [List.drop_eq_getElem_cons h, firstNZ]
  have : xs[k] = nthD xs k := by
    have := get_nthD h
    rw [List.getElem?_eq_getElem h] at this
    exact Option.some.inj this
  rw [this]
def mayT (t : D) : Int := if (D.int (D.fld t 0)) = 0 then 41 else if predB ((D.str (D.fld t 1))) = false then 40 else if mayV ((D.fld t 2)) = false then 30 else 0
def schBad (s : D) : Bool := decide ((D.int (D.fld s 1)) < 1) || decide (4 < (D.int (D.fld s 1))) || (s.fld 4).bool && !(decide ((D.int (D.fld s 1)) = 3)) || (s.fld 5).bool && !(decide ((D.int (D.fld s 1)) = 2)) || (s.fld 6).bool && !(decide ((D.int (D.fld s 1)) = 4))
def schI (s : D) : Int := if predB ((D.str (D.fld s 0))) = false then 40 else if schBad s = true then 43 else 0
def fitsI (s w : D) : Int := if schI s ≠ 0 then schI s else if mayT ((D.fld w 1)) ≠ 0 then mayT ((D.fld w 1)) else if (D.str (D.fld ((D.fld w 1)) 1)) ≠ (D.str (D.fld s 0)) then 2 else if (D.int (D.fld ((D.fld ((D.fld w 1)) 2)) 0)) ≠ (D.int (D.fld s 1)) then 42 else 0
def firstC : Con := ⟨[.d false (.l (.i .i64))], fun ds => (fun (a : D) => [a.list.length < 4611686018427387904]) (nthD ds 0), [.d (.i .i64)], fun ds => (fun (a : D) => [.i (firstNZ a.list)]) (nthD ds 0), fun ds => []⟩
def firstC_an : Anns := fun f i => match f, i with
  | 57, 3 => some fun A st => match A.get 6 with
    | some (.dl _ _ xs) => ⟨Nat, fun k => [(8, .v (.int .i64 k))], fun _ => [], fun k => k ≤ xs.length ∧ firstNZ xs = firstNZ (xs.drop k), fun k => xs.length - k⟩
    | _ => LAnn.bad
  | _, _ => none
theorem firstC_vc (a : D) : (∃ (g : Nat), EqI 0 (↑g : Int) ∧ (g ≤ a.list.length ∧ firstNZ a.list = firstNZ (List.drop g a.list)) ∧ ∀ (g : Nat), g ≤ a.list.length ∧ firstNZ a.list = firstNZ (List.drop g a.list) → bif decide ((↑g : Int) < (↑a.list.length : Int)) then Idx (↑g : Int) a.list.length ∧ bif !decide ((nthD a.list g).int = 0) then (nthD a.list g).int = firstNZ a.list else I64 ((↑g : Int) + 1) ∧ ∃ (g_1 : Nat), (↑g : Int) + 1 = (↑g_1 : Int) ∧ (g_1 ≤ a.list.length ∧ firstNZ a.list = firstNZ (List.drop g_1 a.list)) ∧ a.list.length - g_1 < a.list.length - g else EqI 0 (firstNZ a.list)) = conGoal Tryz.prog noS firstC_an 200 36 firstC [a] := by kernel_rfl
theorem firstC_ok : ConOK Tryz.prog gl 36 firstC := con_of mo (noS_ok _) (an := firstC_an) 200 fun ds hl hp => by
  obtain ⟨a, rfl⟩ := len1 hl
  rw [← firstC_vc]
  have p0 : a.list.length < 4611686018427387904 := hp _ (.head _)
  refine ⟨0, rfl, ⟨Nat.zero_le _, by simp⟩, fun g ⟨h1, h2⟩ => cond_of (fun c => ?_) (fun c => ?_)⟩
  · simp only [decide_eq_true_eq] at c
    have c' : g < a.list.length := by omega
    refine ⟨⟨by omega, by omega⟩, cond_of (fun e => ?_) (fun e => ?_)⟩
    · have e : ¬ (nthD a.list g).int = 0 := by simpa using e
      rw [h2, firstNZ_drop c', if_neg e]
    · have e : (nthD a.list g).int = 0 := by simpa using e
      exact ⟨⟨by omega, by omega⟩, g + 1, by omega, ⟨by omega, by rw [h2, firstNZ_drop c', if_pos e]⟩, by omega⟩
  · simp only [decide_eq_false_iff_not] at c
    have c' : g = a.list.length := by omega
    rw [h2, c', List.drop_length]; rfl
def rmayTC : Con := ⟨[.d true triT], fun ds => (fun (a : D) => [((D.str (D.fld a 1))).size ≤ 9223372036854775807]) (nthD ds 0), [.d (.i .i64)], fun ds => (fun (a : D) => [.i (mayT a)]) (nthD ds 0), fun ds => []⟩
def rmayTC_an : Anns := fun _ _ => none
theorem rmayTC_vc (a : D) : (bif decide ((a.fld 0).int = 0) then EqI 41 (mayT a) else ((D.fld a 1)).str.size ≤ 9223372036854775807 ∧ bif !predB ((D.fld a 1)).str then EqI 40 (mayT a) else bif !mayV (D.fld a 2) then EqI 30 (mayT a) else EqI 0 (mayT a)) = conGoal Tryz.prog (addS 45 rmayVC (addS 44 rpredC noS)) rmayTC_an 200 23 rmayTC [a] := by kernel_rfl
theorem rmayTC_ok : ConOK Tryz.prog gl 23 rmayTC := con_of mo (addS_ok rmayVC_ok (addS_ok rpredC_ok (noS_ok _))) (an := rmayTC_an) 200 fun ds hl hp => by
  obtain ⟨a, rfl⟩ := len1 hl
  rw [← rmayTC_vc]
  have p0 : ((D.str (D.fld a 1))).size ≤ 9223372036854775807 := hp _ (.head _)
  grind [mayT]
def mayTC : Con := ⟨[.d true triT], fun ds => (fun (a : D) => [((D.str (D.fld a 1))).size ≤ 9223372036854775807, 0 ≤ (D.int (D.fld ((D.fld a 2)) 4))]) (nthD ds 0), [.d (.i .i64)], fun ds => (fun (a : D) => [.i (mayT a)]) (nthD ds 0), fun ds => []⟩
def mayTC_an : Anns := fun _ _ => none
theorem mayTC_vc (a : D) : (bif decide ((a.fld 0).int = 0) then EqI 41 (mayT a) else ((D.fld a 1)).str = ((D.fld a 1)).str ∧ ((D.fld a 1)).str.size ≤ 9223372036854775807 ∧ (((D.fld a 2)).fld 0).int = (((D.fld a 2)).fld 0).int ∧ ((D.fld (D.fld a 2) 1)).bool = ((D.fld (D.fld a 2) 1)).bool ∧ ((D.fld (D.fld a 2) 2)).int = ((D.fld (D.fld a 2) 2)).int ∧ (((D.fld a 2)).fld 3).str = (((D.fld a 2)).fld 3).str ∧ (((D.fld a 2)).fld 4).int = (((D.fld a 2)).fld 4).int ∧ 0 ≤ (((D.fld a 2)).fld 4).int ∧ [D.i (condI (predB ((D.fld a 1)).str) 0 40), D.i (condI (mayV (D.fld a 2)) 0 30)].length < 4611686018427387904 ∧ firstNZ [D.i (condI (predB ((D.fld a 1)).str) 0 40), D.i (condI (mayV (D.fld a 2)) 0 30)] = mayT a) = conGoal Tryz.prog (addS 36 firstC (addS 37 mayVC (addS 14 predCon noS))) mayTC_an 200 16 mayTC [a] := by kernel_rfl
theorem mayTC_ok : ConOK Tryz.prog gl 16 mayTC := con_of mo (addS_ok firstC_ok (addS_ok mayVC_ok (addS_ok predCon_ok (noS_ok _)))) (an := mayTC_an) 200 fun ds hl hp => by
  obtain ⟨a, rfl⟩ := len1 hl
  rw [← mayTC_vc]
  have p0 : ((D.str (D.fld a 1))).size ≤ 9223372036854775807 := hp _ (.head _)
  have p1 : 0 ≤ (D.int (D.fld ((D.fld a 2)) 4)) := hp _ (.tail _ (.head _))
  simp only [condI, firstNZ, int_i, Bool.cond_eq_ite]; grind [mayT]
def rschC : Con := ⟨[.d true schT], fun ds => (fun (a : D) => [((D.str (D.fld a 0))).size ≤ 9223372036854775807]) (nthD ds 0), [.d (.i .i64)], fun ds => (fun (a : D) => [.i (schI a)]) (nthD ds 0), fun ds => []⟩
def rschC_an : Anns := fun _ _ => none
theorem rschC_vc (a : D) : ((a.fld 0).str.size ≤ 9223372036854775807 ∧ bif !predB (a.fld 0).str then EqI 40 (schI a) else bif decide (((D.fld a 1)).int < 1) || decide (4 < ((D.fld a 1)).int) || (a.fld 4).bool && !decide (((D.fld a 1)).int = 3) || (a.fld 5).bool && !decide (((D.fld a 1)).int = 2) || (a.fld 6).bool && !decide (((D.fld a 1)).int = 4) then EqI 43 (schI a) else EqI 0 (schI a)) = conGoal Tryz.prog (addS 44 rpredC noS) rschC_an 200 43 rschC [a] := by kernel_rfl
theorem rschC_ok : ConOK Tryz.prog gl 43 rschC := con_of mo (addS_ok rpredC_ok (noS_ok _)) (an := rschC_an) 200 fun ds hl hp => by
  obtain ⟨a, rfl⟩ := len1 hl
  rw [← rschC_vc]
  have p0 : ((D.str (D.fld a 0))).size ≤ 9223372036854775807 := hp _ (.head _)
  grind [schI, schBad]
def schC : Con := ⟨[.d true schT], fun ds => (fun (a : D) => [((D.str (D.fld a 0))).size ≤ 9223372036854775807]) (nthD ds 0), [.d (.i .i64)], fun ds => (fun (a : D) => [.i (schI a)]) (nthD ds 0), fun ds => []⟩
def schC_an : Anns := fun _ _ => none
theorem schC_vc (a : D) : ((a.fld 0).str.size ≤ 9223372036854775807 ∧ bif !decide (condI (predB (a.fld 0).str) 0 40 = 0) then condI (predB (a.fld 0).str) 0 40 = schI a else bif decide (((D.fld a 1)).int < 1) || decide (4 < ((D.fld a 1)).int) || (a.fld 4).bool && !decide (((D.fld a 1)).int = 3) || (a.fld 5).bool && !decide (((D.fld a 1)).int = 2) || (a.fld 6).bool && !decide (((D.fld a 1)).int = 4) then EqI 43 (schI a) else EqI 0 (schI a)) = conGoal Tryz.prog (addS 14 predCon noS) schC_an 200 15 schC [a] := by kernel_rfl
theorem schC_ok : ConOK Tryz.prog gl 15 schC := con_of mo (addS_ok predCon_ok (noS_ok _)) (an := schC_an) 200 fun ds hl hp => by
  obtain ⟨a, rfl⟩ := len1 hl
  rw [← schC_vc]
  have p0 : ((D.str (D.fld a 0))).size ≤ 9223372036854775807 := hp _ (.head _)
  grind [schI, schBad]
def fitsC : Con := ⟨[.d true schT, .d true wrT], fun ds => (fun (a : D) (b : D) => [((D.str (D.fld a 0))).size ≤ 9223372036854775807, ((D.str (D.fld ((D.fld b 1)) 1))).size ≤ 9223372036854775807, 0 ≤ (D.int (D.fld ((D.fld ((D.fld b 1)) 2)) 4))]) (nthD ds 0) (nthD ds 1), [.d (.i .i64)], fun ds => (fun (a : D) (b : D) => [.i (fitsI a b)]) (nthD ds 0) (nthD ds 1), fun ds => []⟩
def fitsC_an : Anns := fun _ _ => none
theorem fitsC_vc (a b : D) : ((a.fld 0).str = (a.fld 0).str ∧ ((D.fld a 1)).int = ((D.fld a 1)).int ∧ ((D.fld a 2)).bool = ((D.fld a 2)).bool ∧ (a.fld 3).bool = (a.fld 3).bool ∧ (a.fld 4).bool = (a.fld 4).bool ∧ (a.fld 5).bool = (a.fld 5).bool ∧ (a.fld 6).bool = (a.fld 6).bool ∧ (a.fld 7).bool = (a.fld 7).bool ∧ (a.fld 0).str.size ≤ 9223372036854775807 ∧ (((D.fld b 1)).fld 0).int = (((D.fld b 1)).fld 0).int ∧ ((D.fld (D.fld b 1) 1)).str = ((D.fld (D.fld b 1) 1)).str ∧ (((D.fld (D.fld b 1) 2)).fld 0).int = (((D.fld (D.fld b 1) 2)).fld 0).int ∧ ((D.fld (D.fld (D.fld b 1) 2) 1)).bool = ((D.fld (D.fld (D.fld b 1) 2) 1)).bool ∧ ((D.fld (D.fld (D.fld b 1) 2) 2)).int = ((D.fld (D.fld (D.fld b 1) 2) 2)).int ∧ (((D.fld (D.fld b 1) 2)).fld 3).str = (((D.fld (D.fld b 1) 2)).fld 3).str ∧ (((D.fld (D.fld b 1) 2)).fld 4).int = (((D.fld (D.fld b 1) 2)).fld 4).int ∧ ((D.fld (D.fld b 1) 1)).str.size ≤ 9223372036854775807 ∧ 0 ≤ (((D.fld (D.fld b 1) 2)).fld 4).int ∧ [D.i (schI a), D.i (mayT (D.fld b 1))].length < 4611686018427387904 ∧ bif !decide (firstNZ [D.i (schI a), D.i (mayT (D.fld b 1))] = 0) then firstNZ [D.i (schI a), D.i (mayT (D.fld b 1))] = fitsI a b else bif !decide (((D.fld (D.fld b 1) 1)).str = (a.fld 0).str) then EqI 2 (fitsI a b) else bif !decide ((((D.fld (D.fld b 1) 2)).fld 0).int = ((D.fld a 1)).int) then EqI 42 (fitsI a b) else EqI 0 (fitsI a b)) = conGoal Tryz.prog (addS 36 firstC (addS 16 mayTC (addS 15 schC noS))) fitsC_an 200 17 fitsC [a, b] := by kernel_rfl
theorem fitsC_ok : ConOK Tryz.prog gl 17 fitsC := con_of mo (addS_ok firstC_ok (addS_ok mayTC_ok (addS_ok schC_ok (noS_ok _)))) (an := fitsC_an) 200 fun ds hl hp => by
  obtain ⟨a, b, rfl⟩ := len2 hl
  rw [← fitsC_vc]
  have p0 : ((D.str (D.fld a 0))).size ≤ 9223372036854775807 := hp _ (.head _)
  have p1 : ((D.str (D.fld ((D.fld b 1)) 1))).size ≤ 9223372036854775807 := hp _ (.tail _ (.head _))
  have p2 : 0 ≤ (D.int (D.fld ((D.fld ((D.fld b 1)) 2)) 4)) := hp _ (.tail _ (.tail _ (.head _)))
  simp only [condI, firstNZ, int_i, Bool.cond_eq_ite]; grind [fitsI]
end Go.Proofs.YtnhfkdgambncfaaGreatDoor.XT
