/- Contracts, by the symbolic evaluator. -/
import Derived.Test.YtnhfkdgambncfaaGreatDoorQT8
import Derived.Test.YtnhfkdgambncfaaGreatDoorProg
import Derived.Test.YtnhfkdgambncfaaGreatDoorQTOH
set_option linter.unusedVariables false
set_option linter.unusedSimpArgs false
set_option linter.unusedSectionVars false
namespace Go.Proofs.YtnhfkdgambncfaaGreatDoor.XT
open Go Go.RowKit Go.Proofs.YtnhfkdgambncfaaGreatDoor.Sv
set_option maxRecDepth 100000
def inS (l : List D) (s : ByteArray) : Bool := (List.range l.length).any fun j => decide (s = (nthD l j).str)
def clB (a b : List D) : Bool := (List.range a.length).any fun i => inS b (nthD a i).str
theorem range_any {n : Nat} {f : Nat → Bool} {k : Nat} (hk : k < n) (h : f k = true) : (List.range n).any f = true := List.any_eq_true.2 ⟨k, List.mem_range.2 hk, h⟩
theorem range_none {n : Nat} {f : Nat → Bool} (h : ∀ j, j < n → f j = false) : (List.range n).any f = false := List.any_eq_false.2 fun j hj => by rw [h j (List.mem_range.1 hj)]; exact Bool.false_ne_true
def contC : Con := ⟨[.d false (.l .s), .d true .s], fun ds => (fun (a : D) (b : D) => [a.list.length < 4611686018427387904]) (nthD ds 0) (nthD ds 1), [.d .b], fun ds => (fun (a : D) (b : D) => [.b (inS a.list b.str)]) (nthD ds 0) (nthD ds 1), fun ds => []⟩
def contC_an : Anns := fun f i => match f, i with
  | 49, 2 => some fun A st => match A.get 0, A.get 1 with
    | some (.dl _ _ xs), some (.v (.string s)) => ⟨Nat, fun k => [(8, .v (.int .i64 k))], fun _ => [], fun k => k ≤ xs.length ∧ ∀ j, j < k → decide (s = (nthD xs j).str) = false, fun k => xs.length - k⟩
    | _, _ => LAnn.bad
  | _, _ => none
theorem contC_vc (a b : D) : (∃ (g : Nat), EqI 0 (↑g : Int) ∧ (g ≤ a.list.length ∧ ∀ (j : Nat), j < g → decide (b.str = (nthD a.list j).str) = false) ∧ ∀ (g : Nat), (g ≤ a.list.length ∧ ∀ (j : Nat), j < g → decide (b.str = (nthD a.list j).str) = false) → bif decide ((↑g : Int) < (↑a.list.length : Int)) then Idx (↑g : Int) a.list.length ∧ bif decide (b.str = (nthD a.list g).str) then decide (0 ≤ (↑g : Int)) = inS a.list b.str else I64 ((↑g : Int) + 1) ∧ ∃ (g_1 : Nat), (↑g : Int) + 1 = (↑g_1 : Int) ∧ (g_1 ≤ a.list.length ∧ ∀ (j : Nat), j < g_1 → decide (b.str = (nthD a.list j).str) = false) ∧ a.list.length - g_1 < a.list.length - g else decide (LeI 0 (-1)) = inS a.list b.str) = conGoal Tryz.prog noS contC_an 200 31 contC [a, b] := by kernel_rfl
theorem contC_ok : ConOK Tryz.prog gl 31 contC := con_of mo (noS_ok _) (an := contC_an) 200 fun ds hl hp => by
  obtain ⟨a, b, rfl⟩ := len2 hl
  rw [← contC_vc]
  have p0 : a.list.length < 4611686018427387904 := hp _ (.head _)
  refine ⟨0, rfl, ⟨Nat.zero_le _, fun j hj => by omega⟩, fun g ⟨h1, h2⟩ => cond_of (fun c => ?_) (fun c => ?_)⟩
  · simp only [decide_eq_true_eq] at c
    have c' : g < a.list.length := by omega
    refine ⟨⟨by omega, by omega⟩, cond_of (fun e => ?_) (fun e => ?_)⟩
    · have : inS a.list b.str = true := range_any c' e
      rw [this]; simp
    · exact ⟨⟨by omega, by omega⟩, g + 1, by omega, ⟨by omega, fun j hj => by
        rcases Nat.lt_or_ge j g with q | q
        · exact h2 j q
        · obtain rfl : j = g := by omega
          exact e⟩, by omega⟩
  · simp only [decide_eq_false_iff_not] at c
    have : inS a.list b.str = false := range_none fun j hj => h2 j (by omega)
    rw [this]; rfl
def clashC : Con := ⟨[.d false (.l .s), .d false (.l .s)], fun ds => (fun (a : D) (b : D) => [a.list.length < 4611686018427387904, b.list.length < 4611686018427387904]) (nthD ds 0) (nthD ds 1), [.d .b], fun ds => (fun (a : D) (b : D) => [.b (clB a.list b.list)]) (nthD ds 0) (nthD ds 1), fun ds => []⟩
def clashC_an : Anns := fun f i => match f, i with
  | 48, 2 => some fun A st => match A.get 0, A.get 1 with
    | some (.dl _ _ xs), some (.fn _ [.ptr l 0]) => match st.h.get l with
      | some (.c _ [.dl _ _ ys]) => ⟨Nat, fun k => [(8, .v (.int .i64 k))], fun _ => [], fun k => k ≤ xs.length ∧ ∀ j, j < k → inS ys (nthD xs j).str = false, fun k => xs.length - k⟩
      | _ => LAnn.bad
    | _, _ => LAnn.bad
  | _, _ => none
theorem clashC_vc (a b : D) : (∃ (g : Nat), EqI 0 (↑g : Int) ∧ (g ≤ a.list.length ∧ ∀ (j : Nat), j < g → inS b.list (nthD a.list j).str = false) ∧ ∀ (g : Nat), (g ≤ a.list.length ∧ ∀ (j : Nat), j < g → inS b.list (nthD a.list j).str = false) → bif decide ((↑g : Int) < (↑a.list.length : Int)) then Idx (↑g : Int) a.list.length ∧ b.list.length < 4611686018427387904 ∧ bif inS b.list (nthD a.list g).str then decide (0 ≤ (↑g : Int)) = clB a.list b.list else I64 ((↑g : Int) + 1) ∧ ∃ (g_1 : Nat), (↑g : Int) + 1 = (↑g_1 : Int) ∧ (g_1 ≤ a.list.length ∧ ∀ (j : Nat), j < g_1 → inS b.list (nthD a.list j).str = false) ∧ a.list.length - g_1 < a.list.length - g else decide (LeI 0 (-1)) = clB a.list b.list) = conGoal Tryz.prog (addS 31 contC noS) clashC_an 200 10 clashC [a, b] := by kernel_rfl
theorem clashC_ok : ConOK Tryz.prog gl 10 clashC := con_of mo (addS_ok contC_ok (noS_ok _)) (an := clashC_an) 200 fun ds hl hp => by
  obtain ⟨a, b, rfl⟩ := len2 hl
  rw [← clashC_vc]
  have p0 : a.list.length < 4611686018427387904 := hp _ (.head _)
  have p1 : b.list.length < 4611686018427387904 := hp _ (.tail _ (.head _))
  refine ⟨0, rfl, ⟨Nat.zero_le _, fun j hj => by omega⟩, fun g ⟨h1, h2⟩ => cond_of (fun c => ?_) (fun c => ?_)⟩
  · simp only [decide_eq_true_eq] at c
    have c' : g < a.list.length := by omega
    refine ⟨⟨by omega, by omega⟩, p1, cond_of (fun e => ?_) (fun e => ?_)⟩
    · have : clB a.list b.list = true := range_any c' e
      rw [this]; simp
    · exact ⟨⟨by omega, by omega⟩, g + 1, by omega, ⟨by omega, fun j hj => by
        rcases Nat.lt_or_ge j g with q | q
        · exact h2 j q
        · obtain rfl : j = g := by omega
          exact e⟩, by omega⟩
  · simp only [decide_eq_false_iff_not] at c
    have : clB a.list b.list = false := range_none fun j hj => h2 j (by omega)
    rw [this]; rfl
end Go.Proofs.YtnhfkdgambncfaaGreatDoor.XT
