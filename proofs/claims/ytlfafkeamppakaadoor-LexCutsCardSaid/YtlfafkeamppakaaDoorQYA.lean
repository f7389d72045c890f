/- Contracts, by the symbolic evaluator. -/
import Derived.Test.YtlfafkeamppakaaDoorQY8
import Derived.Test.YtlfafkeamppakaaDoorProg
set_option linter.unusedVariables false
set_option linter.unusedSimpArgs false
namespace Go.Proofs.YtlfafkeamppakaaDoor.XT
open Go Go.RowKit Go.Proofs.YtlfafkeamppakaaDoor.Sv
set_option maxRecDepth 100000
theorem hx_vals {c : Int} (h : hxC c = true) : c = 48 ∨ c = 49 ∨ c = 50 ∨ c = 51 ∨ c = 52 ∨ c = 53 ∨ c = 54 ∨ c = 55 ∨ c = 56 ∨ c = 57 ∨ c = 97 ∨ c = 98 ∨ c = 99 ∨ c = 100 ∨ c = 101 ∨ c = 102 := by
  simp only [hxC, dgC, Bool.or_eq_true, Bool.and_eq_true, decide_eq_true_eq] at h
  omega
theorem hx_pos (c : Int) : (0 ≤ if hxC c = true then hxV' c else -1) ↔ hxC c = true := by
  by_cases h : hxC c = true
  · rw [if_pos h]
    refine ⟨fun _ => h, fun _ => ?_⟩
    rcases hx_vals h with rfl | rfl | rfl | rfl | rfl | rfl | rfl | rfl | rfl | rfl | rfl | rfl | rfl | rfl | rfl | rfl <;> decide
  · rw [if_neg h]
    exact ⟨fun h => absurd h (by decide), fun h' => absurd h' h⟩
theorem hx_neg (c : Int) : ((if hxC c = true then hxV' c else -1) < 0) ↔ hxC c = false := by
  have := hx_pos c
  cases h : hxC c
  · simp
  · rw [h] at this; simp only [true_iff, iff_true] at this
    simp only [if_true] at this ⊢
    constructor
    · intro h; omega
    · intro h; cases h
def rfdC : Con := ⟨[.d true (.i .u8)], fun ds => [], [.d .b], fun ds => (fun (a : D) => [.b (dgC a.int)]) (nthD ds 0), fun ds => []⟩
def rfdC_an : Anns := fun _ _ => none
theorem rfdC_vc (a : D) : ((decide (48 ≤ a.int) && decide (a.int ≤ 57)) = dgC a.int) = conGoal Tryd.prog noS rfdC_an 200 42 rfdC [a] := by kernel_rfl
theorem rfdC_ok : ConOK Tryd.prog gl 42 rfdC := con_of mo (noS_ok _) (an := rfdC_an) 200 fun ds hl hp => by
  obtain ⟨a, rfl⟩ := len1 hl
  rw [← rfdC_vc]
  rfl
def rfpC : Con := ⟨[.d true (.i .u8)], fun ds => [], [.d .b], fun ds => (fun (a : D) => [.b (ptC a.int)]) (nthD ds 0), fun ds => []⟩
def rfpC_an : Anns := fun _ _ => none
theorem rfpC_vc (a : D) : ((decide (97 ≤ a.int) && decide (a.int ≤ 122) || decide (65 ≤ a.int) && decide (a.int ≤ 90) || dgC a.int || decide (a.int = 95) || decide (a.int = 46)) = ptC a.int) = conGoal Tryd.prog (addS 42 rfdC noS) rfpC_an 200 55 rfpC [a] := by kernel_rfl
theorem rfpC_ok : ConOK Tryd.prog gl 55 rfpC := con_of mo (addS_ok rfdC_ok (noS_ok _)) (an := rfpC_an) 200 fun ds hl hp => by
  obtain ⟨a, rfl⟩ := len1 hl
  rw [← rfpC_vc]
  unfold ptC bgC
  ac_rfl
def rfhC : Con := ⟨[.d true (.i .u8)], fun ds => [], [.d (.i .i64)], fun ds => (fun (a : D) => [.i (if hxC a.int = true then hxV' a.int else -1)]) (nthD ds 0), fun ds => []⟩
def rfhC_an : Anns := fun _ _ => none
theorem rfhC_vc (a : D) : (bif dgC a.int then IntKind.i64.wrap (IntKind.u8.wrap (a.int - 48)) = if hxC a.int = true then hxV' a.int else -1 else bif decide (97 ≤ a.int) && decide (a.int ≤ 102) then I64 (IntKind.i64.wrap (IntKind.u8.wrap (a.int - 97)) + 10) ∧ IntKind.i64.wrap (IntKind.u8.wrap (a.int - 97)) + 10 = if hxC a.int = true then hxV' a.int else -1 else EqI (-1) (if hxC a.int = true then hxV' a.int else -1)) = conGoal Tryd.prog (addS 42 rfdC noS) rfhC_an 200 56 rfhC [a] := by kernel_rfl
theorem rfhC_ok : ConOK Tryd.prog gl 56 rfhC := con_of mo (addS_ok rfdC_ok (noS_ok _)) (an := rfhC_an) 200 fun ds hl hp => by
  obtain ⟨a, rfl⟩ := len1 hl
  rw [← rfhC_vc]
  refine cond_of (fun c => ?_) (fun c => cond_of (fun d => ?_) (fun d => ?_))
  · have h : hxC a.int = true := by rw [hxC, c]; rfl
    rw [if_pos h]
    have c := dgC_iff.1 c
    generalize a.int = x at *
    rcases hx_vals h with rfl | rfl | rfl | rfl | rfl | rfl | rfl | rfl | rfl | rfl | rfl | rfl | rfl | rfl | rfl | rfl <;> first | rfl | (exfalso; omega)
  · have h : hxC a.int = true := by rw [hxC, c, Bool.false_or]; exact d
    rw [if_pos h]
    simp only [Bool.and_eq_true, decide_eq_true_eq] at d
    generalize a.int = x at *
    rcases hx_vals h with rfl | rfl | rfl | rfl | rfl | rfl | rfl | rfl | rfl | rfl | rfl | rfl | rfl | rfl | rfl | rfl <;> first | exact ⟨by decide, rfl⟩ | (exfalso; omega)
  · have h : hxC a.int = false := by rw [hxC, c, Bool.false_or]; exact d
    rw [h]; rfl
def rfbC : Con := ⟨[.d true .s, .d true (.i .i64)], fun ds => (fun (a : D) (b : D) => [0 ≤ b.int, b.int ≤ a.str.size, a.str.size ≤ 1099511627776]) (nthD ds 0) (nthD ds 1), [.d (.i .i64), .d .b], fun ds => (fun (a : D) (b : D) => [.i b.int, .b (aloL ((bys a.str).drop b.int.toNat))]) (nthD ds 0) (nthD ds 1), fun ds => []⟩
def rfbC_an : Anns := fun _ _ => none
theorem rfbC_vc (a b : D) : ((decide (b.int = (↑a.str.size : Int)) = false → Idx b.int a.str.size) ∧ b.int = b.int ∧ (decide (b.int = (↑a.str.size : Int)) || !ptC (byteAt' a.str b.int.toNat)) = aloL (List.drop b.int.toNat (bys a.str))) = conGoal Tryd.prog (addS 55 rfpC noS) rfbC_an 200 57 rfbC [a, b] := by kernel_rfl
theorem rfbC_ok : ConOK Tryd.prog gl 57 rfbC := con_of mo (addS_ok rfpC_ok (noS_ok _)) (an := rfbC_an) 200 fun ds hl hp => by
  obtain ⟨a, b, rfl⟩ := len2 hl
  rw [← rfbC_vc]
  have p0 : 0 ≤ b.int := hp _ (.head _)
  have p1 : b.int ≤ a.str.size := hp _ (.tail _ (.head _))
  have p2 : a.str.size ≤ 1099511627776 := hp _ (.tail _ (.tail _ (.head _)))
  obtain ⟨p, hp⟩ := Int.eq_ofNat_of_zero_le p0
  rw [hp] at p1
  rw [hp, Int.toNat_natCast]
  refine ⟨fun c => ⟨by omega, by have := of_decide_eq_false c; omega⟩, rfl, ?_⟩
  by_cases c : p < a.str.size
  · rw [bys_drop c, decide_eq_false (by omega)]; rfl
  · rw [bys_end (by omega), decide_eq_true (by omega)]; rfl
def rfnC : Con := ⟨[.d true .s, .d true (.i .i64)], fun ds => (fun (a : D) (b : D) => [0 ≤ b.int, b.int ≤ a.str.size, a.str.size ≤ 1099511627776]) (nthD ds 0) (nthD ds 1), [.d (.i .i64), .d .b], fun ds => (fun (a : D) (b : D) => [.i (b.int + ((min (runL ptC ((bys a.str).drop b.int.toNat)) 64 : Nat) : Int)), .b (decide (runL ptC ((bys a.str).drop b.int.toNat) ≤ 64))]) (nthD ds 0) (nthD ds 1), fun ds => []⟩
def rfnC_an : Anns := fun f i => match f, i with
  | 40, 2 => some fun A st => match A.get 0, A.get 1 with
    | some (.v (.string s)), some (.v (.int _ i)) => ⟨Nat, fun g => [(6, .v (.int .i64 (i + g)))], fun _ => [], fun g => g ≤ 64 ∧ i.toNat + g ≤ s.size ∧ runL ptC ((bys s).drop i.toNat) = g + runL ptC ((bys s).drop (i.toNat + g)), fun g => s.size - (i.toNat + g)⟩
    | _, _ => LAnn.bad
  | _, _ => none
theorem rfnC_vc (a b : D) : (∃ (g : Nat), b.int = b.int + (↑g : Int) ∧ (g ≤ 64 ∧ b.int.toNat + g ≤ a.str.size ∧ runL ptC (List.drop b.int.toNat (bys a.str)) = g + runL ptC (List.drop (b.int.toNat + g) (bys a.str))) ∧ ∀ (g : Nat), g ≤ 64 ∧ b.int.toNat + g ≤ a.str.size ∧ runL ptC (List.drop b.int.toNat (bys a.str)) = g + runL ptC (List.drop (b.int.toNat + g) (bys a.str)) → (decide (b.int + (↑g : Int) < (↑a.str.size : Int)) = true → Idx (b.int + (↑g : Int)) a.str.size) ∧ bif decide (b.int + (↑g : Int) < (↑a.str.size : Int)) && ptC (byteAt' a.str (b.int + (↑g : Int)).toNat) then I64 (b.int + (↑g : Int) - b.int) ∧ bif decide (b.int + (↑g : Int) - b.int = 64) then b.int + (↑g : Int) = b.int + (↑(min (runL ptC (List.drop b.int.toNat (bys a.str))) 64) : Int) ∧ false = decide (runL ptC (List.drop b.int.toNat (bys a.str)) ≤ 64) else I64 (b.int + (↑g : Int) + 1) ∧ ∃ (g_1 : Nat), b.int + (↑g : Int) + 1 = b.int + (↑g_1 : Int) ∧ (g_1 ≤ 64 ∧ b.int.toNat + g_1 ≤ a.str.size ∧ runL ptC (List.drop b.int.toNat (bys a.str)) = g_1 + runL ptC (List.drop (b.int.toNat + g_1) (bys a.str))) ∧ a.str.size - (b.int.toNat + g_1) < a.str.size - (b.int.toNat + g) else b.int + (↑g : Int) = b.int + (↑(min (runL ptC (List.drop b.int.toNat (bys a.str))) 64) : Int) ∧ true = decide (runL ptC (List.drop b.int.toNat (bys a.str)) ≤ 64)) = conGoal Tryd.prog (addS 55 rfpC noS) rfnC_an 200 40 rfnC [a, b] := by kernel_rfl
theorem rfnC_ok : ConOK Tryd.prog gl 40 rfnC := con_of mo (addS_ok rfpC_ok (noS_ok _)) (an := rfnC_an) 200 fun ds hl hp => by
  obtain ⟨a, b, rfl⟩ := len2 hl
  rw [← rfnC_vc]
  have p0 : 0 ≤ b.int := hp _ (.head _)
  have p1 : b.int ≤ a.str.size := hp _ (.tail _ (.head _))
  have p2 : a.str.size ≤ 1099511627776 := hp _ (.tail _ (.tail _ (.head _)))
  obtain ⟨p, hp⟩ := Int.eq_ofNat_of_zero_le p0
  rw [hp] at p1
  rw [hp, Int.toNat_natCast]
  generalize a.str = s at *
  have tg : ∀ g : Nat, ((p : Int) + (g : Int)).toNat = p + g := fun g => by omega
  refine ⟨0, by omega, ⟨by omega, by omega, by simp⟩, ?_⟩
  rintro g ⟨g1, g2, g3⟩
  rw [tg g]
  refine ⟨fun h => ⟨by omega, by have := of_decide_eq_true h; omega⟩, cond_of (fun d => ?_) (fun d => ?_)⟩
  · simp only [Bool.and_eq_true, decide_eq_true_eq] at d
    have hg : p + g < s.size := by omega
    have hr : runL ptC ((bys s).drop (p + g)) = runL ptC ((bys s).drop (p + g + 1)) + 1 := by rw [bys_drop hg, runL, if_pos d.2]
    refine ⟨⟨by omega, by omega⟩, cond_of (fun e => ?_) (fun e => ?_)⟩
    · have e := of_decide_eq_true e
      refine ⟨?_, ?_⟩
      · rw [Nat.min_eq_right (by omega)]; omega
      · rw [decide_eq_false (by omega)]
    · have e := of_decide_eq_false e
      exact ⟨⟨by omega, by omega⟩, g + 1, by omega, ⟨by omega, by omega, by rw [show p + (g + 1) = p + g + 1 by omega]; omega⟩, by omega⟩
  · have hr : runL ptC ((bys s).drop (p + g)) = 0 := by
      by_cases hg : p + g < s.size
      · have h : ptC (byteAt' s (p + g)) = false := by
          rw [decide_eq_true (show (p : Int) + (g : Int) < (s.size : Int) by omega), Bool.true_and] at d
          exact d
        rw [bys_drop hg, runL, if_neg (by rw [h]; decide)]
      · rw [bys_end (by omega)]; rfl
    have g3 : runL ptC ((bys s).drop p) = g := by omega
    rw [g3, Nat.min_eq_left g1, decide_eq_true g1]
    exact ⟨rfl, rfl⟩
def rfuC : Con := ⟨[.d true .s, .d true (.i .i64)], fun ds => (fun (a : D) (b : D) => [0 ≤ b.int, b.int ≤ a.str.size, a.str.size ≤ 1099511627776, b.int + 2 ≤ a.str.size]) (nthD ds 0) (nthD ds 1), [.d (.i .i64), .d .b], fun ds => (fun (a : D) (b : D) => [.i (b.int + (uiK ((bys a.str).drop b.int.toNat) : Int)), .b (uiO ((bys a.str).drop b.int.toNat))]) (nthD ds 0) (nthD ds 1), fun ds => []⟩
def rfuC_an : Anns := fun f i => match f, i with
  | 41, 4 => some fun A st => match A.get 0, A.get 1 with
    | some (.v (.string s)), some (.v (.int _ i)) => ⟨Nat, fun g => [(6, .v (.int .i64 (i + g)))], fun _ => [], fun g => 2 ≤ g ∧ g ≤ 18 ∧ i.toNat + g ≤ s.size ∧ runL hxC ((bys s).drop (i.toNat + 2)) = (g - 2) + runL hxC ((bys s).drop (i.toNat + g)), fun g => s.size - (i.toNat + g)⟩
    | _, _ => LAnn.bad
  | _, _ => none
theorem rfuC_vc (a b : D) : (I64 (b.int + 2) ∧ (decide (b.int + 2 = (↑a.str.size : Int)) = false → Idx (b.int + 2) a.str.size) ∧ ((decide (b.int + 2 = (↑a.str.size : Int)) || decide (byteAt' a.str (b.int + 2).toNat = 48)) = false → Idx (b.int + 2) a.str.size) ∧ bif decide (b.int + 2 = (↑a.str.size : Int)) || decide (byteAt' a.str (b.int + 2).toNat = 48) || decide ((if hxC (byteAt' a.str (b.int + 2).toNat) = true then hxV' (byteAt' a.str (b.int + 2).toNat) else -1) < 0) then b.int + 2 = b.int + (↑(uiK (List.drop b.int.toNat (bys a.str))) : Int) ∧ false = uiO (List.drop b.int.toNat (bys a.str)) else ∃ (g : Nat), b.int + 2 = b.int + (↑g : Int) ∧ (2 ≤ g ∧ g ≤ 18 ∧ b.int.toNat + g ≤ a.str.size ∧ runL hxC (List.drop (b.int.toNat + 2) (bys a.str)) = g - 2 + runL hxC (List.drop (b.int.toNat + g) (bys a.str))) ∧ ∀ (g : Nat), 2 ≤ g ∧ g ≤ 18 ∧ b.int.toNat + g ≤ a.str.size ∧ runL hxC (List.drop (b.int.toNat + 2) (bys a.str)) = g - 2 + runL hxC (List.drop (b.int.toNat + g) (bys a.str)) → (decide (b.int + (↑g : Int) < (↑a.str.size : Int)) = true → Idx (b.int + (↑g : Int)) a.str.size) ∧ bif decide (b.int + (↑g : Int) < (↑a.str.size : Int)) && decide (0 ≤ if hxC (byteAt' a.str (b.int + (↑g : Int)).toNat) = true then hxV' (byteAt' a.str (b.int + (↑g : Int)).toNat) else -1) then I64 (b.int + (↑g : Int) - b.int) ∧ bif decide (b.int + (↑g : Int) - b.int = 18) then b.int + (↑g : Int) = b.int + (↑(uiK (List.drop b.int.toNat (bys a.str))) : Int) ∧ false = uiO (List.drop b.int.toNat (bys a.str)) else I64 (b.int + (↑g : Int) + 1) ∧ ∃ (g_1 : Nat), b.int + (↑g : Int) + 1 = b.int + (↑g_1 : Int) ∧ (2 ≤ g_1 ∧ g_1 ≤ 18 ∧ b.int.toNat + g_1 ≤ a.str.size ∧ runL hxC (List.drop (b.int.toNat + 2) (bys a.str)) = g_1 - 2 + runL hxC (List.drop (b.int.toNat + g_1) (bys a.str))) ∧ a.str.size - (b.int.toNat + g_1) < a.str.size - (b.int.toNat + g) else 0 ≤ b.int + (↑g : Int) ∧ b.int + (↑g : Int) ≤ (↑a.str.size : Int) ∧ a.str.size ≤ 1099511627776 ∧ b.int + (↑g : Int) = b.int + (↑(uiK (List.drop b.int.toNat (bys a.str))) : Int) ∧ aloL (List.drop (b.int + (↑g : Int)).toNat (bys a.str)) = uiO (List.drop b.int.toNat (bys a.str))) = conGoal Tryd.prog (addS 57 rfbC (addS 56 rfhC noS)) rfuC_an 200 41 rfuC [a, b] := by kernel_rfl
theorem rfuC_ok : ConOK Tryd.prog gl 41 rfuC := con_of mo (addS_ok rfbC_ok (addS_ok rfhC_ok (noS_ok _))) (an := rfuC_an) 200 fun ds hl hp => by
  obtain ⟨a, b, rfl⟩ := len2 hl
  rw [← rfuC_vc]
  have p0 : 0 ≤ b.int := hp _ (.head _)
  have p1 : b.int ≤ a.str.size := hp _ (.tail _ (.head _))
  have p2 : a.str.size ≤ 1099511627776 := hp _ (.tail _ (.tail _ (.head _)))
  have p3 : b.int + 2 ≤ a.str.size := hp _ (.tail _ (.tail _ (.tail _ (.head _))))
  obtain ⟨p, hp⟩ := Int.eq_ofNat_of_zero_le p0
  rw [hp] at p1
  rw [hp] at p3
  rw [hp, Int.toNat_natCast]
  generalize a.str = s at *
  have t2 : ((p : Int) + 2).toNat = p + 2 := by omega
  have tg : ∀ g : Nat, ((p : Int) + (g : Int)).toNat = p + g := fun g => by omega
  have g2 : ((bys s).drop p).getD 2 0 = ((bys s).drop (p + 2)).getD 0 0 := by simp [List.getD_eq_getElem?_getD, List.getElem?_drop]
  have d0 : ((bys s).drop p).drop 2 = (bys s).drop (p + 2) := by rw [List.drop_drop]
  have dd : ∀ k, (((bys s).drop p).drop (2 + k)) = (bys s).drop (p + 2 + k) := fun k => by rw [List.drop_drop]; congr 1; omega
  have h00 : hxC 0 = false := by decide
  rw [t2, uiK, uiO, g2, d0]
  refine ⟨⟨by omega, by omega⟩, fun c => ⟨by omega, by have := of_decide_eq_false c; omega⟩, fun c => ⟨by omega, by
    have : decide ((p : Int) + 2 = (s.size : Int)) = false := by
      cases h : decide ((p : Int) + 2 = (s.size : Int))
      · rfl
      · rw [h] at c; simp at c
    have := of_decide_eq_false this; omega⟩, cond_of (fun c => ?_) (fun c => ?_)⟩
  · have c : ((bys s).drop (p + 2)).getD 0 0 = 48 ∨ hxC (((bys s).drop (p + 2)).getD 0 0) = false := by
      by_cases h : p + 2 < s.size
      · rw [getD_drop (k := p + 2) (j := 0) (by omega), Nat.add_zero]
        simp only [Bool.or_eq_true, decide_eq_true_eq, hx_neg] at c
        rcases c with (c | c) | c
        · omega
        · exact .inl c
        · exact .inr c
      · rw [bys_end (by omega)]; exact .inr h00
    rw [if_pos c, if_pos c]; exact ⟨rfl, rfl⟩
  simp only [Bool.or_eq_false_iff, decide_eq_false_iff_not, hx_neg] at c
  have hlt : p + 2 < s.size := by omega
  have c : ¬ (((bys s).drop (p + 2)).getD 0 0 = 48 ∨ hxC (((bys s).drop (p + 2)).getD 0 0) = false) := by
    rw [getD_drop (k := p + 2) (j := 0) (by omega), Nat.add_zero]
    rintro (h | h)
    · exact c.1.2 h
    · exact c.2 h
  rw [if_neg c, if_neg c]
  refine ⟨2, rfl, ⟨by omega, by omega, by omega, by simp⟩, ?_⟩
  rintro g ⟨g0, g1, g2', g3⟩
  rw [tg g]
  refine ⟨fun h => ⟨by omega, by have := of_decide_eq_true h; omega⟩, cond_of (fun d => ?_) (fun d => ?_)⟩
  · simp only [Bool.and_eq_true, decide_eq_true_eq, hx_pos] at d
    have hg : p + g < s.size := by omega
    have hr : runL hxC ((bys s).drop (p + g)) = runL hxC ((bys s).drop (p + g + 1)) + 1 := by rw [bys_drop hg, runL, if_pos d.2]
    refine ⟨⟨by omega, by omega⟩, cond_of (fun e => ?_) (fun e => ?_)⟩
    · have e := of_decide_eq_true e
      refine ⟨?_, ?_⟩
      · rw [Nat.min_eq_right (by omega)]; omega
      · rw [decide_eq_false (by omega)]; rfl
    · have e := of_decide_eq_false e
      exact ⟨⟨by omega, by omega⟩, g + 1, by omega, ⟨by omega, by omega, by omega, by rw [show p + (g + 1) = p + g + 1 by omega]; omega⟩, by omega⟩
  · have hr : runL hxC ((bys s).drop (p + g)) = 0 := by
      by_cases hg : p + g < s.size
      · have h : hxC (byteAt' s (p + g)) = false := by
          rw [decide_eq_true (show (p : Int) + (g : Int) < (s.size : Int) by omega), Bool.true_and] at d
          have d := of_decide_eq_false d
          rw [hx_pos] at d
          simpa using d
        rw [bys_drop hg, runL, if_neg (by rw [h]; decide)]
      · rw [bys_end (by omega)]; rfl
    have g3 : runL hxC ((bys s).drop (p + 2)) = g - 2 := by omega
    rw [g3, Nat.min_eq_left (by omega), decide_eq_true (by omega : g - 2 ≤ 16), dd (g - 2), show p + 2 + (g - 2) = p + g by omega]
    exact ⟨by omega, by omega, p2, by omega, rfl⟩
end Go.Proofs.YtlfafkeamppakaaDoor.XT
