/- Contracts, by the symbolic evaluator. -/
import Derived.Test.YtlfafkeamppakaaDoorQYF
import Derived.Test.YtlfafkeamppakaaDoorProg
set_option linter.unusedVariables false
set_option linter.unusedSimpArgs false
namespace Go.Proofs.YtlfafkeamppakaaDoor.XT
open Go Go.RowKit Go.Proofs.YtlfafkeamppakaaDoor.Sv
set_option maxRecDepth 100000
def hxd (v : Int) : Int := if v < 10 then 48 + v else 87 + v
/-- a byte in a text's form -/
def escC (c : Int) : List Int := if c = 34 ∨ c = 92 then [92, c] else if c = 10 then [92, 110] else if c < 32 ∨ 126 < c then [92, 120, hxd (c / 16), hxd (c % 16)] else [c]
def qtL (L : List Int) : List Int := L.flatMap escC
def quL (L : List Int) : List Int := 34 :: (qtL L ++ [34])
/-- tokens that are alike -/
def eqTk (x y : D) : Bool := decide ((x.fld 0).int = (y.fld 0).int) && decide ((x.fld 1).str = (y.fld 1).str) && decide ((x.fld 2).int = (y.fld 2).int) && decide ((x.fld 3).int = (y.fld 3).int)
def smTk (x y : D) : Bool := decide ((x.fld 0).int = (y.fld 0).int) && decide ((x.fld 1).str = (y.fld 1).str) && decide ((x.fld 2).int = (y.fld 2).int)
def allL (p : D → D → Bool) : List D → List D → Bool
  | [], [] => true
  | x :: r, y :: s => p x y && allL p r s
  | _, _ => false
theorem all_ne (p : D → D → Bool) : ∀ (xs ys : List D), ¬ xs.length = ys.length → allL p xs ys = false
  | [], [], h => absurd rfl h
  | [], _ :: _, _ => rfl
  | _ :: _, [], _ => rfl
  | x :: r, y :: s, h => by rw [allL, all_ne p r s (by simpa using h), Bool.and_false]
theorem all_drop (p : D → D → Bool) {xs ys : List D} {g : Nat} (h1 : g < xs.length) (h2 : g < ys.length) : allL p (xs.drop g) (ys.drop g) = (p (nthD xs g) (nthD ys g) && allL p (xs.drop (g + 1)) (ys.drop (g + 1))) := by
  rw [List.drop_eq_getElem_cons h1, List.drop_eq_getElem_cons h2, allL]
  have e1 : nthD xs g = xs[g] := nthD_get (List.getElem?_eq_getElem h1)
  have e2 : nthD ys g = ys[g] := nthD_get (List.getElem?_eq_getElem h2)
  rw [e1, e2]
theorem strOf3 (l : List Int) : strOfD (l.map D.i) = sL l := by
  have := strOfD_dI l; exact this
theorem hx_tab : ∀ n : Fin 256, byteAt' (ByteArray.mk #[48, 49, 50, 51, 52, 53, 54, 55, 56, 57, 97, 98, 99, 100, 101, 102]) (IntKind.u8.wrap ((n.val : Int).tdiv 16)).toNat = hxd ((n.val : Int) / 16) ∧ byteAt' (ByteArray.mk #[48, 49, 50, 51, 52, 53, 54, 55, 56, 57, 97, 98, 99, 100, 101, 102]) ((n.val : Int).tmod 16).toNat = hxd ((n.val : Int) % 16) ∧ 0 ≤ IntKind.u8.wrap ((n.val : Int).tdiv 16) ∧ IntKind.u8.wrap ((n.val : Int).tdiv 16) < 16 ∧ 0 ≤ (n.val : Int).tmod 16 ∧ (n.val : Int).tmod 16 < 16 := by decide +kernel
theorem esc_len (c : Int) : (escC c).length ≤ 4 := by
  unfold escC
  repeat' split
  all_goals simp
theorem or3t {a b c : Bool} (r : Bool) (h : (!a || !b || !c) = true) : false = (a && b && c && r) := by revert h; cases a <;> cases b <;> cases c <;> simp
theorem or3f {a b c : Bool} (r : Bool) (h : (!a || !b || !c) = false) : (a && b && c && r) = r := by revert h; cases a <;> cases b <;> cases c <;> simp
theorem qt_len : ∀ L : List Int, (qtL L).length ≤ 4 * L.length
  | [] => Nat.le_refl _
  | c :: r => by
    have h1 := esc_len c
    have h2 := qt_len r
    simp only [qtL, List.flatMap_cons, List.length_append, List.length_cons] at h2 ⊢; omega
def lxiC : Con := ⟨[.d true .s], fun ds => [], [.d .b], fun ds => (fun (a : D) => [.b (decide ((cuT a.str).2.2 = 0))]) (nthD ds 0), fun ds => []⟩
def lxiC_an : Anns := fun _ _ => none
theorem lxiC_vc (a : D) : (decide ((cuT a.str).snd.snd = 0) = decide ((cuT a.str).snd.snd = 0)) = conGoal Tryd.prog (addS 8 lxcC noS) lxiC_an 200 11 lxiC [a] := by kernel_rfl
theorem lxiC_ok : ConOK Tryd.prog gl 11 lxiC := con_of mo (addS_ok lxcC_ok (noS_ok _)) (an := lxiC_an) 200 fun ds hl hp => by
  obtain ⟨a, rfl⟩ := len1 hl
  rw [← lxiC_vc]
  try rfl
def rfeC : Con := ⟨[.d true (.l tokT), .d true (.l tokT)], fun ds => (fun (a : D) (b : D) => [a.list.length ≤ 1099511627776]) (nthD ds 0) (nthD ds 1), [.d .b], fun ds => (fun (a : D) (b : D) => [.b (allL eqTk a.list b.list)]) (nthD ds 0) (nthD ds 1), fun ds => []⟩
def rfeC_an : Anns := fun f i => match f, i with
  | 10, 4 => some fun A st => match A.get 0, A.get 1 with
    | some (.dl _ _ xs), some (.dl _ _ ys) => ⟨Nat, fun g => [(5, .v (.int .i64 g))], fun _ => [], fun g => g ≤ xs.length ∧ allL eqTk xs ys = allL eqTk (xs.drop g) (ys.drop g), fun g => xs.length - g⟩
    | _, _ => LAnn.bad
  | _, _ => none
theorem rfeC_vc (a b : D) : (bif !decide ((↑a.list.length : Int) = (↑b.list.length : Int)) then false = allL eqTk a.list b.list else ∃ (g : Nat), EqI 0 (↑g : Int) ∧ (g ≤ a.list.length ∧ allL eqTk a.list b.list = allL eqTk (List.drop g a.list) (List.drop g b.list)) ∧ ∀ (g : Nat), g ≤ a.list.length ∧ allL eqTk a.list b.list = allL eqTk (List.drop g a.list) (List.drop g b.list) → bif decide ((↑g : Int) < (↑a.list.length : Int)) then Idx (↑g : Int) a.list.length ∧ Idx (↑g : Int) b.list.length ∧ bif !(decide (((nthD a.list g).fld 0).int = ((nthD b.list g).fld 0).int) && (decide (((nthD a.list g).fld 1).str = ((nthD b.list g).fld 1).str) && (decide (((nthD a.list g).fld 2).int = ((nthD b.list g).fld 2).int) && (decide (((nthD a.list g).fld 3).int = ((nthD b.list g).fld 3).int) && true)))) then false = allL eqTk a.list b.list else I64 ((↑g : Int) + 1) ∧ ∃ (g_1 : Nat), (↑g : Int) + 1 = (↑g_1 : Int) ∧ (g_1 ≤ a.list.length ∧ allL eqTk a.list b.list = allL eqTk (List.drop g_1 a.list) (List.drop g_1 b.list)) ∧ a.list.length - g_1 < a.list.length - g else true = allL eqTk a.list b.list) = conGoal Tryd.prog noS rfeC_an 200 10 rfeC [a, b] := by kernel_rfl
theorem rfeC_ok : ConOK Tryd.prog gl 10 rfeC := con_of mo (noS_ok _) (an := rfeC_an) 200 fun ds hl hp => by
  obtain ⟨a, b, rfl⟩ := len2 hl
  rw [← rfeC_vc]
  have p0 : a.list.length ≤ 1099511627776 := hp _ (.head _)
  generalize a.list = xs at *
  generalize b.list = ys at *
  refine cond_of (fun c => ?_) (fun c => ?_)
  · have c : ¬ xs.length = ys.length := by
      simp only [Bool.not_eq_true', decide_eq_false_iff_not] at c
      omega
    exact (all_ne _ xs ys c).symm
  have c : xs.length = ys.length := by
    simp only [Bool.not_eq_false', decide_eq_true_eq] at c
    omega
  refine ⟨0, rfl, ⟨Nat.zero_le _, rfl⟩, ?_⟩
  rintro g ⟨g1, g2⟩
  refine cond_of (fun d => ?_) (fun d => ?_)
  · have d := of_decide_eq_true d
    have hg : g < xs.length := by omega
    have hs := all_drop eqTk hg (by omega : g < ys.length)
    rw [eqTk] at hs
    refine ⟨⟨by omega, by omega⟩, ⟨by omega, by omega⟩, cond_of (fun e => ?_) (fun e => ?_)⟩
    · rw [g2, hs]
      simp only [Bool.not_eq_true', Bool.and_true] at e
      simp only [Bool.and_assoc, e, Bool.false_and]
    · refine ⟨⟨by omega, by omega⟩, g + 1, by omega, ⟨by omega, ?_⟩, by omega⟩
      rw [g2, hs]
      simp only [Bool.not_eq_false', Bool.and_true] at e
      simp only [Bool.and_assoc, e, Bool.true_and]
  · have d := of_decide_eq_false d
    have hg : g = xs.length := by omega
    rw [g2, hg, List.drop_length, c, List.drop_length]; rfl
def rfSaC : Con := ⟨[.d true (.l tokT), .d true (.l tokT)], fun ds => (fun (a : D) (b : D) => [a.list.length ≤ 1099511627776]) (nthD ds 0) (nthD ds 1), [.d .b], fun ds => (fun (a : D) (b : D) => [.b (allL smTk a.list b.list)]) (nthD ds 0) (nthD ds 1), fun ds => []⟩
def rfSaC_an : Anns := fun f i => match f, i with
  | 20, 4 => some fun A st => match A.get 0, A.get 1 with
    | some (.dl _ _ xs), some (.dl _ _ ys) => ⟨Nat, fun g => [(5, .v (.int .i64 g))], fun _ => [], fun g => g ≤ xs.length ∧ allL smTk xs ys = allL smTk (xs.drop g) (ys.drop g), fun g => xs.length - g⟩
    | _, _ => LAnn.bad
  | _, _ => none
theorem rfSaC_vc (a b : D) : (bif !decide ((↑a.list.length : Int) = (↑b.list.length : Int)) then false = allL smTk a.list b.list else ∃ (g : Nat), EqI 0 (↑g : Int) ∧ (g ≤ a.list.length ∧ allL smTk a.list b.list = allL smTk (List.drop g a.list) (List.drop g b.list)) ∧ ∀ (g : Nat), g ≤ a.list.length ∧ allL smTk a.list b.list = allL smTk (List.drop g a.list) (List.drop g b.list) → bif decide ((↑g : Int) < (↑a.list.length : Int)) then Idx (↑g : Int) a.list.length ∧ Idx (↑g : Int) b.list.length ∧ ((!decide (((nthD a.list g).fld 0).int = ((nthD b.list g).fld 0).int)) = false → Idx (↑g : Int) a.list.length ∧ Idx (↑g : Int) b.list.length) ∧ ((!decide (((nthD a.list g).fld 0).int = ((nthD b.list g).fld 0).int) || !decide (((nthD a.list g).fld 1).str = ((nthD b.list g).fld 1).str)) = false → Idx (↑g : Int) a.list.length ∧ Idx (↑g : Int) b.list.length) ∧ bif !decide (((nthD a.list g).fld 0).int = ((nthD b.list g).fld 0).int) || !decide (((nthD a.list g).fld 1).str = ((nthD b.list g).fld 1).str) || !decide (((nthD a.list g).fld 2).int = ((nthD b.list g).fld 2).int) then false = allL smTk a.list b.list else I64 ((↑g : Int) + 1) ∧ ∃ (g_1 : Nat), (↑g : Int) + 1 = (↑g_1 : Int) ∧ (g_1 ≤ a.list.length ∧ allL smTk a.list b.list = allL smTk (List.drop g_1 a.list) (List.drop g_1 b.list)) ∧ a.list.length - g_1 < a.list.length - g else true = allL smTk a.list b.list) = conGoal Tryd.prog noS rfSaC_an 200 20 rfSaC [a, b] := by kernel_rfl
theorem rfSaC_ok : ConOK Tryd.prog gl 20 rfSaC := con_of mo (noS_ok _) (an := rfSaC_an) 200 fun ds hl hp => by
  obtain ⟨a, b, rfl⟩ := len2 hl
  rw [← rfSaC_vc]
  have p0 : a.list.length ≤ 1099511627776 := hp _ (.head _)
  generalize a.list = xs at *
  generalize b.list = ys at *
  refine cond_of (fun c => ?_) (fun c => ?_)
  · have c : ¬ xs.length = ys.length := by
      simp only [Bool.not_eq_true', decide_eq_false_iff_not] at c
      omega
    exact (all_ne _ xs ys c).symm
  have c : xs.length = ys.length := by
    simp only [Bool.not_eq_false', decide_eq_true_eq] at c
    omega
  refine ⟨0, rfl, ⟨Nat.zero_le _, rfl⟩, ?_⟩
  rintro g ⟨g1, g2⟩
  refine cond_of (fun d => ?_) (fun d => ?_)
  · have d := of_decide_eq_true d
    have hg : g < xs.length := by omega
    have hs := all_drop smTk hg (by omega : g < ys.length)
    rw [smTk] at hs
    refine ⟨⟨by omega, by omega⟩, ⟨by omega, by omega⟩, fun _ => ⟨⟨by omega, by omega⟩, ⟨by omega, by omega⟩⟩, fun _ => ⟨⟨by omega, by omega⟩, ⟨by omega, by omega⟩⟩, cond_of (fun e => ?_) (fun e => ?_)⟩
    · rw [g2, hs]
      exact or3t _ e
    · refine ⟨⟨by omega, by omega⟩, g + 1, by omega, ⟨by omega, ?_⟩, by omega⟩
      rw [g2, hs]
      exact or3f _ e
  · have d := of_decide_eq_false d
    have hg : g = xs.length := by omega
    rw [g2, hg, List.drop_length, c, List.drop_length]; rfl
def rfxC : Con := ⟨[.d true .s], fun ds => (fun (a : D) => [a.str.size ≤ 1099511627776]) (nthD ds 0), [.d .s], fun ds => (fun (a : D) => [.s (sL (quL (bys a.str)))]) (nthD ds 0), fun ds => []⟩
def rfxC_an : Anns := fun f i => match f, i with
  | 19, 3 => some fun A st => match A.get 0 with
    | some (.v (.string s)) => ⟨Nat, fun g => [(4, .v (.int .i64 g)), (3, .v (.string (sL (34 :: qtL ((bys s).take g)))))], fun _ => [], fun g => g ≤ s.size, fun g => s.size - g⟩
    | _ => LAnn.bad
  | _, _ => none
theorem rfxC_vc (a : D) : (∃ (g : Nat), EqI 0 (↑g : Int) ∧ ByteArray.mk #[34] = sL (34 :: qtL (List.take g (bys a.str))) ∧ g ≤ a.str.size ∧ ∀ (g : Nat), g ≤ a.str.size → bif decide ((↑g : Int) < (↑a.str.size : Int)) then Idx (↑g : Int) a.str.size ∧ bif decide (byteAt' a.str g = 34) || decide (byteAt' a.str g = 92) then (sL (34 :: qtL (List.take g (bys a.str)))).size + (strOfD [D.i 92, D.i (byteAt' a.str g)]).size ≤ 9223372036854775807 ∧ I64 ((↑g : Int) + 1) ∧ ∃ (g_1 : Nat), (↑g : Int) + 1 = (↑g_1 : Int) ∧ sL (34 :: qtL (List.take g (bys a.str))) ++ strOfD [D.i 92, D.i (byteAt' a.str g)] = sL (34 :: qtL (List.take g_1 (bys a.str))) ∧ g_1 ≤ a.str.size ∧ a.str.size - g_1 < a.str.size - g else bif decide (byteAt' a.str g = 10) then (sL (34 :: qtL (List.take g (bys a.str)))).size + (strOfD [D.i 92, D.i 110]).size ≤ 9223372036854775807 ∧ I64 ((↑g : Int) + 1) ∧ ∃ (g_1 : Nat), (↑g : Int) + 1 = (↑g_1 : Int) ∧ sL (34 :: qtL (List.take g (bys a.str))) ++ strOfD [D.i 92, D.i 110] = sL (34 :: qtL (List.take g_1 (bys a.str))) ∧ g_1 ≤ a.str.size ∧ a.str.size - g_1 < a.str.size - g else bif decide (byteAt' a.str g < 32) || decide (126 < byteAt' a.str g) then ¬EqI 16 0 ∧ Idx (IntKind.u8.wrap ((byteAt' a.str g).tdiv 16)) (ByteArray.mk #[48, 49, 50, 51, 52, 53, 54, 55, 56, 57, 97, 98, 99, 100, 101, 102]).size ∧ ¬EqI 16 0 ∧ Idx ((byteAt' a.str g).tmod 16) (ByteArray.mk #[48, 49, 50, 51, 52, 53, 54, 55, 56, 57, 97, 98, 99, 100, 101, 102]).size ∧ (sL (34 :: qtL (List.take g (bys a.str)))).size + (strOfD [D.i 92, D.i 120, D.i (byteAt' (ByteArray.mk #[48, 49, 50, 51, 52, 53, 54, 55, 56, 57, 97, 98, 99, 100, 101, 102]) (IntKind.u8.wrap ((byteAt' a.str g).tdiv 16)).toNat), D.i (byteAt' (ByteArray.mk #[48, 49, 50, 51, 52, 53, 54, 55, 56, 57, 97, 98, 99, 100, 101, 102]) ((byteAt' a.str g).tmod 16).toNat)]).size ≤ 9223372036854775807 ∧ I64 ((↑g : Int) + 1) ∧ ∃ (g_1 : Nat), (↑g : Int) + 1 = (↑g_1 : Int) ∧ sL (34 :: qtL (List.take g (bys a.str))) ++ strOfD [D.i 92, D.i 120, D.i (byteAt' (ByteArray.mk #[48, 49, 50, 51, 52, 53, 54, 55, 56, 57, 97, 98, 99, 100, 101, 102]) (IntKind.u8.wrap ((byteAt' a.str g).tdiv 16)).toNat), D.i (byteAt' (ByteArray.mk #[48, 49, 50, 51, 52, 53, 54, 55, 56, 57, 97, 98, 99, 100, 101, 102]) ((byteAt' a.str g).tmod 16).toNat)] = sL (34 :: qtL (List.take g_1 (bys a.str))) ∧ g_1 ≤ a.str.size ∧ a.str.size - g_1 < a.str.size - g else I64 ((↑g : Int) + 1) ∧ 0 ≤ (↑g : Int) ∧ (↑g : Int) ≤ (↑g : Int) + 1 ∧ (↑g : Int) + 1 ≤ (↑a.str.size : Int) ∧ (sL (34 :: qtL (List.take g (bys a.str)))).size + (a.str.extract g ((↑g : Int) + 1).toNat).size ≤ 9223372036854775807 ∧ I64 ((↑g : Int) + 1) ∧ ∃ (g_1 : Nat), (↑g : Int) + 1 = (↑g_1 : Int) ∧ sL (34 :: qtL (List.take g (bys a.str))) ++ a.str.extract g ((↑g : Int) + 1).toNat = sL (34 :: qtL (List.take g_1 (bys a.str))) ∧ g_1 ≤ a.str.size ∧ a.str.size - g_1 < a.str.size - g else (sL (34 :: qtL (List.take g (bys a.str)))).size + (ByteArray.mk #[34]).size ≤ 9223372036854775807 ∧ sL (34 :: qtL (List.take g (bys a.str))) ++ ByteArray.mk #[34] = sL (quL (bys a.str))) = conGoal Tryd.prog noS rfxC_an 200 19 rfxC [a] := by kernel_rfl
theorem rfxC_ok : ConOK Tryd.prog gl 19 rfxC := con_of mo (noS_ok _) (an := rfxC_an) 200 fun ds hl hp => by
  obtain ⟨a, rfl⟩ := len1 hl
  rw [← rfxC_vc]
  have p0 : a.str.size ≤ 1099511627776 := hp _ (.head _)
  generalize a.str = s at *
  refine ⟨0, rfl, rfl, Nat.zero_le _, ?_⟩
  rintro g g1
  have hq := qt_len ((bys s).take g)
  have hl : ((bys s).take g).length ≤ g := by rw [List.length_take]; omega
  refine cond_of (fun c => ?_) (fun c => ?_)
  · have hg : g < s.size := by have := of_decide_eq_true c; omega
    have step : ∀ x : ByteArray, x = sL (escC (byteAt' s g)) → (sL (34 :: qtL (List.take g (bys s)))).size + x.size ≤ 9223372036854775807 ∧ I64 ((g : Int) + 1) ∧ ∃ (g_1 : Nat), (g : Int) + 1 = (g_1 : Int) ∧ sL (34 :: qtL (List.take g (bys s))) ++ x = sL (34 :: qtL (List.take g_1 (bys s))) ∧ g_1 ≤ s.size ∧ s.size - g_1 < s.size - g := by
      rintro x rfl
      have h4 := esc_len (byteAt' s g)
      refine ⟨by simp only [sL_size, List.length_cons]; omega, ⟨by omega, by omega⟩, g + 1, rfl, ?_, by omega, by omega⟩
      rw [sL_append, bys_succ hg]
      simp [qtL]
    refine ⟨⟨by omega, by omega⟩, cond_of (fun d => ?_) (fun d => ?_)⟩
    · simp only [Bool.or_eq_true, decide_eq_true_eq] at d
      exact step _ (by rw [escC, if_pos d]; exact strOf3 [92, byteAt' s g])
    have d : ¬ (byteAt' s g = 34 ∨ byteAt' s g = 92) := by
      simpa only [Bool.or_eq_false_iff, decide_eq_false_iff_not, not_or] using d
    refine cond_of (fun e => ?_) (fun e => ?_)
    · have e := of_decide_eq_true e
      exact step _ (by rw [escC, if_neg d, if_pos e]; exact strOf3 [92, 110])
    have e := of_decide_eq_false e
    refine cond_of (fun f => ?_) (fun f => ?_)
    · simp only [Bool.or_eq_true, decide_eq_true_eq] at f
      obtain ⟨b0, b1⟩ := byte_in s g
      obtain ⟨n, hn⟩ := Int.eq_ofNat_of_zero_le b0
      have ht := hx_tab ⟨n, by omega⟩
      simp only [← hn] at ht
      obtain ⟨t1, t2, t3, t4, t5, t6⟩ := ht
      rw [t1, t2]
      exact ⟨by decide, ⟨t3, t4⟩, by decide, ⟨t5, t6⟩, step _ (by rw [escC, if_neg d, if_neg e, if_pos f]; exact strOf3 [92, 120, _, _])⟩
    · have f : ¬ (byteAt' s g < 32 ∨ 126 < byteAt' s g) := by
        simpa only [Bool.or_eq_false_iff, decide_eq_false_iff_not, not_or] using f
      have tg : ((g : Int) + 1).toNat = g + 1 := by omega
      rw [tg]
      refine ⟨⟨by omega, by omega⟩, by omega, by omega, by omega, step _ ?_⟩
      rw [escC, if_neg d, if_neg e, if_neg f, extract_sL, bys_drop hg, Nat.add_sub_cancel_left]; rfl
  · have hg : g = s.size := by have := of_decide_eq_false c; omega
    have ha : (bys s).take g = bys s := List.take_of_length_le (by rw [bys_length]; omega)
    refine ⟨by simp only [sL_size, List.length_cons]; show _ + 1 ≤ _; omega, ?_⟩
    rw [ha]
    show _ ++ sL [34] = _
    rw [sL_append]; rfl
end Go.Proofs.YtlfafkeamppakaaDoor.XT
