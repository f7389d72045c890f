/- Contracts, by the symbolic evaluator. -/
import Derived.Test.YtnhfkdgambncfaaGreatDoorQT7
import Derived.Test.YtnhfkdgambncfaaGreatDoorProg
set_option linter.unusedVariables false
set_option linter.unusedSimpArgs false
set_option linter.unusedSectionVars false
namespace Go.Proofs.YtnhfkdgambncfaaGreatDoor.XT
open Go Go.RowKit Go.Proofs.YtnhfkdgambncfaaGreatDoor.Sv
set_option maxRecDepth 100000
def triB (w : D) : List Int := (if (w.fld 0).bool = true then [1] else [0]) ++ numL ((D.int (D.fld ((D.fld w 1)) 0))) ++ (numL ((D.str (D.fld ((D.fld w 1)) 1))).size ++ bys ((D.str (D.fld ((D.fld w 1)) 1)))) ++ valB ((D.fld ((D.fld w 1)) 2))
def triL (w : D) : List Int := (if (w.fld 0).bool = true then [45] else [43]) ++ [32] ++ hexT ((D.int (D.fld ((D.fld w 1)) 0))) ++ [32] ++ bys ((D.str (D.fld ((D.fld w 1)) 1))) ++ [32] ++ valL ((D.fld ((D.fld w 1)) 2))
abbrev okT (t : D) : Prop := inU ((D.int (D.fld t 0))) ∧ ((D.str (D.fld t 1))).size ≤ 9223372036854775807 ∧ okV ((D.fld t 2))
theorem predB_size {s : ByteArray} (h : predB s = true) : s.size ≤ 64 := by
  unfold predB predHead at h
  simp only [Bool.and_eq_true, Bool.not_eq_true', Bool.or_eq_false_iff, decide_eq_false_iff_not] at h
  have := h.1.1.1.2
  omega
theorem mayT_zero {t : D} (h : mayT t = 0) : (D.int (D.fld t 0)) ≠ 0 ∧ predB ((D.str (D.fld t 1))) = true ∧ mayV ((D.fld t 2)) = true := by
  unfold mayT at h
  split at h
  · cases h
  · rename_i h0
    split at h
    · cases h
    · rename_i h1
      split at h
      · cases h
      · rename_i h2
        exact ⟨h0, by simpa using h1, by simpa using h2⟩
theorem hexT_length (u : Int) : (hexT u).length ≤ 18 := by
  rw [hexT, List.length_cons, List.length_cons, hexL_length]; have := (nh_le u).2; omega
theorem join4 (a b c d sep : ByteArray) : joinS [D.s a, D.s b, D.s c, D.s d] sep = a ++ sep ++ b ++ sep ++ c ++ sep ++ d := by
  apply ByteArray.ext
  apply Array.ext'
  simp [joinS, Lib.join, List.intercalate, ByteArray.data_append, D.str]
theorem put_str (s X Y : ByteArray) : X ++ s ++ Y = X ++ sL (bys s) ++ Y := by rw [sL_bys]
theorem one_size (x : UInt8) : (ByteArray.mk #[x]).size = 1 := rfl
theorem two_size (x y : UInt8) : (ByteArray.mk #[x, y]).size = 2 := rfl
theorem lit_may {u : Int} (h : 0 < u) : mayV (D.t [D.i 4, D.b false, D.i 0, D.s (ByteArray.mk #[]), D.i u]) = true := by
  have : mayV (D.t [D.i 4, D.b false, D.i 0, D.s (ByteArray.mk #[]), D.i u]) = decide (0 < u) := rfl
  rw [this, decide_eq_true h]
def ctC : Con := ⟨[.d true .s], fun ds => (fun (a : D) => [a.str.size ≤ 16777216]) (nthD ds 0), [.d .s], fun ds => (fun (a : D) => [.s (sL (numL a.str.size ++ bys a.str))]) (nthD ds 0), fun ds => []⟩
def ctC_an : Anns := fun _ _ => none
theorem ctC_vc (a : D) : ((0 ≤ IntKind.u64.wrap (↑a.str.size : Int) ∧ IntKind.u64.wrap (↑a.str.size : Int) < 18446744073709551616) ∧ (sL (numL (IntKind.u64.wrap (↑a.str.size : Int)))).size + a.str.size ≤ 9223372036854775807 ∧ sL (numL (IntKind.u64.wrap (↑a.str.size : Int))) ++ a.str = sL (numL (↑a.str.size : Int) ++ bys a.str)) = conGoal Tryz.prog (addS 19 numC noS) ctC_an 200 35 ctC [a] := by kernel_rfl
theorem ctC_ok : ConOK Tryz.prog gl 35 ctC := con_of mo (addS_ok numC_ok (noS_ok _)) (an := ctC_an) 200 fun ds hl hp => by
  obtain ⟨a, rfl⟩ := len1 hl
  rw [← ctC_vc]
  have p0 : a.str.size ≤ 16777216 := hp _ (.head _)
  have hw : IntKind.u64.wrap (a.str.size : Int) = a.str.size := wrap64 (by omega) (by omega)
  have h1 := numL_length (a.str.size : Int)
  have h2 := nb_le (a.str.size : Int)
  rw [hw]
  refine ⟨⟨by omega, by omega⟩, by rw [sL_size]; omega, ?_⟩
  rw [← sL_append, sL_bys]
def tBC : Con := ⟨[.d true wrT], fun ds => (fun (a : D) => [okT ((D.fld a 1))]) (nthD ds 0), [.d .s, .d (.i .i64)], fun ds => (fun (a : D) => [.s (bif decide (mayT ((D.fld a 1)) = 0) then sL (triB a) else (ByteArray.mk #[])), .i (mayT ((D.fld a 1)))]) (nthD ds 0), fun ds => []⟩
def tBC_an : Anns := fun _ _ => none
theorem tBC_vc (a : D) : (((D.fld (D.fld a 1) 1)).str.size ≤ 9223372036854775807 ∧ 0 ≤ (((D.fld (D.fld a 1) 2)).fld 4).int ∧ bif !decide (mayT (D.fld a 1) = 0) then ((ByteArray.mk #[]) = bif decide (mayT (D.fld a 1) = 0) then sL (triB a) else (ByteArray.mk #[])) ∧ mayT (D.fld a 1) = mayT (D.fld a 1) else bif (a.fld 0).bool then (0 ≤ (((D.fld (D.fld a 1) 2)).fld 0).int ∧ (((D.fld (D.fld a 1) 2)).fld 0).int < 256 ∧ I64 ((D.fld (D.fld (D.fld a 1) 2) 2)).int ∧ 0 ≤ (((D.fld (D.fld a 1) 2)).fld 4).int ∧ (((D.fld (D.fld a 1) 2)).fld 4).int < 18446744073709551616) ∧ (0 ≤ (((D.fld a 1)).fld 0).int ∧ (((D.fld a 1)).fld 0).int < 18446744073709551616) ∧ (ByteArray.mk #[1]).size + (sL (numL (((D.fld a 1)).fld 0).int)).size ≤ 9223372036854775807 ∧ ((D.fld (D.fld a 1) 1)).str.size ≤ 16777216 ∧ (ByteArray.mk #[1] ++ sL (numL (((D.fld a 1)).fld 0).int)).size + (sL (numL (↑((D.fld (D.fld a 1) 1)).str.size : Int) ++ bys ((D.fld (D.fld a 1) 1)).str)).size ≤ 9223372036854775807 ∧ (ByteArray.mk #[1] ++ sL (numL (((D.fld a 1)).fld 0).int) ++ sL (numL (↑((D.fld (D.fld a 1) 1)).str.size : Int) ++ bys ((D.fld (D.fld a 1) 1)).str)).size + (bif mayV (D.fld (D.fld a 1) 2) then sL (valB (D.fld (D.fld a 1) 2)) else (ByteArray.mk #[])).size ≤ 9223372036854775807 ∧ ((ByteArray.mk #[1] ++ sL (numL (((D.fld a 1)).fld 0).int) ++ sL (numL (↑((D.fld (D.fld a 1) 1)).str.size : Int) ++ bys ((D.fld (D.fld a 1) 1)).str) ++ bif mayV (D.fld (D.fld a 1) 2) then sL (valB (D.fld (D.fld a 1) 2)) else (ByteArray.mk #[])) = bif decide (mayT (D.fld a 1) = 0) then sL (triB a) else (ByteArray.mk #[])) ∧ EqI 0 (mayT (D.fld a 1)) else (0 ≤ (((D.fld (D.fld a 1) 2)).fld 0).int ∧ (((D.fld (D.fld a 1) 2)).fld 0).int < 256 ∧ I64 ((D.fld (D.fld (D.fld a 1) 2) 2)).int ∧ 0 ≤ (((D.fld (D.fld a 1) 2)).fld 4).int ∧ (((D.fld (D.fld a 1) 2)).fld 4).int < 18446744073709551616) ∧ (0 ≤ (((D.fld a 1)).fld 0).int ∧ (((D.fld a 1)).fld 0).int < 18446744073709551616) ∧ (ByteArray.mk #[0]).size + (sL (numL (((D.fld a 1)).fld 0).int)).size ≤ 9223372036854775807 ∧ ((D.fld (D.fld a 1) 1)).str.size ≤ 16777216 ∧ (ByteArray.mk #[0] ++ sL (numL (((D.fld a 1)).fld 0).int)).size + (sL (numL (↑((D.fld (D.fld a 1) 1)).str.size : Int) ++ bys ((D.fld (D.fld a 1) 1)).str)).size ≤ 9223372036854775807 ∧ (ByteArray.mk #[0] ++ sL (numL (((D.fld a 1)).fld 0).int) ++ sL (numL (↑((D.fld (D.fld a 1) 1)).str.size : Int) ++ bys ((D.fld (D.fld a 1) 1)).str)).size + (bif mayV (D.fld (D.fld a 1) 2) then sL (valB (D.fld (D.fld a 1) 2)) else (ByteArray.mk #[])).size ≤ 9223372036854775807 ∧ ((ByteArray.mk #[0] ++ sL (numL (((D.fld a 1)).fld 0).int) ++ sL (numL (↑((D.fld (D.fld a 1) 1)).str.size : Int) ++ bys ((D.fld (D.fld a 1) 1)).str) ++ bif mayV (D.fld (D.fld a 1) 2) then sL (valB (D.fld (D.fld a 1) 2)) else (ByteArray.mk #[])) = bif decide (mayT (D.fld a 1) = 0) then sL (triB a) else (ByteArray.mk #[])) ∧ EqI 0 (mayT (D.fld a 1))) = conGoal Tryz.prog (addS 35 ctC (addS 19 numC (addS 20 vBC (addS 16 mayTC noS)))) tBC_an 200 13 tBC [a] := by kernel_rfl
theorem tBC_ok : ConOK Tryz.prog gl 13 tBC := con_of mo (addS_ok ctC_ok (addS_ok numC_ok (addS_ok vBC_ok (addS_ok mayTC_ok (noS_ok _))))) (an := tBC_an) 200 fun ds hl hp => by
  obtain ⟨a, rfl⟩ := len1 hl
  rw [← tBC_vc]
  have p0 : okT ((D.fld a 1)) := hp _ (.head _)
  obtain ⟨hu, hp, hv⟩ := p0
  refine ⟨hp, hv.2.2.2.1, ?_⟩
  by_cases hm : mayT ((D.fld a 1)) = 0
  · obtain ⟨-, hb, hmv⟩ := mayT_zero hm
    have hs := predB_size hb
    have hl := valB_length (mayV_size hmv)
    have n1 := numL_length ((D.int (D.fld ((D.fld a 1)) 0)))
    have n2 := nb_le ((D.int (D.fld ((D.fld a 1)) 0)))
    have n3 := numL_length (((D.str (D.fld ((D.fld a 1)) 1))).size : Int)
    have n4 := nb_le (((D.str (D.fld ((D.fld a 1)) 1))).size : Int)
    rw [decide_eq_true hm, hmv]
    refine cond_of (b := (a.fld 0).bool) (fun b => ?_) (fun b => ?_)
    · refine ⟨hv, hu, by simp only [ByteArray.size_append, sL_size, List.length_append, List.length_cons, List.length_nil, bys_length, one_size, two_size]; omega, by omega, by simp only [ByteArray.size_append, sL_size, List.length_append, List.length_cons, List.length_nil, bys_length, one_size, two_size]; omega, ?_, ?_, hm.symm⟩
      · show _ + (sL (valB ((D.fld ((D.fld a 1)) 2)))).size ≤ _
        simp only [ByteArray.size_append, sL_size, List.length_append, List.length_cons, List.length_nil, bys_length, one_size, two_size]; omega
      · show _ ++ sL (valB ((D.fld ((D.fld a 1)) 2))) = sL (triB a)
        rw [triB, if_pos b, show ByteArray.mk #[1] = sL [1] from rfl, sL_append, sL_append, sL_append]
    · refine ⟨hv, hu, by simp only [ByteArray.size_append, sL_size, List.length_append, List.length_cons, List.length_nil, bys_length, one_size, two_size]; omega, by omega, by simp only [ByteArray.size_append, sL_size, List.length_append, List.length_cons, List.length_nil, bys_length, one_size, two_size]; omega, ?_, ?_, hm.symm⟩
      · show _ + (sL (valB ((D.fld ((D.fld a 1)) 2)))).size ≤ _
        simp only [ByteArray.size_append, sL_size, List.length_append, List.length_cons, List.length_nil, bys_length, one_size, two_size]; omega
      · show _ ++ sL (valB ((D.fld ((D.fld a 1)) 2))) = sL (triB a)
        rw [triB, if_neg (by rw [b]; decide), show ByteArray.mk #[0] = sL [0] from rfl, sL_append, sL_append, sL_append]
  · rw [decide_eq_false hm]
    exact ⟨rfl, rfl⟩
def litC : Con := ⟨[.d true (.i .u64)], fun ds => (fun (a : D) => [inU a.int, a.int ≠ 0]) (nthD ds 0), [.d .s], fun ds => (fun (a : D) => [.s (sL (hexT a.int))]) (nthD ds 0), fun ds => []⟩
def litC_an : Anns := fun _ _ => none
theorem litC_vc (a : D) : ((LeI 0 4 ∧ LtI 4 256 ∧ I64 0 ∧ 0 ≤ a.int ∧ a.int < 18446744073709551616) ∧ (bif mayV (D.t [D.i 4, D.b false, D.i 0, D.s (ByteArray.mk #[]), D.i a.int]) then sL (valL (D.t [D.i 4, D.b false, D.i 0, D.s (ByteArray.mk #[]), D.i a.int])) else (ByteArray.mk #[])) = sL (hexT a.int)) = conGoal Tryz.prog (addS 32 vTC noS) litC_an 200 34 litC [a] := by kernel_rfl
theorem litC_ok : ConOK Tryz.prog gl 34 litC := con_of mo (addS_ok vTC_ok (noS_ok _)) (an := litC_an) 200 fun ds hl hp => by
  obtain ⟨a, rfl⟩ := len1 hl
  rw [← litC_vc]
  have p0 : inU a.int := hp _ (.head _)
  have p1 : a.int ≠ 0 := hp _ (.tail _ (.head _))
  have h0 := p0.1
  refine ⟨⟨by decide, by decide, ⟨by decide, by decide⟩, p0⟩, ?_⟩
  rw [lit_may (by omega)]
  rfl
def tTC : Con := ⟨[.d true wrT], fun ds => (fun (a : D) => [okT ((D.fld a 1))]) (nthD ds 0), [.d .s, .d (.i .i64)], fun ds => (fun (a : D) => [.s (bif decide (mayT ((D.fld a 1)) = 0) then sL (triL a) else (ByteArray.mk #[])), .i (mayT ((D.fld a 1)))]) (nthD ds 0), fun ds => []⟩
def tTC_an : Anns := fun _ _ => none
theorem tTC_vc (a : D) : (((D.fld (D.fld a 1) 1)).str.size ≤ 9223372036854775807 ∧ 0 ≤ (((D.fld (D.fld a 1) 2)).fld 4).int ∧ bif !decide (mayT (D.fld a 1) = 0) then ((ByteArray.mk #[]) = bif decide (mayT (D.fld a 1) = 0) then sL (triL a) else (ByteArray.mk #[])) ∧ mayT (D.fld a 1) = mayT (D.fld a 1) else bif (a.fld 0).bool then (0 ≤ (((D.fld (D.fld a 1) 2)).fld 0).int ∧ (((D.fld (D.fld a 1) 2)).fld 0).int < 256 ∧ I64 ((D.fld (D.fld (D.fld a 1) 2) 2)).int ∧ 0 ≤ (((D.fld (D.fld a 1) 2)).fld 4).int ∧ (((D.fld (D.fld a 1) 2)).fld 4).int < 18446744073709551616) ∧ (((D.fld a 1)).fld 0).int = (((D.fld a 1)).fld 0).int ∧ (0 ≤ (((D.fld a 1)).fld 0).int ∧ (((D.fld a 1)).fld 0).int < 18446744073709551616) ∧ (((D.fld a 1)).fld 0).int ≠ 0 ∧ [D.s (ByteArray.mk #[45]), D.s (sL (hexT (((D.fld a 1)).fld 0).int)), D.s ((D.fld (D.fld a 1) 1)).str, D.s (bif mayV (D.fld (D.fld a 1) 2) then sL (valL (D.fld (D.fld a 1) 2)) else (ByteArray.mk #[]))].length ≤ 140737488355328 ∧ (joinS [D.s (ByteArray.mk #[45]), D.s (sL (hexT (((D.fld a 1)).fld 0).int)), D.s ((D.fld (D.fld a 1) 1)).str, D.s (bif mayV (D.fld (D.fld a 1) 2) then sL (valL (D.fld (D.fld a 1) 2)) else (ByteArray.mk #[]))] (ByteArray.mk #[32])).size ≤ 140737488355328 ∧ (joinS [D.s (ByteArray.mk #[45]), D.s (sL (hexT (((D.fld a 1)).fld 0).int)), D.s ((D.fld (D.fld a 1) 1)).str, D.s (bif mayV (D.fld (D.fld a 1) 2) then sL (valL (D.fld (D.fld a 1) 2)) else (ByteArray.mk #[]))] (ByteArray.mk #[32]) = bif decide (mayT (D.fld a 1) = 0) then sL (triL a) else (ByteArray.mk #[])) ∧ EqI 0 (mayT (D.fld a 1)) else (0 ≤ (((D.fld (D.fld a 1) 2)).fld 0).int ∧ (((D.fld (D.fld a 1) 2)).fld 0).int < 256 ∧ I64 ((D.fld (D.fld (D.fld a 1) 2) 2)).int ∧ 0 ≤ (((D.fld (D.fld a 1) 2)).fld 4).int ∧ (((D.fld (D.fld a 1) 2)).fld 4).int < 18446744073709551616) ∧ (((D.fld a 1)).fld 0).int = (((D.fld a 1)).fld 0).int ∧ (0 ≤ (((D.fld a 1)).fld 0).int ∧ (((D.fld a 1)).fld 0).int < 18446744073709551616) ∧ (((D.fld a 1)).fld 0).int ≠ 0 ∧ [D.s (ByteArray.mk #[43]), D.s (sL (hexT (((D.fld a 1)).fld 0).int)), D.s ((D.fld (D.fld a 1) 1)).str, D.s (bif mayV (D.fld (D.fld a 1) 2) then sL (valL (D.fld (D.fld a 1) 2)) else (ByteArray.mk #[]))].length ≤ 140737488355328 ∧ (joinS [D.s (ByteArray.mk #[43]), D.s (sL (hexT (((D.fld a 1)).fld 0).int)), D.s ((D.fld (D.fld a 1) 1)).str, D.s (bif mayV (D.fld (D.fld a 1) 2) then sL (valL (D.fld (D.fld a 1) 2)) else (ByteArray.mk #[]))] (ByteArray.mk #[32])).size ≤ 140737488355328 ∧ (joinS [D.s (ByteArray.mk #[43]), D.s (sL (hexT (((D.fld a 1)).fld 0).int)), D.s ((D.fld (D.fld a 1) 1)).str, D.s (bif mayV (D.fld (D.fld a 1) 2) then sL (valL (D.fld (D.fld a 1) 2)) else (ByteArray.mk #[]))] (ByteArray.mk #[32]) = bif decide (mayT (D.fld a 1) = 0) then sL (triL a) else (ByteArray.mk #[])) ∧ EqI 0 (mayT (D.fld a 1))) = conGoal Tryz.prog (addS 33 joinC (addS 34 litC (addS 32 vTC (addS 16 mayTC noS)))) tTC_an 200 12 tTC [a] := by kernel_rfl
theorem tTC_ok : ConOK Tryz.prog gl 12 tTC := con_of mo (addS_ok joinC_ok (addS_ok litC_ok (addS_ok vTC_ok (addS_ok mayTC_ok (noS_ok _))))) (an := tTC_an) 200 fun ds hl hp => by
  obtain ⟨a, rfl⟩ := len1 hl
  rw [← tTC_vc]
  have p0 : okT ((D.fld a 1)) := hp _ (.head _)
  obtain ⟨hu, hp, hv⟩ := p0
  refine ⟨hp, hv.2.2.2.1, ?_⟩
  by_cases hm : mayT ((D.fld a 1)) = 0
  · obtain ⟨h0, hb, hmv⟩ := mayT_zero hm
    have hs := predB_size hb
    have hl := valL_length (mayV_size hmv)
    have n1 := hexT_length ((D.int (D.fld ((D.fld a 1)) 0)))
    rw [decide_eq_true hm, hmv]
    refine cond_of (b := (a.fld 0).bool) (fun b => ?_) (fun b => ?_)
    · refine ⟨hv, rfl, hu, h0, show 4 ≤ _ by decide, ?_, ?_, hm.symm⟩
      · show (joinS [D.s (ByteArray.mk #[45]), D.s (sL (hexT ((D.int (D.fld ((D.fld a 1)) 0))))), D.s ((D.str (D.fld ((D.fld a 1)) 1))), D.s (sL (valL ((D.fld ((D.fld a 1)) 2))))] (ByteArray.mk #[32])).size ≤ _
        rw [join4]
        simp only [ByteArray.size_append, sL_size, List.length_append, List.length_cons, List.length_nil, bys_length, one_size, two_size]; omega
      · show joinS [D.s (ByteArray.mk #[45]), D.s (sL (hexT ((D.int (D.fld ((D.fld a 1)) 0))))), D.s ((D.str (D.fld ((D.fld a 1)) 1))), D.s (sL (valL ((D.fld ((D.fld a 1)) 2))))] (ByteArray.mk #[32]) = sL (triL a)
        rw [join4, put_str ((D.str (D.fld ((D.fld a 1)) 1))), triL, if_pos b, show ByteArray.mk #[45] = sL [45] from rfl, show ByteArray.mk #[32] = sL [32] from rfl]
        simp only [sL_append]
    · refine ⟨hv, rfl, hu, h0, show 4 ≤ _ by decide, ?_, ?_, hm.symm⟩
      · show (joinS [D.s (ByteArray.mk #[43]), D.s (sL (hexT ((D.int (D.fld ((D.fld a 1)) 0))))), D.s ((D.str (D.fld ((D.fld a 1)) 1))), D.s (sL (valL ((D.fld ((D.fld a 1)) 2))))] (ByteArray.mk #[32])).size ≤ _
        rw [join4]
        simp only [ByteArray.size_append, sL_size, List.length_append, List.length_cons, List.length_nil, bys_length, one_size, two_size]; omega
      · show joinS [D.s (ByteArray.mk #[43]), D.s (sL (hexT ((D.int (D.fld ((D.fld a 1)) 0))))), D.s ((D.str (D.fld ((D.fld a 1)) 1))), D.s (sL (valL ((D.fld ((D.fld a 1)) 2))))] (ByteArray.mk #[32]) = sL (triL a)
        rw [join4, put_str ((D.str (D.fld ((D.fld a 1)) 1))), triL, if_neg (by rw [b]; decide), show ByteArray.mk #[43] = sL [43] from rfl, show ByteArray.mk #[32] = sL [32] from rfl]
        simp only [sL_append]
  · rw [decide_eq_false hm]
    exact ⟨rfl, rfl⟩
def aliveC : Con := ⟨[], fun ds => [], [.d .b], fun ds => [.b true], fun ds => []⟩
def aliveC_an : Anns := fun _ _ => none
theorem aliveC_vc : (((LeI 0 1 ∧ LtI 1 18446744073709551616) ∧ (ByteArray.mk #[110, 97, 109, 101]).size ≤ 9223372036854775807 ∧ LeI 0 3 ∧ LtI 3 256 ∧ I64 0 ∧ LeI 0 0 ∧ LtI 0 18446744073709551616) ∧ ((LeI 0 1 ∧ LtI 1 18446744073709551616) ∧ (ByteArray.mk #[110, 97, 109, 101]).size ≤ 9223372036854775807 ∧ LeI 0 3 ∧ LtI 3 256 ∧ I64 0 ∧ LeI 0 0 ∧ LtI 0 18446744073709551616) ∧ ((decide (sL (triL (D.t [D.b false, D.t [D.i 1, D.s (ByteArray.mk #[110, 97, 109, 101]), D.t [D.i 3, D.b false, D.i 0, D.s (ByteArray.mk #[120]), D.i 0]]])) = ByteArray.mk #[43, 32, 48, 120, 49, 32, 110, 97, 109, 101, 32, 34, 120, 34]) && decide (EqI (mayT (D.t [D.i 1, D.s (ByteArray.mk #[110, 97, 109, 101]), D.t [D.i 3, D.b false, D.i 0, D.s (ByteArray.mk #[120]), D.i 0]])) 0) && decide (sL (triB (D.t [D.b false, D.t [D.i 1, D.s (ByteArray.mk #[110, 97, 109, 101]), D.t [D.i 3, D.b false, D.i 0, D.s (ByteArray.mk #[120]), D.i 0]]])) = ByteArray.mk #[0, 1, 1, 1, 4, 110, 97, 109, 101, 3, 120, 0, 1]) && decide (EqI (mayT (D.t [D.i 1, D.s (ByteArray.mk #[110, 97, 109, 101]), D.t [D.i 3, D.b false, D.i 0, D.s (ByteArray.mk #[120]), D.i 0]])) 0)) = true → (ByteArray.mk #[49, 97]).size ≤ 9223372036854775807) ∧ (decide (sL (triL (D.t [D.b false, D.t [D.i 1, D.s (ByteArray.mk #[110, 97, 109, 101]), D.t [D.i 3, D.b false, D.i 0, D.s (ByteArray.mk #[120]), D.i 0]]])) = ByteArray.mk #[43, 32, 48, 120, 49, 32, 110, 97, 109, 101, 32, 34, 120, 34]) && decide (EqI (mayT (D.t [D.i 1, D.s (ByteArray.mk #[110, 97, 109, 101]), D.t [D.i 3, D.b false, D.i 0, D.s (ByteArray.mk #[120]), D.i 0]])) 0) && decide (sL (triB (D.t [D.b false, D.t [D.i 1, D.s (ByteArray.mk #[110, 97, 109, 101]), D.t [D.i 3, D.b false, D.i 0, D.s (ByteArray.mk #[120]), D.i 0]]])) = ByteArray.mk #[0, 1, 1, 1, 4, 110, 97, 109, 101, 3, 120, 0, 1]) && decide (EqI (mayT (D.t [D.i 1, D.s (ByteArray.mk #[110, 97, 109, 101]), D.t [D.i 3, D.b false, D.i 0, D.s (ByteArray.mk #[120]), D.i 0]])) 0) && decide (EqI 40 40)) = true) = conGoal Tryz.prog (addS 14 predCon (addS 13 tBC (addS 12 tTC noS))) aliveC_an 200 4 aliveC [] := by kernel_rfl
theorem aliveC_ok : ConOK Tryz.prog gl 4 aliveC := con_of mo (addS_ok predCon_ok (addS_ok tBC_ok (addS_ok tTC_ok (noS_ok _)))) (an := aliveC_an) 200 fun ds hl hp => by
  obtain rfl := len0 hl
  rw [← aliveC_vc]
  decide +kernel
end Go.Proofs.YtnhfkdgambncfaaGreatDoor.XT
