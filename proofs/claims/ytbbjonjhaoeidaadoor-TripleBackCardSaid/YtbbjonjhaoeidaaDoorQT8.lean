/- Contracts, by the symbolic evaluator. -/
import Derived.Test.YtbbjonjhaoeidaaDoorQT7
import Derived.Test.YtbbjonjhaoeidaaDoorProg
set_option linter.unusedVariables false
set_option linter.unusedSimpArgs false
namespace Go.Proofs.YtbbjonjhaoeidaaDoor.XT
open Go Go.RowKit Go.Proofs.YtbbjonjhaoeidaaDoor.Sv
set_option maxRecDepth 100000
def triB (w : D) : List Int := (if (w.fld 0).bool = true then [1] else [0]) ++ numL ((D.int (D.fld ((D.fld w 1)) 0))) ++ (numL ((D.str (D.fld ((D.fld w 1)) 1))).size ++ bys ((D.str (D.fld ((D.fld w 1)) 1)))) ++ valB ((D.fld ((D.fld w 1)) 2))
def triL (w : D) : List Int := (if (w.fld 0).bool = true then [45] else [43]) ++ [32] ++ hexT ((D.int (D.fld ((D.fld w 1)) 0))) ++ [32] ++ bys ((D.str (D.fld ((D.fld w 1)) 1))) ++ [32] ++ valL ((D.fld ((D.fld w 1)) 2))
abbrev okT (t : D) : Prop := inU ((D.int (D.fld t 0))) ∧ ((D.str (D.fld t 1))).size ≤ 9223372036854775807 ∧ okV ((D.fld t 2))
theorem predB_size {s : ByteArray} (h : predB s = true) : s.size ≤ 64 := by
  unfold predB predHead at h
  simp only [Bool.and_eq_true, Bool.not_eq_true', Bool.or_eq_false_iff, decide_eq_false_iff_not] at h
  have := h.1.1.1.2
  omega
theorem mayT_zero {t : D} (h : mayT t = 0) : (D.int (D.fld t 0)) ≠ 0 ∧ predB ((D.str (D.fld t 1))) = true ∧ mayV ((D.fld t 2)) = true := by
  unfold mayT at h
  split at h
  · cases h
  · rename_i h0
    split at h
    · cases h
    · rename_i h1
      split at h
      · cases h
      · rename_i h2
        exact ⟨h0, by simpa using h1, by simpa using h2⟩
theorem hexT_length (u : Int) : (hexT u).length ≤ 18 := by
  rw [hexT, List.length_cons, List.length_cons, hexL_length]; have := (nh_le u).2; omega
theorem join4 (a b c d sep : ByteArray) : joinS [D.s a, D.s b, D.s c, D.s d] sep = a ++ sep ++ b ++ sep ++ c ++ sep ++ d := by
  apply ByteArray.ext
  apply Array.ext'
  simp [joinS, Lib.join, List.intercalate, ByteArray.data_append, D.str]
theorem put_str (s X Y : ByteArray) : X ++ s ++ Y = X ++ sL (bys s) ++ Y := by rw [sL_bys]
theorem one_size (x : UInt8) : (ByteArray.mk #[x]).size = 1 := rfl
theorem two_size (x y : UInt8) : (ByteArray.mk #[x, y]).size = 2 := rfl
theorem lit_may {u : Int} (h : 0 < u) : mayV (D.t [D.i 4, D.b false, D.i 0, D.s (ByteArray.mk #[]), D.i u]) = true := by
  have : mayV (D.t [D.i 4, D.b false, D.i 0, D.s (ByteArray.mk #[]), D.i u]) = decide (0 < u) := rfl
  rw [this, decide_eq_true h]
def ctC : Con := ⟨[.d true .s], fun ds => (fun (a : D) => [a.str.size ≤ 16777216]) (nthD ds 0), [.d .s], fun ds => (fun (a : D) => [.s (sL (numL a.str.size ++ bys a.str))]) (nthD ds 0), fun ds => []⟩
def ctC_an : Anns := fun _ _ => none
theorem ctC_vc (a : D) : ((0 ≤ IntKind.u64.wrap (↑a.str.size : Int) ∧ IntKind.u64.wrap (↑a.str.size : Int) < 18446744073709551616) ∧ (sL (numL (IntKind.u64.wrap (↑a.str.size : Int)))).size + a.str.size ≤ 9223372036854775807 ∧ sL (numL (IntKind.u64.wrap (↑a.str.size : Int))) ++ a.str = sL (numL (↑a.str.size : Int) ++ bys a.str)) = conGoal Tryd.prog (addS 40 numC noS) ctC_an 200 41 ctC [a] := by kernel_rfl
theorem ctC_ok : ConOK Tryd.prog gl 41 ctC := con_of mo (addS_ok numC_ok (noS_ok _)) (an := ctC_an) 200 fun ds hl hp => by
  obtain ⟨a, rfl⟩ := len1 hl
  rw [← ctC_vc]
  have p0 : a.str.size ≤ 16777216 := hp _ (.head _)
  have hw : IntKind.u64.wrap (a.str.size : Int) = a.str.size := wrap64 (by omega) (by omega)
  have h1 := numL_length (a.str.size : Int)
  have h2 := nb_le (a.str.size : Int)
  rw [hw]
  refine ⟨⟨by omega, by omega⟩, by rw [sL_size]; omega, ?_⟩
  rw [← sL_append, sL_bys]
def rctC : Con := ⟨[.d true .s], fun ds => (fun (a : D) => [a.str.size ≤ 16777216]) (nthD ds 0), [.d .s], fun ds => (fun (a : D) => [.s (sL (numL a.str.size ++ bys a.str))]) (nthD ds 0), fun ds => []⟩
def rctC_an : Anns := fun _ _ => none
theorem rctC_vc (a : D) : ((0 ≤ IntKind.u64.wrap (↑a.str.size : Int) ∧ IntKind.u64.wrap (↑a.str.size : Int) < 18446744073709551616) ∧ (sL (numL (IntKind.u64.wrap (↑a.str.size : Int)))).size + a.str.size ≤ 9223372036854775807 ∧ sL (numL (IntKind.u64.wrap (↑a.str.size : Int))) ++ a.str = sL (numL (↑a.str.size : Int) ++ bys a.str)) = conGoal Tryd.prog (addS 44 rnumC noS) rctC_an 200 45 rctC [a] := by kernel_rfl
theorem rctC_ok : ConOK Tryd.prog gl 45 rctC := con_of mo (addS_ok rnumC_ok (noS_ok _)) (an := rctC_an) 200 fun ds hl hp => by
  obtain ⟨a, rfl⟩ := len1 hl
  rw [← rctC_vc]
  have p0 : a.str.size ≤ 16777216 := hp _ (.head _)
  have hw : IntKind.u64.wrap (a.str.size : Int) = a.str.size := wrap64 (by omega) (by omega)
  have h1 := numL_length (a.str.size : Int)
  have h2 := nb_le (a.str.size : Int)
  rw [hw]
  refine ⟨⟨by omega, by omega⟩, by rw [sL_size]; omega, ?_⟩
  rw [← sL_append, sL_bys]
def tBC : Con := ⟨[.d true wrT], fun ds => (fun (a : D) => [okT ((D.fld a 1))]) (nthD ds 0), [.d .s, .d (.i .i64)], fun ds => (fun (a : D) => [.s (bif decide (mayT ((D.fld a 1)) = 0) then sL (triB a) else (ByteArray.mk #[])), .i (mayT ((D.fld a 1)))]) (nthD ds 0), fun ds => []⟩
def tBC_an : Anns := fun _ _ => none
theorem tBC_vc (a : D) : (((D.fld (D.fld a 1) 1)).str.size ≤ 9223372036854775807 ∧ 0 ≤ (((D.fld (D.fld a 1) 2)).fld 4).int ∧ bif !decide (mayT (D.fld a 1) = 0) then ((ByteArray.mk #[]) = bif decide (mayT (D.fld a 1) = 0) then sL (triB a) else (ByteArray.mk #[])) ∧ mayT (D.fld a 1) = mayT (D.fld a 1) else bif (a.fld 0).bool then (0 ≤ (((D.fld (D.fld a 1) 2)).fld 0).int ∧ (((D.fld (D.fld a 1) 2)).fld 0).int < 256 ∧ I64 ((D.fld (D.fld (D.fld a 1) 2) 2)).int ∧ 0 ≤ (((D.fld (D.fld a 1) 2)).fld 4).int ∧ (((D.fld (D.fld a 1) 2)).fld 4).int < 18446744073709551616) ∧ (0 ≤ (((D.fld a 1)).fld 0).int ∧ (((D.fld a 1)).fld 0).int < 18446744073709551616) ∧ (ByteArray.mk #[1]).size + (sL (numL (((D.fld a 1)).fld 0).int)).size ≤ 9223372036854775807 ∧ ((D.fld (D.fld a 1) 1)).str.size ≤ 16777216 ∧ (ByteArray.mk #[1] ++ sL (numL (((D.fld a 1)).fld 0).int)).size + (sL (numL (↑((D.fld (D.fld a 1) 1)).str.size : Int) ++ bys ((D.fld (D.fld a 1) 1)).str)).size ≤ 9223372036854775807 ∧ (ByteArray.mk #[1] ++ sL (numL (((D.fld a 1)).fld 0).int) ++ sL (numL (↑((D.fld (D.fld a 1) 1)).str.size : Int) ++ bys ((D.fld (D.fld a 1) 1)).str)).size + (bif mayV (D.fld (D.fld a 1) 2) then sL (valB (D.fld (D.fld a 1) 2)) else (ByteArray.mk #[])).size ≤ 9223372036854775807 ∧ ((ByteArray.mk #[1] ++ sL (numL (((D.fld a 1)).fld 0).int) ++ sL (numL (↑((D.fld (D.fld a 1) 1)).str.size : Int) ++ bys ((D.fld (D.fld a 1) 1)).str) ++ bif mayV (D.fld (D.fld a 1) 2) then sL (valB (D.fld (D.fld a 1) 2)) else (ByteArray.mk #[])) = bif decide (mayT (D.fld a 1) = 0) then sL (triB a) else (ByteArray.mk #[])) ∧ EqI 0 (mayT (D.fld a 1)) else (0 ≤ (((D.fld (D.fld a 1) 2)).fld 0).int ∧ (((D.fld (D.fld a 1) 2)).fld 0).int < 256 ∧ I64 ((D.fld (D.fld (D.fld a 1) 2) 2)).int ∧ 0 ≤ (((D.fld (D.fld a 1) 2)).fld 4).int ∧ (((D.fld (D.fld a 1) 2)).fld 4).int < 18446744073709551616) ∧ (0 ≤ (((D.fld a 1)).fld 0).int ∧ (((D.fld a 1)).fld 0).int < 18446744073709551616) ∧ (ByteArray.mk #[0]).size + (sL (numL (((D.fld a 1)).fld 0).int)).size ≤ 9223372036854775807 ∧ ((D.fld (D.fld a 1) 1)).str.size ≤ 16777216 ∧ (ByteArray.mk #[0] ++ sL (numL (((D.fld a 1)).fld 0).int)).size + (sL (numL (↑((D.fld (D.fld a 1) 1)).str.size : Int) ++ bys ((D.fld (D.fld a 1) 1)).str)).size ≤ 9223372036854775807 ∧ (ByteArray.mk #[0] ++ sL (numL (((D.fld a 1)).fld 0).int) ++ sL (numL (↑((D.fld (D.fld a 1) 1)).str.size : Int) ++ bys ((D.fld (D.fld a 1) 1)).str)).size + (bif mayV (D.fld (D.fld a 1) 2) then sL (valB (D.fld (D.fld a 1) 2)) else (ByteArray.mk #[])).size ≤ 9223372036854775807 ∧ ((ByteArray.mk #[0] ++ sL (numL (((D.fld a 1)).fld 0).int) ++ sL (numL (↑((D.fld (D.fld a 1) 1)).str.size : Int) ++ bys ((D.fld (D.fld a 1) 1)).str) ++ bif mayV (D.fld (D.fld a 1) 2) then sL (valB (D.fld (D.fld a 1) 2)) else (ByteArray.mk #[])) = bif decide (mayT (D.fld a 1) = 0) then sL (triB a) else (ByteArray.mk #[])) ∧ EqI 0 (mayT (D.fld a 1))) = conGoal Tryd.prog (addS 41 ctC (addS 40 numC (addS 27 vBC (addS 11 mayTC noS)))) tBC_an 200 12 tBC [a] := by kernel_rfl
theorem tBC_ok : ConOK Tryd.prog gl 12 tBC := con_of mo (addS_ok ctC_ok (addS_ok numC_ok (addS_ok vBC_ok (addS_ok mayTC_ok (noS_ok _))))) (an := tBC_an) 200 fun ds hl hp => by
  obtain ⟨a, rfl⟩ := len1 hl
  rw [← tBC_vc]
  have p0 : okT ((D.fld a 1)) := hp _ (.head _)
  obtain ⟨hu, hp, hv⟩ := p0
  refine ⟨hp, hv.2.2.2.1, ?_⟩
  by_cases hm : mayT ((D.fld a 1)) = 0
  · obtain ⟨-, hb, hmv⟩ := mayT_zero hm
    have hs := predB_size hb
    have hl := valB_length (mayV_size hmv)
    have n1 := numL_length ((D.int (D.fld ((D.fld a 1)) 0)))
    have n2 := nb_le ((D.int (D.fld ((D.fld a 1)) 0)))
    have n3 := numL_length (((D.str (D.fld ((D.fld a 1)) 1))).size : Int)
    have n4 := nb_le (((D.str (D.fld ((D.fld a 1)) 1))).size : Int)
    rw [decide_eq_true hm, hmv]
    refine cond_of (b := (a.fld 0).bool) (fun b => ?_) (fun b => ?_)
    · refine ⟨hv, hu, by simp only [ByteArray.size_append, sL_size, List.length_append, List.length_cons, List.length_nil, bys_length, one_size, two_size]; omega, by omega, by simp only [ByteArray.size_append, sL_size, List.length_append, List.length_cons, List.length_nil, bys_length, one_size, two_size]; omega, ?_, ?_, hm.symm⟩
      · show _ + (sL (valB ((D.fld ((D.fld a 1)) 2)))).size ≤ _
        simp only [ByteArray.size_append, sL_size, List.length_append, List.length_cons, List.length_nil, bys_length, one_size, two_size]; omega
      · show _ ++ sL (valB ((D.fld ((D.fld a 1)) 2))) = sL (triB a)
        rw [triB, if_pos b, show ByteArray.mk #[1] = sL [1] from rfl, sL_append, sL_append, sL_append]
    · refine ⟨hv, hu, by simp only [ByteArray.size_append, sL_size, List.length_append, List.length_cons, List.length_nil, bys_length, one_size, two_size]; omega, by omega, by simp only [ByteArray.size_append, sL_size, List.length_append, List.length_cons, List.length_nil, bys_length, one_size, two_size]; omega, ?_, ?_, hm.symm⟩
      · show _ + (sL (valB ((D.fld ((D.fld a 1)) 2)))).size ≤ _
        simp only [ByteArray.size_append, sL_size, List.length_append, List.length_cons, List.length_nil, bys_length, one_size, two_size]; omega
      · show _ ++ sL (valB ((D.fld ((D.fld a 1)) 2))) = sL (triB a)
        rw [triB, if_neg (by rw [b]; decide), show ByteArray.mk #[0] = sL [0] from rfl, sL_append, sL_append, sL_append]
  · rw [decide_eq_false hm]
    exact ⟨rfl, rfl⟩
def rtBC : Con := ⟨[.d true wrT], fun ds => (fun (a : D) => [okT ((D.fld a 1)), mayT ((D.fld a 1)) = 0]) (nthD ds 0), [.d .s], fun ds => (fun (a : D) => [.s (sL (triB a))]) (nthD ds 0), fun ds => []⟩
def rtBC_an : Anns := fun _ _ => none
theorem rtBC_vc (a : D) : (bif (a.fld 0).bool then (0 ≤ (((D.fld a 1)).fld 0).int ∧ (((D.fld a 1)).fld 0).int < 18446744073709551616) ∧ (ByteArray.mk #[1]).size + (sL (numL (((D.fld a 1)).fld 0).int)).size ≤ 9223372036854775807 ∧ ((D.fld (D.fld a 1) 1)).str.size ≤ 16777216 ∧ (ByteArray.mk #[1] ++ sL (numL (((D.fld a 1)).fld 0).int)).size + (sL (numL (↑((D.fld (D.fld a 1) 1)).str.size : Int) ++ bys ((D.fld (D.fld a 1) 1)).str)).size ≤ 9223372036854775807 ∧ (0 ≤ (((D.fld (D.fld a 1) 2)).fld 0).int ∧ (((D.fld (D.fld a 1) 2)).fld 0).int < 256 ∧ I64 ((D.fld (D.fld (D.fld a 1) 2) 2)).int ∧ 0 ≤ (((D.fld (D.fld a 1) 2)).fld 4).int ∧ (((D.fld (D.fld a 1) 2)).fld 4).int < 18446744073709551616) ∧ mayV (D.fld (D.fld a 1) 2) = true ∧ (ByteArray.mk #[1] ++ sL (numL (((D.fld a 1)).fld 0).int) ++ sL (numL (↑((D.fld (D.fld a 1) 1)).str.size : Int) ++ bys ((D.fld (D.fld a 1) 1)).str)).size + (sL (valB (D.fld (D.fld a 1) 2))).size ≤ 9223372036854775807 ∧ ByteArray.mk #[1] ++ sL (numL (((D.fld a 1)).fld 0).int) ++ sL (numL (↑((D.fld (D.fld a 1) 1)).str.size : Int) ++ bys ((D.fld (D.fld a 1) 1)).str) ++ sL (valB (D.fld (D.fld a 1) 2)) = sL (triB a) else (0 ≤ (((D.fld a 1)).fld 0).int ∧ (((D.fld a 1)).fld 0).int < 18446744073709551616) ∧ (ByteArray.mk #[0]).size + (sL (numL (((D.fld a 1)).fld 0).int)).size ≤ 9223372036854775807 ∧ ((D.fld (D.fld a 1) 1)).str.size ≤ 16777216 ∧ (ByteArray.mk #[0] ++ sL (numL (((D.fld a 1)).fld 0).int)).size + (sL (numL (↑((D.fld (D.fld a 1) 1)).str.size : Int) ++ bys ((D.fld (D.fld a 1) 1)).str)).size ≤ 9223372036854775807 ∧ (0 ≤ (((D.fld (D.fld a 1) 2)).fld 0).int ∧ (((D.fld (D.fld a 1) 2)).fld 0).int < 256 ∧ I64 ((D.fld (D.fld (D.fld a 1) 2) 2)).int ∧ 0 ≤ (((D.fld (D.fld a 1) 2)).fld 4).int ∧ (((D.fld (D.fld a 1) 2)).fld 4).int < 18446744073709551616) ∧ mayV (D.fld (D.fld a 1) 2) = true ∧ (ByteArray.mk #[0] ++ sL (numL (((D.fld a 1)).fld 0).int) ++ sL (numL (↑((D.fld (D.fld a 1) 1)).str.size : Int) ++ bys ((D.fld (D.fld a 1) 1)).str)).size + (sL (valB (D.fld (D.fld a 1) 2))).size ≤ 9223372036854775807 ∧ ByteArray.mk #[0] ++ sL (numL (((D.fld a 1)).fld 0).int) ++ sL (numL (↑((D.fld (D.fld a 1) 1)).str.size : Int) ++ bys ((D.fld (D.fld a 1) 1)).str) ++ sL (valB (D.fld (D.fld a 1) 2)) = sL (triB a)) = conGoal Tryd.prog (addS 30 rvBC (addS 45 rctC (addS 44 rnumC noS))) rtBC_an 200 17 rtBC [a] := by kernel_rfl
theorem rtBC_ok : ConOK Tryd.prog gl 17 rtBC := con_of mo (addS_ok rvBC_ok (addS_ok rctC_ok (addS_ok rnumC_ok (noS_ok _)))) (an := rtBC_an) 200 fun ds hl hp => by
  obtain ⟨a, rfl⟩ := len1 hl
  rw [← rtBC_vc]
  have p0 : okT ((D.fld a 1)) := hp _ (.head _)
  have p1 : mayT ((D.fld a 1)) = 0 := hp _ (.tail _ (.head _))
  obtain ⟨hu, hp, hv⟩ := p0
  obtain ⟨-, hb, hmv⟩ := mayT_zero p1
  have hs := predB_size hb
  have hl := valB_length (mayV_size hmv)
  have n1 := numL_length ((D.int (D.fld ((D.fld a 1)) 0)))
  have n2 := nb_le ((D.int (D.fld ((D.fld a 1)) 0)))
  have n3 := numL_length (((D.str (D.fld ((D.fld a 1)) 1))).size : Int)
  have n4 := nb_le (((D.str (D.fld ((D.fld a 1)) 1))).size : Int)
  refine cond_of (b := (a.fld 0).bool) (fun b => ?_) (fun b => ?_)
  · refine ⟨hu, by simp only [ByteArray.size_append, sL_size, List.length_append, List.length_cons, List.length_nil, bys_length, one_size, two_size]; omega, by omega, by simp only [ByteArray.size_append, sL_size, List.length_append, List.length_cons, List.length_nil, bys_length, one_size, two_size]; omega, hv, hmv, by simp only [ByteArray.size_append, sL_size, List.length_append, List.length_cons, List.length_nil, bys_length, one_size, two_size]; omega, ?_⟩
    rw [triB, if_pos b, show ByteArray.mk #[1] = sL [1] from rfl, sL_append, sL_append, sL_append]
  · refine ⟨hu, by simp only [ByteArray.size_append, sL_size, List.length_append, List.length_cons, List.length_nil, bys_length, one_size, two_size]; omega, by omega, by simp only [ByteArray.size_append, sL_size, List.length_append, List.length_cons, List.length_nil, bys_length, one_size, two_size]; omega, hv, hmv, by simp only [ByteArray.size_append, sL_size, List.length_append, List.length_cons, List.length_nil, bys_length, one_size, two_size]; omega, ?_⟩
    rw [triB, if_neg (by rw [b]; decide), show ByteArray.mk #[0] = sL [0] from rfl, sL_append, sL_append, sL_append]
def litC : Con := ⟨[.d true (.i .u64)], fun ds => (fun (a : D) => [inU a.int, a.int ≠ 0]) (nthD ds 0), [.d .s], fun ds => (fun (a : D) => [.s (sL (hexT a.int))]) (nthD ds 0), fun ds => []⟩
def litC_an : Anns := fun _ _ => none
theorem litC_vc (a : D) : ((LeI 0 4 ∧ LtI 4 256 ∧ I64 0 ∧ 0 ≤ a.int ∧ a.int < 18446744073709551616) ∧ (bif mayV (D.t [D.i 4, D.b false, D.i 0, D.s (ByteArray.mk #[]), D.i a.int]) then sL (valL (D.t [D.i 4, D.b false, D.i 0, D.s (ByteArray.mk #[]), D.i a.int])) else (ByteArray.mk #[])) = sL (hexT a.int)) = conGoal Tryd.prog (addS 28 vTC noS) litC_an 200 43 litC [a] := by kernel_rfl
theorem litC_ok : ConOK Tryd.prog gl 43 litC := con_of mo (addS_ok vTC_ok (noS_ok _)) (an := litC_an) 200 fun ds hl hp => by
  obtain ⟨a, rfl⟩ := len1 hl
  rw [← litC_vc]
  have p0 : inU a.int := hp _ (.head _)
  have p1 : a.int ≠ 0 := hp _ (.tail _ (.head _))
  have h0 := p0.1
  refine ⟨⟨by decide, by decide, ⟨by decide, by decide⟩, p0⟩, ?_⟩
  rw [lit_may (by omega)]
  rfl
def tTC : Con := ⟨[.d true wrT], fun ds => (fun (a : D) => [okT ((D.fld a 1))]) (nthD ds 0), [.d .s, .d (.i .i64)], fun ds => (fun (a : D) => [.s (bif decide (mayT ((D.fld a 1)) = 0) then sL (triL a) else (ByteArray.mk #[])), .i (mayT ((D.fld a 1)))]) (nthD ds 0), fun ds => []⟩
def tTC_an : Anns := fun _ _ => none
theorem tTC_vc (a : D) : (((D.fld (D.fld a 1) 1)).str.size ≤ 9223372036854775807 ∧ 0 ≤ (((D.fld (D.fld a 1) 2)).fld 4).int ∧ bif !decide (mayT (D.fld a 1) = 0) then ((ByteArray.mk #[]) = bif decide (mayT (D.fld a 1) = 0) then sL (triL a) else (ByteArray.mk #[])) ∧ mayT (D.fld a 1) = mayT (D.fld a 1) else bif (a.fld 0).bool then (0 ≤ (((D.fld (D.fld a 1) 2)).fld 0).int ∧ (((D.fld (D.fld a 1) 2)).fld 0).int < 256 ∧ I64 ((D.fld (D.fld (D.fld a 1) 2) 2)).int ∧ 0 ≤ (((D.fld (D.fld a 1) 2)).fld 4).int ∧ (((D.fld (D.fld a 1) 2)).fld 4).int < 18446744073709551616) ∧ (((D.fld a 1)).fld 0).int = (((D.fld a 1)).fld 0).int ∧ (0 ≤ (((D.fld a 1)).fld 0).int ∧ (((D.fld a 1)).fld 0).int < 18446744073709551616) ∧ (((D.fld a 1)).fld 0).int ≠ 0 ∧ [D.s (ByteArray.mk #[45]), D.s (sL (hexT (((D.fld a 1)).fld 0).int)), D.s ((D.fld (D.fld a 1) 1)).str, D.s (bif mayV (D.fld (D.fld a 1) 2) then sL (valL (D.fld (D.fld a 1) 2)) else (ByteArray.mk #[]))].length ≤ 140737488355328 ∧ (joinS [D.s (ByteArray.mk #[45]), D.s (sL (hexT (((D.fld a 1)).fld 0).int)), D.s ((D.fld (D.fld a 1) 1)).str, D.s (bif mayV (D.fld (D.fld a 1) 2) then sL (valL (D.fld (D.fld a 1) 2)) else (ByteArray.mk #[]))] (ByteArray.mk #[32])).size ≤ 140737488355328 ∧ (joinS [D.s (ByteArray.mk #[45]), D.s (sL (hexT (((D.fld a 1)).fld 0).int)), D.s ((D.fld (D.fld a 1) 1)).str, D.s (bif mayV (D.fld (D.fld a 1) 2) then sL (valL (D.fld (D.fld a 1) 2)) else (ByteArray.mk #[]))] (ByteArray.mk #[32]) = bif decide (mayT (D.fld a 1) = 0) then sL (triL a) else (ByteArray.mk #[])) ∧ EqI 0 (mayT (D.fld a 1)) else (0 ≤ (((D.fld (D.fld a 1) 2)).fld 0).int ∧ (((D.fld (D.fld a 1) 2)).fld 0).int < 256 ∧ I64 ((D.fld (D.fld (D.fld a 1) 2) 2)).int ∧ 0 ≤ (((D.fld (D.fld a 1) 2)).fld 4).int ∧ (((D.fld (D.fld a 1) 2)).fld 4).int < 18446744073709551616) ∧ (((D.fld a 1)).fld 0).int = (((D.fld a 1)).fld 0).int ∧ (0 ≤ (((D.fld a 1)).fld 0).int ∧ (((D.fld a 1)).fld 0).int < 18446744073709551616) ∧ (((D.fld a 1)).fld 0).int ≠ 0 ∧ [D.s (ByteArray.mk #[43]), D.s (sL (hexT (((D.fld a 1)).fld 0).int)), D.s ((D.fld (D.fld a 1) 1)).str, D.s (bif mayV (D.fld (D.fld a 1) 2) then sL (valL (D.fld (D.fld a 1) 2)) else (ByteArray.mk #[]))].length ≤ 140737488355328 ∧ (joinS [D.s (ByteArray.mk #[43]), D.s (sL (hexT (((D.fld a 1)).fld 0).int)), D.s ((D.fld (D.fld a 1) 1)).str, D.s (bif mayV (D.fld (D.fld a 1) 2) then sL (valL (D.fld (D.fld a 1) 2)) else (ByteArray.mk #[]))] (ByteArray.mk #[32])).size ≤ 140737488355328 ∧ (joinS [D.s (ByteArray.mk #[43]), D.s (sL (hexT (((D.fld a 1)).fld 0).int)), D.s ((D.fld (D.fld a 1) 1)).str, D.s (bif mayV (D.fld (D.fld a 1) 2) then sL (valL (D.fld (D.fld a 1) 2)) else (ByteArray.mk #[]))] (ByteArray.mk #[32]) = bif decide (mayT (D.fld a 1) = 0) then sL (triL a) else (ByteArray.mk #[])) ∧ EqI 0 (mayT (D.fld a 1))) = conGoal Tryd.prog (addS 42 joinC (addS 43 litC (addS 28 vTC (addS 11 mayTC noS)))) tTC_an 200 13 tTC [a] := by kernel_rfl
theorem tTC_ok : ConOK Tryd.prog gl 13 tTC := con_of mo (addS_ok joinC_ok (addS_ok litC_ok (addS_ok vTC_ok (addS_ok mayTC_ok (noS_ok _))))) (an := tTC_an) 200 fun ds hl hp => by
  obtain ⟨a, rfl⟩ := len1 hl
  rw [← tTC_vc]
  have p0 : okT ((D.fld a 1)) := hp _ (.head _)
  obtain ⟨hu, hp, hv⟩ := p0
  refine ⟨hp, hv.2.2.2.1, ?_⟩
  by_cases hm : mayT ((D.fld a 1)) = 0
  · obtain ⟨h0, hb, hmv⟩ := mayT_zero hm
    have hs := predB_size hb
    have hl := valL_length (mayV_size hmv)
    have n1 := hexT_length ((D.int (D.fld ((D.fld a 1)) 0)))
    rw [decide_eq_true hm, hmv]
    refine cond_of (b := (a.fld 0).bool) (fun b => ?_) (fun b => ?_)
    · refine ⟨hv, rfl, hu, h0, show 4 ≤ _ by decide, ?_, ?_, hm.symm⟩
      · show (joinS [D.s (ByteArray.mk #[45]), D.s (sL (hexT ((D.int (D.fld ((D.fld a 1)) 0))))), D.s ((D.str (D.fld ((D.fld a 1)) 1))), D.s (sL (valL ((D.fld ((D.fld a 1)) 2))))] (ByteArray.mk #[32])).size ≤ _
        rw [join4]
        simp only [ByteArray.size_append, sL_size, List.length_append, List.length_cons, List.length_nil, bys_length, one_size, two_size]; omega
      · show joinS [D.s (ByteArray.mk #[45]), D.s (sL (hexT ((D.int (D.fld ((D.fld a 1)) 0))))), D.s ((D.str (D.fld ((D.fld a 1)) 1))), D.s (sL (valL ((D.fld ((D.fld a 1)) 2))))] (ByteArray.mk #[32]) = sL (triL a)
        rw [join4, put_str ((D.str (D.fld ((D.fld a 1)) 1))), triL, if_pos b, show ByteArray.mk #[45] = sL [45] from rfl, show ByteArray.mk #[32] = sL [32] from rfl]
        simp only [sL_append]
    · refine ⟨hv, rfl, hu, h0, show 4 ≤ _ by decide, ?_, ?_, hm.symm⟩
      · show (joinS [D.s (ByteArray.mk #[43]), D.s (sL (hexT ((D.int (D.fld ((D.fld a 1)) 0))))), D.s ((D.str (D.fld ((D.fld a 1)) 1))), D.s (sL (valL ((D.fld ((D.fld a 1)) 2))))] (ByteArray.mk #[32])).size ≤ _
        rw [join4]
        simp only [ByteArray.size_append, sL_size, List.length_append, List.length_cons, List.length_nil, bys_length, one_size, two_size]; omega
      · show joinS [D.s (ByteArray.mk #[43]), D.s (sL (hexT ((D.int (D.fld ((D.fld a 1)) 0))))), D.s ((D.str (D.fld ((D.fld a 1)) 1))), D.s (sL (valL ((D.fld ((D.fld a 1)) 2))))] (ByteArray.mk #[32]) = sL (triL a)
        rw [join4, put_str ((D.str (D.fld ((D.fld a 1)) 1))), triL, if_neg (by rw [b]; decide), show ByteArray.mk #[43] = sL [43] from rfl, show ByteArray.mk #[32] = sL [32] from rfl]
        simp only [sL_append]
  · rw [decide_eq_false hm]
    exact ⟨rfl, rfl⟩
def rtTC : Con := ⟨[.d true wrT], fun ds => (fun (a : D) => [okT ((D.fld a 1)), mayT ((D.fld a 1)) = 0]) (nthD ds 0), [.d .s], fun ds => (fun (a : D) => [.s (sL (triL a))]) (nthD ds 0), fun ds => []⟩
def rtTC_an : Anns := fun _ _ => none
theorem rtTC_vc (a : D) : (bif (a.fld 0).bool then (0 ≤ (((D.fld a 1)).fld 0).int ∧ (((D.fld a 1)).fld 0).int < 18446744073709551616) ∧ (ByteArray.mk #[45, 32]).size + (sL (48 :: 120 :: hexL (((D.fld a 1)).fld 0).int (nh (((D.fld a 1)).fld 0).int))).size ≤ 9223372036854775807 ∧ (ByteArray.mk #[45, 32] ++ sL (48 :: 120 :: hexL (((D.fld a 1)).fld 0).int (nh (((D.fld a 1)).fld 0).int))).size + (ByteArray.mk #[32]).size ≤ 9223372036854775807 ∧ (ByteArray.mk #[45, 32] ++ sL (48 :: 120 :: hexL (((D.fld a 1)).fld 0).int (nh (((D.fld a 1)).fld 0).int)) ++ ByteArray.mk #[32]).size + ((D.fld (D.fld a 1) 1)).str.size ≤ 9223372036854775807 ∧ (ByteArray.mk #[45, 32] ++ sL (48 :: 120 :: hexL (((D.fld a 1)).fld 0).int (nh (((D.fld a 1)).fld 0).int)) ++ ByteArray.mk #[32] ++ ((D.fld (D.fld a 1) 1)).str).size + (ByteArray.mk #[32]).size ≤ 9223372036854775807 ∧ (0 ≤ (((D.fld (D.fld a 1) 2)).fld 0).int ∧ (((D.fld (D.fld a 1) 2)).fld 0).int < 256 ∧ I64 ((D.fld (D.fld (D.fld a 1) 2) 2)).int ∧ 0 ≤ (((D.fld (D.fld a 1) 2)).fld 4).int ∧ (((D.fld (D.fld a 1) 2)).fld 4).int < 18446744073709551616) ∧ mayV (D.fld (D.fld a 1) 2) = true ∧ (ByteArray.mk #[45, 32] ++ sL (48 :: 120 :: hexL (((D.fld a 1)).fld 0).int (nh (((D.fld a 1)).fld 0).int)) ++ ByteArray.mk #[32] ++ ((D.fld (D.fld a 1) 1)).str ++ ByteArray.mk #[32]).size + (sL (valL (D.fld (D.fld a 1) 2))).size ≤ 9223372036854775807 ∧ ByteArray.mk #[45, 32] ++ sL (48 :: 120 :: hexL (((D.fld a 1)).fld 0).int (nh (((D.fld a 1)).fld 0).int)) ++ ByteArray.mk #[32] ++ ((D.fld (D.fld a 1) 1)).str ++ ByteArray.mk #[32] ++ sL (valL (D.fld (D.fld a 1) 2)) = sL (triL a) else (0 ≤ (((D.fld a 1)).fld 0).int ∧ (((D.fld a 1)).fld 0).int < 18446744073709551616) ∧ (ByteArray.mk #[43, 32]).size + (sL (48 :: 120 :: hexL (((D.fld a 1)).fld 0).int (nh (((D.fld a 1)).fld 0).int))).size ≤ 9223372036854775807 ∧ (ByteArray.mk #[43, 32] ++ sL (48 :: 120 :: hexL (((D.fld a 1)).fld 0).int (nh (((D.fld a 1)).fld 0).int))).size + (ByteArray.mk #[32]).size ≤ 9223372036854775807 ∧ (ByteArray.mk #[43, 32] ++ sL (48 :: 120 :: hexL (((D.fld a 1)).fld 0).int (nh (((D.fld a 1)).fld 0).int)) ++ ByteArray.mk #[32]).size + ((D.fld (D.fld a 1) 1)).str.size ≤ 9223372036854775807 ∧ (ByteArray.mk #[43, 32] ++ sL (48 :: 120 :: hexL (((D.fld a 1)).fld 0).int (nh (((D.fld a 1)).fld 0).int)) ++ ByteArray.mk #[32] ++ ((D.fld (D.fld a 1) 1)).str).size + (ByteArray.mk #[32]).size ≤ 9223372036854775807 ∧ (0 ≤ (((D.fld (D.fld a 1) 2)).fld 0).int ∧ (((D.fld (D.fld a 1) 2)).fld 0).int < 256 ∧ I64 ((D.fld (D.fld (D.fld a 1) 2) 2)).int ∧ 0 ≤ (((D.fld (D.fld a 1) 2)).fld 4).int ∧ (((D.fld (D.fld a 1) 2)).fld 4).int < 18446744073709551616) ∧ mayV (D.fld (D.fld a 1) 2) = true ∧ (ByteArray.mk #[43, 32] ++ sL (48 :: 120 :: hexL (((D.fld a 1)).fld 0).int (nh (((D.fld a 1)).fld 0).int)) ++ ByteArray.mk #[32] ++ ((D.fld (D.fld a 1) 1)).str ++ ByteArray.mk #[32]).size + (sL (valL (D.fld (D.fld a 1) 2))).size ≤ 9223372036854775807 ∧ ByteArray.mk #[43, 32] ++ sL (48 :: 120 :: hexL (((D.fld a 1)).fld 0).int (nh (((D.fld a 1)).fld 0).int)) ++ ByteArray.mk #[32] ++ ((D.fld (D.fld a 1) 1)).str ++ ByteArray.mk #[32] ++ sL (valL (D.fld (D.fld a 1) 2)) = sL (triL a)) = conGoal Tryd.prog (addS 31 rvTC (addS 46 uidC noS)) rtTC_an 200 18 rtTC [a] := by kernel_rfl
theorem rtTC_ok : ConOK Tryd.prog gl 18 rtTC := con_of mo (addS_ok rvTC_ok (addS_ok uidC_ok (noS_ok _))) (an := rtTC_an) 200 fun ds hl hp => by
  obtain ⟨a, rfl⟩ := len1 hl
  rw [← rtTC_vc]
  have p0 : okT ((D.fld a 1)) := hp _ (.head _)
  have p1 : mayT ((D.fld a 1)) = 0 := hp _ (.tail _ (.head _))
  obtain ⟨hu, hp, hv⟩ := p0
  obtain ⟨-, hb, hmv⟩ := mayT_zero p1
  have hs := predB_size hb
  have hl := valL_length (mayV_size hmv)
  have n1 := hexT_length ((D.int (D.fld ((D.fld a 1)) 0)))
  have eh : 48 :: 120 :: hexL (((D.fld a 1)).fld 0).int (nh (((D.fld a 1)).fld 0).int) = hexT ((D.int (D.fld ((D.fld a 1)) 0))) := rfl
  rw [eh]
  refine cond_of (b := (a.fld 0).bool) (fun b => ?_) (fun b => ?_)
  · refine ⟨hu, by simp only [ByteArray.size_append, sL_size, List.length_append, List.length_cons, List.length_nil, bys_length, one_size, two_size]; omega, by simp only [ByteArray.size_append, sL_size, List.length_append, List.length_cons, List.length_nil, bys_length, one_size, two_size]; omega, by simp only [ByteArray.size_append, sL_size, List.length_append, List.length_cons, List.length_nil, bys_length, one_size, two_size]; omega, by simp only [ByteArray.size_append, sL_size, List.length_append, List.length_cons, List.length_nil, bys_length, one_size, two_size]; omega, hv, hmv, by simp only [ByteArray.size_append, sL_size, List.length_append, List.length_cons, List.length_nil, bys_length, one_size, two_size]; omega, ?_⟩
    rw [put_str ((D.str (D.fld ((D.fld a 1)) 1))), triL, if_pos b, show ByteArray.mk #[45, 32] = sL [45] ++ sL [32] from rfl, show ByteArray.mk #[32] = sL [32] from rfl]
    simp only [sL_append]
  · refine ⟨hu, by simp only [ByteArray.size_append, sL_size, List.length_append, List.length_cons, List.length_nil, bys_length, one_size, two_size]; omega, by simp only [ByteArray.size_append, sL_size, List.length_append, List.length_cons, List.length_nil, bys_length, one_size, two_size]; omega, by simp only [ByteArray.size_append, sL_size, List.length_append, List.length_cons, List.length_nil, bys_length, one_size, two_size]; omega, by simp only [ByteArray.size_append, sL_size, List.length_append, List.length_cons, List.length_nil, bys_length, one_size, two_size]; omega, hv, hmv, by simp only [ByteArray.size_append, sL_size, List.length_append, List.length_cons, List.length_nil, bys_length, one_size, two_size]; omega, ?_⟩
    rw [put_str ((D.str (D.fld ((D.fld a 1)) 1))), triL, if_neg (by rw [b]; decide), show ByteArray.mk #[43, 32] = sL [43] ++ sL [32] from rfl, show ByteArray.mk #[32] = sL [32] from rfl]
    simp only [sL_append]
def aliveC : Con := ⟨[], fun ds => [], [.d .b], fun ds => [.b true], fun ds => []⟩
def aliveC_an : Anns := fun _ _ => none
theorem aliveC_vc : (((LeI 0 1 ∧ LtI 1 18446744073709551616) ∧ (ByteArray.mk #[110, 97, 109, 101]).size ≤ 9223372036854775807 ∧ LeI 0 3 ∧ LtI 3 256 ∧ I64 0 ∧ LeI 0 0 ∧ LtI 0 18446744073709551616) ∧ ((LeI 0 1 ∧ LtI 1 18446744073709551616) ∧ (ByteArray.mk #[110, 97, 109, 101]).size ≤ 9223372036854775807 ∧ LeI 0 3 ∧ LtI 3 256 ∧ I64 0 ∧ LeI 0 0 ∧ LtI 0 18446744073709551616) ∧ ((decide (sL (triL (D.t [D.b false, D.t [D.i 1, D.s (ByteArray.mk #[110, 97, 109, 101]), D.t [D.i 3, D.b false, D.i 0, D.s (ByteArray.mk #[120]), D.i 0]]])) = ByteArray.mk #[43, 32, 48, 120, 49, 32, 110, 97, 109, 101, 32, 34, 120, 34]) && decide (EqI (mayT (D.t [D.i 1, D.s (ByteArray.mk #[110, 97, 109, 101]), D.t [D.i 3, D.b false, D.i 0, D.s (ByteArray.mk #[120]), D.i 0]])) 0) && decide (sL (triB (D.t [D.b false, D.t [D.i 1, D.s (ByteArray.mk #[110, 97, 109, 101]), D.t [D.i 3, D.b false, D.i 0, D.s (ByteArray.mk #[120]), D.i 0]]])) = ByteArray.mk #[0, 1, 1, 1, 4, 110, 97, 109, 101, 3, 120, 0, 1]) && decide (EqI (mayT (D.t [D.i 1, D.s (ByteArray.mk #[110, 97, 109, 101]), D.t [D.i 3, D.b false, D.i 0, D.s (ByteArray.mk #[120]), D.i 0]])) 0)) = true → (ByteArray.mk #[49, 97]).size ≤ 9223372036854775807) ∧ (decide (sL (triL (D.t [D.b false, D.t [D.i 1, D.s (ByteArray.mk #[110, 97, 109, 101]), D.t [D.i 3, D.b false, D.i 0, D.s (ByteArray.mk #[120]), D.i 0]]])) = ByteArray.mk #[43, 32, 48, 120, 49, 32, 110, 97, 109, 101, 32, 34, 120, 34]) && decide (EqI (mayT (D.t [D.i 1, D.s (ByteArray.mk #[110, 97, 109, 101]), D.t [D.i 3, D.b false, D.i 0, D.s (ByteArray.mk #[120]), D.i 0]])) 0) && decide (sL (triB (D.t [D.b false, D.t [D.i 1, D.s (ByteArray.mk #[110, 97, 109, 101]), D.t [D.i 3, D.b false, D.i 0, D.s (ByteArray.mk #[120]), D.i 0]]])) = ByteArray.mk #[0, 1, 1, 1, 4, 110, 97, 109, 101, 3, 120, 0, 1]) && decide (EqI (mayT (D.t [D.i 1, D.s (ByteArray.mk #[110, 97, 109, 101]), D.t [D.i 3, D.b false, D.i 0, D.s (ByteArray.mk #[120]), D.i 0]])) 0) && decide (EqI 40 40)) = true) = conGoal Tryd.prog (addS 14 predCon (addS 12 tBC (addS 13 tTC noS))) aliveC_an 200 16 aliveC [] := by kernel_rfl
theorem aliveC_ok : ConOK Tryd.prog gl 16 aliveC := con_of mo (addS_ok predCon_ok (addS_ok tBC_ok (addS_ok tTC_ok (noS_ok _)))) (an := aliveC_an) 200 fun ds hl hp => by
  obtain rfl := len0 hl
  rw [← aliveC_vc]
  decide +kernel
def schLC : Con := ⟨[.d true schT, .d true wrT], fun ds => (fun (a : D) (b : D) => [((D.str (D.fld a 0))).size ≤ 9223372036854775807, ((D.str (D.fld ((D.fld b 1)) 1))).size ≤ 9223372036854775807, 0 ≤ (D.int (D.fld ((D.fld ((D.fld b 1)) 2)) 4))]) (nthD ds 0) (nthD ds 1), [.d .b], fun ds => (fun (a : D) (b : D) => [.b true]) (nthD ds 0) (nthD ds 1), fun ds => []⟩
def schLC_an : Anns := fun _ _ => none
theorem schLC_vc (a b : D) : ((a.fld 0).str.size ≤ 9223372036854775807 ∧ (a.fld 0).str.size ≤ 9223372036854775807 ∧ (decide (schI a = schI a) = true → (a.fld 0).str.size ≤ 9223372036854775807 ∧ ((D.fld (D.fld b 1) 1)).str.size ≤ 9223372036854775807 ∧ 0 ≤ (((D.fld (D.fld b 1) 2)).fld 4).int ∧ (a.fld 0).str.size ≤ 9223372036854775807 ∧ ((D.fld (D.fld b 1) 1)).str.size ≤ 9223372036854775807) ∧ (decide (schI a = schI a) && decide (fitsI a b = fitsI a b) && true) = true) = conGoal Tryd.prog (addS 16 aliveC (addS 22 rfitsC (addS 21 fitsC (addS 20 rschC (addS 19 schC noS))))) schLC_an 200 4 schLC [a, b] := by kernel_rfl
theorem schLC_ok : ConOK Tryd.prog gl 4 schLC := con_of mo (addS_ok aliveC_ok (addS_ok rfitsC_ok (addS_ok fitsC_ok (addS_ok rschC_ok (addS_ok schC_ok (noS_ok _)))))) (an := schLC_an) 200 fun ds hl hp => by
  obtain ⟨a, b, rfl⟩ := len2 hl
  rw [← schLC_vc]
  have p0 : ((D.str (D.fld a 0))).size ≤ 9223372036854775807 := hp _ (.head _)
  have p1 : ((D.str (D.fld ((D.fld b 1)) 1))).size ≤ 9223372036854775807 := hp _ (.tail _ (.head _))
  have p2 : 0 ≤ (D.int (D.fld ((D.fld ((D.fld b 1)) 2)) 4)) := hp _ (.tail _ (.tail _ (.head _)))
  exact ⟨p0, p0, fun _ => ⟨p0, p1, p2, p0, p1⟩, by simp⟩
def ordLC : Con := ⟨[.d true triT, .d true triT], fun ds => (fun (a : D) (b : D) => [((D.str (D.fld a 1))).size ≤ 9223372036854775807, 0 ≤ (D.int (D.fld ((D.fld a 2)) 4)), ((D.str (D.fld b 1))).size ≤ 9223372036854775807, 0 ≤ (D.int (D.fld ((D.fld b 2)) 4))]) (nthD ds 0) (nthD ds 1), [.d .b], fun ds => (fun (a : D) (b : D) => [.b true]) (nthD ds 0) (nthD ds 1), fun ds => []⟩
def ordLC_an : Anns := fun _ _ => none
theorem ordLC_vc (a b : D) : (((D.fld a 1)).str.size ≤ 9223372036854775807 ∧ 0 ≤ (((D.fld a 2)).fld 4).int ∧ ((D.fld b 1)).str.size ≤ 9223372036854775807 ∧ 0 ≤ (((D.fld b 2)).fld 4).int ∧ ((D.fld a 1)).str.size ≤ 9223372036854775807 ∧ ((D.fld b 1)).str.size ≤ 9223372036854775807 ∧ bif !decide (mayT a = 0) then (decide ((if mayT a ≠ 0 then 0 else if mayT b ≠ 0 then 0 else cmpT a b) = 0) && decide ((if mayT a ≠ 0 then mayT a else mayT b) = mayT a) && true) = true else bif !decide (mayT b = 0) then (decide ((if mayT a ≠ 0 then 0 else if mayT b ≠ 0 then 0 else cmpT a b) = 0) && decide ((if mayT a ≠ 0 then mayT a else mayT b) = mayT b) && true) = true else (decide ((if mayT a ≠ 0 then 0 else if mayT b ≠ 0 then 0 else cmpT a b) = rcmpT a b) && decide ((if mayT a ≠ 0 then mayT a else mayT b) = 0) && true) = true) = conGoal Tryd.prog (addS 24 rcmpTC (addS 16 aliveC (addS 10 rmayTC (addS 23 tCmpC noS)))) ordLC_an 200 5 ordLC [a, b] := by kernel_rfl
theorem ordLC_ok : ConOK Tryd.prog gl 5 ordLC := con_of mo (addS_ok rcmpTC_ok (addS_ok aliveC_ok (addS_ok rmayTC_ok (addS_ok tCmpC_ok (noS_ok _))))) (an := ordLC_an) 200 fun ds hl hp => by
  obtain ⟨a, b, rfl⟩ := len2 hl
  rw [← ordLC_vc]
  have p0 : ((D.str (D.fld a 1))).size ≤ 9223372036854775807 := hp _ (.head _)
  have p1 : 0 ≤ (D.int (D.fld ((D.fld a 2)) 4)) := hp _ (.tail _ (.head _))
  have p2 : ((D.str (D.fld b 1))).size ≤ 9223372036854775807 := hp _ (.tail _ (.tail _ (.head _)))
  have p3 : 0 ≤ (D.int (D.fld ((D.fld b 2)) 4)) := hp _ (.tail _ (.tail _ (.tail _ (.head _))))
  refine ⟨p0, p1, p2, p3, p0, p2, ?_⟩
  by_cases ha : mayT a = 0
  · rw [decide_eq_true ha]
    by_cases hb : mayT b = 0
    · rw [decide_eq_true hb]
      simp [ha, hb, cmpT_may ha hb]
    · rw [decide_eq_false hb]
      simp [ha, hb]
  · rw [decide_eq_false ha]
    simp [ha]
def frmLC : Con := ⟨[.d true wrT, .d true .s], fun ds => (fun (a : D) (b : D) => [okT ((D.fld a 1)), b.str.size ≤ 9223372036854775807]) (nthD ds 0) (nthD ds 1), [.d .b], fun ds => (fun (a : D) (b : D) => [.b true]) (nthD ds 0) (nthD ds 1), fun ds => []⟩
def frmLC_an : Anns := fun _ _ => none
theorem frmLC_vc (a b : D) : (((D.fld (D.fld a 1) 1)).str.size ≤ 9223372036854775807 ∧ ((D.fld (D.fld a 1) 1)).str.size ≤ 9223372036854775807 ∧ 0 ≤ (((D.fld (D.fld a 1) 2)).fld 4).int ∧ ((0 ≤ (((D.fld a 1)).fld 0).int ∧ (((D.fld a 1)).fld 0).int < 18446744073709551616) ∧ ((D.fld (D.fld a 1) 1)).str.size ≤ 9223372036854775807 ∧ 0 ≤ (((D.fld (D.fld a 1) 2)).fld 0).int ∧ (((D.fld (D.fld a 1) 2)).fld 0).int < 256 ∧ I64 ((D.fld (D.fld (D.fld a 1) 2) 2)).int ∧ 0 ≤ (((D.fld (D.fld a 1) 2)).fld 4).int ∧ (((D.fld (D.fld a 1) 2)).fld 4).int < 18446744073709551616) ∧ ((0 ≤ (((D.fld a 1)).fld 0).int ∧ (((D.fld a 1)).fld 0).int < 18446744073709551616) ∧ ((D.fld (D.fld a 1) 1)).str.size ≤ 9223372036854775807 ∧ 0 ≤ (((D.fld (D.fld a 1) 2)).fld 0).int ∧ (((D.fld (D.fld a 1) 2)).fld 0).int < 256 ∧ I64 ((D.fld (D.fld (D.fld a 1) 2) 2)).int ∧ 0 ≤ (((D.fld (D.fld a 1) 2)).fld 4).int ∧ (((D.fld (D.fld a 1) 2)).fld 4).int < 18446744073709551616) ∧ ((!decide (mayT (D.fld a 1) = mayT (D.fld a 1)) || !decide (mayT (D.fld a 1) = mayT (D.fld a 1)) || !decide (mayT (D.fld a 1) = mayT (D.fld a 1))) = false → b.str.size ≤ 9223372036854775807 ∧ b.str.size ≤ 9223372036854775807) ∧ ((!decide (mayT (D.fld a 1) = mayT (D.fld a 1)) || !decide (mayT (D.fld a 1) = mayT (D.fld a 1)) || !decide (mayT (D.fld a 1) = mayT (D.fld a 1)) || !decide (condI (predB b.str) 0 40 = 0) == predB b.str) = false → b.str.size ≤ 9223372036854775807 ∧ ((!decide (condI (predB b.str) 0 40 = 0)) = true → b.str.size ≤ 9223372036854775807)) ∧ bif !decide (mayT (D.fld a 1) = mayT (D.fld a 1)) || !decide (mayT (D.fld a 1) = mayT (D.fld a 1)) || !decide (mayT (D.fld a 1) = mayT (D.fld a 1)) || !decide (condI (predB b.str) 0 40 = 0) == predB b.str || !decide (condI (predB b.str) 0 40 = 0) && !decide (condI (predB b.str) 0 40 = 40) then false = true else bif !decide (mayT (D.fld a 1) = 0) then (decide ((bif decide (mayT (D.fld a 1) = 0) then sL (triB a) else (ByteArray.mk #[])) = (ByteArray.mk #[])) && decide ((bif decide (mayT (D.fld a 1) = 0) then sL (triL a) else (ByteArray.mk #[])) = (ByteArray.mk #[])) && true) = true else ((0 ≤ (((D.fld a 1)).fld 0).int ∧ (((D.fld a 1)).fld 0).int < 18446744073709551616) ∧ ((D.fld (D.fld a 1) 1)).str.size ≤ 9223372036854775807 ∧ 0 ≤ (((D.fld (D.fld a 1) 2)).fld 0).int ∧ (((D.fld (D.fld a 1) 2)).fld 0).int < 256 ∧ I64 ((D.fld (D.fld (D.fld a 1) 2) 2)).int ∧ 0 ≤ (((D.fld (D.fld a 1) 2)).fld 4).int ∧ (((D.fld (D.fld a 1) 2)).fld 4).int < 18446744073709551616) ∧ mayT (D.fld a 1) = 0 ∧ (decide ((bif decide (mayT (D.fld a 1) = 0) then sL (triB a) else (ByteArray.mk #[])) = sL (triB a)) = true → ((0 ≤ (((D.fld a 1)).fld 0).int ∧ (((D.fld a 1)).fld 0).int < 18446744073709551616) ∧ ((D.fld (D.fld a 1) 1)).str.size ≤ 9223372036854775807 ∧ 0 ≤ (((D.fld (D.fld a 1) 2)).fld 0).int ∧ (((D.fld (D.fld a 1) 2)).fld 0).int < 256 ∧ I64 ((D.fld (D.fld (D.fld a 1) 2) 2)).int ∧ 0 ≤ (((D.fld (D.fld a 1) 2)).fld 4).int ∧ (((D.fld (D.fld a 1) 2)).fld 4).int < 18446744073709551616) ∧ mayT (D.fld a 1) = 0) ∧ (decide ((bif decide (mayT (D.fld a 1) = 0) then sL (triB a) else (ByteArray.mk #[])) = sL (triB a)) && decide ((bif decide (mayT (D.fld a 1) = 0) then sL (triL a) else (ByteArray.mk #[])) = sL (triL a)) && true) = true) = conGoal Tryd.prog (addS 18 rtTC (addS 17 rtBC (addS 16 aliveC (addS 15 rpredC (addS 14 predCon (addS 13 tTC (addS 12 tBC (addS 11 mayTC (addS 10 rmayTC noS))))))))) frmLC_an 200 3 frmLC [a, b] := by kernel_rfl
theorem frmLC_ok : ConOK Tryd.prog gl 3 frmLC := con_of mo (addS_ok rtTC_ok (addS_ok rtBC_ok (addS_ok aliveC_ok (addS_ok rpredC_ok (addS_ok predCon_ok (addS_ok tTC_ok (addS_ok tBC_ok (addS_ok mayTC_ok (addS_ok rmayTC_ok (noS_ok _)))))))))) (an := frmLC_an) 200 fun ds hl hp => by
  obtain ⟨a, b, rfl⟩ := len2 hl
  rw [← frmLC_vc]
  have p0 : okT ((D.fld a 1)) := hp _ (.head _)
  have p1 : b.str.size ≤ 9223372036854775807 := hp _ (.tail _ (.head _))
  refine ⟨p0.2.1, p0.2.1, p0.2.2.2.2.2.1, p0, p0, fun _ => ⟨p1, p1⟩, fun _ => ⟨p1, fun _ => p1⟩, ?_⟩
  have hc : (!decide (mayT ((D.fld a 1)) = mayT ((D.fld a 1))) || !decide (mayT ((D.fld a 1)) = mayT ((D.fld a 1))) || !decide (mayT ((D.fld a 1)) = mayT ((D.fld a 1))) || !decide (condI (predB b.str) 0 40 = 0) == predB b.str || !decide (condI (predB b.str) 0 40 = 0) && !decide (condI (predB b.str) 0 40 = 40)) = false := by
    cases predB b.str <;> simp [condI]
  rw [hc]
  by_cases hm : mayT ((D.fld a 1)) = 0
  · rw [decide_eq_true hm]
    exact ⟨p0, hm, fun _ => ⟨p0, hm⟩, by simp⟩
  · rw [decide_eq_false hm]
    simp
end Go.Proofs.YtbbjonjhaoeidaaDoor.XT
