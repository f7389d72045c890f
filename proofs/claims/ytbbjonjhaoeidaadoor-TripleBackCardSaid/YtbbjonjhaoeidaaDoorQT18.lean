/- Contracts, by the symbolic evaluator. -/
import Derived.Test.YtbbjonjhaoeidaaDoorQT17
import Derived.Test.YtbbjonjhaoeidaaDoorProg
import Derived.Test.YtbbjonjhaoeidaaDoorQTC
set_option linter.unusedVariables false
set_option linter.unusedSimpArgs false
namespace Go.Proofs.YtbbjonjhaoeidaaDoor.XT
open Go Go.RowKit Go.Proofs.YtbbjonjhaoeidaaDoor.Sv
set_option maxRecDepth 100000
theorem may_cond (b : Bool) : decide (condI b 0 30 = 0) = b := by cases b <;> rfl
theorem cV_ok (s : ByteArray) : okV (cV s) := by
  unfold cV
  split
  · exact ⟨by show (0 : Int) ≤ 1; decide, by show (1 : Int) < 256; decide, i0, u0⟩
  split
  · obtain ⟨h0, h1⟩ := puV_in 18446744073709551615 (by decide) ((bys s).drop 2) 0 (by decide) (by decide)
    exact ⟨by show (0 : Int) ≤ 4; decide, by show (4 : Int) < 256; decide, i0, h0, by show puV 18446744073709551615 ((bys s).drop 2) 0 < 18446744073709551616; omega⟩
  split
  · exact ⟨by show (0 : Int) ≤ 3; decide, by show (3 : Int) < 256; decide, i0, u0⟩
  · exact ⟨by show (0 : Int) ≤ 2; decide, by show (2 : Int) < 256; decide, piV_in s, u0⟩
theorem rtD_ok {s : ByteArray} (h : rtB s = true) : okV (rtD s) := by rw [rtD, if_pos h]; exact cV_ok s
theorem rkT_val {a : D} (hk : okV a) (hm : mayV a = true) {r : ByteArray} {n : Nat} (hn : 8192 ≤ n) (hr : r.size + 9 ≤ n) : (rkV (bys (tlS (sL (valB a) ++ r)))).length ≤ n := by
  by_cases k : (D.int (D.fld a 0)) = 3
  · have e : valB a = (D.int (D.fld a 0)) :: (keyL (bys ((D.str (D.fld a 3)))) ++ [0, 1]) := by rw [valB, if_neg (by omega), if_neg (by omega), if_pos k]
    have hin := keyL_in (bys_all_in ((D.str (D.fld a 3))))
    obtain ⟨_, bt, _⟩ := tl_cons hk.1 hk.2.1 (keyL (bys ((D.str (D.fld a 3)))) ++ [0, 1]) r hin
    have hb : bys (sL (keyL (bys ((D.str (D.fld a 3)))) ++ [0, 1]) ++ r) = keyL (bys ((D.str (D.fld a 3)))) ++ [0, 1] ++ bys r := by rw [bys_append, bys_sL hin]
    rw [e, bt, hb, (rk_key (bys ((D.str (D.fld a 3)))) (bys r) (bys_all_in _)).2.1, bys_length]
    have := (may3 hm k).2.2.2
    omega
  · refine rkT_len ?_
    rw [ByteArray.size_append, sL_size]
    have : (valB a).length ≤ 10 := by
      rcases may_kind hm with k' | k' | k' | k'
      · rw [valB, if_pos k']; simp
      · rw [valB, if_neg (by omega), if_pos k', List.length_cons, beL_length]; decide
      · omega
      · rw [valB, if_neg (by omega), if_neg (by omega), if_neg (by omega), List.length_cons, numL_length]
        have := nb_le ((D.int (D.fld a 4)))
        omega
    omega

theorem vbk_T {d : D} (p : d.str.size ≤ 140737488351232) : d.str.size ≤ 140737488355327 ∧ bif !rtB d.str then true = true else (okV (rtD d.str)) ∧ (mayV (rtD d.str) && decide ((bif mayV (rtD d.str) then sL (valL (rtD d.str)) else (ByteArray.mk #[])) = d.str) && true) = true := by
  refine ⟨by omega, cond_of (fun _ => rfl) (fun h => ?_)⟩
  have h : rtB d.str = true := by simpa using h
  obtain ⟨t1, t2⟩ := rt_back h
  refine ⟨rtD_ok h, ?_⟩
  rw [t1, cond_true, t2, decide_eq_true rfl]; rfl
theorem vbk_C {c d : D} (p : c.str.size ≤ 140737488351232) (q : d.str.size ≤ 140737488351232) : c.str.size ≤ 9223372036854775807 ∧ (rkV (bys (tlS c.str))).length ≤ 140737488355326 ∧ bif decide (rdE c.str = 0) then (okV (rdV c.str)) ∧ ((!mayV (rdV c.str)) = false → (bif mayV (rdV c.str) then sL (valB (rdV c.str)) else (ByteArray.mk #[])).size + (rdR c.str).size ≤ 9223372036854775807) ∧ bif !mayV (rdV c.str) || !decide ((bif mayV (rdV c.str) then sL (valB (rdV c.str)) else (ByteArray.mk #[])) ++ rdR c.str = c.str) then false = true else d.str.size ≤ 140737488355327 ∧ bif !rtB d.str then true = true else (okV (rtD d.str)) ∧ (mayV (rtD d.str) && decide ((bif mayV (rtD d.str) then sL (valL (rtD d.str)) else (ByteArray.mk #[])) = d.str) && true) = true else d.str.size ≤ 140737488355327 ∧ bif !rtB d.str then true = true else (okV (rtD d.str)) ∧ (mayV (rtD d.str) && decide ((bif mayV (rtD d.str) then sL (valL (rtD d.str)) else (ByteArray.mk #[])) = d.str) && true) = true := by
  refine ⟨by omega, rkT_len (by omega), cond_of (fun h => ?_) (fun _ => vbk_T q)⟩
  obtain ⟨h1, h2, h3⟩ := rd_back (of_decide_eq_true h)
  rw [h1, cond_true, h3, decide_eq_true rfl]
  refine ⟨h2, fun _ => ?_, vbk_T q⟩
  have := congrArg ByteArray.size h3
  rw [ByteArray.size_append] at this
  omega
def vbkLC : Con := ⟨[.d true valT, .d true valT, .d true .s, .d true .s, .d true .s], fun ds => (fun (a : D) (b : D) (c : D) (d : D) (e : D) => [okV a, okV b, c.str.size ≤ 140737488351232, d.str.size ≤ 140737488351232, e.str.size ≤ 140737488351232]) (nthD ds 0) (nthD ds 1) (nthD ds 2) (nthD ds 3) (nthD ds 4), [.d .b], fun ds => (fun (a : D) (b : D) (c : D) (d : D) (e : D) => [.b true]) (nthD ds 0) (nthD ds 1) (nthD ds 2) (nthD ds 3) (nthD ds 4), fun ds => []⟩
def vbkLC_an : Anns := fun _ _ => none
theorem vbkLC_vc (a b c d e : D) : ((0 ≤ (a.fld 0).int ∧ (a.fld 0).int < 256 ∧ I64 ((D.fld a 2)).int ∧ 0 ≤ (a.fld 4).int ∧ (a.fld 4).int < 18446744073709551616) ∧ bif decide (condI (mayV a) 0 30 = 0) then (bif mayV a then sL (valB a) else (ByteArray.mk #[])).size + e.str.size ≤ 9223372036854775807 ∧ ((bif mayV a then sL (valB a) else (ByteArray.mk #[])) ++ e.str).size ≤ 9223372036854775807 ∧ (rkV (bys (tlS ((bif mayV a then sL (valB a) else (ByteArray.mk #[])) ++ e.str)))).length ≤ 140737488355326 ∧ (0 ≤ (a.fld 0).int ∧ (a.fld 0).int < 256 ∧ I64 ((D.fld a 2)).int ∧ 0 ≤ (a.fld 4).int ∧ (a.fld 4).int < 18446744073709551616) ∧ (bif mayV a then sL (valL a) else (ByteArray.mk #[])).size ≤ 140737488355327 ∧ bif !(decide (((rdV ((bif mayV a then sL (valB a) else (ByteArray.mk #[])) ++ e.str)).fld 0).int = (a.fld 0).int) && (((D.fld (rdV ((bif mayV a then sL (valB a) else (ByteArray.mk #[])) ++ e.str)) 1)).bool == ((D.fld a 1)).bool && (decide (((D.fld (rdV ((bif mayV a then sL (valB a) else (ByteArray.mk #[])) ++ e.str)) 2)).int = ((D.fld a 2)).int) && (decide (((rdV ((bif mayV a then sL (valB a) else (ByteArray.mk #[])) ++ e.str)).fld 3).str = (a.fld 3).str) && (decide (((rdV ((bif mayV a then sL (valB a) else (ByteArray.mk #[])) ++ e.str)).fld 4).int = (a.fld 4).int) && true))))) || !decide (rdR ((bif mayV a then sL (valB a) else (ByteArray.mk #[])) ++ e.str) = e.str) || !decide (rdE ((bif mayV a then sL (valB a) else (ByteArray.mk #[])) ++ e.str) = 0) || !decide (condI (mayV a) 0 30 = 0) || !(decide (((rtD (bif mayV a then sL (valL a) else (ByteArray.mk #[]))).fld 0).int = (a.fld 0).int) && (((D.fld (rtD (bif mayV a then sL (valL a) else (ByteArray.mk #[]))) 1)).bool == ((D.fld a 1)).bool && (decide (((D.fld (rtD (bif mayV a then sL (valL a) else (ByteArray.mk #[]))) 2)).int = ((D.fld a 2)).int) && (decide (((rtD (bif mayV a then sL (valL a) else (ByteArray.mk #[]))).fld 3).str = (a.fld 3).str) && (decide (((rtD (bif mayV a then sL (valL a) else (ByteArray.mk #[]))).fld 4).int = (a.fld 4).int) && true))))) || !decide (condI (rtB (bif mayV a then sL (valL a) else (ByteArray.mk #[]))) 0 30 = 0) then false = true else (0 ≤ (b.fld 0).int ∧ (b.fld 0).int < 256 ∧ I64 ((D.fld b 2)).int ∧ 0 ≤ (b.fld 4).int ∧ (b.fld 4).int < 18446744073709551616) ∧ 0 ≤ (a.fld 4).int ∧ 0 ≤ (b.fld 4).int ∧ bif decide (condI (mayV b) 0 30 = 0) && (!decide (condI (mayV a && mayV b) 0 30 = 0) || !Op.bytesLess (bif mayV a then sL (valB a) else (ByteArray.mk #[])).toList (bif mayV b then sL (valB b) else (ByteArray.mk #[])).toList == decide ((bif mayV a && mayV b then cmpV a b else 0) < 0) || !decide ((bif mayV a then sL (valB a) else (ByteArray.mk #[])) = bif mayV b then sL (valB b) else (ByteArray.mk #[])) == decide ((bif mayV a && mayV b then cmpV a b else 0) = 0)) then false = true else c.str.size ≤ 9223372036854775807 ∧ (rkV (bys (tlS c.str))).length ≤ 140737488355326 ∧ bif decide (rdE c.str = 0) then (0 ≤ ((rdV c.str).fld 0).int ∧ ((rdV c.str).fld 0).int < 256 ∧ I64 ((D.fld (rdV c.str) 2)).int ∧ 0 ≤ ((rdV c.str).fld 4).int ∧ ((rdV c.str).fld 4).int < 18446744073709551616) ∧ ((!decide (condI (mayV (rdV c.str)) 0 30 = 0)) = false → (bif mayV (rdV c.str) then sL (valB (rdV c.str)) else (ByteArray.mk #[])).size + (rdR c.str).size ≤ 9223372036854775807) ∧ bif !decide (condI (mayV (rdV c.str)) 0 30 = 0) || !decide ((bif mayV (rdV c.str) then sL (valB (rdV c.str)) else (ByteArray.mk #[])) ++ rdR c.str = c.str) then false = true else d.str.size ≤ 140737488355327 ∧ bif !decide (condI (rtB d.str) 0 30 = 0) then true = true else (0 ≤ ((rtD d.str).fld 0).int ∧ ((rtD d.str).fld 0).int < 256 ∧ I64 ((D.fld (rtD d.str) 2)).int ∧ 0 ≤ ((rtD d.str).fld 4).int ∧ ((rtD d.str).fld 4).int < 18446744073709551616) ∧ (decide (condI (mayV (rtD d.str)) 0 30 = 0) && decide ((bif mayV (rtD d.str) then sL (valL (rtD d.str)) else (ByteArray.mk #[])) = d.str) && true) = true else d.str.size ≤ 140737488355327 ∧ bif !decide (condI (rtB d.str) 0 30 = 0) then true = true else (0 ≤ ((rtD d.str).fld 0).int ∧ ((rtD d.str).fld 0).int < 256 ∧ I64 ((D.fld (rtD d.str) 2)).int ∧ 0 ≤ ((rtD d.str).fld 4).int ∧ ((rtD d.str).fld 4).int < 18446744073709551616) ∧ (decide (condI (mayV (rtD d.str)) 0 30 = 0) && decide ((bif mayV (rtD d.str) then sL (valL (rtD d.str)) else (ByteArray.mk #[])) = d.str) && true) = true else c.str.size ≤ 9223372036854775807 ∧ (rkV (bys (tlS c.str))).length ≤ 140737488355326 ∧ bif decide (rdE c.str = 0) then (0 ≤ ((rdV c.str).fld 0).int ∧ ((rdV c.str).fld 0).int < 256 ∧ I64 ((D.fld (rdV c.str) 2)).int ∧ 0 ≤ ((rdV c.str).fld 4).int ∧ ((rdV c.str).fld 4).int < 18446744073709551616) ∧ ((!decide (condI (mayV (rdV c.str)) 0 30 = 0)) = false → (bif mayV (rdV c.str) then sL (valB (rdV c.str)) else (ByteArray.mk #[])).size + (rdR c.str).size ≤ 9223372036854775807) ∧ bif !decide (condI (mayV (rdV c.str)) 0 30 = 0) || !decide ((bif mayV (rdV c.str) then sL (valB (rdV c.str)) else (ByteArray.mk #[])) ++ rdR c.str = c.str) then false = true else d.str.size ≤ 140737488355327 ∧ bif !decide (condI (rtB d.str) 0 30 = 0) then true = true else (0 ≤ ((rtD d.str).fld 0).int ∧ ((rtD d.str).fld 0).int < 256 ∧ I64 ((D.fld (rtD d.str) 2)).int ∧ 0 ≤ ((rtD d.str).fld 4).int ∧ ((rtD d.str).fld 4).int < 18446744073709551616) ∧ (decide (condI (mayV (rtD d.str)) 0 30 = 0) && decide ((bif mayV (rtD d.str) then sL (valL (rtD d.str)) else (ByteArray.mk #[])) = d.str) && true) = true else d.str.size ≤ 140737488355327 ∧ bif !decide (condI (rtB d.str) 0 30 = 0) then true = true else (0 ≤ ((rtD d.str).fld 0).int ∧ ((rtD d.str).fld 0).int < 256 ∧ I64 ((D.fld (rtD d.str) 2)).int ∧ 0 ≤ ((rtD d.str).fld 4).int ∧ ((rtD d.str).fld 4).int < 18446744073709551616) ∧ (decide (condI (mayV (rtD d.str)) 0 30 = 0) && decide ((bif mayV (rtD d.str) then sL (valL (rtD d.str)) else (ByteArray.mk #[])) = d.str) && true) = true) = conGoal Tryd.prog (addS 29 alive3C (addS 36 vCmpC (addS 34 rtC (addS 28 vTC (addS 32 readC (addS 27 vBC noS)))))) vbkLC_an 200 8 vbkLC [a, b, c, d, e] := by kernel_rfl
set_option maxHeartbeats 1000000 in
theorem vbkLC_ok : ConOK Tryd.prog gl 8 vbkLC := con_of mo (addS_ok alive3C_ok (addS_ok vCmpC_ok (addS_ok rtC_ok (addS_ok vTC_ok (addS_ok readC_ok (addS_ok vBC_ok (noS_ok _))))))) (an := vbkLC_an) 200 fun ds hl hp => by
  obtain ⟨a, b, c, d, e, rfl⟩ := len5 hl
  rw [← vbkLC_vc]
  have p0 : okV a := hp _ (.head _)
  have p1 : okV b := hp _ (.tail _ (.head _))
  have p2 : c.str.size ≤ 140737488351232 := hp _ (.tail _ (.tail _ (.head _)))
  have p3 : d.str.size ≤ 140737488351232 := hp _ (.tail _ (.tail _ (.tail _ (.head _))))
  have p4 : e.str.size ≤ 140737488351232 := hp _ (.tail _ (.tail _ (.tail _ (.tail _ (.head _)))))
  have hC := vbk_C (c := c) (d := d) p2 p3
  simp only [okV, may_cond] at hC ⊢
  have hC' := hC
  simp only [Bool.and_true] at hC'
  refine ⟨p0, cond_of (fun ma => ?_) (fun _ => hC)⟩
  obtain ⟨r1, r2, r3⟩ := rd_val p0 ma e.str
  obtain ⟨t1, t2⟩ := rt_ok p0 ma
  have hl := valL_length (mayV_size ma)
  have hb := valB_length (mayV_size ma)
  simp only [ma, cond_true, Bool.true_and]
  have hsz : (sL (valB a) ++ e.str).size ≤ 9223372036854775807 := by rw [ByteArray.size_append, sL_size]; omega
  refine ⟨by rw [sL_size]; omega, hsz, rkT_val p0 ma (by decide) (by omega), p0, by rw [sL_size]; omega, ?_⟩
  rw [r1, r2, r3, t1, t2]
  have f0 : ((canV a).fld 0).int = (D.int (D.fld a 0)) := rfl
  have f1 : ((canV a).fld 1).bool = (D.bool (D.fld a 1)) := rfl
  have f2 : ((canV a).fld 2).int = (D.int (D.fld a 2)) := rfl
  have f3 : ((canV a).fld 3).str = (D.str (D.fld a 3)) := rfl
  have f4 : ((canV a).fld 4).int = (D.int (D.fld a 4)) := rfl
  rw [f0, f1, f2, f3, f4]
  simp only [decide_true, beq_self_eq_true, Bool.and_true, Bool.not_true, Bool.or_false, cond_false]
  refine ⟨p1, p0.2.2.2.1, p1.2.2.2.1, cond_of (fun h => ?_) (fun _ => hC')⟩
  exfalso
  cases mb : mayV b with
  | false => rw [mb] at h; cases h
  | true =>
    rw [mb] at h
    simp only [cond_true, Bool.true_and, Bool.not_true, Bool.false_or] at h
    obtain ⟨o1, o2⟩ := ord_val p0 p1 ma mb
    rw [cmpV_may ma mb, o1, o2] at h
    simp at h
end Go.Proofs.YtbbjonjhaoeidaaDoor.XT
