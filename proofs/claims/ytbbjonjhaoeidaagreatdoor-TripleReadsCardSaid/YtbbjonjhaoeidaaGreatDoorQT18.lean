/- Contracts, by the symbolic evaluator. -/
import Derived.Test.YtbbjonjhaoeidaaGreatDoorQT17
import Derived.Test.YtbbjonjhaoeidaaGreatDoorProg
import Derived.Test.YtbbjonjhaoeidaaGreatDoorQTC
set_option linter.unusedVariables false
set_option linter.unusedSimpArgs false
namespace Go.Proofs.YtbbjonjhaoeidaaGreatDoor.XT
open Go Go.RowKit Go.Proofs.YtbbjonjhaoeidaaGreatDoor.Sv
set_option maxRecDepth 100000
theorem may_cond (b : Bool) : decide (condI b 0 30 = 0) = b := by cases b <;> rfl
theorem cV_ok (s : ByteArray) : okV (cV s) := by
  unfold cV
  split
  · exact ⟨by show (0 : Int) ≤ 1; decide, by show (1 : Int) < 256; decide, i0, u0⟩
  split
  · obtain ⟨h0, h1⟩ := puV_in 18446744073709551615 (by decide) ((bys s).drop 2) 0 (by decide) (by decide)
    exact ⟨by show (0 : Int) ≤ 4; decide, by show (4 : Int) < 256; decide, i0, h0, by show puV 18446744073709551615 ((bys s).drop 2) 0 < 18446744073709551616; omega⟩
  split
  · exact ⟨by show (0 : Int) ≤ 3; decide, by show (3 : Int) < 256; decide, i0, u0⟩
  · exact ⟨by show (0 : Int) ≤ 2; decide, by show (2 : Int) < 256; decide, piV_in s, u0⟩
theorem rtD_ok {s : ByteArray} (h : rtB s = true) : okV (rtD s) := by rw [rtD, if_pos h]; exact cV_ok s
theorem rkT_val {a : D} (hk : okV a) (hm : mayV a = true) {r : ByteArray} {n : Nat} (hn : 8192 ≤ n) (hr : r.size + 9 ≤ n) : (rkV (bys (tlS (sL (valB a) ++ r)))).length ≤ n := by
  by_cases k : (D.int (D.fld a 0)) = 3
  · have e : valB a = (D.int (D.fld a 0)) :: (keyL (bys ((D.str (D.fld a 3)))) ++ [0, 1]) := by rw [valB, if_neg (by omega), if_neg (by omega), if_pos k]
    have hin := keyL_in (bys_all_in ((D.str (D.fld a 3))))
    obtain ⟨_, bt, _⟩ := tl_cons hk.1 hk.2.1 (keyL (bys ((D.str (D.fld a 3)))) ++ [0, 1]) r hin
    have hb : bys (sL (keyL (bys ((D.str (D.fld a 3)))) ++ [0, 1]) ++ r) = keyL (bys ((D.str (D.fld a 3)))) ++ [0, 1] ++ bys r := by rw [bys_append, bys_sL hin]
    rw [e, bt, hb, (rk_key (bys ((D.str (D.fld a 3)))) (bys r) (bys_all_in _)).2.1, bys_length]
    have := (may3 hm k).2.2.2
    omega
  · refine rkT_len ?_
    rw [ByteArray.size_append, sL_size]
    have : (valB a).length ≤ 10 := by
      rcases may_kind hm with k' | k' | k' | k'
      · rw [valB, if_pos k']; simp
      · rw [valB, if_neg (by omega), if_pos k', List.length_cons, beL_length]; decide
      · omega
      · rw [valB, if_neg (by omega), if_neg (by omega), if_neg (by omega), List.length_cons, numL_length]
        have := nb_le ((D.int (D.fld a 4)))
        omega
    omega

theorem vbk_T {d : D} (p : d.str.size ≤ 140737488351232) : d.str.size ≤ 140737488355327 ∧ bif !rtB d.str then true = true else (okV (rtD d.str)) ∧ (mayV (rtD d.str) && decide ((bif mayV (rtD d.str) then sL (valL (rtD d.str)) else (ByteArray.mk #[])) = d.str) && true) = true := by
  refine ⟨by omega, cond_of (fun _ => rfl) (fun h => ?_)⟩
  have h : rtB d.str = true := by simpa using h
  obtain ⟨t1, t2⟩ := rt_back h
  refine ⟨rtD_ok h, ?_⟩
  rw [t1, cond_true, t2, decide_eq_true rfl]; rfl
theorem vbk_C {c d : D} (p : c.str.size ≤ 140737488351232) (q : d.str.size ≤ 140737488351232) : c.str.size ≤ 9223372036854775807 ∧ (rkV (bys (tlS c.str))).length ≤ 140737488355326 ∧ bif decide (rdE c.str = 0) then (okV (rdV c.str)) ∧ ((!mayV (rdV c.str)) = false → (bif mayV (rdV c.str) then sL (valB (rdV c.str)) else (ByteArray.mk #[])).size + (rdR c.str).size ≤ 9223372036854775807) ∧ bif !mayV (rdV c.str) || !decide ((bif mayV (rdV c.str) then sL (valB (rdV c.str)) else (ByteArray.mk #[])) ++ rdR c.str = c.str) then false = true else d.str.size ≤ 140737488355327 ∧ bif !rtB d.str then true = true else (okV (rtD d.str)) ∧ (mayV (rtD d.str) && decide ((bif mayV (rtD d.str) then sL (valL (rtD d.str)) else (ByteArray.mk #[])) = d.str) && true) = true else d.str.size ≤ 140737488355327 ∧ bif !rtB d.str then true = true else (okV (rtD d.str)) ∧ (mayV (rtD d.str) && decide ((bif mayV (rtD d.str) then sL (valL (rtD d.str)) else (ByteArray.mk #[])) = d.str) && true) = true := by
  refine ⟨by omega, rkT_len (by omega), cond_of (fun h => ?_) (fun _ => vbk_T q)⟩
  obtain ⟨h1, h2, h3⟩ := rd_back (of_decide_eq_true h)
  rw [h1, cond_true, h3, decide_eq_true rfl]
  refine ⟨h2, fun _ => ?_, vbk_T q⟩
  have := congrArg ByteArray.size h3
  rw [ByteArray.size_append] at this
  omega
end Go.Proofs.YtbbjonjhaoeidaaGreatDoor.XT
