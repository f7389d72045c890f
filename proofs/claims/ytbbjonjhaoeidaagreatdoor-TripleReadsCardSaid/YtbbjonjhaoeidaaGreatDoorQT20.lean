/- Contracts, by the symbolic evaluator. -/
import Derived.Test.YtbbjonjhaoeidaaGreatDoorQTD
import Derived.Test.YtbbjonjhaoeidaaGreatDoorProg
set_option linter.unusedVariables false
set_option linter.unusedSimpArgs false
namespace Go.Proofs.YtbbjonjhaoeidaaGreatDoor.XT
open Go Go.RowKit Go.Proofs.YtbbjonjhaoeidaaGreatDoor.Sv
set_option maxRecDepth 100000
theorem dS_nth : ∀ (l : List ByteArray) (k : Nat), (nthD (dS l) k).str = l.getD k (ByteArray.mk #[])
  | [], 0 => rfl
  | [], _ + 1 => rfl
  | _ :: _, 0 => rfl
  | _ :: l, k + 1 => dS_nth l k
theorem dS_pc (s : ByteArray) (k : Nat) : (nthD (dS (cutS 3 s)) k).str = pc s k := dS_nth _ k
theorem dS_len (l : List ByteArray) : (dS l).length = l.length := by simp [dS]
theorem cut_size : ∀ (f : Nat) (s p : ByteArray), p ∈ cutS f s → p.size ≤ s.size
  | 0, s, p, h => by rw [List.mem_singleton.1 h]; exact Nat.le_refl _
  | f + 1, s, p, h => by
    rw [cutS] at h
    split at h
    · rw [List.mem_singleton.1 h]; exact Nat.le_refl _
    · rcases List.mem_cons.1 h with rfl | h
      · rw [ByteArray.size_extract]; omega
      · refine Nat.le_trans (cut_size f _ p h) ?_
        rw [ByteArray.size_extract]; omega
theorem pc_size (s : ByteArray) (k : Nat) : (pc s k).size ≤ s.size := by
  rw [pc, List.getD_eq_getElem?_getD]
  rcases h : (cutS 3 s)[k]? with _ | p
  · exact Nat.zero_le _
  · exact cut_size 3 s p (List.mem_of_getElem? h)
theorem rtD_okv (s : ByteArray) : okV (rtD s) := by
  unfold rtD
  split
  · exact cV_ok s
  · exact ⟨by show (0 : Int) ≤ 0; decide, by show (0 : Int) < 256; decide, i0, u0⟩
theorem triL_put (b : Bool) (u : Int) (t : ByteArray) (v : D) : triL (.t [.b b, .t [.i u, .s t, putF valT v []]]) = triL (.t [.b b, .t [.i u, .s t, v]]) := rfl
theorem tRtW_ok {s : ByteArray} (h : s.size ≤ 140737488355327) : okT ((D.fld (tRtW s) 1)) :=
  ⟨(rtD_okv (pc s 1)).2.2.2, Nat.le_trans (pc_size s 2) (by omega), rtD_okv (pc s 3)⟩
theorem may_cond41 (b : Bool) : decide (condI b 0 41 = 0) = b := by cases b <;> rfl
theorem triB_length {w : D} (h : mayT ((D.fld w 1)) = 0) : (triB w).length ≤ 33554600 := by
  obtain ⟨_, m2, m3⟩ := mayT_of h
  have h1 := pred_size m2
  have h2 := valB_length (mayV_size m3)
  have h3 := nb_le ((D.int (D.fld ((D.fld w 1)) 0)))
  have h4 := nb_le (((D.str (D.fld ((D.fld w 1)) 1))).size : Int)
  rw [triB]
  simp only [List.length_append, numL_length, bys_length]
  split <;> (simp only [List.length_cons, List.length_nil]; omega)
theorem triL_length {w : D} (h : mayT ((D.fld w 1)) = 0) : (triL w).length ≤ 67109000 := by
  obtain ⟨_, m2, m3⟩ := mayT_of h
  have h1 := pred_size m2
  have h2 := valL_length (mayV_size m3)
  have h3 := hexT_length ((D.int (D.fld ((D.fld w 1)) 0)))
  rw [triL]
  simp only [List.length_append, bys_length]
  split <;> (simp only [List.length_cons, List.length_nil]; omega)
def tRtC : Con := ⟨[.d true .s], fun ds => (fun (a : D) => [a.str.size ≤ 140737488355327]) (nthD ds 0), [.d wrT, .d (.i .i64)], fun ds => (fun (a : D) => [tRtD a.str, .i (bif tRtB a.str then 0 else 41)]) (nthD ds 0), fun ds => []⟩
def tRtC_an : Anns := fun _ _ => none
theorem tRtC_vc (a : D) : (ByteArray.mk #[32] = ByteArray.mk #[32] ∧ EqI 0 0 ∧ EqI 4 4 ∧ a.str.size ≤ 9223372036854775806 ∧ bif !decide ((↑(dS (cutS 3 a.str)).length : Int) = 4) then false = (nthD (tRtD a.str).tup 0).bool ∧ EqI 0 (nthD (nthD (tailD (tRtD a.str).tup) 0).tup 0).int ∧ (ByteArray.mk #[]) = (nthD (tailD (nthD (tailD (tRtD a.str).tup) 0).tup) 0).str ∧ EqI 0 (nthD (nthD (tailD (tailD (nthD (tailD (tRtD a.str).tup) 0).tup)) 0).tup 0).int ∧ false = (nthD (tailD (nthD (tailD (tailD (nthD (tailD (tRtD a.str).tup) 0).tup)) 0).tup) 0).bool ∧ EqI 0 (nthD (tailD (tailD (nthD (tailD (tailD (nthD (tailD (tRtD a.str).tup) 0).tup)) 0).tup)) 0).int ∧ (ByteArray.mk #[]) = (nthD (tailD (tailD (tailD (nthD (tailD (tailD (nthD (tailD (tRtD a.str).tup) 0).tup)) 0).tup))) 0).str ∧ EqI 0 (nthD (tailD (tailD (tailD (tailD (nthD (tailD (tailD (nthD (tailD (tRtD a.str).tup) 0).tup)) 0).tup)))) 0).int ∧ EqI 41 (condI (tRtB a.str) 0 41) else Idx 1 (dS (cutS 3 a.str)).length ∧ (nthD (dS (cutS 3 a.str)) (Int.toNat 1)).str.size ≤ 140737488355327 ∧ Idx 3 (dS (cutS 3 a.str)).length ∧ (nthD (dS (cutS 3 a.str)) (Int.toNat 3)).str.size ≤ 140737488355327 ∧ Idx 0 (dS (cutS 3 a.str)).length ∧ Idx 0 (dS (cutS 3 a.str)).length ∧ Int.toNat 0 = Int.toNat 0 ∧ (nthD (dS (cutS 3 a.str)) (Int.toNat 0)).str = (nthD (dS (cutS 3 a.str)) (Int.toNat 0)).str ∧ ((rtD (nthD (dS (cutS 3 a.str)) (Int.toNat 1)).str).fld 4).int = ((rtD (nthD (dS (cutS 3 a.str)) (Int.toNat 1)).str).fld 4).int ∧ Idx 2 (dS (cutS 3 a.str)).length ∧ Idx 2 (dS (cutS 3 a.str)).length ∧ Int.toNat 2 = Int.toNat 2 ∧ (nthD (dS (cutS 3 a.str)) (Int.toNat 2)).str = (nthD (dS (cutS 3 a.str)) (Int.toNat 2)).str ∧ ((rtD (nthD (dS (cutS 3 a.str)) (Int.toNat 3)).str).fld 0).int = ((rtD (nthD (dS (cutS 3 a.str)) (Int.toNat 3)).str).fld 0).int ∧ ((D.fld (rtD (nthD (dS (cutS 3 a.str)) (Int.toNat 3)).str) 1)).bool = ((D.fld (rtD (nthD (dS (cutS 3 a.str)) (Int.toNat 3)).str) 1)).bool ∧ ((D.fld (rtD (nthD (dS (cutS 3 a.str)) (Int.toNat 3)).str) 2)).int = ((D.fld (rtD (nthD (dS (cutS 3 a.str)) (Int.toNat 3)).str) 2)).int ∧ ((rtD (nthD (dS (cutS 3 a.str)) (Int.toNat 3)).str).fld 3).str = ((rtD (nthD (dS (cutS 3 a.str)) (Int.toNat 3)).str).fld 3).str ∧ ((rtD (nthD (dS (cutS 3 a.str)) (Int.toNat 3)).str).fld 4).int = ((rtD (nthD (dS (cutS 3 a.str)) (Int.toNat 3)).str).fld 4).int ∧ ((0 ≤ ((rtD (nthD (dS (cutS 3 a.str)) (Int.toNat 1)).str).fld 4).int ∧ ((rtD (nthD (dS (cutS 3 a.str)) (Int.toNat 1)).str).fld 4).int < 18446744073709551616) ∧ (nthD (dS (cutS 3 a.str)) (Int.toNat 2)).str.size ≤ 9223372036854775807 ∧ 0 ≤ ((rtD (nthD (dS (cutS 3 a.str)) (Int.toNat 3)).str).fld 0).int ∧ ((rtD (nthD (dS (cutS 3 a.str)) (Int.toNat 3)).str).fld 0).int < 256 ∧ I64 ((D.fld (rtD (nthD (dS (cutS 3 a.str)) (Int.toNat 3)).str) 2)).int ∧ 0 ≤ ((rtD (nthD (dS (cutS 3 a.str)) (Int.toNat 3)).str).fld 4).int ∧ ((rtD (nthD (dS (cutS 3 a.str)) (Int.toNat 3)).str).fld 4).int < 18446744073709551616) ∧ bif !decide (mayT (D.t [D.i ((rtD (nthD (dS (cutS 3 a.str)) (Int.toNat 1)).str).fld 4).int, D.s (nthD (dS (cutS 3 a.str)) (Int.toNat 2)).str, putF valT (rtD (nthD (dS (cutS 3 a.str)) (Int.toNat 3)).str) []]) = 0) || !decide ((bif decide (mayT (D.t [D.i ((rtD (nthD (dS (cutS 3 a.str)) (Int.toNat 1)).str).fld 4).int, D.s (nthD (dS (cutS 3 a.str)) (Int.toNat 2)).str, putF valT (rtD (nthD (dS (cutS 3 a.str)) (Int.toNat 3)).str) []]) = 0) then sL (triL (D.t [D.b (decide ((nthD (dS (cutS 3 a.str)) (Int.toNat 0)).str = ByteArray.mk #[45])), D.t [D.i ((rtD (nthD (dS (cutS 3 a.str)) (Int.toNat 1)).str).fld 4).int, D.s (nthD (dS (cutS 3 a.str)) (Int.toNat 2)).str, putF valT (rtD (nthD (dS (cutS 3 a.str)) (Int.toNat 3)).str) []]])) else (ByteArray.mk #[])) = a.str) then false = (nthD (tRtD a.str).tup 0).bool ∧ EqI 0 (nthD (nthD (tailD (tRtD a.str).tup) 0).tup 0).int ∧ (ByteArray.mk #[]) = (nthD (tailD (nthD (tailD (tRtD a.str).tup) 0).tup) 0).str ∧ EqI 0 (nthD (nthD (tailD (tailD (nthD (tailD (tRtD a.str).tup) 0).tup)) 0).tup 0).int ∧ false = (nthD (tailD (nthD (tailD (tailD (nthD (tailD (tRtD a.str).tup) 0).tup)) 0).tup) 0).bool ∧ EqI 0 (nthD (tailD (tailD (nthD (tailD (tailD (nthD (tailD (tRtD a.str).tup) 0).tup)) 0).tup)) 0).int ∧ (ByteArray.mk #[]) = (nthD (tailD (tailD (tailD (nthD (tailD (tailD (nthD (tailD (tRtD a.str).tup) 0).tup)) 0).tup))) 0).str ∧ EqI 0 (nthD (tailD (tailD (tailD (tailD (nthD (tailD (tailD (nthD (tailD (tRtD a.str).tup) 0).tup)) 0).tup)))) 0).int ∧ EqI 41 (condI (tRtB a.str) 0 41) else decide ((nthD (dS (cutS 3 a.str)) (Int.toNat 0)).str = ByteArray.mk #[45]) = (nthD (tRtD a.str).tup 0).bool ∧ ((rtD (nthD (dS (cutS 3 a.str)) (Int.toNat 1)).str).fld 4).int = (nthD (nthD (tailD (tRtD a.str).tup) 0).tup 0).int ∧ (nthD (dS (cutS 3 a.str)) (Int.toNat 2)).str = (nthD (tailD (nthD (tailD (tRtD a.str).tup) 0).tup) 0).str ∧ ((rtD (nthD (dS (cutS 3 a.str)) (Int.toNat 3)).str).fld 0).int = (nthD (nthD (tailD (tailD (nthD (tailD (tRtD a.str).tup) 0).tup)) 0).tup 0).int ∧ ((D.fld (rtD (nthD (dS (cutS 3 a.str)) (Int.toNat 3)).str) 1)).bool = (nthD (tailD (nthD (tailD (tailD (nthD (tailD (tRtD a.str).tup) 0).tup)) 0).tup) 0).bool ∧ ((D.fld (rtD (nthD (dS (cutS 3 a.str)) (Int.toNat 3)).str) 2)).int = (nthD (tailD (tailD (nthD (tailD (tailD (nthD (tailD (tRtD a.str).tup) 0).tup)) 0).tup)) 0).int ∧ ((rtD (nthD (dS (cutS 3 a.str)) (Int.toNat 3)).str).fld 3).str = (nthD (tailD (tailD (tailD (nthD (tailD (tailD (nthD (tailD (tRtD a.str).tup) 0).tup)) 0).tup))) 0).str ∧ ((rtD (nthD (dS (cutS 3 a.str)) (Int.toNat 3)).str).fld 4).int = (nthD (tailD (tailD (tailD (tailD (nthD (tailD (tailD (nthD (tailD (tRtD a.str).tup) 0).tup)) 0).tup)))) 0).int ∧ EqI 0 (condI (tRtB a.str) 0 41)) = conGoal Tryz.prog (addS 23 tTC (addS 22 rtC (addS 39 gspC noS))) tRtC_an 200 6 tRtC [a] := by kernel_rfl
set_option maxHeartbeats 4000000 in
theorem tRtC_ok : ConOK Tryz.prog gl 6 tRtC := con_of mo (addS_ok tTC_ok (addS_ok rtC_ok (addS_ok gspC_ok (noS_ok _)))) (an := tRtC_an) 200 fun ds hl hp => by
  obtain ⟨a, rfl⟩ := len1 hl
  rw [← tRtC_vc]
  have p0 : a.str.size ≤ 140737488355327 := hp _ (.head _)
  have z0 : Int.toNat 0 = 0 := rfl
  have z1 : Int.toNat 1 = 1 := rfl
  have z2 : Int.toNat 2 = 2 := rfl
  have z3 : Int.toNat 3 = 3 := rfl
  rw [z0, z1, z2, z3, dS_pc, dS_pc, dS_pc, dS_pc, dS_len, mayT_put, triL_put]
  have bad : tRtB a.str = false → (false = (nthD (tRtD a.str).tup 0).bool ∧ EqI 0 (nthD (nthD (tailD (tRtD a.str).tup) 0).tup 0).int ∧ (ByteArray.mk #[]) = (nthD (tailD (nthD (tailD (tRtD a.str).tup) 0).tup) 0).str ∧ EqI 0 (nthD (nthD (tailD (tailD (nthD (tailD (tRtD a.str).tup) 0).tup)) 0).tup 0).int ∧ false = (nthD (tailD (nthD (tailD (tailD (nthD (tailD (tRtD a.str).tup) 0).tup)) 0).tup) 0).bool ∧ EqI 0 (nthD (tailD (tailD (nthD (tailD (tailD (nthD (tailD (tRtD a.str).tup) 0).tup)) 0).tup)) 0).int ∧ (ByteArray.mk #[]) = (nthD (tailD (tailD (tailD (nthD (tailD (tailD (nthD (tailD (tRtD a.str).tup) 0).tup)) 0).tup))) 0).str ∧ EqI 0 (nthD (tailD (tailD (tailD (tailD (nthD (tailD (tailD (nthD (tailD (tRtD a.str).tup) 0).tup)) 0).tup)))) 0).int ∧ EqI 41 (condI (tRtB a.str) 0 41)) := fun h => by
    have hV : tRtD a.str = zW := if_neg (by rw [h]; decide)
    rw [hV, h]; exact ⟨rfl, rfl, rfl, rfl, rfl, rfl, rfl, rfl, rfl⟩
  refine ⟨rfl, rfl, rfl, by omega, cond_of (fun c => ?_) (fun c => ?_)⟩
  · have c : ¬ (cutS 3 a.str).length = 4 := fun h => by rw [h] at c; cases c
    exact bad (by rw [tRtB, decide_eq_false c]; rfl)
  have c : (cutS 3 a.str).length = 4 := by
    have : ((cutS 3 a.str).length : Int) = 4 := by simpa using c
    omega
  rw [c]
  have ok1 := rtD_okv (pc a.str 1)
  have ok3 := rtD_okv (pc a.str 3)
  have s1 := pc_size a.str 1
  have s2 := pc_size a.str 2
  have s3 := pc_size a.str 3
  have hW : tRtW a.str = .t [.b (decide (pc a.str 0 = ByteArray.mk #[45])), .t [.i ((D.int (D.fld (rtD (pc a.str 1)) 4))), .s (pc a.str 2), rtD (pc a.str 3)]] := by with_reducible rw [tRtW]
  have hB : tRtB a.str = (decide ((cutS 3 a.str).length = 4) && decide (mayT ((D.fld (tRtW a.str) 1)) = 0) && decide (sL (triL (tRtW a.str)) = a.str)) := by with_reducible rw [tRtB]
  have hD : tRtB a.str = true → tRtD a.str = tRtW a.str := fun h => if_pos h
  rw [c, decide_eq_true rfl, Bool.true_and] at hB
  rw [hW] at hB hD
  generalize rtD (pc a.str 1) = U at hB hD ok1 ⊢
  generalize rtD (pc a.str 3) = V at hB hD ok3 ⊢
  have hwT : ∀ b : Bool, ∀ t : D, D.fld (.t [.b b, t]) 1 = t := fun _ _ => rfl
  rw [hwT] at hB
  generalize hm : mayT (.t [.i ((D.int (D.fld U 4))), .s (pc a.str 2), V]) = m at hB ⊢
  generalize ht : triL (.t [.b (decide (pc a.str 0 = ByteArray.mk #[45])), .t [.i ((D.int (D.fld U 4))), .s (pc a.str 2), V]]) = t at hB ⊢
  refine ⟨⟨by decide, by decide⟩, by omega, ⟨by decide, by decide⟩, by omega, ⟨by decide, by decide⟩, ⟨by decide, by decide⟩, rfl, rfl, rfl, ⟨by decide, by decide⟩, ⟨by decide, by decide⟩, rfl, rfl, rfl, rfl, rfl, rfl, rfl, ⟨ok1.2.2.2, by omega, ok3⟩, cond_of (fun d => ?_) (fun d => ?_)⟩
  · refine bad ?_
    rw [hB]
    cases hmm : decide (m = 0) with
    | false => rfl
    | true =>
      rw [hmm] at d
      simpa using d
  · have hmm : decide (m = 0) = true := by
      cases h : decide (m = 0) with
      | true => rfl
      | false => rw [h] at d; cases d
    rw [hmm] at d hB
    have d : sL t = a.str := by simpa using d
    rw [d, decide_eq_true rfl] at hB
    have hB : tRtB a.str = true := hB
    rw [hD hB, hB]
    exact ⟨rfl, rfl, rfl, (rfl : (D.int (D.fld V 0)) = _), (congrArg D.bool (nth_t1 V.tup)).symm, (congrArg D.int (nth_t2 V.tup)).symm, (congrArg D.str (nth_t3 V.tup)).symm, (congrArg D.int (nth_t4 V.tup)).symm, rfl⟩
theorem tbk_T {c : D} (p : c.str.size ≤ 140737488351232) : c.str.size ≤ 140737488355327 ∧ bif !tRtB c.str then true = true else okT ((D.fld (tRtD c.str) 1)) ∧ (decide (mayT ((D.fld (tRtD c.str) 1)) = 0) && decide ((bif decide (mayT ((D.fld (tRtD c.str) 1)) = 0) then sL (triL (tRtD c.str)) else (ByteArray.mk #[])) = c.str) && true) = true := by
  refine ⟨by omega, cond_of (fun _ => rfl) (fun h => ?_)⟩
  have h : tRtB c.str = true := by simpa using h
  obtain ⟨t1, t2⟩ := tRt_back h
  have hD : tRtD c.str = tRtW c.str := if_pos h
  refine ⟨by rw [hD]; exact tRtW_ok (by omega), ?_⟩
  rw [t1, t2, decide_eq_true rfl, cond_true, decide_eq_true rfl]; rfl
theorem tbk_C {b c : D} (p : b.str.size ≤ 140737488351232) (q : c.str.size ≤ 140737488351232) : b.str.size ≤ 9223372036854775807 ∧ (rkV (bys (tlS (tE2 b.str)))).length ≤ 140737488355326 ∧ bif decide (tRdE b.str = 0) then okT ((D.fld (tRdV b.str) 1)) ∧ ((!decide (mayT ((D.fld (tRdV b.str) 1)) = 0)) = false → (bif decide (mayT ((D.fld (tRdV b.str) 1)) = 0) then sL (triB (tRdV b.str)) else (ByteArray.mk #[])).size + (tRdR b.str).size ≤ 9223372036854775807) ∧ bif !decide (mayT ((D.fld (tRdV b.str) 1)) = 0) || !decide ((bif decide (mayT ((D.fld (tRdV b.str) 1)) = 0) then sL (triB (tRdV b.str)) else (ByteArray.mk #[])) ++ tRdR b.str = b.str) then false = true else c.str.size ≤ 140737488355327 ∧ bif !tRtB c.str then true = true else okT ((D.fld (tRtD c.str) 1)) ∧ (decide (mayT ((D.fld (tRtD c.str) 1)) = 0) && decide ((bif decide (mayT ((D.fld (tRtD c.str) 1)) = 0) then sL (triL (tRtD c.str)) else (ByteArray.mk #[])) = c.str) && true) = true else c.str.size ≤ 140737488355327 ∧ bif !tRtB c.str then true = true else okT ((D.fld (tRtD c.str) 1)) ∧ (decide (mayT ((D.fld (tRtD c.str) 1)) = 0) && decide ((bif decide (mayT ((D.fld (tRtD c.str) 1)) = 0) then sL (triL (tRtD c.str)) else (ByteArray.mk #[])) = c.str) && true) = true := by
  refine ⟨by omega, rkT_len (Nat.le_trans (e2_size b.str) (by omega)), cond_of (fun h => ?_) (fun _ => tbk_T q)⟩
  obtain ⟨h1, h2, h3⟩ := tRd_back (of_decide_eq_true h) (by omega)
  rw [h1, decide_eq_true rfl, cond_true, h3, decide_eq_true rfl]
  refine ⟨h2, fun _ => ?_, tbk_T q⟩
  have := congrArg ByteArray.size h3
  rw [ByteArray.size_append] at this
  omega
end Go.Proofs.YtbbjonjhaoeidaaGreatDoor.XT
