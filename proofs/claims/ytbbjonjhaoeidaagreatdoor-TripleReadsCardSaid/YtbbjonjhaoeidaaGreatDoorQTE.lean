/- The code's and the document's write of any line: the same. -/
import Derived.Test.YtbbjonjhaoeidaaGreatDoorQT21
set_option linter.unusedVariables false
set_option linter.unusedSimpArgs false
namespace Go.Proofs.YtbbjonjhaoeidaaGreatDoor.XT
open Go Go.RowKit Go.Proofs.YtbbjonjhaoeidaaGreatDoor.Sv
theorem ruV_hex {u : Int} (h : inU u) (h0 : 0 < u) : ruV (sL (hexT u)) = u := by
  have hin := hexT_in h.1
  have hb := bys_sL hin
  have hsz : (sL (hexT u)).size = 2 + nh u := by rw [sL_size, hexT, List.length_cons, List.length_cons, hexL_length]; omega
  have hnh := nh_le u
  have hx : hxS (sL (hexT u)) = u := by
    unfold hxS
    rw [if_neg, hb]
    · have := hx_hex (nh u) u [] h.1 (lt_nh h)
      rw [List.append_nil] at this
      exact this
    · rintro (e | e | e)
      · omega
      · omega
      · refine e ?_
        have e2 : bys ((sL (hexT u)).extract 0 2) = [48, 120] := by rw [bys_extract, hb]; rfl
        rw [← sL_bys ((sL (hexT u)).extract 0 2), e2]; rfl
  rw [ruV, hx, if_neg (by omega), if_pos rfl]
theorem bi_app : ∀ (p q : List Int), (32 : Int) ∉ p → bi (p ++ 32 :: q) = p.length
  | [], q, _ => by simp [bi]
  | c :: p, q, h => by
    have hc : c ≠ 32 := fun e => h (by rw [e]; exact List.mem_cons_self)
    have := bi_app p q (fun e => h (List.mem_cons_of_mem _ e))
    rw [List.cons_append, bi, if_neg hc, this]; rfl
theorem rl_tri {w : D} (hk : okT ((D.fld w 1))) (hm : mayT ((D.fld w 1)) = 0) : rlB (sL (triL w)) = true ∧ rlD (sL (triL w)) = canW w := by
  obtain ⟨m1, m2, m3⟩ := mayT_of hm
  have u0 : 0 < (D.int (D.fld ((D.fld w 1)) 0)) := by have := hk.1.1; omega
  have v1 := valL_in hk.2.2
  have v2 : ∀ c ∈ bys ((D.str (D.fld ((D.fld w 1)) 1))) ++ 32 :: valL ((D.fld ((D.fld w 1)) 2)), 0 ≤ c ∧ c < 256 := fun c hc => by
    rcases List.mem_append.1 hc with h | h
    · exact bys_all_in _ c h
    rcases List.mem_cons.1 h with rfl | h
    · omega
    · exact v1 c h
  have v3 : ∀ c ∈ hexT ((D.int (D.fld ((D.fld w 1)) 0))) ++ 32 :: (bys ((D.str (D.fld ((D.fld w 1)) 1))) ++ 32 :: valL ((D.fld ((D.fld w 1)) 2))), 0 ≤ c ∧ c < 256 := fun c hc => by
    rcases List.mem_append.1 hc with h | h
    · exact hexT_in hk.1.1 c h
    rcases List.mem_cons.1 h with rfl | h
    · omega
    · exact v2 c h
  have e : triL w = (if (w.fld 0).bool = true then 45 else 43) :: 32 :: (hexT ((D.int (D.fld ((D.fld w 1)) 0))) ++ 32 :: (bys ((D.str (D.fld ((D.fld w 1)) 1))) ++ 32 :: valL ((D.fld ((D.fld w 1)) 2)))) := by
    rw [triL]; split <;> simp [List.append_assoc]
  have hsg : ∀ c : Int, c = (if (w.fld 0).bool = true then 45 else 43) → c = 45 ∨ c = 43 := fun c h => by split at h <;> omega
  generalize hg : (if (w.fld 0).bool = true then (45 : Int) else 43) = sg at e hsg
  have hsg := hsg sg rfl
  have v4 : ∀ c ∈ triL w, 0 ≤ c ∧ c < 256 := fun c hc => by
    rw [e] at hc
    rcases List.mem_cons.1 hc with rfl | hc
    · omega
    rcases List.mem_cons.1 hc with rfl | hc
    · omega
    · exact v3 c hc
  have hb : bys (sL (triL w)) = triL w := bys_sL v4
  have hz : (sL (triL w)).size = (triL w).length := sL_size _
  have hlen : (triL w).length = 2 + ((hexT ((D.int (D.fld ((D.fld w 1)) 0)))).length + 1 + ((bys ((D.str (D.fld ((D.fld w 1)) 1)))).length + 1 + (valL ((D.fld ((D.fld w 1)) 2))).length)) := by
    rw [e]; simp only [List.length_cons, List.length_append]; omega
  have b0 : byteAt' (sL (triL w)) 0 = sg := by rw [byteAt_get (by omega), hb, e]; rfl
  have b1 : byteAt' (sL (triL w)) 1 = 32 := by rw [byteAt_get (by omega), hb, e]; rfl
  have hR : rlR (sL (triL w)) = sL (hexT ((D.int (D.fld ((D.fld w 1)) 0))) ++ 32 :: (bys ((D.str (D.fld ((D.fld w 1)) 1))) ++ 32 :: valL ((D.fld ((D.fld w 1)) 2)))) := by
    rw [rlR, extract_end, hb, e]; rfl
  have hbR : bys (rlR (sL (triL w))) = hexT ((D.int (D.fld ((D.fld w 1)) 0))) ++ 32 :: (bys ((D.str (D.fld ((D.fld w 1)) 1))) ++ 32 :: valL ((D.fld ((D.fld w 1)) 2))) := by rw [hR, bys_sL v3]
  have hI : rlI (sL (triL w)) = (hexT ((D.int (D.fld ((D.fld w 1)) 0)))).length := by rw [rlI, hbR, bi_app _ _ (hexT_nb hk.1.1)]
  have d1 : (hexT ((D.int (D.fld ((D.fld w 1)) 0))) ++ 32 :: (bys ((D.str (D.fld ((D.fld w 1)) 1))) ++ 32 :: valL ((D.fld ((D.fld w 1)) 2)))).drop ((hexT ((D.int (D.fld ((D.fld w 1)) 0)))).length + 1) = bys ((D.str (D.fld ((D.fld w 1)) 1))) ++ 32 :: valL ((D.fld ((D.fld w 1)) 2)) := by
    rw [show (hexT ((D.int (D.fld ((D.fld w 1)) 0)))).length + 1 = (hexT ((D.int (D.fld ((D.fld w 1)) 0))) ++ [32]).length by simp, show hexT ((D.int (D.fld ((D.fld w 1)) 0))) ++ 32 :: (bys ((D.str (D.fld ((D.fld w 1)) 1))) ++ 32 :: valL ((D.fld ((D.fld w 1)) 2))) = (hexT ((D.int (D.fld ((D.fld w 1)) 0))) ++ [32]) ++ (bys ((D.str (D.fld ((D.fld w 1)) 1))) ++ 32 :: valL ((D.fld ((D.fld w 1)) 2))) by simp, List.drop_left' rfl]
  have hK : rlK (sL (triL w)) = (hexT ((D.int (D.fld ((D.fld w 1)) 0)))).length + 1 + (bys ((D.str (D.fld ((D.fld w 1)) 1)))).length := by
    rw [rlK, hI, hbR, d1, bi_app _ _ (pred_nb m2)]
  have x1 : (rlR (sL (triL w))).extract 0 (rlI (sL (triL w))) = sL (hexT ((D.int (D.fld ((D.fld w 1)) 0)))) := by
    rw [extract_sL, hbR, hI, List.drop_zero, Nat.sub_zero, List.take_left' rfl]
  have x2 : (rlR (sL (triL w))).extract (rlI (sL (triL w)) + 1) (rlK (sL (triL w))) = (D.str (D.fld ((D.fld w 1)) 1)) := by
    rw [extract_sL, hbR, hI, hK, d1, show (hexT ((D.int (D.fld ((D.fld w 1)) 0)))).length + 1 + (bys ((D.str (D.fld ((D.fld w 1)) 1)))).length - ((hexT ((D.int (D.fld ((D.fld w 1)) 0)))).length + 1) = (bys ((D.str (D.fld ((D.fld w 1)) 1)))).length by omega, List.take_left' rfl, sL_bys]
  have x3 : (rlR (sL (triL w))).extract (rlK (sL (triL w)) + 1) (rlR (sL (triL w))).size = sL (valL ((D.fld ((D.fld w 1)) 2))) := by
    rw [extract_end, hbR, hK, show (hexT ((D.int (D.fld ((D.fld w 1)) 0)))).length + 1 + (bys ((D.str (D.fld ((D.fld w 1)) 1)))).length + 1 = (hexT ((D.int (D.fld ((D.fld w 1)) 0)))).length + 1 + ((bys ((D.str (D.fld ((D.fld w 1)) 1)))).length + 1) by omega, ← List.drop_drop, d1, show (bys ((D.str (D.fld ((D.fld w 1)) 1)))).length + 1 = (bys ((D.str (D.fld ((D.fld w 1)) 1))) ++ [32]).length by simp, show bys ((D.str (D.fld ((D.fld w 1)) 1))) ++ 32 :: valL ((D.fld ((D.fld w 1)) 2)) = (bys ((D.str (D.fld ((D.fld w 1)) 1))) ++ [32]) ++ valL ((D.fld ((D.fld w 1)) 2)) by simp, List.drop_left' rfl]
  have hv : rrtD (sL (valL ((D.fld ((D.fld w 1)) 2)))) = canV ((D.fld ((D.fld w 1)) 2)) := by rw [← (rt_same _).2]; exact (rt_ok hk.2.2 m3).2
  have hW : rlW (sL (triL w)) = canW w := by
    rw [rlW, x1, x2, x3, ruV_hex hk.1 u0, hv, b0, canW, ← hg]
    have : decide ((if (w.fld 0).bool = true then (45 : Int) else 43) = 45) = (w.fld 0).bool := by cases (w.fld 0).bool <;> decide
    rw [this]
  have hH : rlH (sL (triL w)) = true := by
    rw [rlH, b0, b1, hz, decide_eq_false (show ¬ ((triL w).length : Int) < 2 by omega)]
    rcases hsg with rfl | rfl <;> rfl
  have hlt : rlK (sL (triL w)) < (rlR (sL (triL w))).size := by
    rw [hK, ← bys_length, hbR]; simp only [List.length_cons, List.length_append]; omega
  have hB : rlB (sL (triL w)) = true := by
    have e1 : mayT ((D.fld (canW w) 1)) = 0 := hm
    have e2 : triL (canW w) = triL w := rfl
    rw [rlB, hH, hW, e1, e2, decide_eq_true hlt, decide_eq_true rfl, decide_eq_true rfl]; rfl
  exact ⟨hB, by rw [rlD, if_pos hB, hW]⟩
theorem okT_mk (b : Bool) (u : Int) (t : ByteArray) (v : D) (h1 : inU u) (h2 : t.size ≤ 9223372036854775807) (h3 : okV v) : okT ((D.fld (.t [.b b, .t [.i u, .s t, v]]) 1)) := ⟨h1, h2, h3⟩
theorem rl_ok {s : ByteArray} (h : s.size ≤ 140737488355327) : okT ((D.fld (rlW s) 1)) := by
  have hW : rlW s = .t [.b (decide (byteAt' s 0 = 45)), .t [.i (ruV ((rlR s).extract 0 (rlI s))), .s ((rlR s).extract (rlI s + 1) (rlK s)), rrtD ((rlR s).extract (rlK s + 1) (rlR s).size)]] := by with_reducible rw [rlW]
  rw [hW]
  have hs : (rlR s).size ≤ s.size := by rw [rlR, ByteArray.size_extract]; omega
  refine okT_mk _ _ _ _ (ruV_inU _) ?_ ?_
  · rw [ByteArray.size_extract]; omega
  · rw [← (rt_same _).2]; exact rtD_okv _
theorem tl_same {s : ByteArray} (h : s.size ≤ 140737488355327) : tRtB s = rlB s ∧ tRtD s = rlD s := by
  cases hb : tRtB s with
  | true =>
    obtain ⟨h1, h2⟩ := tRt_back hb
    have hD : tRtD s = tRtW s := if_pos hb
    rw [hD] at h1 h2
    have hr := rl_tri (w := tRtW s) (tRtW_ok h) h1
    have ht := tRt_ok (w := tRtW s) (tRtW_ok h) h1
    rw [h2] at hr ht
    exact ⟨hr.1.symm, by rw [ht.2, hr.2]⟩
  | false =>
    cases hc : rlB s with
    | true =>
      have hD : rlD s = rlW s := if_pos hc
      have hc' := hc
      simp only [rlB, Bool.and_eq_true, decide_eq_true_eq] at hc'
      have ht := tRt_ok (w := rlW s) (rl_ok h) hc'.1.2
      rw [hc'.2, hb] at ht
      exact absurd ht.1 (by decide)
    | false => exact ⟨rfl, by rw [tRtD, if_neg (by rw [hb]; decide), rlD, if_neg (by rw [hc]; decide)]⟩
end Go.Proofs.YtbbjonjhaoeidaaGreatDoor.XT
