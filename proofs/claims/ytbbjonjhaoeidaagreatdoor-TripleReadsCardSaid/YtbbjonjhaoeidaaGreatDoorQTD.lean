/- Writes there and back: plain laws. -/
import Derived.Test.YtbbjonjhaoeidaaGreatDoorQT19
set_option linter.unusedVariables false
set_option linter.unusedSimpArgs false
namespace Go.Proofs.YtbbjonjhaoeidaaGreatDoor.XT
open Go Go.RowKit Go.Proofs.YtbbjonjhaoeidaaGreatDoor.Sv
theorem sL_nil (r : ByteArray) : sL [] ++ r = r := by apply ByteArray.ext; simp [ByteArray.data_append, strOfNums]
theorem app_left (t r : ByteArray) : (t ++ r).extract 0 t.size = t := by
  rw [extract_sL, bys_append, List.drop_zero, Nat.sub_zero, List.take_left' (bys_length t), sL_bys]
theorem app_right (t r : ByteArray) : (t ++ r).extract t.size (t ++ r).size = r := by
  rw [extract_end, bys_append, List.drop_left' (bys_length t), sL_bys]
theorem tx_val {t : ByteArray} (h : t.size ≤ 9223372036854775807) (r : ByteArray) : txE (sL (numL t.size ++ bys t) ++ r) = 0 ∧ txV (sL (numL t.size ++ bys t) ++ r) = t ∧ txR (sL (numL t.size ++ bys t) ++ r) = r := by
  have e : sL (numL t.size ++ bys t) ++ r = sL (numL t.size) ++ (t ++ r) := by rw [← sL_append, sL_bys, app_assoc]
  obtain ⟨h1, h2, h3⟩ := rn_num (x := (t.size : Int)) ⟨by omega, by omega⟩ (t ++ r)
  rw [e]
  have hE : txE (sL (numL t.size) ++ (t ++ r)) = 0 := by
    rw [txE, if_neg (by rw [h1]; decide), h2, h3, if_neg (by rw [ByteArray.size_append]; omega)]
  refine ⟨hE, ?_, ?_⟩
  · rw [txV, if_pos hE, h2, h3, Int.toNat_natCast, app_left]
  · rw [txR, if_pos hE, h2, h3, Int.toNat_natCast, app_right]
theorem tx_back {s : ByteArray} (h : txE s = 0) (hs : s.size ≤ 9223372036854775807) : sL (numL (txV s).size ++ bys (txV s)) ++ txR s = s := by
  have hE := h
  unfold txE at h
  split at h
  · rename_i h1; exact absurd h h1
  rename_i h1
  split at h
  · cases h
  rename_i h2
  have h1 : rnE s = 0 := by simpa using h1
  obtain ⟨⟨u0, u1⟩, b⟩ := rn_back h1
  rw [txV, if_pos hE, txR, if_pos hE]
  obtain ⟨n, hn⟩ := Int.eq_ofNat_of_zero_le u0
  rw [hn] at h2 b ⊢
  rw [Int.toNat_natCast]
  have hz : ((rnS s).extract 0 n).size = n := by rw [ByteArray.size_extract]; omega
  rw [hz, ← sL_append, sL_bys, app_assoc]
  have : (rnS s).extract 0 n ++ (rnS s).extract n (rnS s).size = rnS s := by
    rw [extract_end, extract_sL, List.drop_zero, Nat.sub_zero, bys_take_drop]
  rw [this, b]
def canW (w : D) : D := .t [.b (w.fld 0).bool, .t [.i ((D.int (D.fld ((D.fld w 1)) 0))), .s ((D.str (D.fld ((D.fld w 1)) 1))), canV ((D.fld ((D.fld w 1)) 2))]]
def sgB (w : D) : Int := if (w.fld 0).bool = true then 1 else 0
theorem mayT_of {t : D} (h : mayT t = 0) : (D.int (D.fld t 0)) ≠ 0 ∧ predB ((D.str (D.fld t 1))) = true ∧ mayV ((D.fld t 2)) = true := by
  unfold mayT at h
  split at h
  · cases h
  rename_i h1
  split at h
  · cases h
  rename_i h2
  split at h
  · cases h
  rename_i h3
  exact ⟨h1, by simpa using h2, by simpa using h3⟩
theorem pred_size {s : ByteArray} (h : predB s = true) : s.size ≤ 64 := by
  simp only [predB, Bool.and_eq_true, predHead, Bool.not_eq_true', Bool.or_eq_false_iff, decide_eq_false_iff_not] at h
  have := h.1.1.1.2
  omega
theorem tRd_val {w : D} (hk : okT ((D.fld w 1))) (hm : mayT ((D.fld w 1)) = 0) (r : ByteArray) : tRdE (sL (triB w) ++ r) = 0 ∧ tRdV (sL (triB w) ++ r) = canW w ∧ tRdR (sL (triB w) ++ r) = r ∧ tE2 (sL (triB w) ++ r) = sL (valB ((D.fld ((D.fld w 1)) 2))) ++ r := by
  obtain ⟨m1, m2, m3⟩ := mayT_of hm
  have hp := pred_size m2
  have e : sL (triB w) ++ r = sL (sgB w :: []) ++ (sL (numL ((D.int (D.fld ((D.fld w 1)) 0)))) ++ (sL (numL ((D.str (D.fld ((D.fld w 1)) 1))).size ++ bys ((D.str (D.fld ((D.fld w 1)) 1)))) ++ (sL (valB ((D.fld ((D.fld w 1)) 2))) ++ r))) := by
    rw [triB, ← sL_append, ← sL_append, ← sL_append, app_assoc, app_assoc, app_assoc]
    unfold sgB
    split <;> rfl
  have hd : 0 ≤ sgB w ∧ sgB w ≤ 1 := by unfold sgB; split <;> omega
  rw [e]
  obtain ⟨x1, x2, x3⟩ := tl_cons hd.1 (show sgB w < 256 by omega) [] (sL (numL ((D.int (D.fld ((D.fld w 1)) 0)))) ++ (sL (numL ((D.str (D.fld ((D.fld w 1)) 1))).size ++ bys ((D.str (D.fld ((D.fld w 1)) 1)))) ++ (sL (valB ((D.fld ((D.fld w 1)) 2))) ++ r))) (fun x hx => by cases hx)
  rw [sL_nil] at x2
  generalize sL (sgB w :: []) ++ (sL (numL ((D.int (D.fld ((D.fld w 1)) 0)))) ++ (sL (numL ((D.str (D.fld ((D.fld w 1)) 1))).size ++ bys ((D.str (D.fld ((D.fld w 1)) 1)))) ++ (sL (valB ((D.fld ((D.fld w 1)) 2))) ++ r))) = s at x1 x2 x3
  obtain ⟨n1, n2, n3⟩ := rn_num hk.1 (sL (numL ((D.str (D.fld ((D.fld w 1)) 1))).size ++ bys ((D.str (D.fld ((D.fld w 1)) 1)))) ++ (sL (valB ((D.fld ((D.fld w 1)) 2))) ++ r))
  rw [← x2] at n1 n2 n3
  obtain ⟨t1, t2, t3⟩ := tx_val hk.2.1 (sL (valB ((D.fld ((D.fld w 1)) 2))) ++ r)
  have e1 : tE1 s = sL (numL ((D.str (D.fld ((D.fld w 1)) 1))).size ++ bys ((D.str (D.fld ((D.fld w 1)) 1)))) ++ (sL (valB ((D.fld ((D.fld w 1)) 2))) ++ r) := n3
  rw [← e1] at t1 t2 t3
  have e2 : tE2 s = sL (valB ((D.fld ((D.fld w 1)) 2))) ++ r := t3
  obtain ⟨v1, v2, v3⟩ := rd_val hk.2.2 m3 r
  rw [← e2] at v1 v2 v3
  have hT : tRdT s = .t [.i ((D.int (D.fld ((D.fld w 1)) 0))), .s ((D.str (D.fld ((D.fld w 1)) 1))), canV ((D.fld ((D.fld w 1)) 2))] := by rw [tRdT, n2, t2, v2]
  have hE : tRdE s = 0 := by
    rw [tRdE, if_neg (by rw [emS_size]; omega), x1, if_neg (by omega), if_neg (by rw [n1]; decide), if_neg (by rw [t1]; decide), if_neg (by rw [v1]; decide), hT]
    exact hm
  refine ⟨hE, ?_, by rw [tRdR, if_pos hE, v3], e2⟩
  rw [tRdV, if_pos hE, hT, x1, canW]
  unfold sgB
  cases (w.fld 0).bool <;> rfl
theorem tRd_back {s : ByteArray} (h : tRdE s = 0) (hs : s.size ≤ 9223372036854775807) : mayT ((D.fld (tRdV s) 1)) = 0 ∧ okT ((D.fld (tRdV s) 1)) ∧ sL (triB (tRdV s)) ++ tRdR s = s := by
  have hE := h
  unfold tRdE at h
  split at h
  · cases h
  rename_i h1
  have hz : 0 < s.size := by rw [emS_size] at h1; omega
  split at h
  · cases h
  rename_i h2
  split at h
  · rename_i h3; exact absurd h h3
  rename_i h3
  split at h
  · rename_i h4; exact absurd h h4
  rename_i h4
  split at h
  · rename_i h5; exact absurd h h5
  rename_i h5
  have h3 : rnE (tlS s) = 0 := by simpa using h3
  have h4 : txE (tE1 s) = 0 := by simpa using h4
  have h5 : rdE (tE2 s) = 0 := by simpa using h5
  obtain ⟨y0, y1⟩ := byte_in s 0
  obtain ⟨a1, a2⟩ := rn_back h3
  have b2 := tx_back h4 (Nat.le_trans (e1_size s) hs)
  obtain ⟨c1, c2, c3⟩ := rd_back h5
  have hV : tRdV s = .t [.b (decide (byteAt' s 0 = 1)), tRdT s] := if_pos hE
  have hR : tRdR s = rdR (tE2 s) := if_pos hE
  rw [hV, hR]
  refine ⟨h, ⟨a1, Nat.le_trans (Nat.le_trans (txV_size _) (e1_size s)) hs, c2⟩, ?_⟩
  have e : triB (.t [.b (decide (byteAt' s 0 = 1)), tRdT s]) = [byteAt' s 0] ++ numL (rnV (tlS s)) ++ (numL (txV (tE1 s)).size ++ bys (txV (tE1 s))) ++ valB (rdV (tE2 s)) := by
    show (if decide (byteAt' s 0 = 1) = true then [1] else [0]) ++ numL (rnV (tlS s)) ++ (numL (txV (tE1 s)).size ++ bys (txV (tE1 s))) ++ valB (rdV (tE2 s)) = _
    by_cases q : byteAt' s 0 = 1
    · rw [q]; rfl
    · rw [decide_eq_false q, show byteAt' s 0 = 0 by omega]; rfl
  have b2 : sL (numL (txV (tE1 s)).size ++ bys (txV (tE1 s))) ++ tE2 s = tE1 s := b2
  have a2 : sL (numL (rnV (tlS s))) ++ tE1 s = tlS s := a2
  rw [e, ← sL_append, ← sL_append, ← sL_append, app_assoc, app_assoc, app_assoc, c3, b2, a2, hd_tl hz]
/-! ### the line -/
theorem cut_uniq : ∀ (p p' q q' : List Int), (32 : Int) ∉ p → (32 : Int) ∉ p' → p ++ 32 :: q = p' ++ 32 :: q' → p = p' ∧ q = q'
  | [], [], q, q', _, _, h => ⟨rfl, by simpa using h⟩
  | [], c :: p', q, q', _, h2, h => by
    simp only [List.nil_append, List.cons_append, List.cons.injEq] at h
    exact absurd (by rw [← h.1]; exact List.mem_cons_self) h2
  | c :: p, [], q, q', h1, _, h => by
    simp only [List.nil_append, List.cons_append, List.cons.injEq] at h
    exact absurd (by rw [h.1]; exact List.mem_cons_self) h1
  | c :: p, c' :: p', q, q', h1, h2, h => by
    simp only [List.cons_append, List.cons.injEq] at h
    obtain ⟨a, b⟩ := cut_uniq p p' q q' (fun e => h1 (List.mem_cons_of_mem _ e)) (fun e => h2 (List.mem_cons_of_mem _ e)) h.2
    exact ⟨by rw [h.1, a], b⟩
theorem cut_step {p q : List Int} (f : Nat) (hp : (32 : Int) ∉ p) (hb : ∀ c ∈ p ++ 32 :: q, 0 ≤ c ∧ c < 256) : cutS (f + 1) (sL (p ++ 32 :: q)) = sL p :: cutS f (sL q) := by
  have hs := bys_sL hb
  rcases idx_spec (sL (p ++ 32 :: q)) with ⟨_, h2⟩ | ⟨p', q', h1, h2, h3⟩
  · rw [hs] at h2; exact absurd (by simp) h2
  · rw [hs] at h1
    obtain ⟨rfl, rfl⟩ := cut_uniq p p' q q' hp h2 h1
    rw [cutS, h3, if_neg (by omega), Int.toNat_natCast, extract_sL, extract_end, hs, List.drop_zero, Nat.sub_zero, List.take_left' rfl]
    congr 2
    rw [show p.length + 1 = (p ++ [32]).length by simp, show p ++ 32 :: q = (p ++ [32]) ++ q by simp, List.drop_left' rfl]
theorem hexc_in {d : Int} (h0 : 0 ≤ d) (h1 : d < 16) : 48 ≤ hexc d := by unfold hexc; split <;> omega
theorem hexL_nb : ∀ (k : Nat) (x : Int), 0 ≤ x → ∀ c ∈ hexL x k, 48 ≤ c
  | 0, x, _, c, hc => by simp [hexL] at hc
  | k + 1, x, h0, c, hc => by
    rw [hexL, List.mem_append] at hc
    rcases hc with hc | hc
    · exact hexL_nb k (x / 16) (by omega) c hc
    · rw [List.mem_singleton.1 hc]; exact hexc_in (by omega) (by omega)
theorem hexT_nb {u : Int} (h : 0 ≤ u) : (32 : Int) ∉ hexT u := by
  intro hc
  rw [hexT] at hc
  rcases List.mem_cons.1 hc with e | hc
  · cases e
  rcases List.mem_cons.1 hc with e | hc
  · cases e
  have := hexL_nb _ u h _ hc
  omega
theorem bys_mem {s : ByteArray} {c : Int} (h : c ∈ bys s) : ∃ i, i < s.size ∧ byteAt' s i = c := by
  obtain ⟨i, hi, e⟩ := List.getElem_of_mem h
  rw [bys_length] at hi
  refine ⟨i, hi, ?_⟩
  rw [byteAt_get hi, List.getD_eq_getElem?_getD, List.getElem?_eq_getElem (by rw [bys_length]; exact hi), ← e]; rfl
theorem pred_nb {s : ByteArray} (h : predB s = true) : (32 : Int) ∉ bys s := by
  intro hc
  obtain ⟨i, hi, e⟩ := bys_mem hc
  rw [predB, Bool.and_eq_true, List.all_eq_true] at h
  have := h.2 i (by simpa using hi)
  rw [e] at this
  exact absurd this (by decide)
theorem valL_in {v : D} (hk : okV v) : ∀ c ∈ valL v, 0 ≤ c ∧ c < 256 := by
  intro c hc
  unfold valL at hc
  split at hc
  · split at hc
    · simp only [List.mem_cons, List.not_mem_nil, or_false] at hc; omega
    · simp only [List.mem_cons, List.not_mem_nil, or_false] at hc; omega
  split at hc
  · exact itoL_byte hk.2.2.1 c hc
  split at hc
  · exact quoL_in (bys_all_in _) c hc
  · exact hexT_in hk.2.2.2.1 c hc
/-- the write that a line might be -/
def pc (s : ByteArray) (k : Nat) : ByteArray := (cutS 3 s).getD k (ByteArray.mk #[])
def tRtW (s : ByteArray) : D := .t [.b (decide (pc s 0 = ByteArray.mk #[45])), .t [.i ((D.int (D.fld (rtD (pc s 1)) 4))), .s (pc s 2), rtD (pc s 3)]]
def tRtB (s : ByteArray) : Bool := decide ((cutS 3 s).length = 4) && decide (mayT ((D.fld (tRtW s) 1)) = 0) && decide (sL (triL (tRtW s)) = s)
def tRtD (s : ByteArray) : D := if tRtB s = true then tRtW s else zW
theorem cut_tri {w : D} (hk : okT ((D.fld w 1))) (hm : mayT ((D.fld w 1)) = 0) : cutS 3 (sL (triL w)) = [sL (if (w.fld 0).bool = true then [45] else [43]), sL (hexT ((D.int (D.fld ((D.fld w 1)) 0)))), (D.str (D.fld ((D.fld w 1)) 1)), sL (valL ((D.fld ((D.fld w 1)) 2)))] := by
  obtain ⟨m1, m2, m3⟩ := mayT_of hm
  have v1 := valL_in hk.2.2
  have v2 : ∀ c ∈ bys ((D.str (D.fld ((D.fld w 1)) 1))) ++ 32 :: valL ((D.fld ((D.fld w 1)) 2)), 0 ≤ c ∧ c < 256 := fun c hc => by
    rcases List.mem_append.1 hc with h | h
    · exact bys_all_in _ c h
    rcases List.mem_cons.1 h with rfl | h
    · omega
    · exact v1 c h
  have v3 : ∀ c ∈ hexT ((D.int (D.fld ((D.fld w 1)) 0))) ++ 32 :: (bys ((D.str (D.fld ((D.fld w 1)) 1))) ++ 32 :: valL ((D.fld ((D.fld w 1)) 2))), 0 ≤ c ∧ c < 256 := fun c hc => by
    rcases List.mem_append.1 hc with h | h
    · exact hexT_in hk.1.1 c h
    rcases List.mem_cons.1 h with rfl | h
    · omega
    · exact v2 c h
  have v4 : ∀ c ∈ (if (w.fld 0).bool = true then [45] else [43]) ++ 32 :: (hexT ((D.int (D.fld ((D.fld w 1)) 0))) ++ 32 :: (bys ((D.str (D.fld ((D.fld w 1)) 1))) ++ 32 :: valL ((D.fld ((D.fld w 1)) 2)))), (0 : Int) ≤ c ∧ c < 256 := fun c hc => by
    rcases List.mem_append.1 hc with h | h
    · split at h <;> (rw [List.mem_singleton.1 h]; omega)
    rcases List.mem_cons.1 h with rfl | h
    · omega
    · exact v3 c h
  have e : triL w = (if (w.fld 0).bool = true then [45] else [43]) ++ 32 :: (hexT ((D.int (D.fld ((D.fld w 1)) 0))) ++ 32 :: (bys ((D.str (D.fld ((D.fld w 1)) 1))) ++ 32 :: valL ((D.fld ((D.fld w 1)) 2)))) := by
    rw [triL]; simp [List.append_assoc]
  rw [e, cut_step 2 (by split <;> decide) v4, cut_step 1 (hexT_nb hk.1.1) v3, cut_step 0 (pred_nb m2) v2, cutS, sL_bys]
theorem tRt_ok {w : D} (hk : okT ((D.fld w 1))) (hm : mayT ((D.fld w 1)) = 0) : tRtB (sL (triL w)) = true ∧ tRtD (sL (triL w)) = canW w := by
  obtain ⟨m1, m2, m3⟩ := mayT_of hm
  have hc := cut_tri hk hm
  have u0 : 0 < (D.int (D.fld ((D.fld w 1)) 0)) := by have := hk.1.1; omega
  have hu := rt_ok (a := .t [.i 4, .b false, .i 0, .s (ByteArray.mk #[]), .i ((D.int (D.fld ((D.fld w 1)) 0)))]) ⟨by show (0 : Int) ≤ 4; decide, by show (4 : Int) < 256; decide, i0, hk.1⟩ (by show decide (0 < (D.int (D.fld ((D.fld w 1)) 0))) = true; exact decide_eq_true u0)
  have hu : rtD (sL (hexT ((D.int (D.fld ((D.fld w 1)) 0))))) = .t [.i 4, .b false, .i 0, .s (ByteArray.mk #[]), .i ((D.int (D.fld ((D.fld w 1)) 0)))] := hu.2
  have hW : tRtW (sL (triL w)) = canW w := by
    have p0 : pc (sL (triL w)) 0 = sL (if (w.fld 0).bool = true then [45] else [43]) := by rw [pc, hc]; rfl
    have p1 : pc (sL (triL w)) 1 = sL (hexT ((D.int (D.fld ((D.fld w 1)) 0)))) := by rw [pc, hc]; rfl
    have p2 : pc (sL (triL w)) 2 = (D.str (D.fld ((D.fld w 1)) 1)) := by rw [pc, hc]; rfl
    have p3 : pc (sL (triL w)) 3 = sL (valL ((D.fld ((D.fld w 1)) 2))) := by rw [pc, hc]; rfl
    rw [tRtW, p0, p1, p2, p3, hu, (rt_ok hk.2.2 m3).2, canW]
    have : decide (sL (if (w.fld 0).bool = true then [45] else [43]) = ByteArray.mk #[45]) = (w.fld 0).bool := by
      cases (w.fld 0).bool <;> decide
    rw [this]; rfl
  have hB : tRtB (sL (triL w)) = true := by
    rw [tRtB, hW, hc]
    have e1 : mayT ((D.fld (canW w) 1)) = 0 := hm
    have e2 : triL (canW w) = triL w := rfl
    rw [e1, e2, decide_eq_true rfl, decide_eq_true rfl]; rfl
  exact ⟨hB, by rw [tRtD, if_pos hB, hW]⟩
theorem tRt_back {s : ByteArray} (h : tRtB s = true) : mayT ((D.fld (tRtD s) 1)) = 0 ∧ sL (triL (tRtD s)) = s := by
  have hb := h
  simp only [tRtB, Bool.and_eq_true, decide_eq_true_eq] at h
  rw [tRtD, if_pos hb]
  exact ⟨h.1.2, h.2⟩
end Go.Proofs.YtbbjonjhaoeidaaGreatDoor.XT
