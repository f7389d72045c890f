/- Tokens put together are cut as they were: plain laws. -/
import Derived.Test.YtlfafkeamppakaaDoorQYK
set_option linter.unusedVariables false
set_option linter.unusedSimpArgs false
namespace Go.Proofs.YtlfafkeamppakaaDoor.XT
open Go Go.RowKit Go.Proofs.YtlfafkeamppakaaDoor.Sv
/-- what may stand behind a token -/
def stp (R : List Int) : Prop := R = [] ∨ ∃ c r, R = c :: r ∧ (c = 32 ∨ c = 9 ∨ c = 35)
theorem stp_get {R : List Int} (h : stp R) : R.getD 0 0 = 0 ∨ R.getD 0 0 = 32 ∨ R.getD 0 0 = 9 ∨ R.getD 0 0 = 35 := by
  rcases h with rfl | ⟨c, r, rfl, h⟩
  · exact .inl rfl
  · exact .inr h
theorem stp_pt {R : List Int} (h : stp R) : aloL R = true := by
  rcases h with rfl | ⟨c, r, rfl, rfl | rfl | rfl⟩ <;> rfl
theorem stp_run {p : Int → Bool} (h32 : p 32 = false) (h9 : p 9 = false) (h35 : p 35 = false) {R : List Int} (h : stp R) : runL p R = 0 := by
  rcases h with rfl | ⟨c, r, rfl, rfl | rfl | rfl⟩
  · rfl
  · rw [runL, if_neg (by rw [h32]; decide)]
  · rw [runL, if_neg (by rw [h9]; decide)]
  · rw [runL, if_neg (by rw [h35]; decide)]
theorem run_app {p : Int → Bool} {R : List Int} (hR : runL p R = 0) : ∀ L : List Int, runL p (L ++ R) = runL p L
  | [] => hR
  | c :: r => by rw [List.cons_append, runL, runL, run_app hR r]
theorem get_app {L R : List Int} {k : Nat} (h : k < L.length) : (L ++ R).getD k 0 = L.getD k 0 := by
  rw [List.getD_eq_getElem?_getD, List.getD_eq_getElem?_getD, List.getElem?_append_left h]
theorem kd_app {L R : List Int} (h : L ≠ []) (hR : stp R) : kdL (L ++ R) = kdL L := by
  cases L with
  | nil => exact absurd rfl h
  | cons c r =>
    have e0 : ((c :: r) ++ R).getD 0 0 = c := rfl
    have e0' : (c :: r).getD 0 0 = c := rfl
    cases r with
    | nil =>
      have e1 : ([c] ++ R).getD 1 0 = R.getD 0 0 := by cases R <;> rfl
      have e1' : ([c] : List Int).getD 1 0 = 0 := rfl
      unfold kdL
      rw [e0, e0', e1, e1']
      rcases stp_get hR with h | h | h | h <;> rw [h] <;> simp [dgC]
    | cons d r =>
      have e1 : ((c :: d :: r) ++ R).getD 1 0 = d := rfl
      have e1' : (c :: d :: r).getD 1 0 = d := rfl
      unfold kdL
      rw [e0, e0', e1, e1']
theorem nm_app {lim : Int} {R : List Int} (hR : stp R) : ∀ (A : List Int) (n v : Int), nmG lim A n = (v, A.length, true) → nmG lim (A ++ R) n = (v, A.length, true)
  | [], n, v, h => by
    rw [nmG] at h
    have hv : n = v := by simpa using h
    subst hv
    rcases hR with rfl | ⟨c, r, rfl, rfl | rfl | rfl⟩ <;> rfl
  | c :: r, n, v, h => by
    rw [nmG] at h
    rw [List.cons_append, nmG]
    split at h
    · rename_i hc
      rw [if_pos hc]
      split at h
      · simp at h
      · rename_i hl
        rw [if_neg hl]
        simp only [Prod.mk.injEq, List.length_cons, Nat.add_right_cancel_iff] at h
        obtain ⟨h1, h2, h3⟩ := h
        have := nm_app hR r (10 * n + (c - 48)) v (by rw [← h1, ← h2, ← h3])
        rw [this]
        simp
    · simp at h
theorem hxd_ok {v : Int} (h : 0 ≤ v ∧ v < 16) : hxC (hxd v) = true ∧ hxV' (hxd v) = v := by
  obtain ⟨n, hn⟩ := Int.eq_ofNat_of_zero_le h.1
  subst hn
  have : ∀ n : Fin 16, hxC (hxd ((n.val : Nat) : Int)) = true ∧ hxV' (hxd ((n.val : Nat) : Int)) = ((n.val : Nat) : Int) := by decide +kernel
  exact this ⟨n, by omega⟩
/-- a text's form is read as it was meant -/
theorem tx_back (R : List Int) : ∀ (B : List Int) (m : Nat), (∀ c ∈ B, 0 ≤ c ∧ c < 256) → m + B.length ≤ 4096 → txG (qtL B ++ 34 :: R) m = (B, (qtL B).length + 1, true)
  | [], m, _, _ => tx34 rfl
  | c :: B, m, hb, hm => by
    obtain ⟨c0, c1⟩ := hb c (List.mem_cons_self ..)
    have ih := tx_back R B (m + 1) (fun d hd => hb d (List.mem_cons_of_mem _ hd)) (by simp at hm; omega)
    have hm' : ¬ m = 4096 := by simp at hm; omega
    have e : qtL (c :: B) = escC c ++ qtL B := rfl
    rw [e]
    unfold escC
    by_cases h1 : c = 34 ∨ c = 92
    · rw [if_pos h1]
      show txG (92 :: c :: (qtL B ++ 34 :: R)) m = _
      rw [tx_esc _ m hm']
      have e1 : esO (c :: (qtL B ++ 34 :: R)) = true := by rcases h1 with rfl | rfl <;> simp [esO]
      have e2 : esK (c :: (qtL B ++ 34 :: R)) = 1 := by rcases h1 with rfl | rfl <;> simp [esK]
      have e3 : esV (c :: (qtL B ++ 34 :: R)) = c := by rcases h1 with rfl | rfl <;> simp [esV]
      rw [if_pos e1, e2, e3, List.drop_succ_cons, List.drop_zero, ih]
      simp
    rw [if_neg h1]
    by_cases h2 : c = 10
    · subst h2
      rw [if_pos rfl]
      show txG (92 :: 110 :: (qtL B ++ 34 :: R)) m = _
      rw [tx_esc _ m hm']
      have e1 : esO (110 :: (qtL B ++ 34 :: R)) = true := by simp [esO]
      have e2 : esK (110 :: (qtL B ++ 34 :: R)) = 1 := by simp [esK]
      have e3 : esV (110 :: (qtL B ++ 34 :: R)) = 10 := by simp [esV]
      rw [if_pos e1, e2, e3, List.drop_succ_cons, List.drop_zero, ih]
      simp
    rw [if_neg h2]
    by_cases h3 : c < 32 ∨ 126 < c
    · rw [if_pos h3]
      obtain ⟨x1, x2⟩ := hxd_ok (v := c / 16) (by omega)
      obtain ⟨x3, x4⟩ := hxd_ok (v := c % 16) (by omega)
      show txG (92 :: 120 :: hxd (c / 16) :: hxd (c % 16) :: (qtL B ++ 34 :: R)) m = _
      rw [tx_esc _ m hm']
      have e1 : esO (120 :: hxd (c / 16) :: hxd (c % 16) :: (qtL B ++ 34 :: R)) = true := by simp [esO, x1, x3]
      have e2 : esK (120 :: hxd (c / 16) :: hxd (c % 16) :: (qtL B ++ 34 :: R)) = 3 := by simp [esK, x1, x3]
      have e3 : esV (120 :: hxd (c / 16) :: hxd (c % 16) :: (qtL B ++ 34 :: R)) = c := by
        simp [esV, x1, x3, x2, x4]; omega
      rw [if_pos e1, e2, e3]
      show (c :: (txG (qtL B ++ 34 :: R) (m + 1)).1, (txG (qtL B ++ 34 :: R) (m + 1)).2.1 + (1 + 3), (txG (qtL B ++ 34 :: R) (m + 1)).2.2) = _
      rw [ih]
      simp
    rw [if_neg h3]
    show txG (c :: (qtL B ++ 34 :: R)) m = _
    rw [txPl (fun h => h1 (.inl h)) (by omega) (fun h => h1 (.inr h)), ih]
    simp
/-- the parts of a token that may be one -/
theorem fo_parts {t : D} (h : foE t = 0) (h4 : ¬ (t.fld 0).int = 4) : bys (t.fld 1).str ≠ [] ∧ (t.fld 0).int ≠ 0 ∧ kdL (bys (t.fld 1).str) = (t.fld 0).int ∧ onO (bys (t.fld 1).str) = true ∧ onK (bys (t.fld 1).str) = (bys (t.fld 1).str).length ∧ onN (bys (t.fld 1).str) = (t.fld 2).int := by
  unfold foE at h
  rw [if_neg h4] at h
  split at h
  · cases h
  · rename_i k
    simp only [not_or, Decidable.not_not] at k
    obtain ⟨k1, k2, k3, k4, k5, k6⟩ := k
    exact ⟨k1, k2, k3, by simpa using k4, by rw [bys_length]; exact k5, k6⟩
theorem fo_text {t : D} (h : foE t = 0) (h4 : (t.fld 0).int = 4) : (t.fld 2).int = 0 ∧ (t.fld 1).str.size ≤ 4096 := by
  unfold foE at h
  rw [if_pos h4] at h
  split at h
  · cases h
  · rename_i k
    simp only [not_or, Decidable.not_not] at k
    exact ⟨k.1, by omega⟩
theorem kd34 (r : List Int) : kdL (34 :: r) = 4 := by
  unfold kdL
  have e : (34 :: r).getD 0 0 = (34 : Int) := rfl
  rw [e]
  simp [bgC, dgC]
/-- a token's form, with what may stand behind it, is read as the token -/
theorem on_app {L R : List Int} (hR : stp R) (h0 : L ≠ []) (h4 : kdL L ≠ 4) (ho : onO L = true) (hk : onK L = L.length) : onO (L ++ R) = true ∧ onK (L ++ R) = L.length ∧ onN (L ++ R) = onN L := by
  have hkd := kd_app h0 hR
  rcases kd_in L with h | h | h | h | h | h
  · rw [(on0 h).2.2.2] at ho; cases ho
  · obtain ⟨a1, a2, a3, a4⟩ := on1 h
    obtain ⟨b1, b2, b3, b4⟩ := on1 (hkd.trans h)
    have hr := run_app (stp_run (p := ptC) (by decide) (by decide) (by decide) hR) L
    rw [b1, b3, b4, hr, ← a1, ← a4, a3]
    exact ⟨ho, hk, rfl⟩
  · obtain ⟨a1, a2, a3, a4⟩ := on2 h
    obtain ⟨b1, b2, b3, b4⟩ := on2 (hkd.trans h)
    have hl1 : 1 ≤ L.length := by cases L; exact absurd rfl h0; simp
    have hng : ngL (L ++ R) = ngL L := by unfold ngL; rw [get_app (by omega)]
    have hbd : bdL (L ++ R) = bdL L ++ R := by
      unfold bdL; rw [hng]
      split
      · rw [List.drop_append_of_le_length hl1]
      · rfl
    have hli : liL (L ++ R) = liL L := by unfold liL; rw [hng]
    have hof : ofL (L ++ R) = ofL L := by unfold ofL; rw [hng]
    have hbl : ofL L + (bdL L).length = L.length := by
      rw [bdL_eq, List.length_drop]
      have : ofL L ≤ 1 := by unfold ofL; split <;> omega
      omega
    rw [b1, b3, b4, a3]
    rw [a1] at hk
    rw [a4] at ho
    by_cases hb : (bdL L).length = 0
    · -- a number has digits
      exfalso
      have hb0 : bdL L = [] := List.eq_nil_of_length_eq_zero hb
      rcases kd2 h with k | k
      · have : ngL L = false := by
          unfold ngL
          refine decide_eq_false fun e => ?_
          rw [e] at k; exact absurd k (by decide)
        have e : bdL L = L := by unfold bdL; rw [this]; rfl
        rw [e] at hb0; exact h0 hb0
      · have : L.length = 1 := by
          have : ofL L ≤ 1 := by unfold ofL; split <;> omega
          omega
        match L, this with
        | [c], _ => exact absurd k.2 (by simp [dgC])
    have hg0 : (bdL L ++ R).getD 0 0 = (bdL L).getD 0 0 := get_app (by omega)
    unfold nmK at hk ⊢
    unfold nmO at ho ⊢
    unfold nmV
    rw [hbd, hg0, hof, hng]
    by_cases h48 : (bdL L).getD 0 0 = 48
    · rw [if_pos h48] at hk ho ⊢
      rw [if_pos h48, if_pos h48, if_pos h48]
      simp only [Bool.and_eq_true] at ho
      refine ⟨?_, hk, rfl⟩
      have e : (L ++ R).drop 1 = R := by
        match L, hk with
        | [c], _ => rfl
      rw [e, stp_pt hR, ho.1]; rfl
    · rw [if_neg h48] at hk ho ⊢
      rw [if_neg h48, if_neg h48, if_neg h48]
      have hr : nmR (L ++ R) = nmR L := by
        unfold nmR at ho hk ⊢
        rw [hli, hbd]
        have e : nmG (liL L) (bdL L) 0 = ((nmG (liL L) (bdL L) 0).1, (bdL L).length, true) := by
          have e2 : (nmG (liL L) (bdL L) 0).2.1 = (bdL L).length := by omega
          rw [← e2, ← ho]
        rw [nm_app hR _ _ _ e]; exact e.symm
      rw [hr]
      exact ⟨ho, hk, rfl⟩
  · obtain ⟨a1, a2, a3, a4⟩ := on3 h
    obtain ⟨b1, b2, b3, b4⟩ := on3 (hkd.trans h)
    rw [b1, b3, b4, a3]
    rw [a1] at hk
    rw [a4] at ho
    have h2 := kd3_len h
    unfold uiO at ho
    split at ho
    · cases ho
    rename_i hn
    have h3 : 3 ≤ L.length := by
      rcases Nat.lt_or_ge L.length 3 with hl | hl
      · exfalso
        refine hn (.inr ?_)
        rw [List.getD_eq_getElem?_getD, List.getElem?_eq_none (by omega)]; decide
      · exact hl
    simp only [Bool.and_eq_true, decide_eq_true_eq] at ho
    unfold uiK at hk
    rw [if_neg hn] at hk
    have hg2 : (L ++ R).getD 2 0 = L.getD 2 0 := get_app (by omega)
    have hdr : (L ++ R).drop 2 = L.drop 2 ++ R := List.drop_append_of_le_length h2
    have hr : runL hxC (L.drop 2 ++ R) = runL hxC (L.drop 2) := run_app (stp_run (p := hxC) (by decide) (by decide) (by decide) hR) _
    have hrl : runL hxC (L.drop 2) = L.length - 2 := by omega
    unfold uiO uiK
    rw [hg2, if_neg hn, if_neg hn, hdr, hr]
    refine ⟨?_, hk, rfl⟩
    have e : (L ++ R).drop (2 + runL hxC (L.drop 2)) = R := by
      rw [hrl, show 2 + (L.length - 2) = L.length by omega]; simp
    rw [e, stp_pt hR, decide_eq_true ho.1]; rfl
  · exact absurd h h4
  · obtain ⟨a1, a2, a3, a4⟩ := on5 h
    obtain ⟨b1, b2, b3, b4⟩ := on5 (hkd.trans h)
    rw [b1, b3, b4, a3]
    exact ⟨rfl, by rw [← hk, a1], rfl⟩
theorem tok_back {t : D} (h : foE t = 0) {R : List Int} (hR : stp R) (k : Nat) : onO (foL t ++ R) = true ∧ onK (foL t ++ R) = (foL t).length ∧ smTk (onT (foL t ++ R) k) t = true ∧ kdL (foL t ++ R) ≠ 0 ∧ foL t ≠ [] := by
  by_cases h4 : (t.fld 0).int = 4
  · obtain ⟨n0, hs⟩ := fo_text h h4
    have hF : foL t = 34 :: (qtL (bys (t.fld 1).str) ++ [34]) := if_pos h4
    have hL : foL t ++ R = 34 :: (qtL (bys (t.fld 1).str) ++ 34 :: R) := by rw [hF]; simp
    have hk : kdL (foL t ++ R) = 4 := by rw [hL]; exact kd34 _
    have hb := tx_back R (bys (t.fld 1).str) 0 (bys_all_in _) (by rw [bys_length]; omega)
    have hd : (foL t ++ R).drop 1 = qtL (bys (t.fld 1).str) ++ 34 :: R := by rw [hL]; rfl
    obtain ⟨b1, b2, b3, b4⟩ := on4 hk
    have e1 : onO (foL t ++ R) = true := by rw [b4, txO, hd, hb]
    have e2 : onK (foL t ++ R) = (foL t).length := by
      rw [b1, txK, hd, hb, hF]; simp; omega
    have e3 : onS (foL t ++ R) = bys (t.fld 1).str := by rw [b2, txS, hd, hb]; rfl
    refine ⟨e1, e2, ?_, by rw [hk]; decide, by rw [hF]; simp⟩
    show (decide (kdL (foL t ++ R) = (t.fld 0).int) && decide (sL (onS (foL t ++ R)) = (t.fld 1).str) && decide (onN (foL t ++ R) = (t.fld 2).int)) = true
    rw [hk, e3, b3, h4, n0, sL_bys]; simp
  · obtain ⟨k1, k2, k3, k4, k5, k6⟩ := fo_parts h h4
    have hF : foL t = bys (t.fld 1).str := if_neg h4
    rw [hF]
    obtain ⟨e1, e2, e3⟩ := on_app hR k1 (by rw [k3]; exact h4) k4 k5
    have hk := kd_app k1 hR
    have hS : onS (bys (t.fld 1).str ++ R) = bys (t.fld 1).str := by
      unfold onS
      rw [if_neg (by rw [hk, k3]; exact h4), e2]; simp
    refine ⟨e1, e2, ?_, by rw [hk, k3]; exact k2, k1⟩
    show (decide (kdL (bys (t.fld 1).str ++ R) = (t.fld 0).int) && decide (sL (onS (bys (t.fld 1).str ++ R)) = (t.fld 1).str) && decide (onN (bys (t.fld 1).str ++ R) = (t.fld 2).int)) = true
    rw [hk, k3, hS, e3, k6, sL_bys]; simp
/-- what is read as a token is no blank -/
theorem sk_tok {L : List Int} (h : kdL L ≠ 0) : skL L false = 0 := by
  cases L with
  | nil => rfl
  | cons c r =>
    have e : (c :: r).getD 0 0 = c := rfl
    rw [skF]
    have n1 : ¬ (c = 32 ∨ c = 9 ∨ c = 10 ∨ c = 13) := fun hc => h (by
      unfold kdL; rw [e]
      rcases hc with rfl | rfl | rfl | rfl <;> simp [bgC, dgC, sgC])
    have n2 : ¬ c = 35 := fun hc => h (by
      subst hc
      unfold kdL; rw [e]
      simp [bgC, dgC, sgC])
    rw [if_neg n1, if_neg n2]
theorem cuG_pass {L : List Int} {j : Nat} (f k : Nat) (l : List D) (h : skL L false = j + skL (L.drop j) false) : cuG (f + 1) L k l = cuG (f + 1) (L.drop j) (k + j) l := by
  rw [cuG_skip L, cuG_skip (L.drop j), List.drop_drop, h, Nat.add_assoc]
/-- what stands between tokens -/
def gapO (G : List Int) : Prop := (∃ c r, G = c :: r ∧ (c = 32 ∨ c = 9 ∨ c = 35)) ∧ ∀ X, skL (G ++ X) false = G.length + skL X false
def glue : List (D × List Int) → List Int
  | [] => []
  | p :: r => foL p.1 ++ (p.2 ++ glue r)
def gapsO : List (D × List Int) → Prop
  | [] => True
  | [p] => p.2 = [] ∨ gapO p.2
  | p :: r => gapO p.2 ∧ gapsO r
theorem gaps_tail {p : D × List Int} {r : List (D × List Int)} (h : gapsO (p :: r)) : (gapO p.2 ∨ p.2 = [] ∧ r = []) ∧ gapsO r := by
  cases r with
  | nil => exact ⟨h.elim (fun h => .inr ⟨h, rfl⟩) .inl, trivial⟩
  | cons q r => exact ⟨.inl h.1, h.2⟩
theorem cut_glue : ∀ (ps : List (D × List Int)) (f k : Nat) (acc : List D), (∀ p ∈ ps, foE p.1 = 0) → gapsO ps → ps.length < f → acc.length + ps.length ≤ 8192 → ∃ T, cuG f (glue ps) k acc = (acc ++ T, k + (glue ps).length, 0) ∧ allL smTk T (ps.map Prod.fst) = true
  | [], f, k, acc, _, _, hf, _ => by
    obtain ⟨f, rfl⟩ : ∃ f', f = f' + 1 := ⟨f - 1, by simp at hf; omega⟩
    refine ⟨[], ?_, rfl⟩
    rw [cuG_at (by rfl)]
    simp [glue]
  | p :: r, f, k, acc, he, hg, hf, ha => by
    obtain ⟨hg1, hg2⟩ := gaps_tail hg
    have hp := he p (List.mem_cons_self ..)
    simp only [List.length_cons] at hf ha
    obtain ⟨f, rfl⟩ : ∃ f', f = f' + 1 := ⟨f - 1, by omega⟩
    obtain ⟨f, rfl⟩ : ∃ f', f = f' + 1 := ⟨f - 1, by omega⟩
    have hR : stp (p.2 ++ glue r) := by
      rcases hg1 with ⟨⟨c, s, hc, hc2⟩, _⟩ | ⟨h1, h2⟩
      · exact .inr ⟨c, s ++ glue r, by rw [hc]; rfl, hc2⟩
      · left; rw [h1, h2]; rfl
    obtain ⟨e1, e2, e3, e4, e5⟩ := tok_back hp hR k
    have hsk := sk_tok e4
    have hL : glue (p :: r) = foL p.1 ++ (p.2 ++ glue r) := rfl
    have hne : ¬ foL p.1 ++ (p.2 ++ glue r) = [] := fun h => e5 (List.append_eq_nil_iff.1 h).1
    rw [hL, cuG_at hsk, if_neg hne, if_neg (fun h => by omega), if_neg (by rw [e1]; decide), e2]
    have hdr : (foL p.1 ++ (p.2 ++ glue r)).drop (foL p.1).length = p.2 ++ glue r := by simp
    rw [hdr]
    have hpass : cuG (f + 1) (p.2 ++ glue r) (k + (foL p.1).length) (acc ++ [onT (foL p.1 ++ (p.2 ++ glue r)) k]) = cuG (f + 1) (glue r) (k + (foL p.1).length + p.2.length) (acc ++ [onT (foL p.1 ++ (p.2 ++ glue r)) k]) := by
      rcases hg1 with ⟨_, hs⟩ | ⟨h1, h2⟩
      · have := cuG_pass (L := p.2 ++ glue r) (j := p.2.length) f (k + (foL p.1).length) (acc ++ [onT (foL p.1 ++ (p.2 ++ glue r)) k]) (by rw [hs]; simp)
        rw [this]; simp
      · rw [h1]; rfl
    rw [hpass]
    obtain ⟨T, t1, t2⟩ := cut_glue r (f + 1) (k + (foL p.1).length + p.2.length) (acc ++ [onT (foL p.1 ++ (p.2 ++ glue r)) k]) (fun q hq => he q (List.mem_cons_of_mem _ hq)) hg2 (by omega) (by simp; omega)
    refine ⟨onT (foL p.1 ++ (p.2 ++ glue r)) k :: T, ?_, ?_⟩
    · rw [t1]; simp; omega
    · rw [List.map_cons, allL, e3, t2]; rfl
end Go.Proofs.YtlfafkeamppakaaDoor.XT
