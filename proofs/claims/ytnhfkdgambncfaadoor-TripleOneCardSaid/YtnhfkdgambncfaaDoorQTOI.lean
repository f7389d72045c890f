/- Plain: what two writes claim is one thing just if they are of one node, one predicate and one value (or the predicate has no list). -/
import Derived.Test.YtnhfkdgambncfaaDoorQTO2
set_option linter.unusedVariables false
set_option linter.unusedSimpArgs false
set_option linter.unusedSectionVars false
namespace Go.Proofs.YtnhfkdgambncfaaDoor.XT
open Go Go.RowKit Go.Proofs.YtnhfkdgambncfaaDoor.Sv
set_option maxRecDepth 100000
theorem bys_sL {l : List Int} (h : ∀ c ∈ l, 0 ≤ c ∧ c < 256) : bys (sL l) = l := by
  unfold bys sL strOfNums
  simp only [List.map_map]
  refine (List.map_congr_left fun x hx => ?_).trans (List.map_id l)
  obtain ⟨h0, h1⟩ := h x hx
  simp only [Function.comp_apply, id]
  rw [UInt8.toNat_ofNat']
  omega
theorem bys_all_in (t : ByteArray) : ∀ c ∈ bys t, 0 ≤ c ∧ c < 256 := fun c hc => by
  simp only [bys, List.mem_map] at hc
  obtain ⟨b, _, rfl⟩ := hc
  have := UInt8.toNat_lt b
  omega
theorem beL_in : ∀ (n : Nat) (x : Int), ∀ c ∈ beL x n, 0 ≤ c ∧ c < 256
  | 0, x, c, h => by simp [beL] at h
  | n + 1, x, c, h => by
    rw [beL, List.mem_append] at h
    rcases h with h | h
    · exact beL_in n _ c h
    · simp only [List.mem_singleton] at h; omega
theorem numL_in (x : Int) : ∀ c ∈ numL x, 0 ≤ c ∧ c < 256 := by
  intro c h
  have := nb_le x
  rcases List.mem_cons.1 h with rfl | h
  · omega
  · exact beL_in _ _ c h
theorem keyL_in {l : List Int} (h : ∀ c ∈ l, 0 ≤ c ∧ c < 256) : ∀ c ∈ keyL l ++ [0, 1], 0 ≤ c ∧ c < 256 := by
  intro c hc
  rw [List.mem_append] at hc
  rcases hc with hc | hc
  · obtain ⟨x, hx, hcx⟩ := List.mem_flatMap.1 hc
    have := h x hx
    split at hcx
    · simp at hcx; omega
    · simp at hcx; omega
  · simp at hc; omega
theorem may_kind {a : D} (hm : mayV a = true) : (D.int (D.fld a 0)) = 1 ∨ (D.int (D.fld a 0)) = 2 ∨ (D.int (D.fld a 0)) = 3 ∨ (D.int (D.fld a 0)) = 4 := by
  unfold mayV at hm
  split at hm
  · omega
  split at hm
  · omega
  split at hm
  · omega
  split at hm
  · omega
  · cases hm
theorem may1 {a : D} (hm : mayV a = true) (k : (D.int (D.fld a 0)) = 1) : (D.int (D.fld a 2)) = 0 ∧ (D.str (D.fld a 3)) = (ByteArray.mk #[]) ∧ (D.int (D.fld a 4)) = 0 := by
  rw [mayV, if_pos k] at hm
  simp only [Bool.and_eq_true, decide_eq_true_eq] at hm
  exact ⟨hm.1.1, hm.1.2, hm.2⟩
theorem may2 {a : D} (hm : mayV a = true) (k : (D.int (D.fld a 0)) = 2) : (D.bool (D.fld a 1)) = false ∧ (D.str (D.fld a 3)) = (ByteArray.mk #[]) ∧ (D.int (D.fld a 4)) = 0 := by
  rw [mayV, if_neg (by omega), if_pos k] at hm
  simp only [Bool.and_eq_true, decide_eq_true_eq, Bool.not_eq_true'] at hm
  exact ⟨hm.1.1, hm.1.2, hm.2⟩
theorem may3 {a : D} (hm : mayV a = true) (k : (D.int (D.fld a 0)) = 3) : (D.bool (D.fld a 1)) = false ∧ (D.int (D.fld a 2)) = 0 ∧ (D.int (D.fld a 4)) = 0 ∧ (((D.str (D.fld a 3))).size : Int) ≤ 4096 := by
  rw [mayV, if_neg (by omega), if_neg (by omega), if_pos k] at hm
  simp only [Bool.and_eq_true, decide_eq_true_eq, Bool.not_eq_true'] at hm
  exact ⟨hm.1.1.1, hm.1.1.2, hm.1.2, hm.2⟩
theorem may4 {a : D} (hm : mayV a = true) (k : (D.int (D.fld a 0)) = 4) : (D.bool (D.fld a 1)) = false ∧ (D.int (D.fld a 2)) = 0 ∧ (D.str (D.fld a 3)) = (ByteArray.mk #[]) ∧ 0 < (D.int (D.fld a 4)) := by
  rw [mayV, if_neg (by omega), if_neg (by omega), if_neg (by omega), if_pos k] at hm
  simp only [Bool.and_eq_true, decide_eq_true_eq, Bool.not_eq_true'] at hm
  exact ⟨hm.1.1.1, hm.1.1.2, hm.1.2, hm.2⟩
theorem truI_in (b : Bool) : 0 ≤ truI b ∧ truI b < 256 := by cases b <;> decide
theorem valB_in {a : D} (hk : okV a) : ∀ c ∈ valB a, 0 ≤ c ∧ c < 256 := by
  intro c hc
  rw [valB] at hc
  rcases List.mem_cons.1 hc with rfl | hc
  · exact ⟨hk.1, hk.2.1⟩
  split at hc
  · rw [List.mem_singleton.1 hc]; exact truI_in _
  split at hc
  · exact beL_in _ _ c hc
  split at hc
  · exact keyL_in (bys_all_in _) c hc
  · exact numL_in _ c hc
theorem beL_inj : ∀ (n : Nat) (x y : Int), 0 ≤ x → 0 ≤ y → x < 256 ^ n → y < 256 ^ n → beL x n = beL y n → x = y
  | 0, x, y, h0, h1, h2, h3, _ => by simp at h2 h3; omega
  | n + 1, x, y, h0, h1, h2, h3, h => by
    simp only [beL] at h
    obtain ⟨e1, e2⟩ := List.append_inj' h rfl
    have e2 : x % 256 = y % 256 := by simpa using e2
    have p : (256 : Int) ^ (n + 1) = 256 ^ n * 256 := Int.pow_succ _ _
    rw [p] at h2 h3
    have := beL_inj n (x / 256) (y / 256) (by omega) (by omega) (by omega) (by omega) e1
    omega
theorem nb_lt {x : Int} (h : inU x) : x < 256 ^ nb x := by
  have h0 := h.1
  have h1 := h.2
  unfold nb
  repeat' split
  all_goals (simp; omega)
theorem numL_inj {x y : Int} (hx : inU x) (hy : inU y) {l r : List Int} (h : numL x ++ l = numL y ++ r) : x = y ∧ l = r := by
  unfold numL at h
  simp only [List.cons_append, List.cons.injEq] at h
  obtain ⟨h1, h2⟩ := h
  have h1 : nb x = nb y := by omega
  have hx2 := nb_lt hx
  have hy2 := nb_lt hy
  rw [h1] at h2 hx2
  obtain ⟨e1, e2⟩ := List.append_inj h2 (by rw [beL_length, beL_length])
  exact ⟨beL_inj _ x y hx.1 hy.1 hx2 hy2 e1, e2⟩
theorem keyL_inj : ∀ {x y : List Int}, keyL x ++ [0, 1] = keyL y ++ [0, 1] → x = y
  | [], [], _ => rfl
  | [], b :: y, h => by
    exfalso
    by_cases hb : b = 0
    · subst hb; simp [keyL] at h
    · have : keyL (b :: y) = b :: keyL y := by simp [keyL, hb]
      rw [this] at h
      simp [keyL] at h
      exact hb h.1.symm
  | a :: x, [], h => by
    exfalso
    by_cases hb : a = 0
    · subst hb; simp [keyL] at h
    · have : keyL (a :: x) = a :: keyL x := by simp [keyL, hb]
      rw [this] at h
      simp [keyL] at h
      exact hb h.1
  | a :: x, b :: y, h => by
    by_cases ha : a = 0
    · subst ha
      have e : keyL (0 :: x) = 0 :: 255 :: keyL x := by simp [keyL]
      rw [e] at h
      by_cases hb : b = 0
      · subst hb
        have e' : keyL (0 :: y) = 0 :: 255 :: keyL y := by simp [keyL]
        rw [e'] at h
        simp only [List.cons_append, List.cons.injEq, true_and] at h
        rw [keyL_inj h]
      · have e' : keyL (b :: y) = b :: keyL y := by simp [keyL, hb]
        rw [e'] at h
        simp only [List.cons_append, List.cons.injEq] at h
        exact absurd h.1.symm hb
    · have e : keyL (a :: x) = a :: keyL x := by simp [keyL, ha]
      rw [e] at h
      by_cases hb : b = 0
      · subst hb
        have e' : keyL (0 :: y) = 0 :: 255 :: keyL y := by simp [keyL]
        rw [e'] at h
        simp only [List.cons_append, List.cons.injEq] at h
        exact absurd h.1 ha
      · have e' : keyL (b :: y) = b :: keyL y := by simp [keyL, hb]
        rw [e'] at h
        simp only [List.cons_append, List.cons.injEq] at h
        rw [h.1, keyL_inj h.2]
theorem bys_eq {x y : ByteArray} (h : bys x = bys y) : x = y := by rw [← sL_bys x, h, sL_bys]
/-- one value has one row of bytes -/
theorem valB_inj {a b : D} (ka : okV a) (kb : okV b) (ma : mayV a = true) (mb : mayV b = true) (h : valB a = valB b) : (D.int (D.fld a 0)) = (D.int (D.fld b 0)) ∧ (D.bool (D.fld a 1)) = (D.bool (D.fld b 1)) ∧ (D.int (D.fld a 2)) = (D.int (D.fld b 2)) ∧ (D.str (D.fld a 3)) = (D.str (D.fld b 3)) ∧ (D.int (D.fld a 4)) = (D.int (D.fld b 4)) := by
  unfold valB at h
  simp only [List.cons.injEq] at h
  obtain ⟨hk, h⟩ := h
  rcases may_kind ma with k | k | k | k
  · have k' : (D.int (D.fld b 0)) = 1 := by omega
    rw [if_pos k, if_pos k'] at h
    obtain ⟨a1, a2, a3⟩ := may1 ma k
    obtain ⟨b1, b2, b3⟩ := may1 mb k'
    refine ⟨hk, ?_, by omega, by rw [a2, b2], by omega⟩
    simp only [List.cons.injEq, and_true] at h
    cases ha : (D.bool (D.fld a 1)) <;> cases hb : (D.bool (D.fld b 1)) <;> rw [ha, hb] at h <;> first | rfl | simp [truI] at h
  · have k' : (D.int (D.fld b 0)) = 2 := by omega
    rw [if_neg (show ¬ (D.int (D.fld a 0)) = 1 by omega), if_pos k, if_neg (show ¬ (D.int (D.fld b 0)) = 1 by omega), if_pos k'] at h
    obtain ⟨a1, a2, a3⟩ := may2 ma k
    obtain ⟨b1, b2, b3⟩ := may2 mb k'
    have i1 := ka.2.2.1
    have i2 := kb.2.2.1
    have := beL_inj 8 _ _ (by have := i1.1; omega) (by have := i2.1; omega) (by have := i1.2; simp; omega) (by have := i2.2; simp; omega) h
    exact ⟨hk, by rw [a1, b1], by omega, by rw [a2, b2], by omega⟩
  · have k' : (D.int (D.fld b 0)) = 3 := by omega
    rw [if_neg (show ¬ (D.int (D.fld a 0)) = 1 by omega), if_neg (show ¬ (D.int (D.fld a 0)) = 2 by omega), if_pos k, if_neg (show ¬ (D.int (D.fld b 0)) = 1 by omega), if_neg (show ¬ (D.int (D.fld b 0)) = 2 by omega), if_pos k'] at h
    obtain ⟨a1, a2, a3, _⟩ := may3 ma k
    obtain ⟨b1, b2, b3, _⟩ := may3 mb k'
    exact ⟨hk, by rw [a1, b1], by omega, bys_eq (keyL_inj h), by omega⟩
  · have k' : (D.int (D.fld b 0)) = 4 := by omega
    rw [if_neg (show ¬ (D.int (D.fld a 0)) = 1 by omega), if_neg (show ¬ (D.int (D.fld a 0)) = 2 by omega), if_neg (show ¬ (D.int (D.fld a 0)) = 3 by omega), if_neg (show ¬ (D.int (D.fld b 0)) = 1 by omega), if_neg (show ¬ (D.int (D.fld b 0)) = 2 by omega), if_neg (show ¬ (D.int (D.fld b 0)) = 3 by omega)] at h
    obtain ⟨a1, a2, a3, _⟩ := may4 ma k
    obtain ⟨b1, b2, b3, _⟩ := may4 mb k'
    have := (numL_inj ka.2.2.2 kb.2.2.2 (l := []) (r := []) (by rw [List.append_nil, List.append_nil]; exact h)).1
    exact ⟨hk, by rw [a1, b1], by omega, by rw [a3, b3], this⟩
/-- what a write claims under one schema -/
def keyL1 (p : ByteArray) (u : Int) (lst : Bool) (v : D) : List Int := keyL (bys p) ++ [0, 1] ++ (numL u ++ bif lst then valB v else [])
def keyO (s x : D) : ByteArray := sL (keyL1 ((D.str (D.fld s 0))) ((D.int (D.fld ((D.fld x 1)) 0))) (s.fld 2).bool ((D.fld ((D.fld x 1)) 2)))
theorem sL_inj {x y : List Int} (hx : ∀ c ∈ x, 0 ≤ c ∧ c < 256) (hy : ∀ c ∈ y, 0 ≤ c ∧ c < 256) (h : sL x = sL y) : x = y := by rw [← bys_sL hx, h, bys_sL hy]
theorem keyL1_in {p : ByteArray} {u : Int} {l : Bool} {v : D} (hu : inU u) (hv : okV v) : ∀ c ∈ keyL1 p u l v, 0 ≤ c ∧ c < 256 := by
  intro c hc
  unfold keyL1 at hc
  rcases List.mem_append.1 hc with h | h
  · exact keyL_in (bys_all_in p) c h
  · rcases List.mem_append.1 h with h | h
    · exact numL_in u c h
    · cases l with
      | true => exact valB_in hv c h
      | false => cases h
theorem keyO_eq {s x y : D} (hx : okT ((D.fld x 1))) (hy : okT ((D.fld y 1))) (mx : mayV ((D.fld ((D.fld x 1)) 2)) = true) (my : mayV ((D.fld ((D.fld y 1)) 2)) = true) :
    decide (keyO s x = keyO s y) = (decide ((D.int (D.fld ((D.fld x 1)) 0)) = (D.int (D.fld ((D.fld y 1)) 0))) && (!(s.fld 2).bool || eqV ((D.fld ((D.fld x 1)) 2)) ((D.fld ((D.fld y 1)) 2)))) := by
  rw [Bool.eq_iff_iff]
  simp only [decide_eq_true_eq, Bool.and_eq_true, Bool.or_eq_true, Bool.not_eq_true', eqV, beq_iff_eq]
  constructor
  · intro h
    have h := sL_inj (keyL1_in hx.1 hx.2.2) (keyL1_in hy.1 hy.2.2) h
    unfold keyL1 at h
    obtain ⟨h1, h2⟩ := numL_inj hx.1 hy.1 (List.append_cancel_left h)
    refine ⟨h1, ?_⟩
    cases hl : (s.fld 2).bool with
    | false => exact .inl rfl
    | true =>
      rw [hl] at h2
      obtain ⟨k1, k2, k3, k4, k5⟩ := valB_inj hx.2.2 hy.2.2 mx my h2
      exact .inr ⟨⟨⟨⟨k1, k2⟩, k3⟩, k4⟩, k5⟩
  · rintro ⟨h1, h2⟩
    unfold keyO keyL1
    rw [h1]
    rcases h2 with h2 | ⟨⟨⟨⟨k1, k2⟩, k3⟩, k4⟩, k5⟩
    · rw [h2]; rfl
    · have : valB ((D.fld ((D.fld x 1)) 2)) = valB ((D.fld ((D.fld y 1)) 2)) := by unfold valB; rw [k1, k2, k3, k4, k5]
      rw [this]
theorem srt_one (s : ByteArray) : srtD [D.s s] = [D.s s] := by
  rw [srtD_eq]
  show (([s.toList].mergeSort fun x y => decide (x ≤ y)).map fun l => D.s ⟨l.toArray⟩) = _
  rw [List.mergeSort_singleton, List.map_singleton, ByteArray.toList_eq]
theorem mayT_eta (x : D) : mayT ((D.fld (etaD wrT x) 1)) = mayT ((D.fld x 1)) := by unfold mayT; rfl
theorem schI_eta (s : D) : schI (etaD schT s) = schI s := by unfold schI schBad; rfl
theorem fits_eta (s x : D) : fitsI (etaD schT s) (etaD wrT x) = fitsI s x := by
  unfold fitsI
  rw [mayT_eta, schI_eta]
  rfl
theorem fits0 {s x : D} (h : fitsI s x = 0) : schI s = 0 ∧ mayT ((D.fld x 1)) = 0 ∧ (D.str (D.fld ((D.fld x 1)) 1)) = (D.str (D.fld s 0)) := by
  obtain ⟨h1, h2⟩ := sk_fact h
  refine ⟨h1, h2, ?_⟩
  unfold fitsI at h
  rw [if_neg (by omega), if_neg (by omega)] at h
  split at h
  · cases h
  · rename_i q; exact Classical.not_not.1 q
/-- of one write, under one schema -/
theorem clm_one {s x : D} (h : fitsI s x = 0) : clm [etaD schT s] [etaD wrT x] = [.l [.s (keyO s x)], .i 1, .i 0] := by
  obtain ⟨h1, h2, h3⟩ := fits0 h
  have e1 : firstF 1 (badS [etaD schT s]) = 1 := firstF_none fun j hj => by
    obtain rfl : j = 0 := by omega
    have : badS [etaD schT s] 0 = (decide (((0 : Nat) : Int) = 256) || !decide (schI (etaD schT s) = 0) || (decide (0 < ((0 : Nat) : Int)) && (ltS ((D.str (D.fld (etaD schT s) 0))) (ByteArray.mk #[]) || decide ((D.str (D.fld (etaD schT s) 0)) = (ByteArray.mk #[]))))) := rfl
    rw [this, schI_eta, h1]; rfl
  have hf : findS [etaD schT s] ((D.str (D.fld ((D.fld (etaD wrT x) 1)) 1))) = some (etaD schT (etaD schT s)) := by
    have : findS [etaD schT s] ((D.str (D.fld ((D.fld (etaD wrT x) 1)) 1))) = getE .s (.s ((D.str (D.fld ((D.fld x 1)) 1)))) (putE .s (.s ((D.str (D.fld s 0)))) (etaD schT (etaD schT s)) 0 []) := rfl
    rw [this, getE_put]
    exact if_pos h3
  have ee : errW [etaD schT s] (etaD wrT x) = 0 := by
    unfold errW
    rw [mayT_eta, h2, hf]
    show fitsI (etaD schT (etaD schT s)) (etaD wrT x) = 0
    rw [fits_eta, show fitsI (etaD schT s) x = fitsI s x from by unfold fitsI; rw [schI_eta]; rfl]
    exact h
  have e2 : firstF 1 (fun i => !decide (errW [etaD schT s] (nthD [etaD wrT x] i) = 0)) = 1 := firstF_none fun j hj => by
    obtain rfl : j = 0 := by omega
    show (!decide (errW [etaD schT s] (etaD wrT x) = 0)) = false
    rw [ee]; rfl
  have hk : keyW [etaD schT s] (etaD wrT x) = keyO s x := by
    unfold keyW
    rw [hf]
    have ek : keyO s x = sL (keyL (bys ((D.str (D.fld s 0)))) ++ [0, 1]) ++ sL (numL ((D.int (D.fld ((D.fld x 1)) 0)))) ++ sL (bif (s.fld 2).bool then valB ((D.fld ((D.fld x 1)) 2)) else []) := by
      unfold keyO keyL1
      rw [sL_append, sL_append]
      congr 1
      simp only [List.append_assoc]
    have hp : (D.str (D.fld ((D.fld (etaD wrT x) 1)) 1)) = (D.str (D.fld s 0)) := h3
    have hv : valB ((D.fld ((D.fld (etaD wrT x) 1)) 2)) = valB ((D.fld ((D.fld x 1)) 2)) := by unfold valB; rfl
    rw [hp, ek]
    show sL (keyL (bys ((D.str (D.fld s 0)))) ++ [0, 1]) ++ sL (numL ((D.int (D.fld ((D.fld x 1)) 0)))) ++ (bif (s.fld 2).bool then sL (valB ((D.fld ((D.fld (etaD wrT x) 1)) 2))) else (ByteArray.mk #[])) = _
    rw [hv]
    cases (s.fld 2).bool with
    | true => rfl
    | false => rfl
  have e3 : ksM (setK [etaD schT s] [etaD wrT x] 1) = [.s (keyO s x)] := by
    show [D.s (keyW [etaD schT s] (etaD wrT x))] = _
    rw [hk]
  unfold clm
  have l1 : [etaD schT s].length = 1 := rfl
  have l2 : [etaD wrT x].length = 1 := rfl
  rw [l1, l2, e1, e2, if_neg (by omega), if_neg (by omega), if_neg (by omega), e3, srt_one]
  rfl
theorem cl_one (x y : ByteArray) : clB [.s x] [.s y] = decide (x = y) := by
  show (decide (x = y) || false || false) = _
  rw [Bool.or_false, Bool.or_false]
end Go.Proofs.YtnhfkdgambncfaaDoor.XT
