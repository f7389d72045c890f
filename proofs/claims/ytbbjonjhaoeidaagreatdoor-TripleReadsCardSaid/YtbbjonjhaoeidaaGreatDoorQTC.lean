/- A value's bytes and text there and back, in order: plain laws. -/
import Derived.Test.YtbbjonjhaoeidaaGreatDoorQTB
set_option linter.unusedVariables false
set_option linter.unusedSimpArgs false
namespace Go.Proofs.YtbbjonjhaoeidaaGreatDoor.XT
open Go Go.RowKit Go.Proofs.YtbbjonjhaoeidaaGreatDoor.Sv
def canV (a : D) : D := .t [.i ((D.int (D.fld a 0))), .b ((D.bool (D.fld a 1))), .i ((D.int (D.fld a 2))), .s ((D.str (D.fld a 3))), .i ((D.int (D.fld a 4)))]
theorem mayV_can (a : D) : mayV (canV a) = mayV a := rfl
theorem valB_can (a : D) : valB (canV a) = valB a := rfl
theorem sL_cons (c : Int) (l : List Int) : sL (c :: l) = sL [c] ++ sL l := by rw [sL_append]; rfl
theorem app_assoc (a b c : ByteArray) : a ++ b ++ c = a ++ (b ++ c) := by
  apply ByteArray.ext; simp [ByteArray.data_append, Array.append_assoc]
theorem hd_tl {s : ByteArray} (h : 0 < s.size) : sL [byteAt' s 0] ++ tlS s = s := by
  rw [tlS, extract_end, sL_append, List.singleton_append, ← bys_hd h, sL_bys]
theorem tl_cons {c : Int} (h0 : 0 ≤ c) (h1 : c < 256) (l : List Int) (r : ByteArray) (hl : ∀ x ∈ l, 0 ≤ x ∧ x < 256) : byteAt' (sL (c :: l) ++ r) 0 = c ∧ tlS (sL (c :: l) ++ r) = sL l ++ r ∧ (sL (c :: l) ++ r).size = 1 + l.length + r.size := by
  have hb : bys (sL (c :: l) ++ r) = c :: (l ++ bys r) := by
    rw [bys_append, bys_sL]
    · rfl
    · intro x hx
      rcases List.mem_cons.1 hx with rfl | hx
      · exact ⟨h0, h1⟩
      · exact hl x hx
  have hs : (sL (c :: l) ++ r).size = 1 + l.length + r.size := by rw [ByteArray.size_append, sL_size, List.length_cons]; omega
  refine ⟨by rw [byteAt_get (by omega), hb]; rfl, ?_, hs⟩
  rw [tlS, extract_end, hb, List.drop_succ_cons, List.drop_zero, ← sL_append, sL_bys]
theorem may_kind {a : D} (hm : mayV a = true) : (D.int (D.fld a 0)) = 1 ∨ (D.int (D.fld a 0)) = 2 ∨ (D.int (D.fld a 0)) = 3 ∨ (D.int (D.fld a 0)) = 4 := by
  unfold mayV at hm
  split at hm
  · omega
  split at hm
  · omega
  split at hm
  · omega
  split at hm
  · omega
  · cases hm
theorem may1 {a : D} (hm : mayV a = true) (k : (D.int (D.fld a 0)) = 1) : (D.int (D.fld a 2)) = 0 ∧ (D.str (D.fld a 3)) = (ByteArray.mk #[]) ∧ (D.int (D.fld a 4)) = 0 := by
  rw [mayV, if_pos k] at hm
  simp only [Bool.and_eq_true, decide_eq_true_eq] at hm
  exact ⟨hm.1.1, hm.1.2, hm.2⟩
theorem may2 {a : D} (hm : mayV a = true) (k : (D.int (D.fld a 0)) = 2) : (D.bool (D.fld a 1)) = false ∧ (D.str (D.fld a 3)) = (ByteArray.mk #[]) ∧ (D.int (D.fld a 4)) = 0 := by
  rw [mayV, if_neg (by omega), if_pos k] at hm
  simp only [Bool.and_eq_true, decide_eq_true_eq, Bool.not_eq_true'] at hm
  exact ⟨hm.1.1, hm.1.2, hm.2⟩
theorem may3 {a : D} (hm : mayV a = true) (k : (D.int (D.fld a 0)) = 3) : (D.bool (D.fld a 1)) = false ∧ (D.int (D.fld a 2)) = 0 ∧ (D.int (D.fld a 4)) = 0 ∧ (((D.str (D.fld a 3))).size : Int) ≤ 4096 := by
  rw [mayV, if_neg (by omega), if_neg (by omega), if_pos k] at hm
  simp only [Bool.and_eq_true, decide_eq_true_eq, Bool.not_eq_true'] at hm
  exact ⟨hm.1.1.1, hm.1.1.2, hm.1.2, hm.2⟩
theorem may4 {a : D} (hm : mayV a = true) (k : (D.int (D.fld a 0)) = 4) : (D.bool (D.fld a 1)) = false ∧ (D.int (D.fld a 2)) = 0 ∧ (D.str (D.fld a 3)) = (ByteArray.mk #[]) ∧ 0 < (D.int (D.fld a 4)) := by
  rw [mayV, if_neg (by omega), if_neg (by omega), if_neg (by omega), if_pos k] at hm
  simp only [Bool.and_eq_true, decide_eq_true_eq, Bool.not_eq_true'] at hm
  exact ⟨hm.1.1.1, hm.1.1.2, hm.1.2, hm.2⟩
theorem i0 : I64 0 := ⟨by decide, by decide⟩
theorem u0 : inU 0 := ⟨by decide, by decide⟩
theorem truI_in (b : Bool) : 0 ≤ truI b ∧ truI b < 256 := by cases b <;> decide
theorem rd_ok {s r : ByteArray} {a : D} (hE : rdE0 s = 0) (hV : rdV0 s = canV a) (hR : rdR0 s = r) (hm : mayV a = true) : rdE s = 0 ∧ rdV s = canV a ∧ rdR s = r := by
  have e : rdE s = 0 := by rw [rdE, if_neg (by rw [hE]; exact fun h => h rfl), hV, mayV_can, if_pos hm]
  exact ⟨e, by rw [rdV, if_pos e, hV], by rw [rdR, if_pos e, hR]⟩
/-- a value, read of its bytes -/
theorem rd_val {a : D} (hk : okV a) (hm : mayV a = true) (r : ByteArray) : rdE (sL (valB a) ++ r) = 0 ∧ rdV (sL (valB a) ++ r) = canV a ∧ rdR (sL (valB a) ++ r) = r := by
  obtain ⟨k0, k1, kN, kU⟩ := hk
  have ne : ∀ s : ByteArray, 0 < s.size → ¬ s = (ByteArray.mk #[]) := fun s h e => by rw [emS_size] at e; omega
  rcases may_kind hm with k | k | k | k
  · obtain ⟨m1, m2, m3⟩ := may1 hm k
    have e : valB a = (D.int (D.fld a 0)) :: [truI ((D.bool (D.fld a 1)))] := by rw [valB, if_pos k]
    obtain ⟨b0, bt, bs⟩ := tl_cons k0 k1 [truI ((D.bool (D.fld a 1)))] r (fun x hx => by rw [List.mem_singleton.1 hx]; exact truI_in _)
    obtain ⟨c0, ct, cs⟩ := tl_cons (truI_in ((D.bool (D.fld a 1)))).1 (truI_in ((D.bool (D.fld a 1)))).2 [] r (fun x hx => by cases hx)
    rw [e]
    generalize sL ((D.int (D.fld a 0)) :: [truI ((D.bool (D.fld a 1)))]) ++ r = s at b0 bt bs
    rw [k] at b0
    rw [← bt] at c0 ct cs
    have ht : 0 < (tlS s).size := by omega
    have hv := truI_in ((D.bool (D.fld a 1)))
    have hle : ¬ 1 < byteAt' (tlS s) 0 := by rw [c0]; cases (D.bool (D.fld a 1)) <;> decide
    refine rd_ok ?_ ?_ ?_ hm
    · rw [rdE0, if_neg (ne s (by omega)), if_pos b0, if_neg (ne _ ht), if_neg hle]
    · rw [rdV0, if_pos b0, canV, k, m1, m2, m3, b0, c0]
      cases (D.bool (D.fld a 1)) <;> rfl
    · rw [rdR0, if_pos b0]
      have : (tlS s).extract 1 (tlS s).size = tlS (tlS s) := rfl
      rw [this, ct]
      apply ByteArray.ext; simp [ByteArray.data_append, strOfNums]
  · obtain ⟨m1, m2, m3⟩ := may2 hm k
    have e : valB a = (D.int (D.fld a 0)) :: beL ((D.int (D.fld a 2)) + 9223372036854775808) 8 := by rw [valB, if_neg (by omega), if_pos k]
    obtain ⟨b0, bt, bs⟩ := tl_cons k0 k1 (beL ((D.int (D.fld a 2)) + 9223372036854775808) 8) r (beL_in _ _)
    obtain ⟨r1, r2, r3⟩ := ri_int kN r
    rw [e]
    generalize sL ((D.int (D.fld a 0)) :: beL ((D.int (D.fld a 2)) + 9223372036854775808) 8) ++ r = s at b0 bt bs
    rw [k] at b0
    rw [← bt] at r1 r2 r3
    have n1 : ¬ byteAt' s 0 = 1 := by omega
    refine rd_ok ?_ ?_ ?_ hm
    · rw [rdE0, if_neg (ne s (by omega)), if_neg n1, if_pos b0, r1]
    · rw [rdV0, if_neg n1, if_pos b0, canV, k, m1, m2, m3, b0, r2]
    · rw [rdR0, if_neg n1, if_pos b0, r3]
  · obtain ⟨m1, m2, m3, m4⟩ := may3 hm k
    have e : valB a = (D.int (D.fld a 0)) :: (keyL (bys ((D.str (D.fld a 3)))) ++ [0, 1]) := by rw [valB, if_neg (by omega), if_neg (by omega), if_pos k]
    have hin := keyL_in (bys_all_in ((D.str (D.fld a 3))))
    obtain ⟨b0, bt, bs⟩ := tl_cons k0 k1 (keyL (bys ((D.str (D.fld a 3)))) ++ [0, 1]) r hin
    obtain ⟨r1, r2, r3⟩ := rk_key (bys ((D.str (D.fld a 3)))) (bys r) (bys_all_in _)
    have hb : bys (sL (keyL (bys ((D.str (D.fld a 3)))) ++ [0, 1]) ++ r) = keyL (bys ((D.str (D.fld a 3)))) ++ [0, 1] ++ bys r := by rw [bys_append, bys_sL hin]
    rw [e]
    generalize sL ((D.int (D.fld a 0)) :: (keyL (bys ((D.str (D.fld a 3)))) ++ [0, 1])) ++ r = s at b0 bt bs
    rw [k] at b0
    rw [← bt] at hb
    rw [← hb] at r1 r2 r3
    have n1 : ¬ byteAt' s 0 = 1 := by omega
    have n2 : ¬ byteAt' s 0 = 2 := by omega
    refine rd_ok ?_ ?_ ?_ hm
    · rw [rdE0, if_neg (ne s (by omega)), if_neg n1, if_neg n2, if_pos b0, r1]
    · rw [rdV0, if_neg n1, if_neg n2, if_pos b0, canV, k, m1, m2, m3, b0, rkVs, if_pos r1, r2, sL_bys]
    · rw [rdR0, if_neg n1, if_neg n2, if_pos b0, rkRs, if_pos r1, r3, sL_bys]
  · obtain ⟨m1, m2, m3, m4⟩ := may4 hm k
    have e : valB a = (D.int (D.fld a 0)) :: numL ((D.int (D.fld a 4))) := by rw [valB, if_neg (by omega), if_neg (by omega), if_neg (by omega)]
    obtain ⟨b0, bt, bs⟩ := tl_cons k0 k1 (numL ((D.int (D.fld a 4)))) r (numL_in _)
    obtain ⟨r1, r2, r3⟩ := rn_num kU r
    rw [e]
    generalize sL ((D.int (D.fld a 0)) :: numL ((D.int (D.fld a 4)))) ++ r = s at b0 bt bs
    rw [k] at b0
    rw [← bt] at r1 r2 r3
    have n1 : ¬ byteAt' s 0 = 1 := by omega
    have n2 : ¬ byteAt' s 0 = 2 := by omega
    have n3 : ¬ byteAt' s 0 = 3 := by omega
    refine rd_ok ?_ ?_ ?_ hm
    · rw [rdE0, if_neg (ne s (by omega)), if_neg n1, if_neg n2, if_neg n3, if_pos b0, r1]
    · rw [rdV0, if_neg n1, if_neg n2, if_neg n3, canV, k, m1, m2, m3, b0, r2]
    · rw [rdR0, if_neg n1, if_neg n2, if_neg n3, r3]
theorem rd_back {s : ByteArray} (h : rdE s = 0) : mayV (rdV s) = true ∧ okV (rdV s) ∧ sL (valB (rdV s)) ++ rdR s = s := by
  have hE := h
  unfold rdE at h
  split at h
  · rename_i h1; exact absurd h h1
  rename_i h1
  have h1 : rdE0 s = 0 := by simpa using h1
  split at h
  rotate_left
  · cases h
  rename_i hm
  rw [rdV, if_pos hE, rdR, if_pos hE]
  unfold rdE0 at h1
  split at h1
  · cases h1
  rename_i hne
  have hs : 0 < s.size := by rw [emS_size] at hne; omega
  obtain ⟨z0, z1⟩ := byte_in s 0
  have hcat := hd_tl hs
  split at h1
  · rename_i c
    split at h1
    · cases h1
    rename_i d
    have ht : 0 < (tlS s).size := by rw [emS_size] at d; omega
    split at h1
    · cases h1
    rename_i d2
    have hV : rdV0 s = .t [.i (byteAt' s 0), .b (decide (byteAt' (tlS s) 0 = 1)), .i 0, .s (ByteArray.mk #[]), .i 0] := if_pos c
    have hR : rdR0 s = (tlS s).extract 1 (tlS s).size := if_pos c
    obtain ⟨y0, y1⟩ := byte_in (tlS s) 0
    rw [hV] at hm ⊢
    refine ⟨hm, ⟨z0, z1, i0, u0⟩, ?_⟩
    rw [hR]
    have hc2 := hd_tl ht
    have e : valB (.t [.i (byteAt' s 0), .b (decide (byteAt' (tlS s) 0 = 1)), .i 0, .s (ByteArray.mk #[]), .i 0]) = [byteAt' s 0, byteAt' (tlS s) 0] := by
      show byteAt' s 0 :: (if byteAt' s 0 = 1 then [truI (decide (byteAt' (tlS s) 0 = 1))] else _) = _
      rw [if_pos c]
      by_cases q : byteAt' (tlS s) 0 = 1
      · rw [q]; rfl
      · rw [decide_eq_false q, show byteAt' (tlS s) 0 = 0 by omega]; rfl
    rw [e, sL_cons, app_assoc]
    exact (congrArg (fun x => sL [byteAt' s 0] ++ x) hc2).trans hcat
  rename_i c1
  split at h1
  · rename_i c
    obtain ⟨r1, r2⟩ := ri_back h1
    have hV : rdV0 s = .t [.i (byteAt' s 0), .b false, .i (riV (tlS s)), .s (ByteArray.mk #[]), .i 0] := by rw [rdV0, if_neg c1, if_pos c]
    have hR : rdR0 s = riS (tlS s) := by rw [rdR0, if_neg c1, if_pos c]
    rw [hV] at hm ⊢
    refine ⟨hm, ⟨z0, z1, r1, u0⟩, ?_⟩
    have e : valB (.t [.i (byteAt' s 0), .b false, .i (riV (tlS s)), .s (ByteArray.mk #[]), .i 0]) = byteAt' s 0 :: beL (riV (tlS s) + 9223372036854775808) 8 := by
      show byteAt' s 0 :: (if byteAt' s 0 = 1 then _ else if byteAt' s 0 = 2 then _ else _) = _
      rw [if_neg c1, if_pos c]; rfl
    rw [hR, e, sL_cons, app_assoc, r2, hcat]
  rename_i c2
  split at h1
  · rename_i c
    have r2 := rk_back _ h1
    have hV : rdV0 s = .t [.i (byteAt' s 0), .b false, .i 0, .s (rkVs (tlS s)), .i 0] := by rw [rdV0, if_neg c1, if_neg c2, if_pos c]
    have hR : rdR0 s = rkRs (tlS s) := by rw [rdR0, if_neg c1, if_neg c2, if_pos c]
    rw [hV] at hm ⊢
    refine ⟨hm, ⟨z0, z1, i0, u0⟩, ?_⟩
    have e : valB (.t [.i (byteAt' s 0), .b false, .i 0, .s (rkVs (tlS s)), .i 0]) = byteAt' s 0 :: (keyL (bys (rkVs (tlS s))) ++ [0, 1]) := by
      show byteAt' s 0 :: (if byteAt' s 0 = 1 then _ else if byteAt' s 0 = 2 then _ else if byteAt' s 0 = 3 then _ else _) = _
      rw [if_neg c1, if_neg c2, if_pos c]; rfl
    have e2 : bys (rkVs (tlS s)) = rkV (bys (tlS s)) := by
      rw [rkVs, if_pos h1, bys_sL (rkV_in _ (bys_all_in _))]
    rw [hR, e, e2, sL_cons, app_assoc, rkRs, if_pos h1, sL_append, r2, sL_bys, hcat]
  rename_i c3
  split at h1
  · rename_i c
    obtain ⟨r1, r2⟩ := rn_back h1
    have hV : rdV0 s = .t [.i (byteAt' s 0), .b false, .i 0, .s (ByteArray.mk #[]), .i (rnV (tlS s))] := by rw [rdV0, if_neg c1, if_neg c2, if_neg c3]
    have hR : rdR0 s = rnS (tlS s) := by rw [rdR0, if_neg c1, if_neg c2, if_neg c3]
    rw [hV] at hm ⊢
    refine ⟨hm, ⟨z0, z1, i0, r1⟩, ?_⟩
    have e : valB (.t [.i (byteAt' s 0), .b false, .i 0, .s (ByteArray.mk #[]), .i (rnV (tlS s))]) = byteAt' s 0 :: numL (rnV (tlS s)) := by
      show byteAt' s 0 :: (if byteAt' s 0 = 1 then _ else if byteAt' s 0 = 2 then _ else if byteAt' s 0 = 3 then _ else _) = _
      rw [if_neg c1, if_neg c2, if_neg c3]; rfl
    rw [hR, e, sL_cons, app_assoc, r2, hcat]
  · cases h1
/-- a value, read of its text -/
theorem rt_val {a : D} (hk : okV a) (hm : mayV a = true) : cV (sL (valL a)) = canV a := by
  obtain ⟨k0, k1, kN, kU⟩ := hk
  rcases may_kind hm with k | k | k | k
  · obtain ⟨m1, m2, m3⟩ := may1 hm k
    rw [valL, if_pos k, canV, k, m1, m2, m3]
    cases (D.bool (D.fld a 1))
    · rw [if_neg (by decide)]; rfl
    · rw [if_pos rfl]; rfl
  · obtain ⟨m1, m2, m3⟩ := may2 hm k
    rw [valL, if_neg (by omega), if_pos k, cV_int kN, canV, k, m1, m2, m3]
  · obtain ⟨m1, m2, m3, m4⟩ := may3 hm k
    rw [valL, if_neg (by omega), if_neg (by omega), if_pos k, cV_quo, canV, k, m1, m2, m3]
  · obtain ⟨m1, m2, m3, m4⟩ := may4 hm k
    rw [valL, if_neg (by omega), if_neg (by omega), if_neg (by omega), cV_hex kU, canV, k, m1, m2, m3]
theorem rt_ok {a : D} (hk : okV a) (hm : mayV a = true) : rtB (sL (valL a)) = true ∧ rtD (sL (valL a)) = canV a := by
  have h := rt_val hk hm
  have hb : rtB (sL (valL a)) = true := by
    rw [rtB, h, mayV_can, hm, Bool.true_and]
    exact decide_eq_true rfl
  exact ⟨hb, by rw [rtD, if_pos hb, h]⟩
theorem rt_back {s : ByteArray} (h : rtB s = true) : mayV (rtD s) = true ∧ sL (valL (rtD s)) = s := by
  have hb := h
  unfold rtB at h
  simp only [Bool.and_eq_true, decide_eq_true_eq] at h
  rw [rtD, if_pos hb]
  exact h
/-! ### The order -/
def ltL : List Int → List Int → Bool
  | _, [] => false
  | [], _ :: _ => true
  | a :: x, b :: y => decide (a < b) || (decide (a = b) && ltL x y)
theorem ltL_nums : ∀ x y : List UInt8, ltL (nums x) (nums y) = Op.bytesLess x y
  | [], [] => rfl
  | _ :: _, [] => rfl
  | [], _ :: _ => rfl
  | a :: x, b :: y => by
    show (decide ((a.toNat : Int) < b.toNat) || (decide ((a.toNat : Int) = b.toNat) && ltL (nums x) (nums y))) = (decide (a < b) || (a == b && Op.bytesLess x y))
    rw [ltL_nums x y]
    congr 1
    · rw [decide_eq_decide, UInt8.lt_iff_toNat_lt]; omega
    · congr 1
      rw [Bool.eq_iff_iff, decide_eq_true_eq, beq_iff_eq, ← UInt8.toNat_inj]; omega
theorem ltS_sL {x y : List Int} (hx : ∀ c ∈ x, 0 ≤ c ∧ c < 256) (hy : ∀ c ∈ y, 0 ≤ c ∧ c < 256) : ltS (sL x) (sL y) = ltL x y := by
  rw [ltS, ByteArray.toList_eq, ByteArray.toList_eq, ← ltL_nums, ← bys_nums, ← bys_nums, bys_sL hx, bys_sL hy]
theorem ltS_bys (x y : ByteArray) : ltS x y = ltL (bys x) (bys y) := by
  rw [← ltS_sL (bys_all_in x) (bys_all_in y), sL_bys, sL_bys]
theorem ltL_irr : ∀ x : List Int, ltL x x = false
  | [] => rfl
  | a :: x => by simp [ltL, ltL_irr x]
theorem ltL_snoc : ∀ (x y : List Int) (a b : Int), x.length = y.length → ltL (x ++ [a]) (y ++ [b]) = (ltL x y || (decide (x = y) && decide (a < b)))
  | [], [], a, b, _ => by simp [ltL]
  | c :: x, d :: y, a, b, h => by
    have := ltL_snoc x y a b (by simpa using h)
    simp only [List.cons_append, ltL, this]
    by_cases e : c = d
    · subst e; simp
    · simp [e]
theorem beL_ne : ∀ (n : Nat) (x y : Int), 0 ≤ x → 0 ≤ y → x < 256 ^ n → y < 256 ^ n → beL x n = beL y n → x = y := fun n x y h0 h1 h2 h3 e => by
  have a := deB_beL n x 0 h0 h2
  have b := deB_beL n y 0 h1 h3
  rw [e] at a; omega
theorem ltL_beL : ∀ (n : Nat) (x y : Int), 0 ≤ x → 0 ≤ y → x < 256 ^ n → y < 256 ^ n → ltL (beL x n) (beL y n) = decide (x < y)
  | 0, x, y, h0, h1, h2, h3 => by
    have h2 : x < 1 := h2
    have h3 : y < 1 := h3
    show false = _
    rw [decide_eq_false (by omega)]
  | n + 1, x, y, h0, h1, h2, h3 => by
    rw [Int.pow_succ] at h2 h3
    rw [beL, beL, ltL_snoc _ _ _ _ (by rw [beL_length, beL_length]), ltL_beL n (x / 256) (y / 256) (by omega) (by omega) (by omega) (by omega)]
    by_cases e : x / 256 = y / 256
    · rw [e, decide_eq_false (by omega), decide_eq_true rfl, Bool.false_or, Bool.true_and, decide_eq_decide]; omega
    · have ne : ¬ beL (x / 256) n = beL (y / 256) n := fun h => e (beL_ne n _ _ (by omega) (by omega) (by omega) (by omega) h)
      rw [decide_eq_false ne, Bool.false_and, Bool.or_false, decide_eq_decide]; omega
theorem ltL_num {x y : Int} (hx : inU x) (hy : inU y) : ltL (numL x) (numL y) = decide (x < y) := by
  obtain ⟨p1, p2⟩ := nb_pow hx
  obtain ⟨q1, q2⟩ := nb_pow hy
  have := hx.1
  have := hy.1
  rw [numL, numL, ltL]
  rcases Nat.lt_trichotomy (nb x) (nb y) with h | h | h
  · have := q2 (by omega)
    have := pow_mono (show nb x ≤ nb y - 1 by omega)
    rw [decide_eq_true (show (nb x : Int) < nb y by omega), decide_eq_true (show x < y by omega)]; rfl
  · rw [h] at p1 ⊢
    rw [ltL_beL _ _ _ hx.1 hy.1 p1 q1, decide_eq_false (by omega), decide_eq_true rfl]; rfl
  · have := p2 (by omega)
    have := pow_mono (show nb y ≤ nb x - 1 by omega)
    rw [decide_eq_false (show ¬ (nb x : Int) < nb y by omega), decide_eq_false (show ¬ (nb x : Int) = nb y by omega), decide_eq_false (show ¬ x < y by omega)]; rfl
theorem ltL_key : ∀ x y : List Int, (∀ c ∈ x, 0 ≤ c ∧ c < 256) → (∀ c ∈ y, 0 ≤ c ∧ c < 256) → ltL (keyL x ++ [0, 1]) (keyL y ++ [0, 1]) = ltL x y
  | [], [], _, _ => rfl
  | [], c :: y, _, hy => by
    obtain ⟨c0, c1⟩ := hy c List.mem_cons_self
    by_cases h : c = 0
    · subst h; simp [keyL, ltL]
    · simp [keyL, h, ltL]; omega
  | c :: x, [], hx, _ => by
    obtain ⟨c0, c1⟩ := hx c List.mem_cons_self
    by_cases h : c = 0
    · subst h; simp [keyL, ltL]
    · simp [keyL, h, ltL]; omega
  | c :: x, d :: y, hx, hy => by
    obtain ⟨c0, c1⟩ := hx c List.mem_cons_self
    obtain ⟨d0, d1⟩ := hy d List.mem_cons_self
    have ih := ltL_key x y (fun a h => hx a (List.mem_cons_of_mem _ h)) (fun a h => hy a (List.mem_cons_of_mem _ h))
    have k0 : ∀ z : List Int, keyL (0 :: z) ++ [0, 1] = 0 :: 255 :: (keyL z ++ [0, 1]) := fun z => by simp [keyL]
    have k1 : ∀ (e : Int) (z : List Int), e ≠ 0 → keyL (e :: z) ++ [0, 1] = e :: (keyL z ++ [0, 1]) := fun e z h => by simp [keyL, h]
    by_cases hc : c = 0
    · subst hc
      by_cases hd : d = 0
      · subst hd; rw [k0, k0]; simp [ltL, ih]
      · rw [k0, k1 d y hd]; simp only [ltL]; rw [decide_eq_true (show (0 : Int) < d by omega)]; rfl
    · by_cases hd : d = 0
      · subst hd; rw [k0, k1 c x hc]; simp only [ltL]; rw [decide_eq_false (show ¬ c < 0 by omega), decide_eq_false hc]; rfl
      · rw [k1 c x hc, k1 d y hd]; simp only [ltL, ih]
theorem valB_in {a : D} (hk : okV a) : ∀ c ∈ valB a, 0 ≤ c ∧ c < 256 := by
  intro c hc
  rw [valB] at hc
  rcases List.mem_cons.1 hc with rfl | hc
  · exact ⟨hk.1, hk.2.1⟩
  split at hc
  · rw [List.mem_singleton.1 hc]; exact truI_in _
  split at hc
  · exact beL_in _ _ c hc
  split at hc
  · exact keyL_in (bys_all_in _) c hc
  · exact numL_in _ c hc
theorem if_ne (p : Prop) [Decidable p] : decide ((if p then (-1 : Int) else 1) = 0) = false := by by_cases h : p <;> simp [h]
/-- the bytes' order is the values' -/
theorem ord_val {a b : D} (ha : okV a) (hb : okV b) (ma : mayV a = true) (mb : mayV b = true) : decide (rcmpV a b < 0) = ltS (sL (valB a)) (sL (valB b)) ∧ decide (rcmpV a b = 0) = decide (sL (valB a) = sL (valB b)) := by
  have hinj : sL (valB a) = sL (valB b) → eqV a b = true := fun e => by
    have h1 := (rd_val ha ma (ByteArray.mk #[])).2.1
    have h2 := (rd_val hb mb (ByteArray.mk #[])).2.1
    rw [e, h2] at h1
    simp only [canV, D.t.injEq, List.cons.injEq, D.i.injEq, D.b.injEq, D.s.injEq, and_true] at h1
    obtain ⟨e1, e2, e3, e4, e5⟩ := h1
    simp only [eqV, e1, e2, e3, e4, e5, decide_true, Bool.and_true, beq_self_eq_true]
  have hinj2 : eqV a b = true → valB a = valB b := fun e => by
    simp only [eqV, Bool.and_eq_true, decide_eq_true_eq, beq_iff_eq] at e
    obtain ⟨⟨⟨⟨e1, e2⟩, e3⟩, e4⟩, e5⟩ := e
    simp only [valB, e1, e2, e3, e4, e5]
  rw [ltS_sL (valB_in ha) (valB_in hb)]
  by_cases he : eqV a b = true
  · have h0 : rcmpV a b = 0 := by rw [rcmpV, if_pos he]
    rw [h0, hinj2 he, ltL_irr]
    exact ⟨rfl, (decide_eq_true rfl).trans (decide_eq_true rfl).symm⟩
  have hne : ¬ sL (valB a) = sL (valB b) := fun e => he (hinj e)
  rw [rcmpV, if_neg he]
  refine ⟨?_, ?_⟩
  rotate_left
  · rw [decide_eq_false hne]; exact if_ne _
  have key : (if (D.int (D.fld a 0)) = (D.int (D.fld b 0)) then (!((D.bool (D.fld a 1))) && (D.bool (D.fld b 1)) || decide ((D.int (D.fld a 2)) < (D.int (D.fld b 2))) || ltS ((D.str (D.fld a 3))) ((D.str (D.fld b 3))) || decide ((D.int (D.fld a 4)) < (D.int (D.fld b 4)))) else decide ((D.int (D.fld a 0)) < (D.int (D.fld b 0)))) = ltL (valB a) (valB b) := by
    by_cases hk : (D.int (D.fld a 0)) = (D.int (D.fld b 0))
    · rw [if_pos hk, valB, valB, ltL, hk, decide_eq_false (show ¬ (D.int (D.fld b 0)) < (D.int (D.fld b 0)) by omega), decide_eq_true rfl, Bool.false_or, Bool.true_and]
      have irr : ∀ n : Int, decide (n < n) = false := fun n => decide_eq_false (by omega)
      rcases may_kind mb with k | k | k | k
      · obtain ⟨a1, a2, a3⟩ := may1 ma (hk.trans k)
        obtain ⟨b1, b2, b3⟩ := may1 mb k
        rw [if_pos k, if_pos k, a1, b1, a2, b2, a3, b3, ltS_irr, irr]
        cases (D.bool (D.fld a 1)) <;> cases (D.bool (D.fld b 1)) <;> rfl
      · obtain ⟨a1, a2, a3⟩ := may2 ma (hk.trans k)
        obtain ⟨b1, b2, b3⟩ := may2 mb k
        have u1 := ha.2.2.1.1
        have u2 := ha.2.2.1.2
        have v1 := hb.2.2.1.1
        have v2 := hb.2.2.1.2
        have h8 : (256 : Int) ^ 8 = 18446744073709551616 := by decide
        rw [if_neg (by omega), if_pos k, if_neg (by omega), if_pos k, a1, b1, a2, b2, a3, b3, ltS_irr, irr, ltL_beL _ _ _ (by omega) (by omega) (by omega) (by omega)]
        simp
      · obtain ⟨a1, a2, a3, _⟩ := may3 ma (hk.trans k)
        obtain ⟨b1, b2, b3, _⟩ := may3 mb k
        rw [if_neg (by omega), if_neg (by omega), if_pos k, if_neg (by omega), if_neg (by omega), if_pos k, a1, b1, a2, b2, a3, b3, irr, ltL_key _ _ (bys_all_in _) (bys_all_in _), ltS_bys]
        simp
      · obtain ⟨a1, a2, a3, _⟩ := may4 ma (hk.trans k)
        obtain ⟨b1, b2, b3, _⟩ := may4 mb k
        rw [if_neg (by omega), if_neg (by omega), if_neg (by omega), if_neg (by omega), if_neg (by omega), if_neg (by omega), a1, b1, a2, b2, a3, b3, ltS_irr, irr, ltL_num ha.2.2.2 hb.2.2.2]
        simp
    · rw [if_neg hk, valB, valB, ltL, decide_eq_false hk, Bool.false_and, Bool.or_false]
  rw [key]
  cases ltL (valB a) (valB b) <;> decide
end Go.Proofs.YtbbjonjhaoeidaaGreatDoor.XT
