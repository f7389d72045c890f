/- Codes there and back, in their order: plain laws. -/
import Derived.Test.YtbbjonjhaoeidaaGreatDoorQTY
import Derived.Test.YtbbjonjhaoeidaaGreatDoorQT16
set_option linter.unusedVariables false
set_option linter.unusedSimpArgs false
namespace Go.Proofs.YtbbjonjhaoeidaaGreatDoor.XT
open Go Go.RowKit Go.Proofs.YtbbjonjhaoeidaaGreatDoor.Sv
/-! ### bytes of numbers -/
theorem pow_mono {m n : Nat} (h : m ≤ n) : (256 : Int) ^ m ≤ 256 ^ n := by
  obtain ⟨k, rfl⟩ := Nat.exists_eq_add_of_le h
  rw [Int.pow_add]
  have h1 : (0 : Int) < 256 ^ m := Int.pow_pos (by decide)
  have h2 : (0 : Int) < 256 ^ k := Int.pow_pos (by decide)
  have := Int.mul_le_mul_of_nonneg_left (show (1 : Int) ≤ 256 ^ k by omega) (Int.le_of_lt h1)
  omega
theorem nb_pow {x : Int} (h : inU x) : x < 256 ^ nb x ∧ (0 < nb x → 256 ^ (nb x - 1) ≤ x) := by
  have h0 := h.1
  have h1 := h.2
  unfold nb
  repeat' split
  all_goals exact ⟨by simp; omega, fun _ => by simp <;> omega⟩
theorem nb_of {x : Int} {n : Nat} (h : inU x) (h1 : x < 256 ^ n) (h2 : 0 < n → 256 ^ (n - 1) ≤ x) : nb x = n := by
  obtain ⟨p1, p2⟩ := nb_pow h
  rcases Nat.lt_trichotomy (nb x) n with hl | he | hl
  · have := h2 (by omega)
    have := pow_mono (show nb x ≤ n - 1 by omega)
    omega
  · exact he
  · have := p2 (by omega)
    have := pow_mono (show n ≤ nb x - 1 by omega)
    omega
theorem deB_snoc : ∀ (l : List Int) (m c : Int), deB (l ++ [c]) m = deB l m * 256 + c
  | [], m, c => rfl
  | x :: l, m, c => deB_snoc l _ c
theorem deB_beL : ∀ (n : Nat) (x m : Int), 0 ≤ x → x < 256 ^ n → deB (beL x n) m = m * 256 ^ n + x
  | 0, x, m, h, h1 => by
    have h1 : x < 1 := h1
    show m = m * 1 + x; omega
  | n + 1, x, m, h, h1 => by
    rw [Int.pow_succ] at h1
    rw [beL, deB_snoc, deB_beL n (x / 256) m (by omega) (by omega), Int.pow_succ, ← Int.mul_assoc]
    omega
theorem beL_cons : ∀ (n : Nat) (x : Int), beL x (n + 1) = (x / 256 ^ n % 256) :: beL x n
  | 0, x => by simp [beL]
  | n + 1, x => by
    rw [beL, beL_cons n (x / 256), List.cons_append, Int.ediv_ediv_of_nonneg (by decide), Int.mul_comm 256, ← Int.pow_succ]
    rfl
theorem deB_split : ∀ (l : List Int) (k : Int), deB l k = k * 256 ^ l.length + deB l 0
  | [], k => by simp [deB]
  | c :: r, k => by
    rw [deB, deB_split r, deB, deB_split r (0 * 256 + c), List.length_cons, Int.pow_succ]
    grind
theorem beL_deB : ∀ (l : List Int) (m : Int), (∀ c ∈ l, 0 ≤ c ∧ c < 256) → beL (deB l m) l.length = l
  | [], m, h => rfl
  | c :: r, m, h => by
    obtain ⟨c0, c1⟩ := h c List.mem_cons_self
    have hr : ∀ x ∈ r, 0 ≤ x ∧ x < 256 := fun x hx => h x (List.mem_cons_of_mem _ hx)
    have hd := deB_in r 0 hr (by decide)
    have hp : (0 : Int) < 256 ^ r.length := Int.pow_pos (by decide)
    rw [List.length_cons, beL_cons, deB, beL_deB r _ hr, deB_split]
    congr 1
    rw [Int.add_comm, Int.add_mul_ediv_right _ _ (by omega), Int.ediv_eq_zero_of_lt hd.1 (by omega)]
    omega
theorem beL_in : ∀ (n : Nat) (x : Int), ∀ c ∈ beL x n, 0 ≤ c ∧ c < 256
  | 0, x, c, h => by simp [beL] at h
  | n + 1, x, c, h => by
    rw [beL, List.mem_append] at h
    rcases h with h | h
    · exact beL_in n _ c h
    · simp only [List.mem_singleton] at h; omega
theorem numL_in (x : Int) : ∀ c ∈ numL x, 0 ≤ c ∧ c < 256 := by
  intro c h
  have := nb_le x
  rcases List.mem_cons.1 h with rfl | h
  · omega
  · exact beL_in _ _ c h
theorem bys_append (s t : ByteArray) : bys (s ++ t) = bys s ++ bys t := by
  simp [bys, ByteArray.data_append]
theorem byteAt_get {s : ByteArray} {k : Nat} (h : k < s.size) : byteAt' s k = (bys s).getD k 0 := by
  have := getD_drop (s := s) (k := 0) (j := k) (by omega)
  rw [List.drop_zero, Nat.zero_add] at this
  exact this.symm
theorem emS_size {s : ByteArray} : s = (ByteArray.mk #[]) ↔ s.size = 0 :=
  ⟨fun h => by rw [h]; rfl, fun h => ByteArray.ext (Array.eq_empty_of_size_eq_zero h)⟩
theorem bys_take_drop (s : ByteArray) (k : Nat) : sL ((bys s).take k) ++ sL ((bys s).drop k) = s := by
  rw [sL_append, List.take_append_drop, sL_bys]
/-- a number, read of its bytes -/
theorem rn_num {x : Int} (h : inU x) (r : ByteArray) : rnE (sL (numL x) ++ r) = 0 ∧ rnV (sL (numL x) ++ r) = x ∧ rnS (sL (numL x) ++ r) = r := by
  have hb : bys (sL (numL x) ++ r) = (nb x : Int) :: (beL x (nb x) ++ bys r) := by
    rw [bys_append, bys_sL (numL_in x)]; rfl
  have hs : (sL (numL x) ++ r).size = 1 + nb x + r.size := by rw [ByteArray.size_append, sL_size, numL_length]; omega
  generalize sL (numL x) ++ r = s at hb hs
  have hn := nb_le x
  have b0 : byteAt' s 0 = nb x := by rw [byteAt_get (by omega), hb]; rfl
  obtain ⟨p1, p2⟩ := nb_pow h
  have hE : rnE s = 0 := by
    rw [rnE, if_neg (by rw [emS_size]; omega), b0, if_neg (by omega), if_neg (by omega), if_neg]
    rintro ⟨q1, q2⟩
    rw [byteAt_get (by omega), hb] at q2
    obtain ⟨m, hm⟩ : ∃ m, nb x = m + 1 := ⟨nb x - 1, by omega⟩
    rw [hm] at q2 p1 p2
    rw [beL_cons] at q2
    have q2 : x / 256 ^ m % 256 = 0 := q2
    have p2 : 256 ^ m ≤ x := p2 (by omega)
    rw [Int.pow_succ] at p1
    have hp : (0 : Int) < 256 ^ m := Int.pow_pos (by decide)
    have d1 : 1 ≤ x / 256 ^ m := Int.le_ediv_of_mul_le hp (by omega)
    have d2 : x / 256 ^ m < 256 := Int.ediv_lt_of_lt_mul hp (by omega)
    omega
  refine ⟨hE, ?_, ?_⟩
  · rw [rnV, if_pos hE, b0, hb, List.drop_succ_cons, List.drop_zero, Int.toNat_natCast, List.take_left' (beL_length _ _), deB_beL _ _ _ h.1 p1]
    omega
  · rw [rnS, if_pos hE, b0, extract_end, hb, show (1 + (nb x : Int)).toNat = nb x + 1 by omega, List.drop_succ_cons, List.drop_left' (beL_length _ _), sL_bys]
theorem bys_hd {s : ByteArray} (h : 0 < s.size) : bys s = byteAt' s 0 :: (bys s).drop 1 := by
  have := bys_drop (s := s) (k := 0) h
  rw [List.drop_zero] at this
  exact this
theorem rn_back {s : ByteArray} (h : rnE s = 0) : inU (rnV s) ∧ sL (numL (rnV s)) ++ rnS s = s := by
  have hE := h
  unfold rnE at h
  split at h
  · omega
  rename_i h1
  rw [emS_size] at h1
  split at h
  · omega
  split at h
  · omega
  split at h
  · omega
  rename_i h2 h3 h4
  obtain ⟨z0, z1⟩ := byte_in s 0
  obtain ⟨n, hn⟩ := Int.eq_ofNat_of_zero_le z0
  rw [rnV, if_pos hE, rnS, if_pos hE]
  rw [hn] at h2 h3 h4 ⊢
  rw [Int.toNat_natCast, show (1 + (n : Int)).toNat = n + 1 by omega, extract_end]
  have hall : ∀ c ∈ ((bys s).drop 1).take n, 0 ≤ c ∧ c < 256 := fun c hc => bys_all_in s c (List.mem_of_mem_drop (List.mem_of_mem_take hc))
  have hlen : (((bys s).drop 1).take n).length = n := by rw [List.length_take, List.length_drop, bys_length]; omega
  generalize hL : ((bys s).drop 1).take n = L at hall hlen
  have hV := deB_in L 0 hall (by decide)
  rw [hlen] at hV
  have h256 := pow_mono (show n ≤ 8 by omega)
  have h8 : (256 : Int) ^ 8 = 18446744073709551616 := by decide
  have hU : inU (deB L 0) := ⟨hV.1, by omega⟩
  have hnb : nb (deB L 0) = n := by
    refine nb_of hU (by omega) fun h0 => ?_
    cases L with
    | nil => simp at hlen; omega
    | cons c r =>
      have hc : c = byteAt' s 1 := by
        have e : ((bys s).drop 1).getD 0 0 = byteAt' s 1 := getD_drop (s := s) (k := 1) (j := 0) (by omega)
        rw [← e]
        have : (((bys s).drop 1).take n).getD 0 0 = c := by rw [hL]; rfl
        rw [← this, List.getD_eq_getElem?_getD, List.getD_eq_getElem?_getD, List.getElem?_take, if_pos h0]
      have hr : r.length = n - 1 := by simp at hlen; omega
      have hc0 := hall c List.mem_cons_self
      have hd := deB_in r 0 (fun x hx => hall x (List.mem_cons_of_mem _ hx)) (by decide)
      have h5 : c ≠ 0 := fun e => h4 ⟨by omega, by rw [← hc]; exact e⟩
      rw [deB, deB_split, hr]
      have hp : (0 : Int) < 256 ^ (n - 1) := Int.pow_pos (by decide)
      have := Int.mul_le_mul_of_nonneg_right (show (1 : Int) ≤ 0 * 256 + c by omega) (Int.le_of_lt hp)
      omega
  refine ⟨hU, ?_⟩
  have hbe : beL (deB L 0) n = L := by have := beL_deB L 0 hall; rwa [hlen] at this
  rw [numL, hnb, hbe, sL_append, ← hn, List.cons_append, ← hL]
  have : List.take n (List.drop 1 (bys s)) ++ List.drop (n + 1) (bys s) = (bys s).drop 1 := by
    rw [show n + 1 = 1 + n by omega, ← List.drop_drop, List.take_append_drop]
  rw [this, ← bys_hd (by omega), sL_bys]
/-! ### integers -/
theorem ri_int {n : Int} (h : I64 n) (r : ByteArray) : riE (sL (beL (n + 9223372036854775808) 8) ++ r) = 0 ∧ riV (sL (beL (n + 9223372036854775808) 8) ++ r) = n ∧ riS (sL (beL (n + 9223372036854775808) 8) ++ r) = r := by
  have h1 := h.1
  have h2 := h.2
  have hb : bys (sL (beL (n + 9223372036854775808) 8) ++ r) = beL (n + 9223372036854775808) 8 ++ bys r := by
    rw [bys_append, bys_sL (beL_in _ _)]
  have hs : (sL (beL (n + 9223372036854775808) 8) ++ r).size = 8 + r.size := by rw [ByteArray.size_append, sL_size, beL_length]
  generalize sL (beL (n + 9223372036854775808) 8) ++ r = s at hb hs
  have hE : riE s = 0 := if_neg (by omega)
  have h8 : (256 : Int) ^ 8 = 18446744073709551616 := by decide
  refine ⟨hE, ?_, ?_⟩
  · rw [riV, if_pos hE, hb, List.take_left' (beL_length _ _), deB_beL _ _ _ (by omega) (by omega)]
    omega
  · rw [riS, if_pos hE, extract_end, hb, List.drop_left' (beL_length _ _), sL_bys]
theorem ri_back {s : ByteArray} (h : riE s = 0) : I64 (riV s) ∧ sL (beL (riV s + 9223372036854775808) 8) ++ riS s = s := by
  have hE := h
  unfold riE at h
  split at h
  · omega
  rw [riV, if_pos hE, riS, if_pos hE]
  have hall : ∀ c ∈ (bys s).take 8, 0 ≤ c ∧ c < 256 := fun c hc => bys_all_in s c (List.mem_of_mem_take hc)
  have hlen : ((bys s).take 8).length = 8 := by rw [List.length_take, bys_length]; omega
  have hV := deB_in ((bys s).take 8) 0 hall (by decide)
  rw [hlen] at hV
  have h8 : (256 : Int) ^ 8 = 18446744073709551616 := by decide
  refine ⟨⟨by omega, by omega⟩, ?_⟩
  have hbe := beL_deB _ 0 hall
  rw [hlen] at hbe
  rw [Int.sub_add_cancel, hbe, extract_end, bys_take_drop]
/-! ### keys -/
theorem rk_key : ∀ (l r : List Int), (∀ c ∈ l, 0 ≤ c ∧ c < 256) → rkE (keyL l ++ [0, 1] ++ r) = 0 ∧ rkV (keyL l ++ [0, 1] ++ r) = l ∧ rkR (keyL l ++ [0, 1] ++ r) = r
  | [], r, _ => ⟨rfl, rfl, rfl⟩
  | c :: l, r, h => by
    obtain ⟨h1, h2, h3⟩ := rk_key l r fun x hx => h x (List.mem_cons_of_mem _ hx)
    by_cases hc : c = 0
    · subst hc
      have e : keyL (0 :: l) ++ [0, 1] ++ r = 0 :: 255 :: (keyL l ++ [0, 1] ++ r) := by simp [keyL]
      rw [e, rkE, rkV, rkR]
      simp only [h1, h2, h3]
      exact ⟨by simp, by simp, by simp⟩
    · have e : keyL (c :: l) ++ [0, 1] ++ r = c :: (keyL l ++ [0, 1] ++ r) := by simp [keyL, hc]
      obtain ⟨k1, k2, k3⟩ := rk_ne hc (keyL l ++ [0, 1] ++ r)
      rw [e, k1, k2, k3, h1, h2, h3]
      exact ⟨rfl, rfl, rfl⟩
theorem rk_back : ∀ l : List Int, rkE l = 0 → keyL (rkV l) ++ [0, 1] ++ rkR l = l
  | [], h => by cases h
  | [c], h => by cases h
  | c :: d :: r, h => by
    by_cases hc : c ≠ 0
    · obtain ⟨k1, k2, k3⟩ := rk_ne hc (d :: r)
      rw [k1] at h
      have := rk_back (d :: r) h
      rw [k2, k3]
      have e : keyL (c :: rkV (d :: r)) ++ [0, 1] ++ rkR (d :: r) = c :: (keyL (rkV (d :: r)) ++ [0, 1] ++ rkR (d :: r)) := by simp [keyL, hc]
      rw [e, this]
    · have hc : c = 0 := by simpa using hc
      subst hc
      by_cases h1 : d = 1
      · subst h1; simp [rkV, rkR, keyL]
      · by_cases h2 : d ≠ 255
        · rw [rkE, if_neg (by simp), if_neg h1, if_pos h2] at h; cases h
        · have h3 : d = 255 := by simpa using h2
          rw [rkE, if_neg (by simp), if_neg h1, if_neg h2] at h
          have := rk_back r h
          rw [rkV, if_neg (by simp), if_neg h1, if_neg h2, rkR, if_neg (by simp), if_neg h1, if_neg h2]
          have e : keyL (0 :: rkV r) ++ [0, 1] ++ rkR r = 0 :: 255 :: (keyL (rkV r) ++ [0, 1] ++ rkR r) := by simp [keyL]
          rw [e, this, h3]
theorem rkV_in : ∀ l : List Int, (∀ c ∈ l, 0 ≤ c ∧ c < 256) → ∀ c ∈ rkV l, 0 ≤ c ∧ c < 256
  | [], _, c, hc => by simp [rkV] at hc
  | [d], h, c, hc => by
    unfold rkV at hc
    split at hc
    · exact h c hc
    · simp at hc
  | d :: e :: r, h, c, hc => by
    unfold rkV at hc
    split at hc
    · rcases List.mem_cons.1 hc with rfl | hc
      · exact h c List.mem_cons_self
      · exact rkV_in (e :: r) (fun x hx => h x (List.mem_cons_of_mem _ hx)) c hc
    · split at hc
      · simp at hc
      · split at hc
        · simp at hc
        · rcases List.mem_cons.1 hc with rfl | hc
          · exact ⟨by decide, by decide⟩
          · exact rkV_in r (fun x hx => h x (List.mem_cons_of_mem _ (List.mem_cons_of_mem _ hx))) c hc
theorem keyL_in {l : List Int} (h : ∀ c ∈ l, 0 ≤ c ∧ c < 256) : ∀ c ∈ keyL l ++ [0, 1], 0 ≤ c ∧ c < 256 := by
  intro c hc
  rw [List.mem_append] at hc
  rcases hc with hc | hc
  · obtain ⟨x, hx, hcx⟩ := List.mem_flatMap.1 hc
    have := h x hx
    split at hcx
    · simp at hcx; omega
    · simp at hcx; omega
  · simp at hc; omega
end Go.Proofs.YtbbjonjhaoeidaaGreatDoor.XT
