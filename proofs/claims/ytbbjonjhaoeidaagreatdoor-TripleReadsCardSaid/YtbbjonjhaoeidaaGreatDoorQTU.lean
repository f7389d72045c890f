/- The value whose text it is: plain laws. -/
import Derived.Test.YtbbjonjhaoeidaaGreatDoorQTV
set_option linter.unusedVariables false
set_option linter.unusedSimpArgs false
namespace Go.Proofs.YtbbjonjhaoeidaaGreatDoor.XT
open Go Go.RowKit Go.Proofs.YtbbjonjhaoeidaaGreatDoor.Sv
theorem bys_sL {l : List Int} (h : ∀ c ∈ l, 0 ≤ c ∧ c < 256) : bys (sL l) = l := by
  unfold bys sL strOfNums
  simp only [List.map_map]
  refine (List.map_congr_left fun x hx => ?_).trans (List.map_id l)
  obtain ⟨h0, h1⟩ := h x hx
  simp only [Function.comp_apply, id]
  rw [UInt8.toNat_ofNat']
  omega
theorem byteAt_sL {l : List Int} (h : ∀ c ∈ l, 0 ≤ c ∧ c < 256) {k : Nat} (hk : k < l.length) : byteAt' (sL l) k = l.getD k 0 := by
  have h1 := getD_drop (s := sL l) (k := 0) (j := k) (by rw [sL_size]; omega)
  rw [List.drop_zero, bys_sL h, Nat.zero_add] at h1
  exact h1.symm
theorem hp_iff (s : ByteArray) : Lib.hasPrefix s.data.toList (ByteArray.mk #[48, 120]).data.toList = true ↔ (bys s).take 2 = [48, 120] := by
  unfold Lib.hasPrefix bys
  show List.isPrefixOf [48, 120] s.data.toList = true ↔ _
  rcases s.data.toList with _ | ⟨a, _ | ⟨b, r⟩⟩
  · simp
  · simp
  · simp only [List.isPrefixOf_cons_cons, List.isPrefixOf_nil_left, Bool.and_true, Bool.and_eq_true, beq_iff_eq, List.map_cons, List.take_succ_cons, List.take_zero, List.cons.injEq, and_true]
    constructor
    · rintro ⟨rfl, rfl⟩; exact ⟨rfl, rfl⟩
    · rintro ⟨h1, h2⟩; exact ⟨UInt8.toNat_inj.1 (by have h : ((48 : UInt8).toNat) = 48 := rfl; omega), UInt8.toNat_inj.1 (by have h : ((120 : UInt8).toNat) = 120 := rfl; omega)⟩
theorem decL_in : ∀ (f : Nat) (n : Int), 0 ≤ n → n < 10 ^ f → ∀ c ∈ decL f n, 48 ≤ c ∧ c ≤ 57
  | 0, n, _, _, c, hc => by simp [decL] at hc
  | f + 1, n, h0, h1, c, hc => by
    rw [decL] at hc
    rw [Int.pow_succ] at h1
    split at hc
    · simp at hc; omega
    · rw [List.mem_append] at hc
      rcases hc with hc | hc
      · exact decL_in f (n / 10) (by omega) (by omega) c hc
      · simp at hc; omega
theorem decL_ne (f : Nat) (n : Int) : decL (f + 1) n ≠ [] := by
  rw [decL]; split <;> simp
theorem decL_len : ∀ (k f : Nat) (n : Int), 0 ≤ n → n < 10 ^ (k + 1) → (decL f n).length ≤ k + 1
  | _, 0, _, _, _ => by simp [decL]
  | 0, f + 1, n, h0, h1 => by
    have h1 : n < 10 := h1
    rw [decL, if_pos (by omega)]; simp
  | k + 1, f + 1, n, h0, h1 => by
    rw [Int.pow_succ] at h1
    rw [decL]
    split
    · simp
    · have := decL_len k f (n / 10) (by omega) (by omega)
      rw [List.length_append]; simp only [List.length_cons, List.length_nil]; omega
theorem itoL_in {n : Int} (h : I64 n) : ∀ c ∈ itoL n, c = 45 ∨ 48 ≤ c ∧ c ≤ 57 := by
  have h1 := h.1
  have h2 := h.2
  have hp : (9223372036854775809 : Int) < 10 ^ 20 := by decide
  unfold itoL
  intro c hc
  split at hc
  · rcases List.mem_cons.1 hc with rfl | hc
    · exact .inl rfl
    · exact .inr (decL_in 20 _ (by omega) (by omega) c hc)
  · exact .inr (decL_in 20 _ (by omega) (by omega) c hc)
theorem itoL_byte {n : Int} (h : I64 n) : ∀ c ∈ itoL n, 0 ≤ c ∧ c < 256 := fun c hc => by
  rcases itoL_in h c hc with rfl | h <;> omega
/-- the library's numeral, read -/
theorem pM (M u : Nat) (hM : M ≤ 18446744073709551615) : ∀ r : List UInt8, u ≤ M → Lib.parseUintM M 0 (Lib.decDigits u ++ r) = Lib.parseUintM M u r := by
  induction u using Nat.strongRecOn with
  | _ u ih =>
    intro r hu
    by_cases h : u < 10
    · rw [Lib.decDigits, dif_pos h, List.cons_append, List.nil_append, Lib.parseUintM]
      have e : (UInt8.ofNat (48 + u)).toNat = 48 + u := by rw [UInt8.toNat_ofNat']; omega
      rw [e, if_pos (by omega), if_neg (by omega), if_neg (by omega)]
      congr 1; omega
    · rw [Lib.decDigits, dif_neg h, List.append_assoc, ih (u / 10) (by omega) _ (by omega), List.cons_append, List.nil_append, Lib.parseUintM]
      have e : (UInt8.ofNat (48 + u % 10)).toNat = 48 + u % 10 := by rw [UInt8.toNat_ofNat']; omega
      rw [e, if_pos (by omega), if_neg (by omega), if_neg (by omega)]
      congr 1; omega
theorem dd_ne (u : Nat) : Lib.decDigits u ≠ [] := by
  rw [Lib.decDigits]; split <;> simp
theorem pUB {u : Nat} (h : u ≤ 18446744073709551615) : Lib.parseUintB 64 (Lib.decDigits u) = .ok u := by
  have h2 := pM (2 ^ 64 - 1) u (by decide) [] h
  rw [List.append_nil] at h2
  rw [Lib.parseUintB, if_neg (dd_ne u), h2]; rfl
theorem dd_head (u : Nat) : ∃ c r, Lib.decDigits u = c :: r ∧ 48 ≤ c.toNat ∧ c.toNat ≤ 57 := by
  induction u using Nat.strongRecOn with
  | _ u ih =>
    by_cases h : u < 10
    · refine ⟨_, [], by rw [Lib.decDigits, dif_pos h], ?_⟩
      rw [UInt8.toNat_ofNat']; omega
    · obtain ⟨c, r, h1, h2⟩ := ih (u / 10) (by omega)
      exact ⟨c, r ++ [UInt8.ofNat (48 + u % 10)], by rw [Lib.decDigits, dif_neg h, h1]; rfl, h2⟩
theorem pIB {n : Int} (h : I64 n) : Lib.parseIntB 64 (Lib.itoa n) = .ok n := by
  have h1 := h.1
  have h2 := h.2
  unfold Lib.itoa
  split
  · rename_i hn
    have e := pUB (u := n.natAbs) (by omega)
    unfold Lib.parseIntB
    have c45 : (45 : UInt8).toNat = 45 := rfl
    simp only [c45, or_true, if_true, e, not_true_eq_false, false_and, if_false, true_and]
    rw [if_neg (by omega)]
    congr 1; omega
  · rename_i hn
    obtain ⟨c, r, hd, hc1, hc2⟩ := dd_head n.toNat
    have e := pUB (u := n.toNat) (by omega)
    rw [hd] at e ⊢
    rw [Lib.parseIntB_plain 64 c r (by omega) (by omega), e]
    show (if 2 ^ (64 - 1) ≤ n.toNat then Lib.NumEnd.range else .ok ((n.toNat : Nat) : Int)) = _
    have e63 : (2 : Nat) ^ (64 - 1) = 9223372036854775808 := by decide
    rw [e63, if_neg (by omega)]
    congr 1; omega
theorem piV_ito {n : Int} (h : I64 n) : piV (sL (itoL n)) = n := by
  have e : (sL (itoL n)).data.toList = Lib.itoa n := by rw [← itoS_L h]; rfl
  rw [piV, e, pIB h]
/-- the code's value of a text that it is -/
theorem cV_int {n : Int} (h : I64 n) : cV (sL (itoL n)) = .t [.i 2, .b false, .i n, .s (ByteArray.mk #[]), .i 0] := by
  have hb := bys_sL (itoL_byte h)
  have h1 : ¬ (sL (itoL n) = ByteArray.mk #[116, 114, 117, 101] ∨ sL (itoL n) = ByteArray.mk #[102, 97, 108, 115, 101]) := by
    rintro (e | e)
    · have e2 : itoL n = [116, 114, 117, 101] := by rw [← hb, e]; rfl
      rcases itoL_in h 116 (by rw [e2]; simp) with h | h <;> omega
    · have e2 : itoL n = [102, 97, 108, 115, 101] := by rw [← hb, e]; rfl
      rcases itoL_in h 102 (by rw [e2]; simp) with h | h <;> omega
  have h2 : ¬ Lib.hasPrefix (sL (itoL n)).data.toList (ByteArray.mk #[48, 120]).data.toList = true := by
    rw [hp_iff, hb]
    intro e
    have : (120 : Int) ∈ itoL n := List.mem_of_mem_take (i := 2) (by rw [e]; simp)
    rcases itoL_in h 120 this with h | h <;> omega
  have h3 : ¬ (2 ≤ ((sL (itoL n)).size : Int) ∧ byteAt' (sL (itoL n)) 0 = 34) := by
    rintro ⟨u1, u2⟩
    have hl : 0 < (itoL n).length := by rw [← sL_size]; omega
    rw [byteAt_sL (itoL_byte h) hl] at u2
    have : (34 : Int) ∈ itoL n := by
      rw [← u2, List.getD_eq_getElem?_getD, List.getElem?_eq_getElem hl]; exact List.getElem_mem hl
    rcases itoL_in h 34 this with h | h <;> omega
  rw [cV, if_neg h1, if_neg h2, if_neg h3, piV_ito h]
theorem hexL_in : ∀ (k : Nat) (x : Int), 0 ≤ x → ∀ c ∈ hexL x k, 0 ≤ c ∧ c < 256
  | 0, x, _, c, hc => by simp [hexL] at hc
  | k + 1, x, h0, c, hc => by
    rw [hexL, List.mem_append] at hc
    rcases hc with hc | hc
    · exact hexL_in k (x / 16) (by omega) c hc
    · simp only [List.mem_singleton] at hc
      subst hc
      unfold hexc; split <;> omega
theorem hexT_in {u : Int} (h : 0 ≤ u) : ∀ c ∈ hexT u, 0 ≤ c ∧ c < 256 := by
  intro c hc
  rw [hexT] at hc
  rcases List.mem_cons.1 hc with rfl | hc
  · omega
  · rcases List.mem_cons.1 hc with rfl | hc
    · omega
    · exact hexL_in _ u h c hc
theorem lt_nh {u : Int} (h : inU u) : u < 16 ^ nh u := by
  have h1 := nh_le u
  obtain ⟨m, hm⟩ : ∃ m, nh u = m + 1 := ⟨nh u - 1, by omega⟩
  have h2 := (nh_iff m h).1 (by omega)
  rw [hm]
  have hp : (0 : Int) < 16 ^ (m + 1) := Int.pow_pos (by decide)
  have h3 := Int.emod_add_mul_ediv u (16 ^ (m + 1))
  rw [h2] at h3
  have h4 := Int.emod_lt_of_pos u hp
  omega
theorem cV_hex {u : Int} (h : inU u) : cV (sL (hexT u)) = .t [.i 4, .b false, .i 0, .s (ByteArray.mk #[]), .i u] := by
  have hb := bys_sL (hexT_in h.1)
  have h1 : ¬ (sL (hexT u) = ByteArray.mk #[116, 114, 117, 101] ∨ sL (hexT u) = ByteArray.mk #[102, 97, 108, 115, 101]) := by
    rintro (e | e)
    · have e2 : hexT u = [116, 114, 117, 101] := by rw [← hb, e]; rfl
      rw [hexT] at e2; exact absurd (List.cons.inj e2).1 (by decide)
    · have e2 : hexT u = [102, 97, 108, 115, 101] := by rw [← hb, e]; rfl
      rw [hexT] at e2; exact absurd (List.cons.inj e2).1 (by decide)
  have h2 : Lib.hasPrefix (sL (hexT u)).data.toList (ByteArray.mk #[48, 120]).data.toList = true := by
    rw [hp_iff, hb]; rfl
  have h3 : puV 18446744073709551615 ((hexT u).drop 2) 0 = u := by
    have := pu_hex (nh u) u [] h.1 (lt_nh h) h.2
    rw [List.append_nil] at this
    exact this
  rw [cV, if_neg h1, if_pos h2, hb, h3]
theorem quoL_in {l : List Int} (h : ∀ c ∈ l, 0 ≤ c ∧ c < 256) : ∀ c ∈ quoL l, 0 ≤ c ∧ c < 256 := by
  intro c hc
  rw [quoL] at hc
  rcases List.mem_cons.1 hc with rfl | hc
  · omega
  · rw [List.mem_append] at hc
    rcases hc with hc | hc
    · obtain ⟨x, hx, hcx⟩ := List.mem_flatMap.1 hc
      obtain ⟨x0, x1⟩ := h x hx
      unfold escB at hcx
      split at hcx
      · simp at hcx; omega
      · split at hcx
        · simp at hcx; omega
        · split at hcx
          · simp at hcx; omega
          · simp only [List.mem_cons, List.not_mem_nil, or_false] at hcx
            unfold hexc at hcx
            rcases hcx with rfl | rfl | rfl | rfl
            · omega
            · omega
            · split <;> omega
            · split <;> omega
    · simp at hc; omega
theorem inn_quo {l : List Int} (h : ∀ c ∈ l, 0 ≤ c ∧ c < 256) : bys (innS (sL (quoL l))) = l.flatMap escB := by
  rw [innS, bys_extract, bys_sL (quoL_in h), sL_size, quoL]
  simp only [List.length_cons, List.length_append, List.length_nil, List.drop_succ_cons, List.drop_zero]
  rw [show (l.flatMap escB).length + (0 + 1) + 1 - 1 - 1 = (l.flatMap escB).length by omega]
  exact List.take_left' rfl
theorem bys_all_in (t : ByteArray) : ∀ c ∈ bys t, 0 ≤ c ∧ c < 256 := fun c hc => by
  simp only [bys, List.mem_map] at hc
  obtain ⟨b, _, rfl⟩ := hc
  have := UInt8.toNat_lt b
  omega
theorem quo_head {l : List Int} (h : ∀ c ∈ l, 0 ≤ c ∧ c < 256) : byteAt' (sL (quoL l)) 0 = 34 ∧ 2 ≤ (sL (quoL l)).size := by
  constructor
  · rw [byteAt_sL (quoL_in h) (by simp [quoL])]; rfl
  · rw [sL_size, quoL]; simp only [List.length_cons, List.length_append, List.length_nil]; omega
theorem cV_quo (t : ByteArray) : cV (sL (quoL (bys t))) = .t [.i 3, .b false, .i 0, .s t, .i 0] := by
  have hin := bys_all_in t
  have hb := bys_sL (quoL_in hin)
  obtain ⟨q1, q2⟩ := quo_head hin
  have h1 : ¬ (sL (quoL (bys t)) = ByteArray.mk #[116, 114, 117, 101] ∨ sL (quoL (bys t)) = ByteArray.mk #[102, 97, 108, 115, 101]) := by
    rintro (e | e) <;> rw [e] at q1 <;> exact absurd q1 (by decide)
  have h2 : ¬ Lib.hasPrefix (sL (quoL (bys t))).data.toList (ByteArray.mk #[48, 120]).data.toList = true := by
    rw [hp_iff, hb, quoL]
    intro e
    simp at e
  have hu : uq (innS (sL (quoL (bys t)))).size (bys (innS (sL (quoL (bys t))))) = bys t := by
    rw [inn_quo hin]
    refine uq_esc _ _ hin ?_
    rw [← inn_quo hin, bys_length]; exact Nat.le_refl _
  rw [cV, if_neg h1, if_neg h2, if_pos ⟨by omega, q1⟩, hu, sL_bys]
end Go.Proofs.YtbbjonjhaoeidaaGreatDoor.XT
