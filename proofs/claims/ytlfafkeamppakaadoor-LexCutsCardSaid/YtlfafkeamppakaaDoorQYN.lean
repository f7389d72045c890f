/- The query language's numbers: plain law of digits read one by one. -/
import Derived.Test.YtlfafkeamppakaaDoorQY3
import Derived.Test.YtlfafkeamppakaaDoorQY7
set_option linter.unusedVariables false
set_option linter.unusedSimpArgs false
namespace Go.Proofs.YtlfafkeamppakaaDoor.XT
open Go Go.RowKit Go.Proofs.YtlfafkeamppakaaDoor.Sv
/-- what digits spell -/
def dvI : Int → List Int → Int
  | n, [] => n
  | n, c :: r => dvI (10 * n + (c - 48)) r
theorem dgC_iff {c : Int} : dgC c = true ↔ 48 ≤ c ∧ c ≤ 57 := by simp [dgC]
theorem dvI_ge : ∀ (l : List Int) (n : Int), 0 ≤ n → (∀ c ∈ l, dgC c = true) → n ≤ dvI n l
  | [], n, _, _ => Int.le_refl _
  | c :: r, n, h, hd => by
    have hc := dgC_iff.1 (hd c (.head _))
    have := dvI_ge r (10 * n + (c - 48)) (by omega) fun x hx => hd x (.tail _ hx)
    rw [dvI]; omega
theorem dvI_snoc : ∀ (l : List Int) (n c : Int), dvI n (l ++ [c]) = 10 * dvI n l + (c - 48)
  | [], n, c => rfl
  | d :: r, n, c => by rw [List.cons_append, dvI, dvI_snoc r]; rfl
/-- the library's reading of digits -/
theorem pu_dv : ∀ (l : List UInt8) (acc : Nat), (∀ c ∈ nums l, dgC c = true) →
    (dvI acc (nums l) ≤ 18446744073709551615 → Lib.parseUintM 18446744073709551615 acc l = .ok (dvI acc (nums l)).toNat) ∧ (18446744073709551615 < dvI acc (nums l) → Lib.parseUintM 18446744073709551615 acc l = if l = [] then .ok acc else .range)
  | [], acc, _ => by
    refine ⟨fun _ => ?_, fun _ => ?_⟩
    · simp [Lib.parseUintM, nums, dvI]
    · simp [Lib.parseUintM]
  | c :: r, acc, hd => by
    have hc := dgC_iff.1 (hd (c.toNat : Int) (.head _))
    have hr : ∀ x ∈ nums r, dgC x = true := fun x hx => hd x (.tail _ hx)
    have e : dvI (acc : Int) (nums (c :: r)) = dvI ((acc * 10 + (c.toNat - 48) : Nat) : Int) (nums r) := by
      show dvI (10 * (acc : Int) + ((c.toNat : Int) - 48)) (nums r) = _
      congr 1; omega
    have hge := dvI_ge (nums r) ((acc * 10 + (c.toNat - 48) : Nat) : Int) (by omega) hr
    have ih := pu_dv r (acc * 10 + (c.toNat - 48)) hr
    rw [e, Lib.parseUintM, if_pos (by omega)]
    refine ⟨fun h => ?_, fun h => ?_⟩
    · rw [if_neg (by omega), if_neg (by omega)]
      exact ih.1 h
    · rw [if_neg (List.cons_ne_nil _ _)]
      split
      · rfl
      · split
        · rfl
        · rw [ih.2 h]
          split
          · rename_i h1 h2 h3
            subst h3
            simp only [nums, List.map_nil, dvI] at h
            omega
          · rfl
theorem pu_ok {l : List UInt8} (hn : l ≠ []) (hd : ∀ c ∈ nums l, dgC c = true) : Lib.parseUintB 64 l = if dvI 0 (nums l) ≤ 18446744073709551615 then .ok (dvI 0 (nums l)).toNat else .range := by
  have h := pu_dv l 0 hd
  have e : (2 : Nat) ^ 64 - 1 = 18446744073709551615 := by decide
  rw [Lib.parseUintB, if_neg hn, e]
  split
  · rename_i h1; exact h.1 h1
  · rename_i h1
    rw [h.2 (by simpa using h1), if_neg hn]
theorem pi_plain {l : List UInt8} (hn : l ≠ []) (hd : ∀ c ∈ nums l, dgC c = true) : Lib.parseIntB 64 l = if dvI 0 (nums l) ≤ 9223372036854775807 then .ok (dvI 0 (nums l)) else .range := by
  have hg := dvI_ge (nums l) 0 (by omega) hd
  have e := pu_ok hn hd
  obtain _ | ⟨c, r⟩ := l
  · exact absurd rfl hn
  have hc := dgC_iff.1 (hd (c.toNat : Int) (.head _))
  rw [Lib.parseIntB_plain 64 c r (by omega) (by omega), e]
  have e63 : (2 : Nat) ^ (64 - 1) = 9223372036854775808 := by decide
  by_cases h : dvI 0 (nums (c :: r)) ≤ 18446744073709551615
  · rw [if_pos h]
    show (if 2 ^ (64 - 1) ≤ (dvI 0 (nums (c :: r))).toNat then Lib.NumEnd.range else .ok (((dvI 0 (nums (c :: r))).toNat : Nat) : Int)) = _
    rw [e63]
    by_cases h2 : dvI 0 (nums (c :: r)) ≤ 9223372036854775807
    · rw [if_pos h2, if_neg (by omega)]
      congr 1; omega
    · rw [if_neg h2, if_pos (by omega)]
  · rw [if_neg h, if_neg (by omega)]; rfl
theorem pi_neg {l : List UInt8} (hn : l ≠ []) (hd : ∀ c ∈ nums l, dgC c = true) : Lib.parseIntB 64 (45 :: l) = if dvI 0 (nums l) ≤ 9223372036854775808 then .ok (-(dvI 0 (nums l))) else .range := by
  have hg := dvI_ge (nums l) 0 (by omega) hd
  have e := pu_ok hn hd
  unfold Lib.parseIntB
  have c45 : (45 : UInt8).toNat = 45 := rfl
  have e63 : (2 : Nat) ^ (64 - 1) = 9223372036854775808 := by decide
  simp only [c45, or_true, if_true, e, not_true_eq_false, false_and, if_false, true_and, e63]
  by_cases h : dvI 0 (nums l) ≤ 18446744073709551615
  · rw [if_pos h]
    simp only
    by_cases h2 : dvI 0 (nums l) ≤ 9223372036854775808
    · rw [if_pos h2, if_neg (by omega)]
      congr 1; omega
    · rw [if_neg h2, if_pos (by omega)]
  · rw [if_neg h, if_neg (by omega)]
/-- n is what the first digits are: j bytes of L are read -/
def nmI (L : List Int) (j : Nat) (n : Int) : Prop := ∃ (u : Int) (k : Nat), j = ofL L + k ∧ k ≤ (bdL L).length ∧ 0 ≤ u ∧ u ≤ liL L ∧ n = (if ngL L = true then -u else u) ∧ u = dvI 0 ((bdL L).take k) ∧ (∀ c ∈ (bdL L).take k, dgC c = true) ∧ nmR L = ((nmG (liL L) ((bdL L).drop k) u).1, k + (nmG (liL L) ((bdL L).drop k) u).2.1, (nmG (liL L) ((bdL L).drop k) u).2.2)
theorem bdL_eq (L : List Int) : bdL L = L.drop (ofL L) := by
  unfold bdL ofL
  split <;> simp
theorem nmI_zero (L : List Int) : nmI L (ofL L) 0 := by
  refine ⟨0, 0, rfl, Nat.zero_le _, Int.le_refl _, ?_, ?_, ?_, ?_, ?_⟩
  · unfold liL; split <;> decide
  · split <;> rfl
  · simp [dvI]
  · intro c hc; simp at hc
  · simp only [List.drop_zero, Nat.zero_add]; rfl
theorem nmI_end {L : List Int} {j : Nat} {n : Int} (h : nmI L j n) (h0 : (bdL L).getD 0 0 ≠ 48) (he : ∀ c r, L.drop j = c :: r → dgC c = false) : n = nmV L ∧ j = nmK L ∧ aloL (L.drop j) = nmO L := by
  obtain ⟨u, k, hj, hk, hu0, hul, hn, hu, hd, hX⟩ := h
  have e : L.drop j = (bdL L).drop k := by rw [bdL_eq, List.drop_drop, hj]
  rw [e] at he ⊢
  have eX : nmG (liL L) ((bdL L).drop k) u = (u, 0, aloL ((bdL L).drop k)) := by
    rcases hc : (bdL L).drop k with _ | ⟨c, r⟩
    · rfl
    · rw [nmG, if_neg (by rw [he c r hc]; decide)]
  rw [eX] at hX
  unfold nmV nmK nmO
  rw [if_neg h0, if_neg h0, if_neg h0, hX]
  exact ⟨hn, hj, rfl⟩
/-- one more digit -/
theorem nmI_next {L : List Int} {j : Nat} {n : Int} {s : ByteArray} {r : List Int} {c : Int} (hb : ∀ c ∈ L, 0 ≤ c ∧ c < 256) (h : nmI L j n) (h0 : (bdL L).getD 0 0 ≠ 48) (hc : L.drop j = c :: r) (hcd : dgC c = true) (hs : bys s = L.take (j + 1)) : (piX s = false → nmI L (j + 1) (piV s)) ∧ (piX s = true → j = nmK L ∧ nmV L = 0 ∧ nmO L = false) := by
  obtain ⟨u, k, hj, hk, hu0, hul, hn, hu, hd, hX⟩ := h
  have e : (bdL L).drop k = c :: r := by rw [← hc, bdL_eq, List.drop_drop, hj]
  have hkl : k < (bdL L).length := by
    apply Classical.byContradiction; intro h
    rw [List.drop_of_length_le (by omega)] at e; cases e
  have et : (bdL L).take (k + 1) = (bdL L).take k ++ [c] := by
    rw [List.take_add_one, List.getElem?_eq_getElem hkl]
    have := List.drop_eq_getElem_cons hkl
    rw [e] at this
    rw [← (List.cons.inj this).1]; rfl
  have ev : dvI 0 ((bdL L).take (k + 1)) = 10 * u + (c - 48) := by rw [et, dvI_snoc, ← hu]
  have ed : ∀ x ∈ (bdL L).take (k + 1), dgC x = true := by
    rw [et]; intro x hx
    rcases List.mem_append.1 hx with hx | hx
    · exact hd x hx
    · rw [List.mem_singleton.1 hx]; exact hcd
  have hc2 := dgC_iff.1 hcd
  rw [e, nmG, if_pos hcd] at hX
  have fin : ∀ v : Int, (if liL L < 10 * u + (c - 48) then True else v = if ngL L = true then -(10 * u + (c - 48)) else (10 * u + (c - 48))) → (liL L < 10 * u + (c - 48) → j = nmK L ∧ nmV L = 0 ∧ nmO L = false) ∧ (¬ liL L < 10 * u + (c - 48) → nmI L (j + 1) v) := by
    intro v hv
    refine ⟨fun hl => ?_, fun hl => ?_⟩
    · rw [if_pos hl] at hX
      unfold nmV nmK nmO
      rw [if_neg h0, if_neg h0, if_neg h0, hX]
      refine ⟨hj, ?_, rfl⟩
      split <;> rfl
    · rw [if_neg hl] at hv hX
      refine ⟨10 * u + (c - 48), k + 1, by omega, by omega, by omega, by omega, hv, ev.symm, ed, ?_⟩
      have e2 : (bdL L).drop (k + 1) = r := by
        have := List.drop_eq_getElem_cons hkl
        rw [e] at this
        exact (List.cons.inj this).2.symm
      rw [e2, hX]
      simp only [Prod.mk.injEq, true_and, and_true]
      omega
  have el : L.take (j + 1) = (if ngL L = true then [45] else []) ++ (bdL L).take (k + 1) := by
    unfold ofL at hj
    unfold bdL
    by_cases hg : ngL L = true
    · rw [if_pos hg] at hj ⊢
      rw [if_pos hg]
      obtain _ | ⟨a, M⟩ := L
      · simp [ngL] at hg
      · have ha : a = 45 := by simpa [ngL] using hg
        subst ha hj
        simp [Nat.add_comm]
        rw [Nat.add_comm 1 (k + 1)]; rfl
    · rw [if_neg hg] at hj ⊢
      rw [if_neg hg]
      subst hj
      simp
  rw [el] at hs
  rw [bys_nums] at hs
  by_cases hg : ngL L = true
  · rw [if_pos hg] at hs
    rcases hl : s.data.toList with _ | ⟨a, l⟩
    · rw [hl] at hs; cases hs
    rw [hl] at hs
    have ha : a = 45 := UInt8.toNat_inj.1 (by have h1 : (a.toNat : Int) = 45 := (List.cons.inj hs).1; show a.toNat = 45; omega)
    have hl2 : nums l = (bdL L).take (k + 1) := (List.cons.inj hs).2
    have hne : l ≠ [] := by rintro rfl; rw [et] at hl2; simp [nums] at hl2
    have hp := pi_neg hne (by rw [hl2]; exact ed)
    rw [hl2, ev] at hp
    have eli : liL L = 9223372036854775808 := if_pos hg
    unfold piX piV
    rw [hl, ha, hp]
    by_cases hx : 10 * u + (c - 48) ≤ 9223372036854775808
    · rw [if_pos hx]
      exact ⟨fun _ => (fin _ (by rw [if_neg (by omega), if_pos hg])).2 (by omega), fun h => by cases h⟩
    · rw [if_neg hx]
      exact ⟨fun h => by (cases h), fun _ => (fin 0 (by rw [if_pos (by omega)]; trivial)).1 (by omega)⟩
  · rw [if_neg hg, List.nil_append] at hs
    have hl2 : nums s.data.toList = (bdL L).take (k + 1) := hs
    have hne : s.data.toList ≠ [] := by intro h; rw [h, et] at hl2; simp [nums] at hl2
    have hp := pi_plain hne (by rw [hl2]; exact ed)
    rw [hl2, ev] at hp
    have eli : liL L = 9223372036854775807 := if_neg hg
    unfold piX piV
    rw [hp]
    by_cases hx : 10 * u + (c - 48) ≤ 9223372036854775807
    · rw [if_pos hx]
      exact ⟨fun _ => (fin _ (by rw [if_neg (by omega), if_neg hg])).2 (by omega), fun h => by cases h⟩
    · rw [if_neg hx]
      exact ⟨fun h => by (cases h), fun _ => (fin 0 (by rw [if_pos (by omega)]; trivial)).1 (by omega)⟩
end Go.Proofs.YtlfafkeamppakaaDoor.XT
