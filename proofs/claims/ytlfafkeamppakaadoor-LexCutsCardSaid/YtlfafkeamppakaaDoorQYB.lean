/- Contracts, by the symbolic evaluator. -/
import Derived.Test.YtlfafkeamppakaaDoorQYA
import Derived.Test.YtlfafkeamppakaaDoorProg
set_option linter.unusedVariables false
set_option linter.unusedSimpArgs false
namespace Go.Proofs.YtlfafkeamppakaaDoor.XT
open Go Go.RowKit Go.Proofs.YtlfafkeamppakaaDoor.Sv
set_option maxRecDepth 100000
/-- u is what the first digits are, without the sign -/
structure NmU (L : List Int) (j : Nat) (u : Int) : Prop where
  h : ∃ k : Nat, j = ofL L + k ∧ k ≤ (bdL L).length ∧ 0 ≤ u ∧ u ≤ liL L ∧ nmR L = ((nmG (liL L) ((bdL L).drop k) u).1, k + (nmG (liL L) ((bdL L).drop k) u).2.1, (nmG (liL L) ((bdL L).drop k) u).2.2)
theorem nmU_zero (L : List Int) : NmU L (ofL L) 0 := by
  refine ⟨0, rfl, Nat.zero_le _, Int.le_refl _, ?_, ?_⟩
  · unfold liL; split <;> decide
  · simp only [List.drop_zero, Nat.zero_add]; rfl
theorem nmU_in {L : List Int} {j : Nat} {u : Int} (h : NmU L j u) : ofL L ≤ j ∧ 0 ≤ u ∧ u ≤ liL L := by
  obtain ⟨k, hj, hk, hu0, hul, hX⟩ := h.h
  exact ⟨by omega, hu0, hul⟩
theorem nmU_end {L : List Int} {j : Nat} {u : Int} (h : NmU L j u) (h0 : (bdL L).getD 0 0 ≠ 48) (he : ∀ c r, L.drop j = c :: r → dgC c = false) : (if ngL L = true then -u else u) = nmV L ∧ j = nmK L ∧ aloL (L.drop j) = nmO L := by
  obtain ⟨k, hj, hk, hu0, hul, hX⟩ := h.h
  have e : L.drop j = (bdL L).drop k := by rw [bdL_eq, List.drop_drop, hj]
  rw [e] at he ⊢
  have eX : nmG (liL L) ((bdL L).drop k) u = (u, 0, aloL ((bdL L).drop k)) := by
    rcases hc : (bdL L).drop k with _ | ⟨c, r⟩
    · rfl
    · rw [nmG, if_neg (by rw [he c r hc]; decide)]
  rw [eX] at hX
  unfold nmV nmK nmO
  rw [if_neg h0, if_neg h0, if_neg h0, hX]
  exact ⟨rfl, hj, rfl⟩
theorem nmU_next {L : List Int} {j : Nat} {u c : Int} {r : List Int} (h : NmU L j u) (h0 : (bdL L).getD 0 0 ≠ 48) (hc : L.drop j = c :: r) (hcd : dgC c = true) : (liL L < 10 * u + (c - 48) → j = nmK L ∧ nmV L = 0 ∧ nmO L = false) ∧ (¬ liL L < 10 * u + (c - 48) → NmU L (j + 1) (10 * u + (c - 48))) := by
  obtain ⟨k, hj, hk, hu0, hul, hX⟩ := h.h
  have e : (bdL L).drop k = c :: r := by rw [← hc, bdL_eq, List.drop_drop, hj]
  have hkl : k < (bdL L).length := by
    apply Classical.byContradiction; intro h
    rw [List.drop_of_length_le (by omega)] at e; cases e
  have hc2 := dgC_iff.1 hcd
  rw [e, nmG, if_pos hcd] at hX
  refine ⟨fun hl => ?_, fun hl => ?_⟩
  · rw [if_pos hl] at hX
    unfold nmV nmK nmO
    rw [if_neg h0, if_neg h0, if_neg h0, hX]
    refine ⟨hj, ?_, rfl⟩
    split <;> rfl
  · rw [if_neg hl] at hX
    refine ⟨k + 1, by omega, by omega, by omega, by omega, ?_⟩
    have e2 : (bdL L).drop (k + 1) = r := by
      have := List.drop_eq_getElem_cons hkl
      rw [e] at this
      exact (List.cons.inj this).2.symm
    rw [e2, hX]
    simp only [Prod.mk.injEq, true_and, and_true]
    omega
theorem u8w {n : Int} (h1 : 0 ≤ n) (h2 : n ≤ 255) : IntKind.u8.wrap n = n := by
  simp only [IntKind.wrap, IntKind.signed, IntKind.bits, Bool.false_and, Bool.false_eq_true, if_false]
  omega
theorem u64w (n : Int) : IntKind.u64.wrap n = n % 18446744073709551616 := by
  simp only [IntKind.wrap, IntKind.signed, IntKind.bits, Bool.false_and, Bool.false_eq_true, if_false]
  rfl
theorem i64w (n : Int) : IntKind.i64.wrap n = if 9223372036854775808 ≤ n % 18446744073709551616 then n % 18446744073709551616 - 18446744073709551616 else n % 18446744073709551616 := by
  unfold IntKind.wrap
  have e1 : (2 ^ IntKind.i64.bits : Int) = 18446744073709551616 := by decide
  have e2 : (2 ^ (IntKind.i64.bits - 1) : Int) = 9223372036854775808 := by decide
  simp only [e1, e2, IntKind.signed, Bool.true_and, decide_eq_true_eq, ge_iff_le]
theorem neg_w {u : Int} (h0 : 0 ≤ u) (h : u ≤ 9223372036854775808) : IntKind.i64.wrap (IntKind.u64.wrap (0 - u)) = -u := by
  rw [i64w, u64w]; split <;> omega
theorem pos_w {u : Int} (h0 : 0 ≤ u) (h : u ≤ 9223372036854775807) : IntKind.i64.wrap u = u := by
  rw [i64w]; split <;> omega
theorem lim_w {u d m : Int} (h0 : 0 ≤ u) (h : u ≤ m) (hm : m = 9223372036854775807 ∨ m = 9223372036854775808) (d0 : 48 ≤ d) (d1 : d ≤ 57) :
    (IntKind.u64.wrap ((IntKind.u64.wrap (m - IntKind.u64.wrap (IntKind.u8.wrap (d - 48)))).tdiv 10) < u ↔ m < 10 * u + (d - 48)) ∧ (¬ m < 10 * u + (d - 48) → IntKind.u64.wrap (IntKind.u64.wrap (10 * u) + IntKind.u64.wrap (IntKind.u8.wrap (d - 48))) = 10 * u + (d - 48)) := by
  rw [u8w (n := d - 48) (by omega) (by omega)]
  have e1 : IntKind.u64.wrap (d - 48) = d - 48 := by rw [u64w]; omega
  have e2 : IntKind.u64.wrap (m - (d - 48)) = m - (d - 48) := by rw [u64w]; omega
  rw [e1, e2, Int.tdiv_eq_ediv_of_nonneg (by omega)]
  have e3 : IntKind.u64.wrap ((m - (d - 48)) / 10) = (m - (d - 48)) / 10 := by rw [u64w]; omega
  rw [e3]
  refine ⟨by omega, fun h => ?_⟩
  have e4 : IntKind.u64.wrap (10 * u) = 10 * u := by rw [u64w]; omega
  rw [e4, u64w]; omega
theorem rfm_body {s : ByteArray} {p : Nat} {m : Int} (hs : s.size ≤ 1099511627776) (hp : p < s.size) (hm : m = liL ((bys s).drop p)) (h0 : (bdL ((bys s).drop p)).getD 0 0 ≠ 48) (k : Nat) (n : Int) (hg : p ≤ k ∧ k ≤ s.size ∧ NmU ((bys s).drop p) (k - p) n) :
    (decide ((k : Int) < (s.size : Int)) = true → Idx (k : Int) s.size) ∧ bif decide ((k : Int) < (s.size : Int)) && dgC (byteAt' s k) then Idx (k : Int) s.size ∧ ¬EqI 10 0 ∧ bif decide (IntKind.u64.wrap ((IntKind.u64.wrap (m - IntKind.u64.wrap (IntKind.u8.wrap (byteAt' s k - 48)))).tdiv 10) < n) then EqI 0 (nmV ((bys s).drop p)) ∧ (k : Int) = (p : Int) + (nmK ((bys s).drop p) : Int) ∧ false = nmO ((bys s).drop p) else I64 ((k : Int) + 1) ∧ ∃ (g_1 : Nat × Int), (k : Int) + 1 = (g_1.fst : Int) ∧ IntKind.u64.wrap (IntKind.u64.wrap (10 * n) + IntKind.u64.wrap (IntKind.u8.wrap (byteAt' s k - 48))) = g_1.snd ∧ (p ≤ g_1.fst ∧ g_1.fst ≤ s.size ∧ NmU ((bys s).drop p) (g_1.fst - p) g_1.snd) ∧ s.size - g_1.fst < s.size - k else 0 ≤ (k : Int) ∧ (k : Int) ≤ (s.size : Int) ∧ s.size ≤ 1099511627776 ∧ bif decide (byteAt' s p = 45) then IntKind.i64.wrap (IntKind.u64.wrap (0 - n)) = nmV ((bys s).drop p) ∧ (k : Int) = (p : Int) + (nmK ((bys s).drop p) : Int) ∧ aloL ((bys s).drop k) = nmO ((bys s).drop p) else IntKind.i64.wrap n = nmV ((bys s).drop p) ∧ (k : Int) = (p : Int) + (nmK ((bys s).drop p) : Int) ∧ aloL ((bys s).drop k) = nmO ((bys s).drop p) := by
  obtain ⟨k1, k2, hI⟩ := hg
  obtain ⟨i1, i2, i3⟩ := nmU_in hI
  have ek : ((bys s).drop p).drop (k - p) = (bys s).drop k := by rw [List.drop_drop]; congr 1; omega
  have hmm : m = 9223372036854775807 ∨ m = 9223372036854775808 := by rw [hm]; unfold liL; split; exact .inr rfl; exact .inl rfl
  refine ⟨fun h => ⟨by omega, by have := of_decide_eq_true h; omega⟩, cond_of (fun d => ?_) (fun d => ?_)⟩
  · simp only [Bool.and_eq_true, decide_eq_true_eq] at d
    have hk : k < s.size := by omega
    have hc := dgC_iff.1 d.2
    obtain ⟨w1, w2⟩ := lim_w i2 (by rw [hm]; exact i3) hmm hc.1 hc.2
    obtain ⟨x1, x2⟩ := nmU_next hI h0 (by rw [ek, bys_drop hk]) d.2
    rw [← hm] at x1 x2
    refine ⟨⟨by omega, by omega⟩, (by decide : ¬ (10 : Int) = 0), cond_of (fun e => ?_) (fun e => ?_)⟩
    · obtain ⟨y1, y2, y3⟩ := x1 (w1.1 (of_decide_eq_true e))
      exact ⟨y2.symm, by omega, y3.symm⟩
    · have e' : ¬ m < 10 * n + (byteAt' s k - 48) := fun h => of_decide_eq_false e (w1.2 h)
      refine ⟨⟨by omega, by omega⟩, (k + 1, _), rfl, rfl, ⟨by simp only; omega, by simp only; omega, ?_⟩, by simp only; omega⟩
      have := x2 e'
      rw [show k - p + 1 = k + 1 - p by omega] at this
      show NmU _ _ (IntKind.u64.wrap _)
      rw [w2 e']; exact this
  · obtain ⟨x1, x2, x3⟩ := nmU_end hI h0 (fun c r hc => by
      rw [ek] at hc
      by_cases hk : k < s.size
      · rw [bys_drop hk] at hc
        rw [decide_eq_true (show (k : Int) < (s.size : Int) by omega), Bool.true_and] at d
        rw [← (List.cons.inj hc).1]; exact d
      · rw [bys_end (by omega)] at hc; cases hc)
    rw [ek] at x3
    have hb : ((bys s).drop p).getD 0 0 = byteAt' s p := by rw [getD_drop (by omega), Nat.add_zero]
    refine ⟨by omega, by omega, hs, cond_of (fun e => ?_) (fun e => ?_)⟩
    · have hn : ngL ((bys s).drop p) = true := by rw [ngL, hb]; exact e
      rw [if_pos hn] at x1
      have : liL ((bys s).drop p) = 9223372036854775808 := if_pos hn
      exact ⟨by rw [neg_w i2 (by omega)]; exact x1, by omega, x3⟩
    · have hn : ngL ((bys s).drop p) = false := by rw [ngL, hb]; exact e
      rw [if_neg (by rw [hn]; decide)] at x1
      have : liL ((bys s).drop p) = 9223372036854775807 := if_neg (by rw [hn]; decide)
      exact ⟨by rw [pos_w i2 (by omega)]; exact x1, by omega, x3⟩
def rfmC : Con := ⟨[.d true .s, .d true (.i .i64)], fun ds => (fun (a : D) (b : D) => [0 ≤ b.int, b.int ≤ a.str.size, a.str.size ≤ 1099511627776, b.int < a.str.size, dgC (((bys a.str).drop b.int.toNat).getD 0 0) = true ∨ ((bys a.str).drop b.int.toNat).getD 0 0 = 45 ∧ dgC (((bys a.str).drop b.int.toNat).getD 1 0) = true]) (nthD ds 0) (nthD ds 1), [.d (.i .i64), .d (.i .i64), .d .b], fun ds => (fun (a : D) (b : D) => [.i (nmV ((bys a.str).drop b.int.toNat)), .i (b.int + (nmK ((bys a.str).drop b.int.toNat) : Int)), .b (nmO ((bys a.str).drop b.int.toNat))]) (nthD ds 0) (nthD ds 1), fun ds => []⟩
def rfmC_an : Anns := fun f i => match f, i with
  | 43, 14 => some fun A st => match A.get 0, A.get 1 with
    | some (.v (.string s)), some (.v (.int _ i)) => ⟨Nat × Int, fun g => [(7, .v (.int .i64 g.1)), (12, .v (.int .u64 g.2))], fun _ => [], fun g => i.toNat ≤ g.1 ∧ g.1 ≤ s.size ∧ NmU ((bys s).drop i.toNat) (g.1 - i.toNat) g.2, fun g => s.size - g.1⟩
    | _, _ => LAnn.bad
  | _, _ => none
theorem rfmC_vc (a b : D) : (Idx b.int a.str.size ∧ bif decide (byteAt' a.str b.int.toNat = 45) then I64 (b.int + 1) ∧ Idx (b.int + 1) a.str.size ∧ bif decide (byteAt' a.str (b.int + 1).toNat = 48) then bif decide (byteAt' a.str b.int.toNat = 45) then EqI 0 (nmV (List.drop b.int.toNat (bys a.str))) ∧ b.int + 1 = b.int + (↑(nmK (List.drop b.int.toNat (bys a.str))) : Int) ∧ false = nmO (List.drop b.int.toNat (bys a.str)) else I64 (b.int + 1 + 1) ∧ 0 ≤ b.int + 1 + 1 ∧ b.int + 1 + 1 ≤ (↑a.str.size : Int) ∧ a.str.size ≤ 1099511627776 ∧ EqI 0 (nmV (List.drop b.int.toNat (bys a.str))) ∧ b.int + 1 + 1 = b.int + (↑(nmK (List.drop b.int.toNat (bys a.str))) : Int) ∧ aloL (List.drop (b.int + 1 + 1).toNat (bys a.str)) = nmO (List.drop b.int.toNat (bys a.str)) else bif decide (byteAt' a.str b.int.toNat = 45) then ∃ (g : Nat × Int), b.int + 1 = (↑g.fst : Int) ∧ EqI 0 g.snd ∧ (b.int.toNat ≤ g.fst ∧ g.fst ≤ a.str.size ∧ NmU (List.drop b.int.toNat (bys a.str)) (g.fst - b.int.toNat) g.snd) ∧ ∀ (g : Nat × Int), b.int.toNat ≤ g.fst ∧ g.fst ≤ a.str.size ∧ NmU (List.drop b.int.toNat (bys a.str)) (g.fst - b.int.toNat) g.snd → (decide ((↑g.fst : Int) < (↑a.str.size : Int)) = true → Idx (↑g.fst : Int) a.str.size) ∧ bif decide ((↑g.fst : Int) < (↑a.str.size : Int)) && dgC (byteAt' a.str g.fst) then Idx (↑g.fst : Int) a.str.size ∧ ¬EqI 10 0 ∧ bif decide (IntKind.u64.wrap ((IntKind.u64.wrap (9223372036854775808 - IntKind.u64.wrap (IntKind.u8.wrap (byteAt' a.str g.fst - 48)))).tdiv 10) < g.snd) then EqI 0 (nmV (List.drop b.int.toNat (bys a.str))) ∧ (↑g.fst : Int) = b.int + (↑(nmK (List.drop b.int.toNat (bys a.str))) : Int) ∧ false = nmO (List.drop b.int.toNat (bys a.str)) else I64 ((↑g.fst : Int) + 1) ∧ ∃ (g_1 : Nat × Int), (↑g.fst : Int) + 1 = (↑g_1.fst : Int) ∧ IntKind.u64.wrap (IntKind.u64.wrap (10 * g.snd) + IntKind.u64.wrap (IntKind.u8.wrap (byteAt' a.str g.fst - 48))) = g_1.snd ∧ (b.int.toNat ≤ g_1.fst ∧ g_1.fst ≤ a.str.size ∧ NmU (List.drop b.int.toNat (bys a.str)) (g_1.fst - b.int.toNat) g_1.snd) ∧ a.str.size - g_1.fst < a.str.size - g.fst else 0 ≤ (↑g.fst : Int) ∧ (↑g.fst : Int) ≤ (↑a.str.size : Int) ∧ a.str.size ≤ 1099511627776 ∧ bif decide (byteAt' a.str b.int.toNat = 45) then IntKind.i64.wrap (IntKind.u64.wrap (0 - g.snd)) = nmV (List.drop b.int.toNat (bys a.str)) ∧ (↑g.fst : Int) = b.int + (↑(nmK (List.drop b.int.toNat (bys a.str))) : Int) ∧ aloL (List.drop g.fst (bys a.str)) = nmO (List.drop b.int.toNat (bys a.str)) else IntKind.i64.wrap g.snd = nmV (List.drop b.int.toNat (bys a.str)) ∧ (↑g.fst : Int) = b.int + (↑(nmK (List.drop b.int.toNat (bys a.str))) : Int) ∧ aloL (List.drop g.fst (bys a.str)) = nmO (List.drop b.int.toNat (bys a.str)) else ∃ (g : Nat × Int), b.int + 1 = (↑g.fst : Int) ∧ EqI 0 g.snd ∧ (b.int.toNat ≤ g.fst ∧ g.fst ≤ a.str.size ∧ NmU (List.drop b.int.toNat (bys a.str)) (g.fst - b.int.toNat) g.snd) ∧ ∀ (g : Nat × Int), b.int.toNat ≤ g.fst ∧ g.fst ≤ a.str.size ∧ NmU (List.drop b.int.toNat (bys a.str)) (g.fst - b.int.toNat) g.snd → (decide ((↑g.fst : Int) < (↑a.str.size : Int)) = true → Idx (↑g.fst : Int) a.str.size) ∧ bif decide ((↑g.fst : Int) < (↑a.str.size : Int)) && dgC (byteAt' a.str g.fst) then Idx (↑g.fst : Int) a.str.size ∧ ¬EqI 10 0 ∧ bif decide (IntKind.u64.wrap ((IntKind.u64.wrap (9223372036854775807 - IntKind.u64.wrap (IntKind.u8.wrap (byteAt' a.str g.fst - 48)))).tdiv 10) < g.snd) then EqI 0 (nmV (List.drop b.int.toNat (bys a.str))) ∧ (↑g.fst : Int) = b.int + (↑(nmK (List.drop b.int.toNat (bys a.str))) : Int) ∧ false = nmO (List.drop b.int.toNat (bys a.str)) else I64 ((↑g.fst : Int) + 1) ∧ ∃ (g_1 : Nat × Int), (↑g.fst : Int) + 1 = (↑g_1.fst : Int) ∧ IntKind.u64.wrap (IntKind.u64.wrap (10 * g.snd) + IntKind.u64.wrap (IntKind.u8.wrap (byteAt' a.str g.fst - 48))) = g_1.snd ∧ (b.int.toNat ≤ g_1.fst ∧ g_1.fst ≤ a.str.size ∧ NmU (List.drop b.int.toNat (bys a.str)) (g_1.fst - b.int.toNat) g_1.snd) ∧ a.str.size - g_1.fst < a.str.size - g.fst else 0 ≤ (↑g.fst : Int) ∧ (↑g.fst : Int) ≤ (↑a.str.size : Int) ∧ a.str.size ≤ 1099511627776 ∧ bif decide (byteAt' a.str b.int.toNat = 45) then IntKind.i64.wrap (IntKind.u64.wrap (0 - g.snd)) = nmV (List.drop b.int.toNat (bys a.str)) ∧ (↑g.fst : Int) = b.int + (↑(nmK (List.drop b.int.toNat (bys a.str))) : Int) ∧ aloL (List.drop g.fst (bys a.str)) = nmO (List.drop b.int.toNat (bys a.str)) else IntKind.i64.wrap g.snd = nmV (List.drop b.int.toNat (bys a.str)) ∧ (↑g.fst : Int) = b.int + (↑(nmK (List.drop b.int.toNat (bys a.str))) : Int) ∧ aloL (List.drop g.fst (bys a.str)) = nmO (List.drop b.int.toNat (bys a.str)) else Idx b.int a.str.size ∧ bif decide (byteAt' a.str b.int.toNat = 48) then bif decide (byteAt' a.str b.int.toNat = 45) then EqI 0 (nmV (List.drop b.int.toNat (bys a.str))) ∧ b.int = b.int + (↑(nmK (List.drop b.int.toNat (bys a.str))) : Int) ∧ false = nmO (List.drop b.int.toNat (bys a.str)) else I64 (b.int + 1) ∧ 0 ≤ b.int + 1 ∧ b.int + 1 ≤ (↑a.str.size : Int) ∧ a.str.size ≤ 1099511627776 ∧ EqI 0 (nmV (List.drop b.int.toNat (bys a.str))) ∧ b.int + 1 = b.int + (↑(nmK (List.drop b.int.toNat (bys a.str))) : Int) ∧ aloL (List.drop (b.int + 1).toNat (bys a.str)) = nmO (List.drop b.int.toNat (bys a.str)) else bif decide (byteAt' a.str b.int.toNat = 45) then ∃ (g : Nat × Int), b.int = (↑g.fst : Int) ∧ EqI 0 g.snd ∧ (b.int.toNat ≤ g.fst ∧ g.fst ≤ a.str.size ∧ NmU (List.drop b.int.toNat (bys a.str)) (g.fst - b.int.toNat) g.snd) ∧ ∀ (g : Nat × Int), b.int.toNat ≤ g.fst ∧ g.fst ≤ a.str.size ∧ NmU (List.drop b.int.toNat (bys a.str)) (g.fst - b.int.toNat) g.snd → (decide ((↑g.fst : Int) < (↑a.str.size : Int)) = true → Idx (↑g.fst : Int) a.str.size) ∧ bif decide ((↑g.fst : Int) < (↑a.str.size : Int)) && dgC (byteAt' a.str g.fst) then Idx (↑g.fst : Int) a.str.size ∧ ¬EqI 10 0 ∧ bif decide (IntKind.u64.wrap ((IntKind.u64.wrap (9223372036854775808 - IntKind.u64.wrap (IntKind.u8.wrap (byteAt' a.str g.fst - 48)))).tdiv 10) < g.snd) then EqI 0 (nmV (List.drop b.int.toNat (bys a.str))) ∧ (↑g.fst : Int) = b.int + (↑(nmK (List.drop b.int.toNat (bys a.str))) : Int) ∧ false = nmO (List.drop b.int.toNat (bys a.str)) else I64 ((↑g.fst : Int) + 1) ∧ ∃ (g_1 : Nat × Int), (↑g.fst : Int) + 1 = (↑g_1.fst : Int) ∧ IntKind.u64.wrap (IntKind.u64.wrap (10 * g.snd) + IntKind.u64.wrap (IntKind.u8.wrap (byteAt' a.str g.fst - 48))) = g_1.snd ∧ (b.int.toNat ≤ g_1.fst ∧ g_1.fst ≤ a.str.size ∧ NmU (List.drop b.int.toNat (bys a.str)) (g_1.fst - b.int.toNat) g_1.snd) ∧ a.str.size - g_1.fst < a.str.size - g.fst else 0 ≤ (↑g.fst : Int) ∧ (↑g.fst : Int) ≤ (↑a.str.size : Int) ∧ a.str.size ≤ 1099511627776 ∧ bif decide (byteAt' a.str b.int.toNat = 45) then IntKind.i64.wrap (IntKind.u64.wrap (0 - g.snd)) = nmV (List.drop b.int.toNat (bys a.str)) ∧ (↑g.fst : Int) = b.int + (↑(nmK (List.drop b.int.toNat (bys a.str))) : Int) ∧ aloL (List.drop g.fst (bys a.str)) = nmO (List.drop b.int.toNat (bys a.str)) else IntKind.i64.wrap g.snd = nmV (List.drop b.int.toNat (bys a.str)) ∧ (↑g.fst : Int) = b.int + (↑(nmK (List.drop b.int.toNat (bys a.str))) : Int) ∧ aloL (List.drop g.fst (bys a.str)) = nmO (List.drop b.int.toNat (bys a.str)) else ∃ (g : Nat × Int), b.int = (↑g.fst : Int) ∧ EqI 0 g.snd ∧ (b.int.toNat ≤ g.fst ∧ g.fst ≤ a.str.size ∧ NmU (List.drop b.int.toNat (bys a.str)) (g.fst - b.int.toNat) g.snd) ∧ ∀ (g : Nat × Int), b.int.toNat ≤ g.fst ∧ g.fst ≤ a.str.size ∧ NmU (List.drop b.int.toNat (bys a.str)) (g.fst - b.int.toNat) g.snd → (decide ((↑g.fst : Int) < (↑a.str.size : Int)) = true → Idx (↑g.fst : Int) a.str.size) ∧ bif decide ((↑g.fst : Int) < (↑a.str.size : Int)) && dgC (byteAt' a.str g.fst) then Idx (↑g.fst : Int) a.str.size ∧ ¬EqI 10 0 ∧ bif decide (IntKind.u64.wrap ((IntKind.u64.wrap (9223372036854775807 - IntKind.u64.wrap (IntKind.u8.wrap (byteAt' a.str g.fst - 48)))).tdiv 10) < g.snd) then EqI 0 (nmV (List.drop b.int.toNat (bys a.str))) ∧ (↑g.fst : Int) = b.int + (↑(nmK (List.drop b.int.toNat (bys a.str))) : Int) ∧ false = nmO (List.drop b.int.toNat (bys a.str)) else I64 ((↑g.fst : Int) + 1) ∧ ∃ (g_1 : Nat × Int), (↑g.fst : Int) + 1 = (↑g_1.fst : Int) ∧ IntKind.u64.wrap (IntKind.u64.wrap (10 * g.snd) + IntKind.u64.wrap (IntKind.u8.wrap (byteAt' a.str g.fst - 48))) = g_1.snd ∧ (b.int.toNat ≤ g_1.fst ∧ g_1.fst ≤ a.str.size ∧ NmU (List.drop b.int.toNat (bys a.str)) (g_1.fst - b.int.toNat) g_1.snd) ∧ a.str.size - g_1.fst < a.str.size - g.fst else 0 ≤ (↑g.fst : Int) ∧ (↑g.fst : Int) ≤ (↑a.str.size : Int) ∧ a.str.size ≤ 1099511627776 ∧ bif decide (byteAt' a.str b.int.toNat = 45) then IntKind.i64.wrap (IntKind.u64.wrap (0 - g.snd)) = nmV (List.drop b.int.toNat (bys a.str)) ∧ (↑g.fst : Int) = b.int + (↑(nmK (List.drop b.int.toNat (bys a.str))) : Int) ∧ aloL (List.drop g.fst (bys a.str)) = nmO (List.drop b.int.toNat (bys a.str)) else IntKind.i64.wrap g.snd = nmV (List.drop b.int.toNat (bys a.str)) ∧ (↑g.fst : Int) = b.int + (↑(nmK (List.drop b.int.toNat (bys a.str))) : Int) ∧ aloL (List.drop g.fst (bys a.str)) = nmO (List.drop b.int.toNat (bys a.str))) = conGoal Tryd.prog (addS 42 rfdC (addS 57 rfbC noS)) rfmC_an 200 43 rfmC [a, b] := by kernel_rfl
set_option maxHeartbeats 2000000 in
theorem rfmC_ok : ConOK Tryd.prog gl 43 rfmC := con_of mo (addS_ok rfdC_ok (addS_ok rfbC_ok (noS_ok _))) (an := rfmC_an) 200 fun ds hl hp => by
  obtain ⟨a, b, rfl⟩ := len2 hl
  rw [← rfmC_vc]
  have p0 : 0 ≤ b.int := hp _ (.head _)
  have p1 : b.int ≤ a.str.size := hp _ (.tail _ (.head _))
  have p2 : a.str.size ≤ 1099511627776 := hp _ (.tail _ (.tail _ (.head _)))
  have p3 : b.int < a.str.size := hp _ (.tail _ (.tail _ (.tail _ (.head _))))
  have p4 : dgC (((bys a.str).drop b.int.toNat).getD 0 0) = true ∨ ((bys a.str).drop b.int.toNat).getD 0 0 = 45 ∧ dgC (((bys a.str).drop b.int.toNat).getD 1 0) = true := hp _ (.tail _ (.tail _ (.tail _ (.tail _ (.head _)))))
  obtain ⟨p, hp⟩ := Int.eq_ofNat_of_zero_le p0
  rw [hp] at p3
  rw [hp, Int.toNat_natCast] at p4
  rw [hp, Int.toNat_natCast]
  generalize a.str = s at *
  have hps : p < s.size := by omega
  have bz : ∀ {L : List Int}, (bdL L).getD 0 0 = 48 → nmV L = 0 ∧ nmK L = 1 ∧ nmO L = (!ngL L && aloL (L.drop 1)) := fun h => ⟨if_pos h, if_pos h, if_pos h⟩
  have t1 : ((p : Int) + 1).toNat = p + 1 := rfl
  have hb0 : ((bys s).drop p).getD 0 0 = byteAt' s p := by rw [getD_drop (by omega), Nat.add_zero]
  rw [t1]
  refine ⟨⟨by omega, by omega⟩, cond_of (fun c => ?_) (fun c => ?_)⟩
  · have cc := of_decide_eq_true c
    have hng : ngL ((bys s).drop p) = true := by rw [ngL, hb0]; exact c
    have hd1 : dgC (((bys s).drop p).getD 1 0) = true := by
      rcases p4 with h | h
      · rw [hb0, cc] at h; cases h
      · exact h.2
    have hlt : p + 1 < s.size := by
      apply Classical.byContradiction; intro h
      have e : ((bys s).drop p).getD 1 0 = 0 := by
        rw [List.getD_eq_getElem?_getD, List.getElem?_eq_none (by rw [List.length_drop, bys_length]; omega)]; rfl
      rw [e] at hd1; cases hd1
    have hb : bdL ((bys s).drop p) = (bys s).drop (p + 1) := by rw [bdL, if_pos hng, List.drop_drop]
    have hb1 : (bdL ((bys s).drop p)).getD 0 0 = byteAt' s (p + 1) := by rw [hb, getD_drop (by omega), Nat.add_zero]
    have ho : ofL ((bys s).drop p) = 1 := if_pos hng
    refine ⟨⟨by omega, by omega⟩, ⟨by omega, by omega⟩, cond_of (fun d => ?_) (fun d => ?_)⟩
    · rw [c]
      have d := of_decide_eq_true d
      obtain ⟨b1, b2, b3⟩ := bz (L := (bys s).drop p) (by rw [hb1]; exact d)
      rw [b1, b2, b3, hng]
      exact ⟨rfl, rfl, rfl⟩
    · have d := of_decide_eq_false d
      refine cond_of (fun _ => ?_) (fun c' => by rw [c] at c'; cases c')
      refine ⟨(p + 1, 0), rfl, rfl, ⟨by simp only; omega, by simp only; omega, ?_⟩, fun ⟨k, n⟩ hg => ?_⟩
      · have := nmU_zero ((bys s).drop p)
        rw [ho] at this
        have e : p + 1 - p = 1 := by omega
        rw [← e] at this
        exact this
      · exact rfm_body p2 hps (if_pos hng).symm (by rw [hb1]; exact d) k n hg
  · have cc := of_decide_eq_false c
    have hng : ngL ((bys s).drop p) = false := by rw [ngL, hb0]; exact c
    have hb : bdL ((bys s).drop p) = (bys s).drop p := by rw [bdL, if_neg (by rw [hng]; decide)]
    have ho : ofL ((bys s).drop p) = 0 := if_neg (by rw [hng]; decide)
    refine ⟨⟨by omega, by omega⟩, cond_of (fun d => ?_) (fun d => ?_)⟩
    · have d := of_decide_eq_true d
      obtain ⟨b1, b2, b3⟩ := bz (L := (bys s).drop p) (by rw [hb, hb0]; exact d)
      rw [c, b1, b2, b3, hng, List.drop_drop]
      exact ⟨⟨by omega, by omega⟩, by omega, by omega, p2, rfl, rfl, rfl⟩
    · have d := of_decide_eq_false d
      refine cond_of (fun c' => by rw [c] at c'; cases c') (fun _ => ?_)
      refine ⟨(p, 0), rfl, rfl, ⟨by simp only; omega, by simp only; omega, ?_⟩, fun ⟨k, n⟩ hg => ?_⟩
      · have := nmU_zero ((bys s).drop p)
        rw [ho] at this
        have e : p - p = 0 := by omega
        rw [← e] at this
        exact this
      · exact rfm_body p2 hps (if_neg (by rw [hng]; decide)).symm (by rw [hb, hb0]; exact d) k n hg
end Go.Proofs.YtlfafkeamppakaaDoor.XT
