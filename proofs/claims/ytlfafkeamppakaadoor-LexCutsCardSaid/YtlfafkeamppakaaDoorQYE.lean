/- Contracts, by the symbolic evaluator. -/
import Derived.Test.YtlfafkeamppakaaDoorQYD
import Derived.Test.YtlfafkeamppakaaDoorProg
import Derived.Test.YtlfafkeamppakaaDoorQY9
set_option linter.unusedVariables false
set_option linter.unusedSimpArgs false
namespace Go.Proofs.YtlfafkeamppakaaDoor.XT
open Go Go.RowKit Go.Proofs.YtlfafkeamppakaaDoor.Sv
set_option maxRecDepth 100000
def rfoC : Con := ⟨[.d true .s, .d true (.i .i64)], fun ds => (fun (a : D) (b : D) => [0 ≤ b.int, b.int < a.str.size, a.str.size ≤ 1099511627776]) (nthD ds 0) (nthD ds 1), [.d tokT, .d (.i .i64), .d .b], fun ds => (fun (a : D) (b : D) => [onT ((bys a.str).drop b.int.toNat) b.int.toNat, .i (b.int + (onK ((bys a.str).drop b.int.toNat) : Int)), .b (onO ((bys a.str).drop b.int.toNat))]) (nthD ds 0) (nthD ds 1), fun ds => []⟩
def rfoC_an : Anns := fun _ _ => none
theorem rfoC_vc (a b : D) : (Idx b.int a.str.size ∧ bif bgC (byteAt' a.str b.int.toNat) && !decide (byteAt' a.str b.int.toNat = 95) || decide (byteAt' a.str b.int.toNat = 95) then 0 ≤ b.int ∧ b.int ≤ (↑a.str.size : Int) ∧ a.str.size ≤ 1099511627776 ∧ 0 ≤ b.int ∧ b.int ≤ b.int + (↑(min (runL ptC (List.drop b.int.toNat (bys a.str))) 64) : Int) ∧ b.int + (↑(min (runL ptC (List.drop b.int.toNat (bys a.str))) 64) : Int) ≤ (↑a.str.size : Int) ∧ EqI 1 (kdL (List.drop b.int.toNat (bys a.str))) ∧ a.str.extract b.int.toNat (b.int + (↑(min (runL ptC (List.drop b.int.toNat (bys a.str))) 64) : Int)).toNat = sL (onS (List.drop b.int.toNat (bys a.str))) ∧ EqI 0 (onN (List.drop b.int.toNat (bys a.str))) ∧ b.int = (↑b.int.toNat : Int) ∧ b.int + (↑(min (runL ptC (List.drop b.int.toNat (bys a.str))) 64) : Int) = b.int + (↑(onK (List.drop b.int.toNat (bys a.str))) : Int) ∧ decide (runL ptC (List.drop b.int.toNat (bys a.str)) ≤ 64) = onO (List.drop b.int.toNat (bys a.str)) else (decide (byteAt' a.str b.int.toNat = 48) = true → I64 (b.int + 1)) ∧ ((decide (byteAt' a.str b.int.toNat = 48) && decide (b.int + 1 < (↑a.str.size : Int))) = true → I64 (b.int + 1) ∧ Idx (b.int + 1) a.str.size) ∧ bif decide (byteAt' a.str b.int.toNat = 48) && decide (b.int + 1 < (↑a.str.size : Int)) && decide (byteAt' a.str (b.int + 1).toNat = 120) then 0 ≤ b.int ∧ b.int ≤ (↑a.str.size : Int) ∧ a.str.size ≤ 1099511627776 ∧ b.int + 2 ≤ (↑a.str.size : Int) ∧ 0 ≤ b.int ∧ b.int ≤ b.int + (↑(uiK (List.drop b.int.toNat (bys a.str))) : Int) ∧ b.int + (↑(uiK (List.drop b.int.toNat (bys a.str))) : Int) ≤ (↑a.str.size : Int) ∧ EqI 3 (kdL (List.drop b.int.toNat (bys a.str))) ∧ a.str.extract b.int.toNat (b.int + (↑(uiK (List.drop b.int.toNat (bys a.str))) : Int)).toNat = sL (onS (List.drop b.int.toNat (bys a.str))) ∧ EqI 0 (onN (List.drop b.int.toNat (bys a.str))) ∧ b.int = (↑b.int.toNat : Int) ∧ b.int + (↑(uiK (List.drop b.int.toNat (bys a.str))) : Int) = b.int + (↑(onK (List.drop b.int.toNat (bys a.str))) : Int) ∧ uiO (List.drop b.int.toNat (bys a.str)) = onO (List.drop b.int.toNat (bys a.str)) else (dgC (byteAt' a.str b.int.toNat) = false → (decide (byteAt' a.str b.int.toNat = 45) = true → I64 (b.int + 1)) ∧ ((decide (byteAt' a.str b.int.toNat = 45) && decide (b.int + 1 < (↑a.str.size : Int))) = true → I64 (b.int + 1) ∧ Idx (b.int + 1) a.str.size)) ∧ bif dgC (byteAt' a.str b.int.toNat) || decide (byteAt' a.str b.int.toNat = 45) && decide (b.int + 1 < (↑a.str.size : Int)) && dgC (byteAt' a.str (b.int + 1).toNat) then 0 ≤ b.int ∧ b.int ≤ (↑a.str.size : Int) ∧ a.str.size ≤ 1099511627776 ∧ b.int < (↑a.str.size : Int) ∧ (dgC ((List.drop b.int.toNat (bys a.str)).getD 0 0) = true ∨ (List.drop b.int.toNat (bys a.str)).getD 0 0 = 45 ∧ dgC ((List.drop b.int.toNat (bys a.str)).getD 1 0) = true) ∧ 0 ≤ b.int ∧ b.int ≤ b.int + (↑(nmK (List.drop b.int.toNat (bys a.str))) : Int) ∧ b.int + (↑(nmK (List.drop b.int.toNat (bys a.str))) : Int) ≤ (↑a.str.size : Int) ∧ EqI 2 (kdL (List.drop b.int.toNat (bys a.str))) ∧ a.str.extract b.int.toNat (b.int + (↑(nmK (List.drop b.int.toNat (bys a.str))) : Int)).toNat = sL (onS (List.drop b.int.toNat (bys a.str))) ∧ nmV (List.drop b.int.toNat (bys a.str)) = onN (List.drop b.int.toNat (bys a.str)) ∧ b.int = (↑b.int.toNat : Int) ∧ b.int + (↑(nmK (List.drop b.int.toNat (bys a.str))) : Int) = b.int + (↑(onK (List.drop b.int.toNat (bys a.str))) : Int) ∧ nmO (List.drop b.int.toNat (bys a.str)) = onO (List.drop b.int.toNat (bys a.str)) else bif decide (byteAt' a.str b.int.toNat = 34) then 0 ≤ b.int ∧ b.int < (↑a.str.size : Int) ∧ a.str.size ≤ 1099511627776 ∧ EqI 4 (kdL (List.drop b.int.toNat (bys a.str))) ∧ sL (txS (List.drop b.int.toNat (bys a.str))) = sL (onS (List.drop b.int.toNat (bys a.str))) ∧ EqI 0 (onN (List.drop b.int.toNat (bys a.str))) ∧ b.int = (↑b.int.toNat : Int) ∧ b.int + (↑(txK (List.drop b.int.toNat (bys a.str))) : Int) = b.int + (↑(onK (List.drop b.int.toNat (bys a.str))) : Int) ∧ txO (List.drop b.int.toNat (bys a.str)) = onO (List.drop b.int.toNat (bys a.str)) else bif sgC (byteAt' a.str b.int.toNat) then I64 (b.int + 1) ∧ 0 ≤ b.int ∧ b.int ≤ b.int + 1 ∧ b.int + 1 ≤ (↑a.str.size : Int) ∧ EqI 5 (kdL (List.drop b.int.toNat (bys a.str))) ∧ a.str.extract b.int.toNat (b.int + 1).toNat = sL (onS (List.drop b.int.toNat (bys a.str))) ∧ EqI 0 (onN (List.drop b.int.toNat (bys a.str))) ∧ b.int = (↑b.int.toNat : Int) ∧ b.int + 1 = b.int + (↑(onK (List.drop b.int.toNat (bys a.str))) : Int) ∧ true = onO (List.drop b.int.toNat (bys a.str)) else EqI 0 (kdL (List.drop b.int.toNat (bys a.str))) ∧ (ByteArray.mk #[]) = sL (onS (List.drop b.int.toNat (bys a.str))) ∧ EqI 0 (onN (List.drop b.int.toNat (bys a.str))) ∧ b.int = (↑b.int.toNat : Int) ∧ b.int = b.int + (↑(onK (List.drop b.int.toNat (bys a.str))) : Int) ∧ false = onO (List.drop b.int.toNat (bys a.str))) = conGoal Tryd.prog (addS 45 rfsC (addS 44 rftC (addS 43 rfmC (addS 42 rfdC (addS 41 rfuC (addS 40 rfnC (addS 39 rflC noS))))))) rfoC_an 200 24 rfoC [a, b] := by kernel_rfl
set_option maxHeartbeats 2000000 in
theorem rfoC_ok : ConOK Tryd.prog gl 24 rfoC := con_of mo (addS_ok rfsC_ok (addS_ok rftC_ok (addS_ok rfmC_ok (addS_ok rfdC_ok (addS_ok rfuC_ok (addS_ok rfnC_ok (addS_ok rflC_ok (noS_ok _)))))))) (an := rfoC_an) 200 fun ds hl hp => by
  obtain ⟨a, b, rfl⟩ := len2 hl
  rw [← rfoC_vc]
  have p0 : 0 ≤ b.int := hp _ (.head _)
  have p1 : b.int < a.str.size := hp _ (.tail _ (.head _))
  have p2 : a.str.size ≤ 1099511627776 := hp _ (.tail _ (.tail _ (.head _)))
  obtain ⟨p, hp⟩ := Int.eq_ofNat_of_zero_le p0
  rw [hp] at p1
  rw [hp, Int.toNat_natCast]
  generalize a.str = s at *
  have tk : ∀ k : Nat, ((p : Int) + (k : Int)).toNat = p + k := fun k => by omega
  have ex : ∀ k : Nat, s.extract p ((p : Int) + (k : Int)).toNat = sL (((bys s).drop p).take k) := fun k => by
    rw [tk, extract_sL]; congr 2; omega
  have hlen : ((bys s).drop p).length = s.size - p := by rw [List.length_drop, bys_length]
  have g0 : byteAt' s p = ((bys s).drop p).getD 0 0 := (getD_drop (k := p) (j := 0) (by omega)).symm
  have t1 : ((p : Int) + 1).toNat = p + 1 := by omega
  have g1 : p + 1 < s.size → byteAt' s (p + 1) = ((bys s).drop p).getD 1 0 := fun h => (getD_drop (k := p) (j := 1) h).symm
  have g1' : ¬ p + 1 < s.size → ((bys s).drop p).getD 1 0 = 0 := fun h => by
    rw [List.getD_eq_getElem?_getD, List.getElem?_eq_none (by omega)]; rfl
  rw [t1, g0]
  generalize byteAt' s (p + 1) = x1 at *
  have hd0 : dgC 0 = false := by decide
  have a1 : (decide ((p : Int) + 1 < (s.size : Int)) && decide (x1 = 120)) = decide (((bys s).drop p).getD 1 0 = 120) := by
    by_cases h : p + 1 < s.size
    · rw [g1 h, decide_eq_true (show (p : Int) + 1 < (s.size : Int) by omega), Bool.true_and]
    · rw [g1' h, decide_eq_false (show ¬ (p : Int) + 1 < (s.size : Int) by omega)]; rfl
  have a2 : (decide ((p : Int) + 1 < (s.size : Int)) && dgC x1) = dgC (((bys s).drop p).getD 1 0) := by
    by_cases h : p + 1 < s.size
    · rw [g1 h, decide_eq_true (show (p : Int) + 1 < (s.size : Int) by omega), Bool.true_and]
    · rw [g1' h, decide_eq_false (show ¬ (p : Int) + 1 < (s.size : Int) by omega), hd0]; rfl
  rw [Bool.and_assoc (decide (((bys s).drop p).getD 0 0 = 48)), a1, Bool.and_assoc (decide (((bys s).drop p).getD 0 0 = 45)), a2]
  have hb : (bgC (((bys s).drop p).getD 0 0) && !decide (((bys s).drop p).getD 0 0 = 95) || decide (((bys s).drop p).getD 0 0 = 95)) = bgC (((bys s).drop p).getD 0 0) := by
    by_cases h : ((bys s).drop p).getD 0 0 = 95
    · rw [h]; rfl
    · rw [decide_eq_false h]; simp
  rw [hb]
  have hk : kdL ((bys s).drop p) = if bgC (((bys s).drop p).getD 0 0) = true then 1 else if ((bys s).drop p).getD 0 0 = 48 ∧ ((bys s).drop p).getD 1 0 = 120 then 3 else if dgC (((bys s).drop p).getD 0 0) = true ∨ ((bys s).drop p).getD 0 0 = 45 ∧ dgC (((bys s).drop p).getD 1 0) = true then 2 else if ((bys s).drop p).getD 0 0 = 34 then 4 else if sgC (((bys s).drop p).getD 0 0) = true then 5 else 0 := rfl
  generalize (bys s).drop p = L at *
  have hrl := runL_le ptC L
  refine ⟨⟨by omega, by omega⟩, cond_of (fun c => ?_) (fun c => ?_)⟩
  · rw [if_pos c] at hk
    obtain ⟨k1, k2, k3, k4⟩ := on1 hk
    rw [k1, k2, k3, k4, ex]
    exact ⟨by omega, by omega, p2, by omega, by omega, by omega, hk.symm, rfl, rfl, rfl, rfl, rfl⟩
  rw [if_neg (by rw [c]; decide)] at hk
  refine ⟨fun _ => ⟨by omega, by omega⟩, fun h => ⟨⟨by omega, by omega⟩, by omega, by simp only [Bool.and_eq_true, decide_eq_true_eq] at h; omega⟩, cond_of (fun e => ?_) (fun e => ?_)⟩
  · simp only [Bool.and_eq_true, decide_eq_true_eq] at e
    rw [if_pos e] at hk
    obtain ⟨k1, k2, k3, k4⟩ := on3 hk
    have h2 := kd3_len hk
    have h3 := uiK_le h2
    rw [k1, k2, k3, k4, ex]
    exact ⟨by omega, by omega, p2, by omega, by omega, by omega, by omega, hk.symm, rfl, rfl, rfl, rfl, rfl⟩
  rw [if_neg (fun h => by rw [decide_eq_true h.1, decide_eq_true h.2] at e; cases e)] at hk
  refine ⟨fun _ => ⟨fun _ => ⟨by omega, by omega⟩, fun h => ⟨⟨by omega, by omega⟩, by omega, by simp only [Bool.and_eq_true, decide_eq_true_eq] at h; omega⟩⟩, cond_of (fun f => ?_) (fun f => ?_)⟩
  · simp only [Bool.or_eq_true, Bool.and_eq_true, decide_eq_true_eq] at f
    rw [if_pos f] at hk
    obtain ⟨k1, k2, k3, k4⟩ := on2 hk
    have h3 := nmK_le (L := L) (by omega)
    rw [k1, k2, k3, k4, ex]
    exact ⟨by omega, by omega, p2, by omega, f, by omega, by omega, by omega, hk.symm, rfl, rfl, rfl, rfl, rfl⟩
  rw [if_neg (fun h => by
    rcases h with h | h
    · rw [h] at f; cases f
    · rw [decide_eq_true h.1, h.2, Bool.and_true, Bool.or_true] at f; cases f)] at hk
  refine cond_of (fun d => ?_) (fun d => ?_)
  · rw [if_pos (of_decide_eq_true d)] at hk
    obtain ⟨k1, k2, k3, k4⟩ := on4 hk
    rw [k1, k2, k3, k4]
    exact ⟨by omega, by omega, p2, hk.symm, rfl, rfl, rfl, rfl, rfl⟩
  rw [if_neg (of_decide_eq_false d)] at hk
  refine cond_of (fun g => ?_) (fun g => ?_)
  · rw [if_pos g] at hk
    obtain ⟨k1, k2, k3, k4⟩ := on5 hk
    have ex1 := ex 1
    rw [k1, k2, k3, k4]
    exact ⟨⟨by omega, by omega⟩, by omega, by omega, by omega, hk.symm, ex1, rfl, rfl, rfl, rfl⟩
  · rw [if_neg (by rw [g]; decide)] at hk
    obtain ⟨k1, k2, k3, k4⟩ := on0 hk
    rw [k1, k2, k3, k4]
    exact ⟨hk.symm, rfl, rfl, rfl, by omega, rfl⟩
end Go.Proofs.YtlfafkeamppakaaDoor.XT
