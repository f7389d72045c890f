/- Contracts, by the symbolic evaluator. -/
import Derived.Test.YtlfafkeamppakaaDoorQYP
import Derived.Test.YtlfafkeamppakaaDoorProg
set_option linter.unusedVariables false
set_option linter.unusedSimpArgs false
namespace Go.Proofs.YtlfafkeamppakaaDoor.XT
open Go Go.RowKit Go.Proofs.YtlfafkeamppakaaDoor.Sv
set_option maxRecDepth 100000
theorem runL_le (p : Int → Bool) : ∀ L : List Int, runL p L ≤ L.length
  | [] => Nat.le_refl _
  | c :: r => by
    have := runL_le p r
    rw [runL, List.length_cons]; split <;> omega
theorem uiK_le {L : List Int} (h : 2 ≤ L.length) : uiK L ≤ L.length := by
  have h1 := runL_le hxC (L.drop 2)
  rw [List.length_drop] at h1
  unfold uiK
  split <;> omega
theorem nmG_le (lim : Int) : ∀ (L : List Int) (n : Int), (nmG lim L n).2.1 ≤ L.length
  | [], n => Nat.le_refl _
  | c :: r, n => by
    have := nmG_le lim r (10 * n + (c - 48))
    rw [nmG, List.length_cons]
    split
    · split
      · exact Nat.zero_le _
      · simp only; omega
    · exact Nat.zero_le _
theorem nmK_le {L : List Int} (h : 1 ≤ L.length) : nmK L ≤ L.length := by
  have h1 := nmG_le (liL L) (bdL L) 0
  have h2 : ofL L + (bdL L).length = L.length := by
    rw [bdL_eq, List.length_drop]
    have : ofL L ≤ 1 := by unfold ofL; split <;> omega
    omega
  unfold nmK
  split
  · exact h
  · unfold nmR; omega
theorem on0 {L : List Int} (h : kdL L = 0) : onK L = 0 ∧ onS L = [] ∧ onN L = 0 ∧ onO L = false := by simp [onK, onS, onN, onO, h]
theorem on1 {L : List Int} (h : kdL L = 1) : onK L = min (runL ptC L) 64 ∧ onS L = L.take (min (runL ptC L) 64) ∧ onN L = 0 ∧ onO L = decide (runL ptC L ≤ 64) := by simp [onK, onS, onN, onO, h]
theorem on2 {L : List Int} (h : kdL L = 2) : onK L = nmK L ∧ onS L = L.take (nmK L) ∧ onN L = nmV L ∧ onO L = nmO L := by simp [onK, onS, onN, onO, h]
theorem on3 {L : List Int} (h : kdL L = 3) : onK L = uiK L ∧ onS L = L.take (uiK L) ∧ onN L = 0 ∧ onO L = uiO L := by simp [onK, onS, onN, onO, h]
theorem on4 {L : List Int} (h : kdL L = 4) : onK L = txK L ∧ onS L = txS L ∧ onN L = 0 ∧ onO L = txO L := by simp [onK, onS, onN, onO, h]
theorem on5 {L : List Int} (h : kdL L = 5) : onK L = 1 ∧ onS L = L.take 1 ∧ onN L = 0 ∧ onO L = true := by simp [onK, onS, onN, onO, h]
theorem kd_in (L : List Int) : kdL L = 0 ∨ kdL L = 1 ∨ kdL L = 2 ∨ kdL L = 3 ∨ kdL L = 4 ∨ kdL L = 5 := by
  unfold kdL
  repeat' split
  all_goals simp
theorem kd_len {L : List Int} (h : ¬ kdL L = 0) : 1 ≤ L.length := by
  cases L with
  | nil => exact absurd (by decide) h
  | cons c r => simp
theorem kd3 {L : List Int} (h : kdL L = 3) : L.getD 0 0 = 48 ∧ L.getD 1 0 = 120 := by
  unfold kdL at h
  split at h
  · exact absurd h (by decide)
  split at h
  · assumption
  repeat' split at h
  all_goals exact absurd h (by decide)
theorem kd3_len {L : List Int} (h : kdL L = 3) : 2 ≤ L.length := by
  have := (kd3 h).2
  match L, this with
  | [], h => exact absurd h (by decide)
  | [c], h => exact absurd h (by simp)
  | c :: d :: r, _ => simp
theorem kd2 {L : List Int} (h : kdL L = 2) : dgC (L.getD 0 0) = true ∨ L.getD 0 0 = 45 ∧ dgC (L.getD 1 0) = true := by
  unfold kdL at h
  split at h
  · exact absurd h (by decide)
  split at h
  · exact absurd h (by decide)
  split at h
  · assumption
  repeat' split at h
  all_goals exact absurd h (by decide)
def lxoC : Con := ⟨[.box 51 [.s, (.i .i64)]], fun ds => (fun (a : D) => [0 ≤ (D.int (D.fld a 1)), (D.int (D.fld a 1)) ≤ ((D.str (D.fld a 0))).size, ((D.str (D.fld a 0))).size ≤ 1099511627776]) (nthD ds 0), [.d tokT, .d .b], fun ds => (fun (a : D) => [onT (rst a) ((D.int (D.fld a 1))).toNat, .b (onO (rst a))]) (nthD ds 0), fun ds => (fun (a : D) => [.t [.s ((D.str (D.fld a 0))), .i ((D.int (D.fld a 1)) + onK (rst a))]]) (nthD ds 0)⟩
def lxoC_an : Anns := fun f i => match f, i with
  | 34, 2 => some fun A st => match st.h.get 0 with
    | some (.c t [.v (.string s), .v (.int _ p)]) => ⟨Nat, fun g => [(7, .v (.int .i64 g))], fun g => [(0, .c t [.v (.string s), .v (.int .i64 (p + g))])], fun g => g ≤ 64 ∧ p.toNat + g ≤ s.size ∧ runL ptC ((bys s).drop p.toNat) = g + runL ptC ((bys s).drop (p.toNat + g)), fun g => s.size - (p.toNat + g)⟩
    | _ => LAnn.bad
  | _, _ => none
theorem lxoC_vc (a : D) : (0 ≤ (a.fld 1).int ∧ (a.fld 1).int ≤ (↑(a.fld 0).str.size : Int) ∧ (a.fld 0).str.size ≤ 1099511627776 ∧ 0 ≤ (a.fld 1).int ∧ (a.fld 1).int ≤ (↑(a.fld 0).str.size : Int) ∧ (a.fld 0).str.size ≤ 1099511627776 ∧ kdL (rst (D.t [D.s (a.fld 0).str, D.i (a.fld 1).int])) = kdL (rst (D.t [D.s (a.fld 0).str, D.i (a.fld 1).int])) ∧ (a.fld 1).int = (a.fld 1).int ∧ bif decide (kdL (rst (D.t [D.s (a.fld 0).str, D.i (a.fld 1).int])) = 0) then (a.fld 0).str = (a.fld 0).str ∧ (a.fld 1).int = (a.fld 1).int + (↑(onK (rst a)) : Int) ∧ kdL (rst (D.t [D.s (a.fld 0).str, D.i (a.fld 1).int])) = kdL (rst a) ∧ (ByteArray.mk #[]) = sL (onS (rst a)) ∧ EqI 0 (onN (rst a)) ∧ (a.fld 1).int = (↑(a.fld 1).int.toNat : Int) ∧ false = onO (rst a) else bif decide (kdL (rst (D.t [D.s (a.fld 0).str, D.i (a.fld 1).int])) = 1) then ∃ (g : Nat), EqI 0 (↑g : Int) ∧ (a.fld 0).str = (a.fld 0).str ∧ (a.fld 1).int = (a.fld 1).int + (↑g : Int) ∧ (g ≤ 64 ∧ (a.fld 1).int.toNat + g ≤ (a.fld 0).str.size ∧ runL ptC (List.drop (a.fld 1).int.toNat (bys (a.fld 0).str)) = g + runL ptC (List.drop ((a.fld 1).int.toNat + g) (bys (a.fld 0).str))) ∧ ∀ (g : Nat), g ≤ 64 ∧ (a.fld 1).int.toNat + g ≤ (a.fld 0).str.size ∧ runL ptC (List.drop (a.fld 1).int.toNat (bys (a.fld 0).str)) = g + runL ptC (List.drop ((a.fld 1).int.toNat + g) (bys (a.fld 0).str)) → (decide ((a.fld 1).int + (↑g : Int) < (↑(a.fld 0).str.size : Int)) = true → Idx ((a.fld 1).int + (↑g : Int)) (a.fld 0).str.size) ∧ bif decide ((a.fld 1).int + (↑g : Int) < (↑(a.fld 0).str.size : Int)) && ptC (byteAt' (a.fld 0).str ((a.fld 1).int + (↑g : Int)).toNat) then bif decide ((↑g : Int) = 64) then 0 ≤ (a.fld 1).int ∧ (a.fld 1).int ≤ (a.fld 1).int + (↑g : Int) ∧ (a.fld 1).int + (↑g : Int) ≤ (↑(a.fld 0).str.size : Int) ∧ (a.fld 0).str = (a.fld 0).str ∧ (a.fld 1).int + (↑g : Int) = (a.fld 1).int + (↑(onK (rst a)) : Int) ∧ kdL (rst (D.t [D.s (a.fld 0).str, D.i (a.fld 1).int])) = kdL (rst a) ∧ (a.fld 0).str.extract (a.fld 1).int.toNat ((a.fld 1).int + (↑g : Int)).toNat = sL (onS (rst a)) ∧ EqI 0 (onN (rst a)) ∧ (a.fld 1).int = (↑(a.fld 1).int.toNat : Int) ∧ false = onO (rst a) else I64 ((a.fld 1).int + (↑g : Int) + 1) ∧ I64 ((↑g : Int) + 1) ∧ ∃ (g_1 : Nat), (↑g : Int) + 1 = (↑g_1 : Int) ∧ (a.fld 0).str = (a.fld 0).str ∧ (a.fld 1).int + (↑g : Int) + 1 = (a.fld 1).int + (↑g_1 : Int) ∧ (g_1 ≤ 64 ∧ (a.fld 1).int.toNat + g_1 ≤ (a.fld 0).str.size ∧ runL ptC (List.drop (a.fld 1).int.toNat (bys (a.fld 0).str)) = g_1 + runL ptC (List.drop ((a.fld 1).int.toNat + g_1) (bys (a.fld 0).str))) ∧ (a.fld 0).str.size - ((a.fld 1).int.toNat + g_1) < (a.fld 0).str.size - ((a.fld 1).int.toNat + g) else 0 ≤ (a.fld 1).int ∧ (a.fld 1).int ≤ (a.fld 1).int + (↑g : Int) ∧ (a.fld 1).int + (↑g : Int) ≤ (↑(a.fld 0).str.size : Int) ∧ (a.fld 0).str = (a.fld 0).str ∧ (a.fld 1).int + (↑g : Int) = (a.fld 1).int + (↑(onK (rst a)) : Int) ∧ kdL (rst (D.t [D.s (a.fld 0).str, D.i (a.fld 1).int])) = kdL (rst a) ∧ (a.fld 0).str.extract (a.fld 1).int.toNat ((a.fld 1).int + (↑g : Int)).toNat = sL (onS (rst a)) ∧ EqI 0 (onN (rst a)) ∧ (a.fld 1).int = (↑(a.fld 1).int.toNat : Int) ∧ true = onO (rst a) else bif decide (kdL (rst (D.t [D.s (a.fld 0).str, D.i (a.fld 1).int])) = 3) then 0 ≤ (a.fld 1).int ∧ (a.fld 1).int ≤ (↑(a.fld 0).str.size : Int) ∧ (a.fld 0).str.size ≤ 1099511627776 ∧ (a.fld 1).int + 2 ≤ (↑(a.fld 0).str.size : Int) ∧ 0 ≤ (a.fld 1).int ∧ (a.fld 1).int ≤ (a.fld 1).int + (↑(uiK (rst (D.t [D.s (a.fld 0).str, D.i (a.fld 1).int]))) : Int) ∧ (a.fld 1).int + (↑(uiK (rst (D.t [D.s (a.fld 0).str, D.i (a.fld 1).int]))) : Int) ≤ (↑(a.fld 0).str.size : Int) ∧ (a.fld 0).str = (a.fld 0).str ∧ (a.fld 1).int + (↑(uiK (rst (D.t [D.s (a.fld 0).str, D.i (a.fld 1).int]))) : Int) = (a.fld 1).int + (↑(onK (rst a)) : Int) ∧ kdL (rst (D.t [D.s (a.fld 0).str, D.i (a.fld 1).int])) = kdL (rst a) ∧ (a.fld 0).str.extract (a.fld 1).int.toNat ((a.fld 1).int + (↑(uiK (rst (D.t [D.s (a.fld 0).str, D.i (a.fld 1).int]))) : Int)).toNat = sL (onS (rst a)) ∧ EqI 0 (onN (rst a)) ∧ (a.fld 1).int = (↑(a.fld 1).int.toNat : Int) ∧ uiO (rst (D.t [D.s (a.fld 0).str, D.i (a.fld 1).int])) = onO (rst a) else bif decide (kdL (rst (D.t [D.s (a.fld 0).str, D.i (a.fld 1).int])) = 2) then 0 ≤ (a.fld 1).int ∧ (a.fld 1).int ≤ (↑(a.fld 0).str.size : Int) ∧ (a.fld 0).str.size ≤ 1099511627776 ∧ (a.fld 1).int < (↑(a.fld 0).str.size : Int) ∧ (dgC ((rst (D.t [D.s (a.fld 0).str, D.i (a.fld 1).int])).getD 0 0) = true ∨ (rst (D.t [D.s (a.fld 0).str, D.i (a.fld 1).int])).getD 0 0 = 45 ∧ dgC ((rst (D.t [D.s (a.fld 0).str, D.i (a.fld 1).int])).getD 1 0) = true) ∧ 0 ≤ (a.fld 1).int ∧ (a.fld 1).int ≤ (a.fld 1).int + (↑(nmK (rst (D.t [D.s (a.fld 0).str, D.i (a.fld 1).int]))) : Int) ∧ (a.fld 1).int + (↑(nmK (rst (D.t [D.s (a.fld 0).str, D.i (a.fld 1).int]))) : Int) ≤ (↑(a.fld 0).str.size : Int) ∧ (a.fld 0).str = (a.fld 0).str ∧ (a.fld 1).int + (↑(nmK (rst (D.t [D.s (a.fld 0).str, D.i (a.fld 1).int]))) : Int) = (a.fld 1).int + (↑(onK (rst a)) : Int) ∧ kdL (rst (D.t [D.s (a.fld 0).str, D.i (a.fld 1).int])) = kdL (rst a) ∧ (a.fld 0).str.extract (a.fld 1).int.toNat ((a.fld 1).int + (↑(nmK (rst (D.t [D.s (a.fld 0).str, D.i (a.fld 1).int]))) : Int)).toNat = sL (onS (rst a)) ∧ nmV (rst (D.t [D.s (a.fld 0).str, D.i (a.fld 1).int])) = onN (rst a) ∧ (a.fld 1).int = (↑(a.fld 1).int.toNat : Int) ∧ nmO (rst (D.t [D.s (a.fld 0).str, D.i (a.fld 1).int])) = onO (rst a) else bif decide (kdL (rst (D.t [D.s (a.fld 0).str, D.i (a.fld 1).int])) = 4) then 0 ≤ (a.fld 1).int ∧ (a.fld 1).int ≤ (↑(a.fld 0).str.size : Int) ∧ (a.fld 0).str.size ≤ 1099511627776 ∧ (a.fld 1).int < (↑(a.fld 0).str.size : Int) ∧ (a.fld 0).str = (a.fld 0).str ∧ (a.fld 1).int + (↑(txK (rst (D.t [D.s (a.fld 0).str, D.i (a.fld 1).int]))) : Int) = (a.fld 1).int + (↑(onK (rst a)) : Int) ∧ kdL (rst (D.t [D.s (a.fld 0).str, D.i (a.fld 1).int])) = kdL (rst a) ∧ sL (txS (rst (D.t [D.s (a.fld 0).str, D.i (a.fld 1).int]))) = sL (onS (rst a)) ∧ EqI 0 (onN (rst a)) ∧ (a.fld 1).int = (↑(a.fld 1).int.toNat : Int) ∧ txO (rst (D.t [D.s (a.fld 0).str, D.i (a.fld 1).int])) = onO (rst a) else I64 ((a.fld 1).int + 1) ∧ 0 ≤ (a.fld 1).int ∧ (a.fld 1).int ≤ (a.fld 1).int + 1 ∧ (a.fld 1).int + 1 ≤ (↑(a.fld 0).str.size : Int) ∧ (a.fld 0).str = (a.fld 0).str ∧ (a.fld 1).int + 1 = (a.fld 1).int + (↑(onK (rst a)) : Int) ∧ kdL (rst (D.t [D.s (a.fld 0).str, D.i (a.fld 1).int])) = kdL (rst a) ∧ (a.fld 0).str.extract (a.fld 1).int.toNat ((a.fld 1).int + 1).toNat = sL (onS (rst a)) ∧ EqI 0 (onN (rst a)) ∧ (a.fld 1).int = (↑(a.fld 1).int.toNat : Int) ∧ true = onO (rst a)) = conGoal Tryd.prog (addS 38 lxtC (addS 37 lxnC (addS 36 lxuC (addS 35 lxpC (addS 22 lxkdpC noS))))) lxoC_an 200 23 lxoC [a] := by kernel_rfl
set_option maxHeartbeats 2000000 in
theorem lxoC_ok : ConOK Tryd.prog gl 23 lxoC := con_of mo (addS_ok lxtC_ok (addS_ok lxnC_ok (addS_ok lxuC_ok (addS_ok lxpC_ok (addS_ok lxkdpC_ok (noS_ok _)))))) (an := lxoC_an) 200 fun ds hl hp => by
  obtain ⟨a, rfl⟩ := len1 hl
  rw [← lxoC_vc]
  have p0 : 0 ≤ (D.int (D.fld a 1)) := hp _ (.head _)
  have p1 : (D.int (D.fld a 1)) ≤ ((D.str (D.fld a 0))).size := hp _ (.tail _ (.head _))
  have p2 : ((D.str (D.fld a 0))).size ≤ 1099511627776 := hp _ (.tail _ (.tail _ (.head _)))
  have hR : rst (.t [.s ((D.str (D.fld a 0))), .i ((D.int (D.fld a 1)))]) = rst a := rfl
  rw [hR]
  obtain ⟨p, hp⟩ := Int.eq_ofNat_of_zero_le p0
  rw [hp] at p1
  have hL : rst a = (bys ((D.str (D.fld a 0)))).drop p := by rw [rst, hp, Int.toNat_natCast]
  have hlen : (rst a).length = ((D.str (D.fld a 0))).size - p := by rw [hL, List.length_drop, bys_length]
  have tk : ∀ k : Nat, ((p : Int) + (k : Int)).toNat = p + k := fun k => by omega
  have ex : ∀ k : Nat, ((D.str (D.fld a 0))).extract p ((p : Int) + (k : Int)).toNat = sL ((rst a).take k) := fun k => by
    rw [tk, extract_sL, hL]; congr 2; omega
  rw [hp, Int.toNat_natCast, ← hL]
  generalize hLg : rst a = L at *
  generalize (D.str (D.fld a 0)) = s at *
  refine ⟨by omega, p1, p2, by omega, p1, p2, rfl, rfl, cond_of (fun c => ?_) (fun c => ?_)⟩
  · obtain ⟨k1, k2, k3, k4⟩ := on0 (of_decide_eq_true c)
    rw [k1, k2, k3, k4]
    exact ⟨rfl, by omega, rfl, rfl, rfl, rfl, rfl⟩
  have c0 := of_decide_eq_false c
  have hl1 := kd_len c0
  refine cond_of (fun c => ?_) (fun c => ?_)
  · obtain ⟨k1, k2, k3, k4⟩ := on1 (of_decide_eq_true c)
    have hrl := runL_le ptC L
    rw [k1, k2, k3, k4]
    refine ⟨0, rfl, rfl, by omega, ⟨by omega, by omega, by rw [Nat.add_zero, ← hL]; omega⟩, ?_⟩
    rintro g ⟨g1, g2, g3⟩
    rw [tk g]
    refine ⟨fun h => ⟨by omega, by have := of_decide_eq_true h; omega⟩, cond_of (fun d => ?_) (fun d => ?_)⟩
    · simp only [Bool.and_eq_true, decide_eq_true_eq] at d
      have hg : p + g < s.size := by omega
      have hr : runL ptC ((bys s).drop (p + g)) = runL ptC ((bys s).drop (p + g + 1)) + 1 := by rw [bys_drop hg, runL, if_pos d.2]
      refine cond_of (fun e => ?_) (fun e => ?_)
      · have e : g = 64 := by have := of_decide_eq_true e; omega
        have hm : min (runL ptC L) 64 = g := by rw [Nat.min_eq_right (by omega)]; omega
        have ho : decide (runL ptC L ≤ 64) = false := decide_eq_false (by omega)
        rw [hm, ho, ← tk g, ex g]
        exact ⟨by omega, by omega, by omega, rfl, rfl, rfl, rfl, rfl, rfl, rfl⟩
      · have e := of_decide_eq_false e
        exact ⟨⟨by omega, by omega⟩, ⟨by omega, by omega⟩, g + 1, by omega, rfl, by omega, ⟨by omega, by omega, by rw [show p + (g + 1) = p + g + 1 by omega]; omega⟩, by omega⟩
    · have hr : runL ptC ((bys s).drop (p + g)) = 0 := by
        by_cases hg : p + g < s.size
        · have h : ptC (byteAt' s (p + g)) = false := by
            rw [decide_eq_true (show (p : Int) + (g : Int) < (s.size : Int) by omega), Bool.true_and] at d
            exact d
          rw [bys_drop hg, runL, if_neg (by rw [h]; decide)]
        · rw [bys_end (by omega)]; rfl
      have hm : min (runL ptC L) 64 = g := by rw [Nat.min_eq_left (by omega)]; omega
      have ho : decide (runL ptC L ≤ 64) = true := decide_eq_true (by omega)
      rw [hm, ho, ← tk g, ex g]
      exact ⟨by omega, by omega, by omega, rfl, rfl, rfl, rfl, rfl, rfl, rfl⟩
  have c1 := of_decide_eq_false c
  refine cond_of (fun c => ?_) (fun c => ?_)
  · have c := of_decide_eq_true c
    obtain ⟨k1, k2, k3, k4⟩ := on3 c
    have h2 := kd3_len c
    have h3 := uiK_le h2
    rw [k1, k2, k3, k4, ex]
    exact ⟨by omega, p1, p2, by omega, by omega, by omega, by omega, rfl, rfl, rfl, rfl, rfl, rfl, rfl⟩
  have c3 := of_decide_eq_false c
  refine cond_of (fun c => ?_) (fun c => ?_)
  · have c := of_decide_eq_true c
    obtain ⟨k1, k2, k3, k4⟩ := on2 c
    have h3 := nmK_le hl1
    rw [k1, k2, k3, k4, ex]
    exact ⟨by omega, p1, p2, by omega, kd2 c, by omega, by omega, by omega, rfl, rfl, rfl, rfl, rfl, rfl, rfl⟩
  have c2 := of_decide_eq_false c
  refine cond_of (fun c => ?_) (fun c => ?_)
  · have c := of_decide_eq_true c
    obtain ⟨k1, k2, k3, k4⟩ := on4 c
    rw [k1, k2, k3, k4]
    exact ⟨by omega, p1, p2, by omega, rfl, rfl, rfl, rfl, rfl, rfl, rfl⟩
  have c4 := of_decide_eq_false c
  have c5 : kdL L = 5 := by
    rcases kd_in L with h | h | h | h | h | h
    · exact absurd h c0
    · exact absurd h c1
    · exact absurd h c2
    · exact absurd h c3
    · exact absurd h c4
    · exact h
  obtain ⟨k1, k2, k3, k4⟩ := on5 c5
  have ex1 := ex 1
  rw [k1, k2, k3, k4]
  exact ⟨⟨by omega, by omega⟩, by omega, by omega, by omega, rfl, rfl, rfl, ex1, rfl, rfl, rfl⟩
end Go.Proofs.YtlfafkeamppakaaDoor.XT
