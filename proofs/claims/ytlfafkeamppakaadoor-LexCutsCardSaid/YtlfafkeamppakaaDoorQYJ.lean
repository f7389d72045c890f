/- Contracts, by the symbolic evaluator. -/
import Derived.Test.YtlfafkeamppakaaDoorQYI
import Derived.Test.YtlfafkeamppakaaDoorProg
import Derived.Test.YtlfafkeamppakaaDoorQYR
import Derived.Test.YtlfafkeamppakaaDoorQYP
import Derived.Test.YtlfafkeamppakaaDoorQY4
set_option linter.unusedVariables false
set_option linter.unusedSimpArgs false
namespace Go.Proofs.YtlfafkeamppakaaDoor.XT
open Go Go.RowKit Go.Proofs.YtlfafkeamppakaaDoor.Sv
set_option maxRecDepth 100000
/-- a token's form: may it be one (0: yes)? -/
def foE (t : D) : Int := if (t.fld 0).int = 4 then (if (t.fld 2).int ≠ 0 ∨ 4096 < (t.fld 1).str.size then 2 else 0) else if bys (t.fld 1).str = [] ∨ (t.fld 0).int = 0 ∨ kdL (bys (t.fld 1).str) ≠ (t.fld 0).int ∨ onO (bys (t.fld 1).str) = false ∨ onK (bys (t.fld 1).str) ≠ (t.fld 1).str.size ∨ onN (bys (t.fld 1).str) ≠ (t.fld 2).int then 2 else 0
def foL (t : D) : List Int := if (t.fld 0).int = 4 then quL (bys (t.fld 1).str) else bys (t.fld 1).str
def foS (t : D) : ByteArray := if foE t = 0 then sL (foL t) else (ByteArray.mk #[])
def jnT (r : List (List Int)) : List Int := r.flatMap fun x => 32 :: x
def jnL : List (List Int) → List Int
  | [] => []
  | x :: r => x ++ jnT r
def joE (l : List D) : Int := if l.all (fun t => decide (foE t = 0)) = true then 0 else 2
def joS (l : List D) : ByteArray := if joE l = 0 then sL (jnL (l.map foL)) else (ByteArray.mk #[])
theorem jnL_snoc (xs : List (List Int)) (x : List Int) : jnL (xs ++ [x]) = if xs = [] then x else jnL xs ++ 32 :: x := by
  cases xs with
  | nil => simp [jnL, jnT]
  | cons y r => simp [jnL, jnT]
theorem bys_mk (l : List UInt8) : bys ⟨l.toArray⟩ = nums l := rfl
theorem nums_app (a b : List UInt8) : nums (a ++ b) = nums a ++ nums b := by simp [nums]
theorem nums_tail : ∀ r : List D, nums (Lib.joinTail [32] (r.map fun x => x.str.data.toList)) = jnT (r.map fun x => bys x.str)
  | [] => rfl
  | x :: r => by
    have h := nums_tail r
    simp only [Lib.joinTail, List.map_cons, List.flatten_cons, nums_app] at h ⊢
    rw [h]
    simp [jnT, nums, bys]
theorem bys_joinS (xs : List D) : bys (joinS xs (ByteArray.mk #[32])) = jnL (xs.map fun x => bys x.str) := by
  unfold joinS
  rw [bys_mk]
  cases xs with
  | nil => rfl
  | cons x r =>
    rw [List.map_cons, Lib.join_cons, nums_app]
    have := nums_tail r
    have e : (ByteArray.mk #[32]).data.toList = [32] := rfl
    rw [e, this]; rfl
theorem hxd_in {v : Int} (h : 0 ≤ v ∧ v < 16) : 0 ≤ hxd v ∧ hxd v < 256 := by unfold hxd; split <;> omega
theorem esc_in {c : Int} (h : 0 ≤ c ∧ c < 256) : ∀ d ∈ escC c, 0 ≤ d ∧ d < 256 := by
  unfold escC
  have h1 := hxd_in (v := c / 16) (by omega)
  have h2 := hxd_in (v := c % 16) (by omega)
  repeat' split
  all_goals intro d hd; simp only [List.mem_cons, List.not_mem_nil, or_false] at hd
  · rcases hd with rfl | rfl <;> omega
  · rcases hd with rfl | rfl <;> omega
  · rcases hd with rfl | rfl | rfl | rfl <;> omega
  · subst hd; omega
theorem qu_in {L : List Int} (h : ∀ c ∈ L, 0 ≤ c ∧ c < 256) : ∀ d ∈ quL L, 0 ≤ d ∧ d < 256 := by
  intro d hd
  simp only [quL, qtL, List.mem_cons, List.mem_append, List.mem_flatMap, List.not_mem_nil, or_false] at hd
  rcases hd with rfl | ⟨c, hc, hd⟩ | rfl
  · omega
  · exact esc_in (h c hc) d hd
  · omega
theorem foL_in (t : D) : ∀ d ∈ foL t, 0 ≤ d ∧ d < 256 := by
  unfold foL
  split
  · exact qu_in (bys_all_in _)
  · exact bys_all_in _
theorem foS_bys {t : D} (h : foE t = 0) : bys (foS t) = foL t := by rw [foS, if_pos h, bys_sL (foL_in t)]
theorem fo_bad {a : D} (h : foE a = 2) : (ByteArray.mk #[]) = foS a ∧ EqI 2 (foE a) := ⟨by rw [foS, h]; rfl, h.symm⟩
theorem fo_good {a : D} {s : ByteArray} (h : foE a = 0) (k : s = sL (foL a)) : s = foS a ∧ EqI 0 (foE a) := ⟨by rw [foS, if_pos h]; exact k, h.symm⟩
theorem jo_bad {l : List D} {t : D} (h : t ∈ l) (k : ¬ foE t = 0) : (ByteArray.mk #[]) = joS l ∧ foE t = joE l := by
  have e : joE l = 2 := if_neg fun h' => k (of_decide_eq_true (List.all_eq_true.1 h' t h))
  have k2 : foE t = 2 := by
    unfold foE at k ⊢
    split
    · rename_i h4; rw [if_pos h4] at k; split
      · rfl
      · rename_i h5; rw [if_neg h5] at k; exact absurd rfl k
    · rename_i h4; rw [if_neg h4] at k; split
      · rfl
      · rename_i h5; rw [if_neg h5] at k; exact absurd rfl k
  exact ⟨by rw [joS, e]; rfl, by rw [e, k2]⟩
theorem jo_good {l : List D} (h : ∀ t ∈ l, foE t = 0) : joE l = 0 ∧ joS l = sL (jnL (l.map foL)) := by
  have e : joE l = 0 := if_pos (List.all_eq_true.2 fun t ht => decide_eq_true (h t ht))
  exact ⟨e, by rw [joS, if_pos e]⟩
theorem nth_mem {l : List D} {g : Nat} (h : g < l.length) : nthD l g ∈ l := by
  have := List.getElem?_eq_getElem h
  rw [nthD_get this]; exact List.getElem_mem h
theorem take_nth {l : List D} {g : Nat} (h : g < l.length) : l.take (g + 1) = l.take g ++ [nthD l g] := by
  rw [List.take_add_one, List.getElem?_eq_getElem h, nthD_get (List.getElem?_eq_getElem h)]; rfl
theorem bys_emp {s : ByteArray} : bys s = [] ↔ s = (ByteArray.mk #[]) := by
  rw [emS_size, ← bys_length]
  exact ⟨fun h => by rw [h]; rfl, fun h => List.eq_nil_of_length_eq_zero h⟩
theorem nm_cnt {lim : Int} (hl : lim < 10000000000000000000) : ∀ (L : List Int) (n : Int) (j : Nat), ((10 ^ j : Nat) : Int) ≤ n → n ≤ lim → (nmG lim L n).2.1 + j ≤ 18 := by
  have top : ∀ (n : Int) (j : Nat), ((10 ^ j : Nat) : Int) ≤ n → n ≤ lim → j ≤ 18 := fun n j h1 h2 => by
    rcases Nat.lt_or_ge 18 j with h | h
    · have := Nat.pow_le_pow_right (n := 10) (by omega) (show 19 ≤ j by omega)
      have e : (10 : Nat) ^ 19 = 10000000000000000000 := by decide
      omega
    · exact h
  intro L
  induction L with
  | nil => intro n j h1 h2; have := top n j h1 h2; rw [nmG]; simpa using this
  | cons c r ih =>
    intro n j h1 h2
    have := top n j h1 h2
    rw [nmG]
    split
    · rename_i hc
      split
      · simpa using this
      · rename_i h3
        have hc := dgC_iff.1 hc
        have e : (10 : Nat) ^ (j + 1) = 10 * 10 ^ j := by rw [Nat.pow_succ]; omega
        have := ih (10 * n + (c - 48)) (j + 1) (by rw [e]; omega) (by omega)
        simp only; omega
    · simpa using this
theorem nmK_20 {L : List Int} : nmK L ≤ 20 := by
  unfold nmK
  split
  · omega
  · rename_i h48
    have ho : ofL L ≤ 1 := by unfold ofL; split <;> omega
    have hli : liL L < 10000000000000000000 := by unfold liL; split <;> omega
    have hn : (nmR L).2.1 ≤ 19 := by
      unfold nmR
      cases hb : bdL L with
      | nil => rw [nmG]; simp
      | cons c r =>
        rw [hb] at h48
        have h48 : ¬ c = 48 := h48
        rw [nmG]
        split
        · rename_i hc
          have hc := dgC_iff.1 hc
          split
          · simp
          · rename_i h3
            have := nm_cnt hli r (10 * 0 + (c - 48)) 0 (by simp; omega) (by omega)
            simp only; omega
        · simp
    omega
theorem onK_short {L : List Int} (h4 : kdL L ≠ 4) : onK L ≤ 64 := by
  rcases kd_in L with h | h | h | h | h | h
  · rw [(on0 h).1]; omega
  · rw [(on1 h).1]; omega
  · rw [(on2 h).1]; have := nmK_20 (L := L); omega
  · rw [(on3 h).1]; unfold uiK; split <;> omega
  · exact absurd h h4
  · rw [(on5 h).1]; omega
def lxfC : Con := ⟨[.d true tokT], fun ds => (fun (a : D) => [(a.fld 1).str.size ≤ 1099511627776]) (nthD ds 0), [.d .s, .d (.i .i64)], fun ds => (fun (a : D) => [.s (foS a), .i (foE a)]) (nthD ds 0), fun ds => []⟩
def lxfC_an : Anns := fun _ _ => none
theorem lxfC_vc (a : D) : (bif decide ((a.fld 0).int = 4) then bif !decide ((a.fld 2).int = 0) || decide (4096 < (↑(a.fld 1).str.size : Int)) then (ByteArray.mk #[]) = foS a ∧ EqI 2 (foE a) else (a.fld 1).str.size ≤ 1099511627776 ∧ sL (quL (bys (a.fld 1).str)) = foS a ∧ EqI 0 (foE a) else ((decide ((a.fld 1).str = (ByteArray.mk #[])) || decide ((a.fld 0).int = 0)) = false → LeI 0 0 ∧ 0 ≤ (↑(a.fld 1).str.size : Int) ∧ (a.fld 1).str.size ≤ 1099511627776) ∧ bif decide ((a.fld 1).str = (ByteArray.mk #[])) || decide ((a.fld 0).int = 0) || !decide (kdL (rst (D.t [D.s (a.fld 1).str, D.i 0])) = (a.fld 0).int) then (ByteArray.mk #[]) = foS a ∧ EqI 2 (foE a) else LeI 0 0 ∧ 0 ≤ (↑(a.fld 1).str.size : Int) ∧ (a.fld 1).str.size ≤ 1099511627776 ∧ bif !onO (rst (D.t [D.s (a.fld 1).str, D.i 0])) || !decide (0 + (↑(onK (rst (D.t [D.s (a.fld 1).str, D.i 0]))) : Int) = (↑(a.fld 1).str.size : Int)) || !decide (onN (rst (D.t [D.s (a.fld 1).str, D.i 0])) = (a.fld 2).int) then (ByteArray.mk #[]) = foS a ∧ EqI 2 (foE a) else (a.fld 1).str = foS a ∧ EqI 0 (foE a)) = conGoal Tryd.prog (addS 23 lxoC (addS 22 lxkdpC (addS 18 lxTC noS))) lxfC_an 200 14 lxfC [a] := by kernel_rfl
theorem lxfC_ok : ConOK Tryd.prog gl 14 lxfC := con_of mo (addS_ok lxoC_ok (addS_ok lxkdpC_ok (addS_ok lxTC_ok (noS_ok _)))) (an := lxfC_an) 200 fun ds hl hp => by
  obtain ⟨a, rfl⟩ := len1 hl
  rw [← lxfC_vc]
  have p0 : (a.fld 1).str.size ≤ 1099511627776 := hp _ (.head _)
  have hF4 : (a.fld 0).int = 4 → foE a = if (a.fld 2).int ≠ 0 ∨ 4096 < (a.fld 1).str.size then 2 else 0 := fun h => if_pos h
  have hFn : ¬ (a.fld 0).int = 4 → foE a = if bys (a.fld 1).str = [] ∨ (a.fld 0).int = 0 ∨ kdL (bys (a.fld 1).str) ≠ (a.fld 0).int ∨ onO (bys (a.fld 1).str) = false ∨ onK (bys (a.fld 1).str) ≠ (a.fld 1).str.size ∨ onN (bys (a.fld 1).str) ≠ (a.fld 2).int then 2 else 0 := fun h => if_neg h
  have hG4 : (a.fld 0).int = 4 → foL a = quL (bys (a.fld 1).str) := fun h => if_pos h
  have hGn : ¬ (a.fld 0).int = 4 → foL a = bys (a.fld 1).str := fun h => if_neg h
  have hR : rst (.t [.s (a.fld 1).str, .i 0]) = bys (a.fld 1).str := rfl
  have hdr : (bys (a.fld 1).str).drop (Int.toNat 0) = bys (a.fld 1).str := rfl
  refine cond_of (fun c => ?_) (fun c => ?_)
  · have c := of_decide_eq_true c
    refine cond_of (fun d => ?_) (fun d => ⟨p0, ?_⟩)
    · refine fo_bad ((hF4 c).trans (if_pos ?_))
      simp only [Bool.or_eq_true, Bool.not_eq_true', decide_eq_true_eq, decide_eq_false_iff_not] at d
      omega
    · refine fo_good ((hF4 c).trans (if_neg ?_)) (by rw [hG4 c])
      simp only [Bool.or_eq_false_iff, Bool.not_eq_false', decide_eq_true_eq, decide_eq_false_iff_not] at d
      omega
  have c := of_decide_eq_false c
  
  rw [hR]
  refine ⟨fun _ => ⟨by decide, by omega, p0⟩, cond_of (fun d => ?_) (fun d => ?_)⟩
  · refine fo_bad ((hFn c).trans (if_pos ?_))
    simp only [Bool.or_eq_true, Bool.not_eq_true', decide_eq_true_eq, decide_eq_false_iff_not] at d
    rcases d with (d | d) | d
    · exact .inl (bys_emp.2 d)
    · exact .inr (.inl d)
    · exact .inr (.inr (.inl d))
  simp only [Bool.or_eq_false_iff, Bool.not_eq_false', decide_eq_true_eq, decide_eq_false_iff_not] at d
  obtain ⟨⟨d1, d2⟩, d3⟩ := d
  refine ⟨by decide, by omega, p0, cond_of (fun e => ?_) (fun e => ?_)⟩
  · refine fo_bad ((hFn c).trans (if_pos ?_))
    simp only [Bool.or_eq_true, Bool.not_eq_true', decide_eq_false_iff_not] at e
    rcases e with (e | e) | e
    · exact .inr (.inr (.inr (.inl e)))
    · exact .inr (.inr (.inr (.inr (.inl (by omega)))))
    · exact .inr (.inr (.inr (.inr (.inr e))))
  · simp only [Bool.or_eq_false_iff, Bool.not_eq_false', decide_eq_true_eq] at e
    obtain ⟨⟨e1, e2⟩, e3⟩ := e
    refine fo_good ((hFn c).trans (if_neg ?_)) (by rw [hGn c, sL_bys])
    rintro (k | k | k | k | k | k)
    · exact d1 (bys_emp.1 k)
    · exact d2 k
    · exact k d3
    · rw [e1] at k; cases k
    · exact k (by omega)
    · exact k e3
def rfFoC : Con := ⟨[.d true tokT], fun ds => (fun (a : D) => [(a.fld 1).str.size ≤ 1099511627776]) (nthD ds 0), [.d .s, .d (.i .i64)], fun ds => (fun (a : D) => [.s (foS a), .i (foE a)]) (nthD ds 0), fun ds => []⟩
def rfFoC_an : Anns := fun _ _ => none
theorem rfFoC_vc (a : D) : (bif decide ((a.fld 0).int = 4) then bif !decide ((a.fld 2).int = 0) || decide (4096 < (↑(a.fld 1).str.size : Int)) then (ByteArray.mk #[]) = foS a ∧ EqI 2 (foE a) else (a.fld 1).str.size ≤ 1099511627776 ∧ sL (quL (bys (a.fld 1).str)) = foS a ∧ EqI 0 (foE a) else bif decide ((a.fld 1).str = (ByteArray.mk #[])) || !decide ((a.fld 0).int = 1) && !decide ((a.fld 0).int = 2) && !decide ((a.fld 0).int = 3) && !decide ((a.fld 0).int = 5) then (ByteArray.mk #[]) = foS a ∧ EqI 2 (foE a) else bif decide (100 < (↑(a.fld 1).str.size : Int)) then (ByteArray.mk #[]) = foS a ∧ EqI 2 (foE a) else LeI 0 0 ∧ 0 < (↑(a.fld 1).str.size : Int) ∧ (a.fld 1).str.size ≤ 1099511627776 ∧ bif !onO (List.drop (Int.toNat 0) (bys (a.fld 1).str)) || !decide (0 + (↑(onK (List.drop (Int.toNat 0) (bys (a.fld 1).str))) : Int) = (↑(a.fld 1).str.size : Int)) || !decide (kdL (List.drop (Int.toNat 0) (bys (a.fld 1).str)) = (a.fld 0).int) || !decide (onN (List.drop (Int.toNat 0) (bys (a.fld 1).str)) = (a.fld 2).int) then (ByteArray.mk #[]) = foS a ∧ EqI 2 (foE a) else (a.fld 1).str = foS a ∧ EqI 0 (foE a)) = conGoal Tryd.prog (addS 24 rfoC (addS 19 rfxC noS)) rfFoC_an 200 15 rfFoC [a] := by kernel_rfl
theorem rfFoC_ok : ConOK Tryd.prog gl 15 rfFoC := con_of mo (addS_ok rfoC_ok (addS_ok rfxC_ok (noS_ok _))) (an := rfFoC_an) 200 fun ds hl hp => by
  obtain ⟨a, rfl⟩ := len1 hl
  rw [← rfFoC_vc]
  have p0 : (a.fld 1).str.size ≤ 1099511627776 := hp _ (.head _)
  have hF4 : (a.fld 0).int = 4 → foE a = if (a.fld 2).int ≠ 0 ∨ 4096 < (a.fld 1).str.size then 2 else 0 := fun h => if_pos h
  have hFn : ¬ (a.fld 0).int = 4 → foE a = if bys (a.fld 1).str = [] ∨ (a.fld 0).int = 0 ∨ kdL (bys (a.fld 1).str) ≠ (a.fld 0).int ∨ onO (bys (a.fld 1).str) = false ∨ onK (bys (a.fld 1).str) ≠ (a.fld 1).str.size ∨ onN (bys (a.fld 1).str) ≠ (a.fld 2).int then 2 else 0 := fun h => if_neg h
  have hG4 : (a.fld 0).int = 4 → foL a = quL (bys (a.fld 1).str) := fun h => if_pos h
  have hGn : ¬ (a.fld 0).int = 4 → foL a = bys (a.fld 1).str := fun h => if_neg h
  have hR : rst (.t [.s (a.fld 1).str, .i 0]) = bys (a.fld 1).str := rfl
  have hdr : (bys (a.fld 1).str).drop (Int.toNat 0) = bys (a.fld 1).str := rfl
  refine cond_of (fun c => ?_) (fun c => ?_)
  · have c := of_decide_eq_true c
    refine cond_of (fun d => ?_) (fun d => ⟨p0, ?_⟩)
    · refine fo_bad ((hF4 c).trans (if_pos ?_))
      simp only [Bool.or_eq_true, Bool.not_eq_true', decide_eq_true_eq, decide_eq_false_iff_not] at d
      omega
    · refine fo_good ((hF4 c).trans (if_neg ?_)) (by rw [hG4 c])
      simp only [Bool.or_eq_false_iff, Bool.not_eq_false', decide_eq_true_eq, decide_eq_false_iff_not] at d
      omega
  have c := of_decide_eq_false c
  
  rw [hdr]
  have hsz : bys (a.fld 1).str = [] ↔ (a.fld 1).str.size = 0 := by rw [bys_emp, emS_size]
  refine cond_of (fun d => ?_) (fun d => ?_)
  · refine fo_bad ((hFn c).trans (if_pos ?_))
    simp only [Bool.or_eq_true, Bool.and_eq_true, Bool.not_eq_true', decide_eq_true_eq, decide_eq_false_iff_not] at d
    rcases d with d | d
    · exact .inl (bys_emp.2 d)
    · have hk := kd_in (bys (a.fld 1).str)
      by_cases h : kdL (bys (a.fld 1).str) = (a.fld 0).int
      · exact .inr (.inl (by omega))
      · exact .inr (.inr (.inl h))
  simp only [Bool.or_eq_false_iff, decide_eq_false_iff_not] at d
  obtain ⟨d1, d2⟩ := d
  refine cond_of (fun f => ?_) (fun f => ?_)
  · have f := of_decide_eq_true f
    refine fo_bad ((hFn c).trans (if_pos ?_))
    by_cases h : kdL (bys (a.fld 1).str) = (a.fld 0).int
    · have := onK_short (L := bys (a.fld 1).str) (by omega)
      exact .inr (.inr (.inr (.inr (.inl (by omega)))))
    · exact .inr (.inr (.inl h))
  have hpos : 0 < (a.fld 1).str.size := by
    have : ¬ (a.fld 1).str.size = 0 := fun h => d1 (emS_size.2 h)
    omega
  refine ⟨by decide, by omega, p0, cond_of (fun e => ?_) (fun e => ?_)⟩
  · refine fo_bad ((hFn c).trans (if_pos ?_))
    simp only [Bool.or_eq_true, Bool.not_eq_true', decide_eq_false_iff_not] at e
    rcases e with ((e | e) | e) | e
    · exact .inr (.inr (.inr (.inl e)))
    · exact .inr (.inr (.inr (.inr (.inl (by omega)))))
    · exact .inr (.inr (.inl e))
    · exact .inr (.inr (.inr (.inr (.inr e))))
  · simp only [Bool.or_eq_false_iff, Bool.not_eq_false', decide_eq_true_eq] at e
    obtain ⟨⟨⟨e1, e2⟩, e4⟩, e3⟩ := e
    refine fo_good ((hFn c).trans (if_neg ?_)) (by rw [hGn c, sL_bys])
    have hz : ¬ (a.fld 0).int = 0 := fun h => by rw [h] at d2; cases d2
    rintro (k | k | k | k | k | k)
    · exact d1 (bys_emp.1 k)
    · exact hz k
    · exact k e4
    · rw [e1] at k; cases k
    · exact k (by omega)
    · exact k e3
theorem jnT_take (r : List (List Int)) (g : Nat) : (jnT (r.take g)).length ≤ (jnT r).length := by
  conv => rhs; rw [← List.take_append_drop g r]
  unfold jnT
  rw [List.flatMap_append, List.length_append]; omega
theorem jnL_take (l : List (List Int)) (g : Nat) : (jnL (l.take g)).length ≤ (jnL l).length := by
  cases l with
  | nil => simp
  | cons x r =>
    cases g with
    | zero => simp [jnL]
    | succ g => rw [List.take_succ_cons, jnL, jnL, List.length_append, List.length_append]; have := jnT_take r g; omega
theorem foL_len (t : D) : (foL t).length ≤ 4 * (t.fld 1).str.size + 2 := by
  unfold foL
  split
  · have := qt_len (bys (t.fld 1).str)
    rw [bys_length] at this
    simp only [quL, List.length_cons, List.length_append, List.length_nil]; omega
  · rw [bys_length]; omega
theorem take_all {l : List D} {g : Nat} (hg : g < l.length) (h : ∀ t ∈ l.take g, foE t = 0) (k : foE (nthD l g) = 0) : ∀ t ∈ l.take (g + 1), foE t = 0 := by
  rw [take_nth hg]
  intro t ht
  rcases List.mem_append.1 ht with ht | ht
  · exact h t ht
  · simp only [List.mem_singleton] at ht; rw [ht]; exact k
theorem forms_bys {l : List D} (h : ∀ t ∈ l, foE t = 0) : ((l.map fun t => D.s (foS t)).map fun x => bys x.str) = l.map foL := by
  rw [List.map_map]
  exact List.map_congr_left fun t ht => foS_bys (h t ht)
def lxJC : Con := ⟨[.d true (.l tokT)], fun ds => (fun (a : D) => [a.list.length ≤ 1099511627776, ∀ t ∈ a.list, (t.fld 1).str.size ≤ 1099511627776, (jnL (a.list.map foL)).length ≤ 140737488355328]) (nthD ds 0), [.d .s, .d (.i .i64)], fun ds => (fun (a : D) => [.s (joS a.list), .i (joE a.list)]) (nthD ds 0), fun ds => []⟩
def lxJC_an : Anns := fun f i => match f, i with
  | 16, 2000003 => some fun A st => ⟨Unit, fun _ => [], fun _ => [(4, .q 9 .s [])], fun _ => True, fun _ => 0⟩
  | 16, 3 => some fun A st => match A.get 0 with
    | some (.dl _ _ xs) => ⟨Nat, fun g => [(11, .v (.int .i64 g)), (4, .ow st.nx g)], fun g => [(st.nx, .q 9 .s ((xs.take g).map fun t => .s (foS t)))], fun g => g ≤ xs.length ∧ ∀ t ∈ xs.take g, foE t = 0, fun g => xs.length - g⟩
    | _ => LAnn.bad
  | _, _ => none
theorem lxJC_vc (a : D) : (∃ (g : Unit), ∃ (g : Nat), EqI 0 (↑g : Int) ∧ 0 = g ∧ [] = List.map (fun (t : D) ↦ D.s (foS t)) (List.take g a.list) ∧ (g ≤ a.list.length ∧ ∀ (t : D), t ∈ List.take g a.list → foE t = 0) ∧ ∀ (g : Nat), (g ≤ a.list.length ∧ ∀ (t : D), t ∈ List.take g a.list → foE t = 0) → bif decide ((↑g : Int) < (↑a.list.length : Int)) then Idx (↑g : Int) a.list.length ∧ ((nthD a.list g).fld 1).str.size ≤ 1099511627776 ∧ bif !decide (foE (nthD a.list g) = 0) then (ByteArray.mk #[]) = joS a.list ∧ foE (nthD a.list g) = joE a.list else (g + [D.s (foS (nthD a.list g))].length) * 16 ≤ 140737488355328 ∧ g + [D.s (foS (nthD a.list g))].length ≤ 9223372036854775807 ∧ I64 ((↑g : Int) + 1) ∧ ∃ (g_1 : Nat), (↑g : Int) + 1 = (↑g_1 : Int) ∧ g + [D.s (foS (nthD a.list g))].length = g_1 ∧ List.take g (List.map (fun (t : D) ↦ D.s (foS t)) (List.take g a.list)) ++ [D.s (foS (nthD a.list g))] = List.map (fun (t : D) ↦ D.s (foS t)) (List.take g_1 a.list) ∧ (g_1 ≤ a.list.length ∧ ∀ (t : D), t ∈ List.take g_1 a.list → foE t = 0) ∧ a.list.length - g_1 < a.list.length - g else (List.take g (List.map (fun (t : D) ↦ D.s (foS t)) (List.take g a.list))).length ≤ 140737488355328 ∧ (joinS (List.take g (List.map (fun (t : D) ↦ D.s (foS t)) (List.take g a.list))) (ByteArray.mk #[32])).size ≤ 140737488355328 ∧ joinS (List.take g (List.map (fun (t : D) ↦ D.s (foS t)) (List.take g a.list))) (ByteArray.mk #[32]) = joS a.list ∧ EqI 0 (joE a.list)) = conGoal Tryd.prog (addS 26 joinC (addS 14 lxfC noS)) lxJC_an 200 16 lxJC [a] := by kernel_rfl
theorem lxJC_ok : ConOK Tryd.prog gl 16 lxJC := con_of mo (addS_ok joinC_ok (addS_ok lxfC_ok (noS_ok _))) (an := lxJC_an) 200 fun ds hl hp => by
  obtain ⟨a, rfl⟩ := len1 hl
  rw [← lxJC_vc]
  have p0 : a.list.length ≤ 1099511627776 := hp _ (.head _)
  have p1 : ∀ t ∈ a.list, (t.fld 1).str.size ≤ 1099511627776 := hp _ (.tail _ (.head _))
  have p2 : (jnL (a.list.map foL)).length ≤ 140737488355328 := hp _ (.tail _ (.tail _ (.head _)))
  generalize a.list = l at *
  refine ⟨(), 0, rfl, rfl, rfl, ⟨Nat.zero_le _, by simp⟩, ?_⟩
  rintro g ⟨g1, g2⟩
  have tk : List.take g (List.map (fun t => D.s (foS t)) (List.take g l)) = List.map (fun t => D.s (foS t)) (List.take g l) := List.take_of_length_le (by rw [List.length_map, List.length_take]; omega)
  rw [tk]
  refine cond_of (fun c => ?_) (fun c => ?_)
  · have hg : g < l.length := by have := of_decide_eq_true c; omega
    refine ⟨⟨by omega, by omega⟩, p1 _ (nth_mem hg), cond_of (fun d => ?_) (fun d => ?_)⟩
    · simp only [Bool.not_eq_true', decide_eq_false_iff_not] at d
      exact jo_bad (nth_mem hg) d
    · simp only [Bool.not_eq_false', decide_eq_true_eq] at d
      refine ⟨by simp; omega, by simp; omega, ⟨by omega, by omega⟩, g + 1, by omega, by simp, ?_, ⟨by omega, take_all hg g2 d⟩, by omega⟩
      rw [take_nth hg, List.map_append]; rfl
  · have hg : g = l.length := by have := of_decide_eq_false c; omega
    have ha : List.take g l = l := List.take_of_length_le (by omega)
    rw [ha] at g2 ⊢
    obtain ⟨e1, e2⟩ := jo_good g2
    have hb := bys_joinS (l.map fun t => D.s (foS t))
    rw [forms_bys g2] at hb
    have hs : joinS (l.map fun t => D.s (foS t)) (ByteArray.mk #[32]) = sL (jnL (l.map foL)) := by rw [← hb, sL_bys]
    rw [hs, e1, e2]
    exact ⟨by rw [List.length_map]; omega, by rw [sL_size]; exact p2, rfl, rfl⟩
def rfJC : Con := ⟨[.d true (.l tokT)], fun ds => (fun (a : D) => [a.list.length ≤ 1099511627776, ∀ t ∈ a.list, (t.fld 1).str.size ≤ 1099511627776, (jnL (a.list.map foL)).length ≤ 140737488355328]) (nthD ds 0), [.d .s, .d (.i .i64)], fun ds => (fun (a : D) => [.s (joS a.list), .i (joE a.list)]) (nthD ds 0), fun ds => []⟩
def rfJC_an : Anns := fun f i => match f, i with
  | 17, 3 => some fun A st => match A.get 0 with
    | some (.dl _ _ xs) => ⟨Nat, fun g => [(5, .v (.int .i64 g)), (4, .v (.string (sL (jnL ((xs.take g).map foL)))))], fun g => [], fun g => g ≤ xs.length ∧ ∀ t ∈ xs.take g, foE t = 0, fun g => xs.length - g⟩
    | _ => LAnn.bad
  | _, _ => none
theorem rfJC_vc (a : D) : (∃ (g : Nat), EqI 0 (↑g : Int) ∧ (ByteArray.mk #[]) = sL (jnL (List.map foL (List.take g a.list))) ∧ (g ≤ a.list.length ∧ ∀ (t : D), t ∈ List.take g a.list → foE t = 0) ∧ ∀ (g : Nat), (g ≤ a.list.length ∧ ∀ (t : D), t ∈ List.take g a.list → foE t = 0) → bif decide ((↑g : Int) < (↑a.list.length : Int)) then Idx (↑g : Int) a.list.length ∧ ((nthD a.list g).fld 1).str.size ≤ 1099511627776 ∧ bif !decide (foE (nthD a.list g) = 0) then (ByteArray.mk #[]) = joS a.list ∧ foE (nthD a.list g) = joE a.list else bif decide (0 < (↑g : Int)) then (sL (jnL (List.map foL (List.take g a.list)))).size + (ByteArray.mk #[32]).size ≤ 9223372036854775807 ∧ (sL (jnL (List.map foL (List.take g a.list))) ++ ByteArray.mk #[32]).size + (foS (nthD a.list g)).size ≤ 9223372036854775807 ∧ I64 ((↑g : Int) + 1) ∧ ∃ (g_1 : Nat), (↑g : Int) + 1 = (↑g_1 : Int) ∧ sL (jnL (List.map foL (List.take g a.list))) ++ ByteArray.mk #[32] ++ foS (nthD a.list g) = sL (jnL (List.map foL (List.take g_1 a.list))) ∧ (g_1 ≤ a.list.length ∧ ∀ (t : D), t ∈ List.take g_1 a.list → foE t = 0) ∧ a.list.length - g_1 < a.list.length - g else (sL (jnL (List.map foL (List.take g a.list)))).size + (foS (nthD a.list g)).size ≤ 9223372036854775807 ∧ I64 ((↑g : Int) + 1) ∧ ∃ (g_1 : Nat), (↑g : Int) + 1 = (↑g_1 : Int) ∧ sL (jnL (List.map foL (List.take g a.list))) ++ foS (nthD a.list g) = sL (jnL (List.map foL (List.take g_1 a.list))) ∧ (g_1 ≤ a.list.length ∧ ∀ (t : D), t ∈ List.take g_1 a.list → foE t = 0) ∧ a.list.length - g_1 < a.list.length - g else sL (jnL (List.map foL (List.take g a.list))) = joS a.list ∧ EqI 0 (joE a.list)) = conGoal Tryd.prog (addS 15 rfFoC noS) rfJC_an 200 17 rfJC [a] := by kernel_rfl
theorem rfJC_ok : ConOK Tryd.prog gl 17 rfJC := con_of mo (addS_ok rfFoC_ok (noS_ok _)) (an := rfJC_an) 200 fun ds hl hp => by
  obtain ⟨a, rfl⟩ := len1 hl
  rw [← rfJC_vc]
  have p0 : a.list.length ≤ 1099511627776 := hp _ (.head _)
  have p1 : ∀ t ∈ a.list, (t.fld 1).str.size ≤ 1099511627776 := hp _ (.tail _ (.head _))
  have p2 : (jnL (a.list.map foL)).length ≤ 140737488355328 := hp _ (.tail _ (.tail _ (.head _)))
  generalize a.list = l at *
  refine ⟨0, rfl, rfl, ⟨Nat.zero_le _, by simp⟩, ?_⟩
  rintro g ⟨g1, g2⟩
  have hj := jnL_take (l.map foL) g
  rw [← List.map_take] at hj
  refine cond_of (fun c => ?_) (fun c => ?_)
  · have hg : g < l.length := by have := of_decide_eq_true c; omega
    refine ⟨⟨by omega, by omega⟩, p1 _ (nth_mem hg), cond_of (fun d => ?_) (fun d => ?_)⟩
    · simp only [Bool.not_eq_true', decide_eq_false_iff_not] at d
      exact jo_bad (nth_mem hg) d
    simp only [Bool.not_eq_false', decide_eq_true_eq] at d
    have hS : foS (nthD l g) = sL (foL (nthD l g)) := by rw [foS, if_pos d]
    have hf := foL_len (nthD l g)
    have hf1 := p1 _ (nth_mem hg)
    have hsz : (foS (nthD l g)).size ≤ 4398046511106 := by rw [hS, sL_size]; omega
    have hsn : jnL (List.map foL (List.take (g + 1) l)) = if g = 0 then foL (nthD l g) else jnL (List.map foL (List.take g l)) ++ 32 :: foL (nthD l g) := by
      rw [take_nth hg, List.map_append]
      show jnL (List.map foL (List.take g l) ++ [foL (nthD l g)]) = _
      rw [jnL_snoc]
      by_cases h0 : g = 0
      · rw [if_pos h0, if_pos (by rw [h0]; rfl)]
      · rw [if_neg h0, if_neg (fun h => by have := congrArg List.length h; rw [List.length_map, List.length_take, List.length_nil] at this; omega)]
    refine cond_of (fun e => ?_) (fun e => ?_)
    · have e : ¬ g = 0 := by have := of_decide_eq_true e; omega
      have h32 : (ByteArray.mk #[32]).size = 1 := rfl
      refine ⟨by rw [sL_size, h32]; omega, ?_, ⟨by omega, by omega⟩, g + 1, by omega, ?_, ⟨by omega, take_all hg g2 d⟩, by omega⟩
      · rw [ByteArray.size_append, sL_size, h32]; omega
      · rw [hsn, if_neg e, hS]
        show sL _ ++ sL [32] ++ sL _ = _
        rw [sL_append, sL_append, List.append_assoc]; rfl
    · have e : g = 0 := by have := of_decide_eq_false e; omega
      refine ⟨by rw [sL_size]; omega, ⟨by omega, by omega⟩, g + 1, by omega, ?_, ⟨by omega, take_all hg g2 d⟩, by omega⟩
      rw [hsn, if_pos e, hS, e]
      show sL [] ++ _ = _
      rw [sL_append]; rfl
  · have hg : g = l.length := by have := of_decide_eq_false c; omega
    have ha : List.take g l = l := List.take_of_length_le (by omega)
    rw [ha] at g2 ⊢
    obtain ⟨e1, e2⟩ := jo_good g2
    rw [e1, e2]
    exact ⟨rfl, rfl⟩
end Go.Proofs.YtlfafkeamppakaaDoor.XT
