/- Contracts, by the symbolic evaluator. -/
import Derived.Test.YtnhfkdgambncfaaGreatDoorQT6
import Derived.Test.YtnhfkdgambncfaaGreatDoorProg
set_option linter.unusedVariables false
set_option linter.unusedSimpArgs false
set_option linter.unusedSectionVars false
namespace Go.Proofs.YtnhfkdgambncfaaGreatDoor.XT
open Go Go.RowKit Go.Proofs.YtnhfkdgambncfaaGreatDoor.Sv
set_option maxRecDepth 100000
def valB (v : D) : List Int := (D.int (D.fld v 0)) :: (if (D.int (D.fld v 0)) = 1 then [truI ((D.bool (D.fld v 1)))] else if (D.int (D.fld v 0)) = 2 then beL ((D.int (D.fld v 2)) + 9223372036854775808) 8 else if (D.int (D.fld v 0)) = 3 then keyL (bys ((D.str (D.fld v 3)))) ++ [0, 1] else numL ((D.int (D.fld v 4))))
def hexT (u : Int) : List Int := 48 :: 120 :: hexL u (nh u)
def valL (v : D) : List Int := if (D.int (D.fld v 0)) = 1 then (if (D.bool (D.fld v 1)) = true then [116, 114, 117, 101] else [102, 97, 108, 115, 101]) else if (D.int (D.fld v 0)) = 2 then itoL ((D.int (D.fld v 2))) else if (D.int (D.fld v 0)) = 3 then quoL (bys ((D.str (D.fld v 3)))) else hexT ((D.int (D.fld v 4)))
abbrev okV (v : D) : Prop := 0 ≤ (D.int (D.fld v 0)) ∧ (D.int (D.fld v 0)) < 256 ∧ I64 ((D.int (D.fld v 2))) ∧ inU ((D.int (D.fld v 4)))
theorem mayV_size {v : D} (h : mayV v = true) : ((D.str (D.fld v 3))).size ≤ 16777216 := by
  have e0 : (ByteArray.mk #[]).size = 0 := rfl
  unfold mayV at h
  split at h
  · simp only [Bool.and_eq_true, decide_eq_true_eq] at h
    rw [h.1.2, e0]; decide
  · split at h
    · simp only [Bool.and_eq_true, decide_eq_true_eq] at h
      rw [h.1.2, e0]; decide
    · split at h
      · simp only [Bool.and_eq_true, decide_eq_true_eq] at h
        have := h.2
        omega
      · split at h
        · simp only [Bool.and_eq_true, decide_eq_true_eq] at h
          rw [h.1.2, e0]; decide
        · cases h
theorem fmtB_L : ∀ b : Bool, ByteArray.mk (Lib.formatBool b).toArray = sL (if b = true then [116, 114, 117, 101] else [102, 97, 108, 115, 101]) := by decide +kernel
theorem tru_L : ∀ b : Bool, strOfD [D.i (IntKind.u8.wrap (truI b))] = sL [truI b] := by decide +kernel
theorem decL_length : ∀ (f : Nat) (n : Int), (decL f n).length ≤ f
  | 0, _ => by simp [decL]
  | f + 1, n => by
    rw [decL]
    split
    · simp
    · have := decL_length f (n / 10)
      simp; exact this
theorem view_hex {m n : Nat} {l : List Int} (h : l.length = n) : strOfD (List.take n (List.drop m (dI (List.replicate m 0 ++ l)))) = sL l := by
  have e : List.drop m (dI (List.replicate m 0 ++ l)) = dI l := by simp [dI]
  rw [e, dI_take, strOfD_dI, List.take_of_length_le (by omega)]
theorem wneg {n : Int} (h : I64 n) (h0 : n < 0) : IntKind.u64.wrap (0 - IntKind.u64.wrap n) = -n := by
  have hw : ∀ y : Int, IntKind.u64.wrap y = y % 18446744073709551616 := fun y => by simp only [IntKind.wrap, IntKind.signed, IntKind.bits]; simp
  rw [hw, hw]; have := h.1; omega
theorem valB_length {v : D} (hs : ((D.str (D.fld v 3))).size ≤ 16777216) : (valB v).length ≤ 33554436 := by
  have h1 := keyL_length (bys ((D.str (D.fld v 3))))
  rw [bys_length] at h1
  have h2 := numL_length ((D.int (D.fld v 4)))
  have h3 := nb_le ((D.int (D.fld v 4)))
  have h4 := beL_length 8 ((D.int (D.fld v 2)) + 9223372036854775808)
  unfold valB
  rw [List.length_cons]
  split
  · simp
  · split
    · omega
    · split
      · rw [List.length_append]; simp only [List.length_cons, List.length_nil]; omega
      · omega
theorem itoL_length (n : Int) : (itoL n).length ≤ 21 := by
  unfold itoL
  split
  · rw [List.length_cons]; have := decL_length 20 (-n); omega
  · have := decL_length 20 n; omega
theorem valL_length {v : D} (hs : ((D.str (D.fld v 3))).size ≤ 16777216) : (valL v).length ≤ 67108866 := by
  have h1 := esc_length (bys ((D.str (D.fld v 3))))
  rw [bys_length] at h1
  have h2 := hexL_length (nh ((D.int (D.fld v 4)))) ((D.int (D.fld v 4)))
  have h3 := (nh_le ((D.int (D.fld v 4)))).2
  have h4 := itoL_length ((D.int (D.fld v 2)))
  unfold valL
  split
  · split <;> simp
  · split
    · omega
    · split
      · rw [quoL, List.length_cons, List.length_append]; simp only [List.length_cons, List.length_nil]; omega
      · rw [hexT, List.length_cons, List.length_cons]; omega
def vBC : Con := ⟨[.d true valT], fun ds => (fun (a : D) => [okV a]) (nthD ds 0), [.d .s, .d (.i .i64)], fun ds => (fun (a : D) => [.s (bif mayV a then sL (valB a) else (ByteArray.mk #[])), .i (bif mayV a then 0 else 30)]) (nthD ds 0), fun ds => []⟩
def vBC_an : Anns := fun _ _ => none
theorem vBC_vc (a : D) : (0 ≤ (a.fld 4).int ∧ bif !decide (condI (mayV a) 0 30 = 0) then ((ByteArray.mk #[]) = bif mayV a then sL (valB a) else (ByteArray.mk #[])) ∧ condI (mayV a) 0 30 = condI (mayV a) 0 30 else bif decide ((a.fld 0).int = 1) then (strOfD [D.i (a.fld 0).int]).size + (strOfD [D.i (IntKind.u8.wrap (truI ((D.fld a 1)).bool))]).size ≤ 9223372036854775807 ∧ (strOfD [D.i (a.fld 0).int] ++ strOfD [D.i (IntKind.u8.wrap (truI ((D.fld a 1)).bool))] = bif mayV a then sL (valB a) else (ByteArray.mk #[])) ∧ EqI 0 (condI (mayV a) 0 30) else bif decide ((a.fld 0).int = 2) then I64 ((D.fld a 2)).int ∧ (strOfD [D.i (a.fld 0).int]).size + (sL (beL (((D.fld a 2)).int + 9223372036854775808) 8)).size ≤ 9223372036854775807 ∧ (strOfD [D.i (a.fld 0).int] ++ sL (beL (((D.fld a 2)).int + 9223372036854775808) 8) = bif mayV a then sL (valB a) else (ByteArray.mk #[])) ∧ EqI 0 (condI (mayV a) 0 30) else bif decide ((a.fld 0).int = 3) then (a.fld 3).str.size ≤ 16777216 ∧ (strOfD [D.i (a.fld 0).int]).size + (sL (keyL (bys (a.fld 3).str) ++ [0, 1])).size ≤ 9223372036854775807 ∧ (strOfD [D.i (a.fld 0).int] ++ sL (keyL (bys (a.fld 3).str) ++ [0, 1]) = bif mayV a then sL (valB a) else (ByteArray.mk #[])) ∧ EqI 0 (condI (mayV a) 0 30) else (0 ≤ (a.fld 4).int ∧ (a.fld 4).int < 18446744073709551616) ∧ (strOfD [D.i (a.fld 0).int]).size + (sL (numL (a.fld 4).int)).size ≤ 9223372036854775807 ∧ (strOfD [D.i (a.fld 0).int] ++ sL (numL (a.fld 4).int) = bif mayV a then sL (valB a) else (ByteArray.mk #[])) ∧ EqI 0 (condI (mayV a) 0 30)) = conGoal Tryz.prog (addS 19 numC (addS 18 keyC (addS 40 intC (addS 39 truC (addS 37 mayVC noS))))) vBC_an 200 20 vBC [a] := by kernel_rfl
theorem vBC_ok : ConOK Tryz.prog gl 20 vBC := con_of mo (addS_ok numC_ok (addS_ok keyC_ok (addS_ok intC_ok (addS_ok truC_ok (addS_ok mayVC_ok (noS_ok _)))))) (an := vBC_an) 200 fun ds hl hp => by
  obtain ⟨a, rfl⟩ := len1 hl
  rw [← vBC_vc]
  have p0 : okV a := hp _ (.head _)
  obtain ⟨k0, k1, hn, hu⟩ := p0
  have eK : strOfD [D.i (a.fld 0).int] = sL [(D.int (D.fld a 0))] := strOfD_dI [(D.int (D.fld a 0))]
  rw [eK]
  refine ⟨hu.1, ?_⟩
  cases hm : mayV a
  · exact ⟨rfl, rfl⟩
  have hs := mayV_size hm
  have hlen := valB_length hs
  rw [show (!decide (condI true 0 30 = 0)) = false from rfl, cond_false]
  refine cond_of (b := decide ((D.int (D.fld a 0)) = 1)) (fun e => ?_) (fun e => cond_of (b := decide ((D.int (D.fld a 0)) = 2)) (fun e2 => ?_) (fun e2 => cond_of (b := decide ((D.int (D.fld a 0)) = 3)) (fun e3 => ?_) (fun e3 => ?_)))
  · have eB : valB a = [(D.int (D.fld a 0)), truI ((D.bool (D.fld a 1)))] := by rw [valB, if_pos (of_decide_eq_true e)]
    rw [tru_L, eB]
    exact ⟨by rw [sL_size, sL_size]; simp, sL_append _ _, rfl⟩
  · have eB : valB a = [(D.int (D.fld a 0))] ++ beL ((D.int (D.fld a 2)) + 9223372036854775808) 8 := by rw [valB, if_neg (of_decide_eq_false e), if_pos (of_decide_eq_true e2)]; rfl
    rw [eB] at hlen ⊢
    rw [List.length_append] at hlen
    exact ⟨hn, by rw [sL_size, sL_size]; omega, sL_append _ _, rfl⟩
  · have eB : valB a = [(D.int (D.fld a 0))] ++ (keyL (bys ((D.str (D.fld a 3)))) ++ [0, 1]) := by rw [valB, if_neg (of_decide_eq_false e), if_neg (of_decide_eq_false e2), if_pos (of_decide_eq_true e3)]; rfl
    rw [eB] at hlen ⊢
    rw [List.length_append] at hlen
    exact ⟨hs, by rw [sL_size, sL_size]; omega, sL_append _ _, rfl⟩
  · have eB : valB a = [(D.int (D.fld a 0))] ++ numL ((D.int (D.fld a 4))) := by rw [valB, if_neg (of_decide_eq_false e), if_neg (of_decide_eq_false e2), if_neg (of_decide_eq_false e3)]; rfl
    rw [eB] at hlen ⊢
    rw [List.length_append] at hlen
    exact ⟨hu, by rw [sL_size, sL_size]; omega, sL_append _ _, rfl⟩
def rvBC : Con := ⟨[.d true valT], fun ds => (fun (a : D) => [okV a, mayV a = true]) (nthD ds 0), [.d .s], fun ds => (fun (a : D) => [.s (sL (valB a))]) (nthD ds 0), fun ds => []⟩
def rvBC_an : Anns := fun _ _ => none
theorem rvBC_vc (a : D) : (bif decide ((a.fld 0).int = 1) then bif ((D.fld a 1)).bool then (strOfD [D.i (a.fld 0).int]).size + (ByteArray.mk #[1]).size ≤ 9223372036854775807 ∧ strOfD [D.i (a.fld 0).int] ++ ByteArray.mk #[1] = sL (valB a) else (strOfD [D.i (a.fld 0).int]).size + (ByteArray.mk #[0]).size ≤ 9223372036854775807 ∧ strOfD [D.i (a.fld 0).int] ++ ByteArray.mk #[0] = sL (valB a) else bif decide ((a.fld 0).int = 2) then I64 ((D.fld a 2)).int ∧ (strOfD [D.i (a.fld 0).int]).size + (sL (beL (((D.fld a 2)).int + 9223372036854775808) 8)).size ≤ 9223372036854775807 ∧ strOfD [D.i (a.fld 0).int] ++ sL (beL (((D.fld a 2)).int + 9223372036854775808) 8) = sL (valB a) else bif decide ((a.fld 0).int = 3) then (a.fld 3).str.size ≤ 16777216 ∧ (strOfD [D.i (a.fld 0).int]).size + (sL (keyL (bys (a.fld 3).str) ++ [0, 1])).size ≤ 9223372036854775807 ∧ strOfD [D.i (a.fld 0).int] ++ sL (keyL (bys (a.fld 3).str) ++ [0, 1]) = sL (valB a) else (0 ≤ (a.fld 4).int ∧ (a.fld 4).int < 18446744073709551616) ∧ (strOfD [D.i (a.fld 0).int]).size + (sL (numL (a.fld 4).int)).size ≤ 9223372036854775807 ∧ strOfD [D.i (a.fld 0).int] ++ sL (numL (a.fld 4).int) = sL (valB a)) = conGoal Tryz.prog (addS 26 rnumC (addS 25 rkeyC (addS 47 rintC noS))) rvBC_an 200 27 rvBC [a] := by kernel_rfl
theorem rvBC_ok : ConOK Tryz.prog gl 27 rvBC := con_of mo (addS_ok rnumC_ok (addS_ok rkeyC_ok (addS_ok rintC_ok (noS_ok _)))) (an := rvBC_an) 200 fun ds hl hp => by
  obtain ⟨a, rfl⟩ := len1 hl
  rw [← rvBC_vc]
  have p0 : okV a := hp _ (.head _)
  have p1 : mayV a = true := hp _ (.tail _ (.head _))
  obtain ⟨k0, k1, hn, hu⟩ := p0
  have hs := mayV_size p1
  have hlen := valB_length hs
  have eK : strOfD [D.i (a.fld 0).int] = sL [(D.int (D.fld a 0))] := strOfD_dI [(D.int (D.fld a 0))]
  rw [eK]
  refine cond_of (b := decide ((D.int (D.fld a 0)) = 1)) (fun e => ?_) (fun e => cond_of (b := decide ((D.int (D.fld a 0)) = 2)) (fun e2 => ?_) (fun e2 => cond_of (b := decide ((D.int (D.fld a 0)) = 3)) (fun e3 => ?_) (fun e3 => ?_)))
  · have eB : valB a = [(D.int (D.fld a 0)), truI ((D.bool (D.fld a 1)))] := by rw [valB, if_pos (of_decide_eq_true e)]
    rw [eB]
    refine cond_of (b := (D.bool (D.fld a 1))) (fun b => ?_) (fun b => ?_)
    · rw [b]; exact ⟨by rw [sL_size]; exact (by decide : 1 + 1 ≤ 9223372036854775807), sL_append _ [1]⟩
    · rw [b]; exact ⟨by rw [sL_size]; exact (by decide : 1 + 1 ≤ 9223372036854775807), sL_append _ [0]⟩
  · have eB : valB a = [(D.int (D.fld a 0))] ++ beL ((D.int (D.fld a 2)) + 9223372036854775808) 8 := by rw [valB, if_neg (of_decide_eq_false e), if_pos (of_decide_eq_true e2)]; rfl
    rw [eB] at hlen ⊢
    rw [List.length_append] at hlen
    exact ⟨hn, by rw [sL_size, sL_size]; omega, sL_append _ _⟩
  · have eB : valB a = [(D.int (D.fld a 0))] ++ (keyL (bys ((D.str (D.fld a 3)))) ++ [0, 1]) := by rw [valB, if_neg (of_decide_eq_false e), if_neg (of_decide_eq_false e2), if_pos (of_decide_eq_true e3)]; rfl
    rw [eB] at hlen ⊢
    rw [List.length_append] at hlen
    exact ⟨hs, by rw [sL_size, sL_size]; omega, sL_append _ _⟩
  · have eB : valB a = [(D.int (D.fld a 0))] ++ numL ((D.int (D.fld a 4))) := by rw [valB, if_neg (of_decide_eq_false e), if_neg (of_decide_eq_false e2), if_neg (of_decide_eq_false e3)]; rfl
    rw [eB] at hlen ⊢
    rw [List.length_append] at hlen
    exact ⟨hu, by rw [sL_size, sL_size]; omega, sL_append _ _⟩
def vTC : Con := ⟨[.d true valT], fun ds => (fun (a : D) => [okV a]) (nthD ds 0), [.d .s, .d (.i .i64)], fun ds => (fun (a : D) => [.s (bif mayV a then sL (valL a) else (ByteArray.mk #[])), .i (bif mayV a then 0 else 30)]) (nthD ds 0), fun ds => []⟩
def vTC_an : Anns := fun f i => match f, i with
  | 84, 11 => some fun A st => match A.get 12, A.get 1 with
    | some (.ptr l _), some (.v (.int _ x)) => ⟨Int × List Int, fun g => [(13, .v (.int .i64 (65 - g.2.length))), (1, .v (.int .u64 g.1))], fun g => [(l, .q 132 (.i .u8) (dI (List.replicate (65 - g.2.length) 0 ++ g.2)))], fun g => inU g.1 ∧ nh x = nh g.1 + g.2.length ∧ hexL x (nh x) = hexL g.1 (nh g.1) ++ g.2, fun g => g.1.toNat⟩
    | _, _ => LAnn.bad
  | _, _ => none
theorem vTC_vc (a : D) : (0 ≤ (a.fld 4).int ∧ bif !decide (condI (mayV a) 0 30 = 0) then ((ByteArray.mk #[]) = bif mayV a then sL (valL a) else (ByteArray.mk #[])) ∧ condI (mayV a) 0 30 = condI (mayV a) 0 30 else bif decide ((a.fld 0).int = 1) then (ByteArray.mk (Lib.formatBool ((D.fld a 1)).bool).toArray = bif mayV a then sL (valL a) else (ByteArray.mk #[])) ∧ EqI 0 (condI (mayV a) 0 30) else bif decide ((a.fld 0).int = 2) then EqI 10 10 ∧ -9223372036854775808 ≤ ((D.fld a 2)).int ∧ ((D.fld a 2)).int ≤ 9223372036854775807 ∧ (itoS ((D.fld a 2)).int = bif mayV a then sL (valL a) else (ByteArray.mk #[])) ∧ EqI 0 (condI (mayV a) 0 30) else bif decide ((a.fld 0).int = 3) then (a.fld 3).str.size ≤ 16777216 ∧ (sL (quoL (bys (a.fld 3).str)) = bif mayV a then sL (valL a) else (ByteArray.mk #[])) ∧ EqI 0 (condI (mayV a) 0 30) else I64 (16 - 1) ∧ LeI 0 (IntKind.u64.wrap 16) ∧ LtI (IntKind.u64.wrap 16) 18446744073709551616 ∧ ∃ (g : Int × List Int), EqI 65 (65 - (↑g.snd.length : Int)) ∧ (a.fld 4).int = g.fst ∧ [D.i 0, D.i 0, D.i 0, D.i 0, D.i 0, D.i 0, D.i 0, D.i 0, D.i 0, D.i 0, D.i 0, D.i 0, D.i 0, D.i 0, D.i 0, D.i 0, D.i 0, D.i 0, D.i 0, D.i 0, D.i 0, D.i 0, D.i 0, D.i 0, D.i 0, D.i 0, D.i 0, D.i 0, D.i 0, D.i 0, D.i 0, D.i 0, D.i 0, D.i 0, D.i 0, D.i 0, D.i 0, D.i 0, D.i 0, D.i 0, D.i 0, D.i 0, D.i 0, D.i 0, D.i 0, D.i 0, D.i 0, D.i 0, D.i 0, D.i 0, D.i 0, D.i 0, D.i 0, D.i 0, D.i 0, D.i 0, D.i 0, D.i 0, D.i 0, D.i 0, D.i 0, D.i 0, D.i 0, D.i 0, D.i 0] = dI (List.replicate (65 - g.snd.length) 0 ++ g.snd) ∧ ((0 ≤ g.fst ∧ g.fst < 18446744073709551616) ∧ nh (a.fld 4).int = nh g.fst + g.snd.length ∧ hexL (a.fld 4).int (nh (a.fld 4).int) = hexL g.fst (nh g.fst) ++ g.snd) ∧ ∀ (g : Int × List Int), (0 ≤ g.fst ∧ g.fst < 18446744073709551616) ∧ nh (a.fld 4).int = nh g.fst + g.snd.length ∧ hexL (a.fld 4).int (nh (a.fld 4).int) = hexL g.fst (nh g.fst) ++ g.snd → bif decide (IntKind.u64.wrap 16 ≤ g.fst) then I64 (65 - (↑g.snd.length : Int) - 1) ∧ Idx (band IntKind.u64 g.fst (IntKind.u64.wrap (IntKind.u64.wrap 16 - 1))) (ByteArray.mk #[48, 49, 50, 51, 52, 53, 54, 55, 56, 57, 97, 98, 99, 100, 101, 102, 103, 104, 105, 106, 107, 108, 109, 110, 111, 112, 113, 114, 115, 116, 117, 118, 119, 120, 121, 122]).size ∧ Idx (65 - (↑g.snd.length : Int) - 1) 65 ∧ 65 ≤ (dI (List.replicate (65 - g.snd.length) 0 ++ g.snd)).length ∧ LeI 0 (IntKind.u64.wrap (↑(Lib.ctz 64 (IntKind.u64.wrap 16).toNat) : Int)) ∧ ∃ (g_1 : Int × List Int), 65 - (↑g.snd.length : Int) - 1 = 65 - (↑g_1.snd.length : Int) ∧ bshr IntKind.u64 g.fst (IntKind.u64.wrap (↑(Lib.ctz 64 (IntKind.u64.wrap 16).toNat) : Int)) = g_1.fst ∧ setD (dI (List.replicate (65 - g.snd.length) 0 ++ g.snd)) (65 - (↑g.snd.length : Int) - 1).toNat (D.i (byteAt' (ByteArray.mk #[48, 49, 50, 51, 52, 53, 54, 55, 56, 57, 97, 98, 99, 100, 101, 102, 103, 104, 105, 106, 107, 108, 109, 110, 111, 112, 113, 114, 115, 116, 117, 118, 119, 120, 121, 122]) (band IntKind.u64 g.fst (IntKind.u64.wrap (IntKind.u64.wrap 16 - 1))).toNat)) = dI (List.replicate (65 - g_1.snd.length) 0 ++ g_1.snd) ∧ ((0 ≤ g_1.fst ∧ g_1.fst < 18446744073709551616) ∧ nh (a.fld 4).int = nh g_1.fst + g_1.snd.length ∧ hexL (a.fld 4).int (nh (a.fld 4).int) = hexL g_1.fst (nh g_1.fst) ++ g_1.snd) ∧ g_1.fst.toNat < g.fst.toNat else I64 (65 - (↑g.snd.length : Int) - 1) ∧ Idx g.fst (ByteArray.mk #[48, 49, 50, 51, 52, 53, 54, 55, 56, 57, 97, 98, 99, 100, 101, 102, 103, 104, 105, 106, 107, 108, 109, 110, 111, 112, 113, 114, 115, 116, 117, 118, 119, 120, 121, 122]).size ∧ Idx (65 - (↑g.snd.length : Int) - 1) 65 ∧ 65 ≤ (dI (List.replicate (65 - g.snd.length) 0 ++ g.snd)).length ∧ 0 ≤ 65 - (↑g.snd.length : Int) - 1 ∧ 65 - (↑g.snd.length : Int) - 1 ≤ (↑65 : Int) ∧ LeI (↑65 : Int) (↑65 : Int) ∧ 65 ≤ (setD (dI (List.replicate (65 - g.snd.length) 0 ++ g.snd)) (65 - (↑g.snd.length : Int) - 1).toNat (D.i (byteAt' (ByteArray.mk #[48, 49, 50, 51, 52, 53, 54, 55, 56, 57, 97, 98, 99, 100, 101, 102, 103, 104, 105, 106, 107, 108, 109, 110, 111, 112, 113, 114, 115, 116, 117, 118, 119, 120, 121, 122]) g.fst.toNat))).length ∧ (ByteArray.mk #[48, 120]).size + (strOfD (List.take ((↑65 : Int) - (65 - (↑g.snd.length : Int) - 1)).toNat (List.drop (65 - (↑g.snd.length : Int) - 1).toNat (setD (dI (List.replicate (65 - g.snd.length) 0 ++ g.snd)) (65 - (↑g.snd.length : Int) - 1).toNat (D.i (byteAt' (ByteArray.mk #[48, 49, 50, 51, 52, 53, 54, 55, 56, 57, 97, 98, 99, 100, 101, 102, 103, 104, 105, 106, 107, 108, 109, 110, 111, 112, 113, 114, 115, 116, 117, 118, 119, 120, 121, 122]) g.fst.toNat)))))).size ≤ 9223372036854775807 ∧ (ByteArray.mk #[48, 120] ++ strOfD (List.take ((↑65 : Int) - (65 - (↑g.snd.length : Int) - 1)).toNat (List.drop (65 - (↑g.snd.length : Int) - 1).toNat (setD (dI (List.replicate (65 - g.snd.length) 0 ++ g.snd)) (65 - (↑g.snd.length : Int) - 1).toNat (D.i (byteAt' (ByteArray.mk #[48, 49, 50, 51, 52, 53, 54, 55, 56, 57, 97, 98, 99, 100, 101, 102, 103, 104, 105, 106, 107, 108, 109, 110, 111, 112, 113, 114, 115, 116, 117, 118, 119, 120, 121, 122]) g.fst.toNat))))) = bif mayV a then sL (valL a) else (ByteArray.mk #[])) ∧ EqI 0 (condI (mayV a) 0 30)) = conGoal Tryz.prog (addS 100 tzC (addS 52 quoC (addS 51 fmtIC (addS 50 fmtBC (addS 37 mayVC noS))))) vTC_an 200 32 vTC [a] := by kernel_rfl
theorem vTC_ok : ConOK Tryz.prog gl 32 vTC := con_of mo (addS_ok tzC_ok (addS_ok quoC_ok (addS_ok fmtIC_ok (addS_ok fmtBC_ok (addS_ok mayVC_ok (noS_ok _)))))) (an := vTC_an) 200 fun ds hl hp => by
  obtain ⟨a, rfl⟩ := len1 hl
  rw [← vTC_vc]
  have p0 : okV a := hp _ (.head _)
  obtain ⟨k0, k1, hn, hu⟩ := p0
  refine ⟨hu.1, ?_⟩
  cases hm : mayV a
  · exact ⟨rfl, rfl⟩
  have hs := mayV_size hm
  rw [show (!decide (condI true 0 30 = 0)) = false from rfl, cond_false]
  refine cond_of (b := decide ((D.int (D.fld a 0)) = 1)) (fun e => ?_) (fun e => cond_of (b := decide ((D.int (D.fld a 0)) = 2)) (fun e2 => ?_) (fun e2 => cond_of (b := decide ((D.int (D.fld a 0)) = 3)) (fun e3 => ?_) (fun e3 => ?_)))
  · have eB : valL a = (if (D.bool (D.fld a 1)) = true then [116, 114, 117, 101] else [102, 97, 108, 115, 101]) := by rw [valL, if_pos (of_decide_eq_true e)]
    rw [eB]
    exact ⟨fmtB_L _, rfl⟩
  · have eB : valL a = itoL ((D.int (D.fld a 2))) := by rw [valL, if_neg (of_decide_eq_false e), if_pos (of_decide_eq_true e2)]
    rw [eB]
    exact ⟨rfl, hn.1, hn.2, itoS_L hn, rfl⟩
  · have eB : valL a = quoL (bys ((D.str (D.fld a 3)))) := by rw [valL, if_neg (of_decide_eq_false e), if_neg (of_decide_eq_false e2), if_pos (of_decide_eq_true e3)]
    rw [eB]
    exact ⟨hs, rfl, rfl⟩
  · have eB : valL a = hexT ((D.int (D.fld a 4))) := by rw [valL, if_neg (of_decide_eq_false e), if_neg (of_decide_eq_false e2), if_neg (of_decide_eq_false e3)]
    rw [eB]
    have e16 : IntKind.u64.wrap 16 = 16 := by decide
    have e4 : IntKind.u64.wrap (((Lib.ctz 64 (Int.toNat 16) : Nat) : Int)) = 4 := by decide +kernel
    have e15 : IntKind.u64.wrap (16 - 1) = 15 := by decide
    rw [e16, e4, e15]
    have hx := nh_le ((D.int (D.fld a 4)))
    refine ⟨by decide, by decide, by decide, ((D.int (D.fld a 4)), []), rfl, rfl, rfl, ⟨hu, by simp, by simp⟩, ?_⟩
    rintro ⟨y, l⟩ ⟨h1, h2, h3⟩
    dsimp only at h1 h2 h3 ⊢
    have y0 := h1.1
    have y1 := h1.2
    have hs : (ByteArray.mk #[48, 49, 50, 51, 52, 53, 54, 55, 56, 57, 97, 98, 99, 100, 101, 102, 103, 104, 105, 106, 107, 108, 109, 110, 111, 112, 113, 114, 115, 116, 117, 118, 119, 120, 121, 122]).size = 36 := rfl
    have hy := nh_le y
    have hnn : (65 - (l.length : Int) - 1).toNat = 64 - l.length := by omega
    have hrep : 65 - l.length = (64 - l.length) + 1 := by omega
    have hsz : 65 ≤ (dI (List.replicate (65 - l.length) 0 ++ l)).length := by simp [dI]; omega
    rw [hs, hnn]
    by_cases hd : 16 ≤ y
    · rw [decide_eq_true hd, band15 h1, at36 (by omega) (by omega)]
      have hst := nh_step hd y1
      have hy2 := nh_le (y / 16)
      refine ⟨⟨by omega, by omega⟩, ⟨by omega, by omega⟩, ⟨by omega, by omega⟩, hsz, by decide, (y / 16, hexc (y % 16) :: l), ?_, shr4 y0, ?_, ⟨div_in h1 16 (by decide), ?_, ?_⟩, ?_⟩
      · simp only [List.length_cons]; omega
      · rw [hrep, dI_set (by simp [List.length_append]; omega), set_rep]
        simp only [List.length_cons]
        rw [show 65 - (l.length + 1) = 64 - l.length by omega]
      · simp only [List.length_cons]; omega
      · show hexL _ _ = hexL (y / 16) (nh (y / 16)) ++ (hexc (y % 16) :: l)
        rw [h3, hst, hexL, List.append_assoc]; rfl
      · show (y / 16).toNat < y.toNat
        omega
    · rw [decide_eq_false hd, at36 y0 (by omega)]
      have h1' : nh y = 1 := nh_small (by omega)
      have hset : setD (dI (List.replicate (65 - l.length) 0 ++ l)) (64 - l.length) (D.i (hexc y)) = dI (List.replicate (64 - l.length) 0 ++ (hexc y :: l)) := by
        rw [hrep, dI_set (by simp [List.length_append]; omega), set_rep]
      have htk : ((↑65 : Int) - (65 - (l.length : Int) - 1)).toNat = l.length + 1 := by omega
      rw [hset, htk, view_hex (by rfl)]
      have h4 : hexL ((D.int (D.fld a 4))) (nh ((D.int (D.fld a 4)))) = hexc y :: l := by
        rw [h3, h1']
        show [hexc (y % 16)] ++ l = _
        rw [show y % 16 = y by omega]; rfl
      have hl65 : (dI (List.replicate (64 - l.length) 0 ++ hexc y :: l)).length = 65 := by simp [dI]; omega
      refine ⟨⟨by omega, by omega⟩, ⟨by omega, by omega⟩, ⟨by omega, by omega⟩, hsz, by omega, by omega, by decide, by rw [hl65]; decide, ?_, ?_, rfl⟩
      · rw [sL_size, List.length_cons]; have : (ByteArray.mk #[48, 120]).size = 2 := rfl; omega
      · rw [hexT, h4]; exact sL_append [48, 120] _
end Go.Proofs.YtnhfkdgambncfaaGreatDoor.XT
