/- Contracts, by the symbolic evaluator. -/
import Derived.Test.YtnhfkdgambncfaaGreatDoorQT5
import Derived.Test.YtnhfkdgambncfaaGreatDoorProg
import Derived.Test.YtnhfkdgambncfaaGreatDoorQTM
set_option linter.unusedVariables false
set_option linter.unusedSimpArgs false
set_option linter.unusedSectionVars false
namespace Go.Proofs.YtnhfkdgambncfaaGreatDoor.XT
open Go Go.RowKit Go.Proofs.YtnhfkdgambncfaaGreatDoor.Sv
set_option maxRecDepth 100000
theorem take_all {n : Nat} {l : List D} (h : l.length = n) : l.take n = l := List.take_of_length_le (by omega)
theorem take_app {n : Nat} {l r : List D} (h : l.length = n) : (l ++ r).take (n + r.length) = l ++ r := List.take_of_length_le (by rw [List.length_append]; omega)
theorem key_leaf {s : ByteArray} {k : Nat} (h : (k : Int) < s.size) {l : List Int} (he : keyL [byteAt' s k] = l) : (keyL ((bys s).take (k + 1))).length = (keyL ((bys s).take k)).length + l.length ∧ keyP s (k + 1) = keyP s k ++ dI l := by
  have e : keyL ((bys s).take (k + 1)) = keyL ((bys s).take k) ++ l := by rw [bys_succ (by omega), keyL_append, he]
  exact ⟨by rw [e, List.length_append], by rw [keyP, e, ← dI_append]; rfl⟩
theorem quo_leaf {s : ByteArray} {k : Nat} (h : (k : Int) < s.size) {l : List Int} (he : escB (byteAt' s k) = l) : (((bys s).take k).flatMap escB).length + 1 + l.length = (((bys s).take (k + 1)).flatMap escB).length + 1 ∧ quoP s k ++ dI l = quoP s (k + 1) := by
  have e := esc_succ (s := s) (k := k) (by omega)
  rw [he] at e
  exact ⟨by rw [e, List.length_append]; omega, by rw [quoP_add, quoP, e]⟩
theorem rquo_leaf {s : ByteArray} {k : Nat} (h : (k : Int) < s.size) {l : List Int} (he : escB (byteAt' s k) = l) : sL (34 :: ((bys s).take k).flatMap escB) ++ sL l = sL (34 :: ((bys s).take (k + 1)).flatMap escB) := by
  have e := esc_succ (s := s) (k := k) (by omega)
  rw [he] at e
  rw [sL_append, e]; rfl
theorem flat_le {s : ByteArray} (h : s.size ≤ 16777216) (k : Nat) : (((bys s).take k).flatMap escB).length ≤ 67108864 := by
  have h1 := esc_length ((bys s).take k)
  have h2 : ((bys s).take k).length ≤ s.size := by rw [List.length_take, bys_length]; omega
  omega
theorem flatk_le {s : ByteArray} (h : s.size ≤ 16777216) (k : Nat) : (keyL ((bys s).take k)).length ≤ 33554432 := by
  have h1 := keyL_length ((bys s).take k)
  have h2 : ((bys s).take k).length ≤ s.size := by rw [List.length_take, bys_length]; omega
  omega
theorem extract_one {s : ByteArray} {k : Nat} (h : k < s.size) : s.extract k (k + 1) = sL [byteAt' s k] := by
  have hl : k < s.data.toList.length := by rw [Array.length_toList]; exact h
  have e : [byteAt' s k] = nums [s.data.toList[k]] := by
    have h' : k < s.data.size := h
    simp [nums, byteAt', Array.getD, h']
    rw [dif_pos h]
  rw [e, sL_nums]
  apply ByteArray.ext
  apply Array.ext'
  rw [ByteArray.data_extract]
  simp only [Array.toList_extract, List.extract_eq_take_drop]
  rw [List.drop_eq_getElem_cons hl]
  simp
theorem div16 {x : Int} (k : Nat) : x / 16 / 16 ^ k = x / 16 ^ (k + 1) := by
  rw [Int.ediv_ediv_of_nonneg (by decide), Int.pow_succ, Int.mul_comm]
theorem nh_iff : ∀ (k : Nat) {x : Int}, inU x → (nh x ≤ k + 1 ↔ x / 16 ^ (k + 1) = 0)
  | 0, x, h => by
    have h1 := nh_le (x / 16)
    have h2 := h.1
    by_cases hx : x < 16
    · rw [nh_small hx]; simp; omega
    · rw [nh_step (by omega) h.2]; simp; omega
  | k + 1, x, h => by
    have h0 := h.1
    rw [← div16]
    by_cases hx : x < 16
    · rw [nh_small hx, show x / 16 = 0 by omega]; simp
    · have ih := nh_iff k (div_in h 16 (by decide))
      rw [nh_step (by omega) h.2, ← ih]; omega
theorem pow16 (k : Nat) : (2 : Int) ^ (4 * k) = 16 ^ k := by rw [Int.pow_mul]; rfl
def intC : Con := ⟨[.d true (.i .i64)], fun ds => (fun (a : D) => [I64 a.int]) (nthD ds 0), [.d .s], fun ds => (fun (a : D) => [.s (sL (beL (a.int + 9223372036854775808) 8))]) (nthD ds 0), fun ds => []⟩
def intC_an : Anns := fun _ _ => none
theorem intC_vc (a : D) : ((0 ≤ bxor IntKind.u64 (IntKind.u64.wrap a.int) 9223372036854775808 ∧ bxor IntKind.u64 (IntKind.u64.wrap a.int) 9223372036854775808 < 18446744073709551616) ∧ sL (beL (bxor IntKind.u64 (IntKind.u64.wrap a.int) 9223372036854775808) 8) = sL (beL (a.int + 9223372036854775808) 8)) = conGoal Tryz.prog (addS 59 eightC noS) intC_an 200 40 intC [a] := by kernel_rfl
theorem intC_ok : ConOK Tryz.prog gl 40 intC := con_of mo (addS_ok eightC_ok (noS_ok _)) (an := intC_an) 200 fun ds hl hp => by
  obtain ⟨a, rfl⟩ := len1 hl
  rw [← intC_vc]
  have p0 : I64 a.int := hp _ (.head _)
  rw [xor_high _ p0]
  have := p0.1
  have := p0.2
  exact ⟨⟨by omega, by omega⟩, rfl⟩
def rintC : Con := ⟨[.d true (.i .i64)], fun ds => (fun (a : D) => [I64 a.int]) (nthD ds 0), [.d .s], fun ds => (fun (a : D) => [.s (sL (beL (a.int + 9223372036854775808) 8))]) (nthD ds 0), fun ds => []⟩
def rintC_an : Anns := fun _ _ => none
theorem rintC_vc (a : D) : ((0 ≤ IntKind.u64.wrap (IntKind.u64.wrap a.int + 9223372036854775808) ∧ IntKind.u64.wrap (IntKind.u64.wrap a.int + 9223372036854775808) < 18446744073709551616) ∧ LeI 0 8 ∧ LeI 8 8 ∧ sL (beL (IntKind.u64.wrap (IntKind.u64.wrap a.int + 9223372036854775808)) (Int.toNat 8)) = sL (beL (a.int + 9223372036854775808) 8)) = conGoal Tryz.prog (addS 46 fixC noS) rintC_an 200 47 rintC [a] := by kernel_rfl
theorem rintC_ok : ConOK Tryz.prog gl 47 rintC := con_of mo (addS_ok fixC_ok (noS_ok _)) (an := rintC_an) 200 fun ds hl hp => by
  obtain ⟨a, rfl⟩ := len1 hl
  rw [← rintC_vc]
  have p0 : I64 a.int := hp _ (.head _)
  rw [wrap_add p0]
  have := p0.1
  have := p0.2
  exact ⟨⟨by omega, by omega⟩, by decide, by decide, rfl⟩
def keyC : Con := ⟨[.d true .s], fun ds => (fun (a : D) => [a.str.size ≤ 16777216]) (nthD ds 0), [.d .s], fun ds => (fun (a : D) => [.s (sL (keyL (bys a.str) ++ [0, 1]))]) (nthD ds 0), fun ds => []⟩
def keyC_an : Anns := fun _ _ => none
theorem keyC_vc (a : D) : (a.str.size < 4294967281 ∧ 1 ≤ (ByteArray.mk #[0]).size ∧ a.str.size + Lib.countB a.str (ByteArray.mk #[0]) * (ByteArray.mk #[0, 255]).size ≤ 140737488355328 ∧ (replS a.str (ByteArray.mk #[0]) (ByteArray.mk #[0, 255])).size + (ByteArray.mk #[0, 1]).size ≤ 9223372036854775807 ∧ replS a.str (ByteArray.mk #[0]) (ByteArray.mk #[0, 255]) ++ ByteArray.mk #[0, 1] = sL (keyL (bys a.str) ++ [0, 1])) = conGoal Tryz.prog (addS 38 replC noS) keyC_an 200 18 keyC [a] := by kernel_rfl
theorem keyC_ok : ConOK Tryz.prog gl 18 keyC := con_of mo (addS_ok replC_ok (noS_ok _)) (an := keyC_an) 200 fun ds hl hp => by
  obtain ⟨a, rfl⟩ := len1 hl
  rw [← keyC_vc]
  have p0 : a.str.size ≤ 16777216 := hp _ (.head _)
  rw [repl_keyS]
  have h1 := count_leS a.str
  have h2 := keyL_length (bys a.str)
  rw [bys_length] at h2
  have e1 : (ByteArray.mk #[0, 1]).size = 2 := rfl
  have e2 : (ByteArray.mk #[0, 255]).size = 2 := rfl
  refine ⟨by omega, by decide, by rw [e2]; omega, by rw [sL_size, e1]; omega, ?_⟩
  exact sL_append _ [0, 1]
def rkeyC : Con := ⟨[.d true .s], fun ds => (fun (a : D) => [a.str.size ≤ 16777216]) (nthD ds 0), [.d .s], fun ds => (fun (a : D) => [.s (sL (keyL (bys a.str) ++ [0, 1]))]) (nthD ds 0), fun ds => []⟩
def rkeyC_an : Anns := fun f i => match f, i with
  | 25, 2000003 => some fun A st => ⟨Unit, fun _ => [], fun _ => [(3, .q 5 (.i .u8) [])], fun _ => True, fun _ => 0⟩
  | 25, 3 => some fun A st => match A.get 0 with
    | some (.v (.string s)) => ⟨Nat, fun k => [(4, .v (.int .i64 k)), (3, .ow st.nx (keyL ((bys s).take k)).length)], fun k => [(st.nx, .q 5 (.i .u8) (keyP s k))], fun k => k ≤ s.size, fun k => s.size - k⟩
    | _ => LAnn.bad
  | _, _ => none
theorem rkeyC_vc (a : D) : (∃ (g : Unit), ∃ (g : Nat), EqI 0 (↑g : Int) ∧ 0 = (keyL (List.take g (bys a.str))).length ∧ [] = keyP a.str g ∧ g ≤ a.str.size ∧ ∀ (g : Nat), g ≤ a.str.size → bif decide ((↑g : Int) < (↑a.str.size : Int)) then Idx (↑g : Int) a.str.size ∧ ((keyL (List.take g (bys a.str))).length + [D.i (byteAt' a.str g)].length) * 1 ≤ 140737488355328 ∧ (keyL (List.take g (bys a.str))).length + [D.i (byteAt' a.str g)].length ≤ 9223372036854775807 ∧ Idx (↑g : Int) a.str.size ∧ bif decide (byteAt' a.str g = 0) then ((keyL (List.take g (bys a.str))).length + [D.i (byteAt' a.str g)].length + [D.i 255].length) * 1 ≤ 140737488355328 ∧ (keyL (List.take g (bys a.str))).length + [D.i (byteAt' a.str g)].length + [D.i 255].length ≤ 9223372036854775807 ∧ I64 ((↑g : Int) + 1) ∧ ∃ (g_1 : Nat), (↑g : Int) + 1 = (↑g_1 : Int) ∧ (keyL (List.take g (bys a.str))).length + [D.i (byteAt' a.str g)].length + [D.i 255].length = (keyL (List.take g_1 (bys a.str))).length ∧ List.take ((keyL (List.take g (bys a.str))).length + [D.i (byteAt' a.str g)].length) (List.take (keyL (List.take g (bys a.str))).length (keyP a.str g) ++ [D.i (byteAt' a.str g)]) ++ [D.i 255] = keyP a.str g_1 ∧ g_1 ≤ a.str.size ∧ a.str.size - g_1 < a.str.size - g else I64 ((↑g : Int) + 1) ∧ ∃ (g_1 : Nat), (↑g : Int) + 1 = (↑g_1 : Int) ∧ (keyL (List.take g (bys a.str))).length + [D.i (byteAt' a.str g)].length = (keyL (List.take g_1 (bys a.str))).length ∧ List.take (keyL (List.take g (bys a.str))).length (keyP a.str g) ++ [D.i (byteAt' a.str g)] = keyP a.str g_1 ∧ g_1 ≤ a.str.size ∧ a.str.size - g_1 < a.str.size - g else ((keyL (List.take g (bys a.str))).length + [D.i 0].length) * 1 ≤ 140737488355328 ∧ (keyL (List.take g (bys a.str))).length + [D.i 0].length ≤ 9223372036854775807 ∧ ((keyL (List.take g (bys a.str))).length + [D.i 0].length + [D.i 1].length) * 1 ≤ 140737488355328 ∧ (keyL (List.take g (bys a.str))).length + [D.i 0].length + [D.i 1].length ≤ 9223372036854775807 ∧ strOfD (List.take ((keyL (List.take g (bys a.str))).length + [D.i 0].length + [D.i 1].length) (List.take ((keyL (List.take g (bys a.str))).length + [D.i 0].length) (List.take (keyL (List.take g (bys a.str))).length (keyP a.str g) ++ [D.i 0]) ++ [D.i 1])) = sL (keyL (bys a.str) ++ [0, 1])) = conGoal Tryz.prog noS rkeyC_an 200 25 rkeyC [a] := by kernel_rfl
theorem rkeyC_ok : ConOK Tryz.prog gl 25 rkeyC := con_of mo (noS_ok _) (an := rkeyC_an) 200 fun ds hl hp => by
  obtain ⟨a, rfl⟩ := len1 hl
  rw [← rkeyC_vc]
  have p0 : a.str.size ≤ 16777216 := hp _ (.head _)
  refine ⟨(), 0, rfl, rfl, rfl, Nat.zero_le _, fun k h1 => ?_⟩
  have hk := flatk_le p0 k
  have hl := keyP_length a.str k
  rw [take_all hl, take_app hl]
  refine cond_of (fun c => ?_) (fun c => ?_)
  · have c := of_decide_eq_true c
    refine ⟨⟨by omega, by omega⟩, by simp; omega, by simp; omega, ⟨by omega, by omega⟩, cond_of (fun e => ?_) (fun e => ?_)⟩
    · obtain ⟨q1, q2⟩ := key_leaf c (l := [0, 255]) (by rw [keyL_one, if_pos (of_decide_eq_true e)])
      simp only [List.length_cons, List.length_nil] at q1
      refine ⟨by simp; omega, by simp; omega, ⟨by omega, by omega⟩, k + 1, by omega, by rw [q1]; simp, ?_, by omega, by omega⟩
      rw [q2, of_decide_eq_true e, List.append_assoc]; rfl
    · obtain ⟨q1, q2⟩ := key_leaf c (l := [byteAt' a.str k]) (by rw [keyL_one, if_neg (of_decide_eq_false e)])
      simp only [List.length_cons, List.length_nil] at q1
      exact ⟨⟨by omega, by omega⟩, k + 1, by omega, by rw [q1]; simp, q2.symm, by omega, by omega⟩
  · have c := of_decide_eq_false c
    refine ⟨by simp; omega, by simp; omega, by simp; omega, by simp; omega, ?_⟩
    rw [take_app hl, take_app (by rw [List.length_append, hl]), keyP, bys_all c]
    show strOfD (dI _ ++ dI [0] ++ dI [1]) = _
    rw [dI_append, dI_append, strOfD_dI, List.append_assoc]; rfl
def quoC : Con := ⟨[.d true .s], fun ds => (fun (a : D) => [a.str.size ≤ 16777216]) (nthD ds 0), [.d .s], fun ds => (fun (a : D) => [.s (sL (quoL (bys a.str)))]) (nthD ds 0), fun ds => []⟩
def quoC_an : Anns := fun f i => match f, i with
  | 52, 3 => some fun A st => match A.get 0 with
    | some (.v (.string s)) => ⟨Nat, fun k => [(9, .v (.int .i64 k)), (3, .ow st.nx ((((bys s).take k).flatMap escB).length + 1))], fun k => [(st.nx, .q 5 (.i .u8) (quoP s k))], fun k => k ≤ s.size, fun k => s.size - k⟩
    | _ => LAnn.bad
  | _, _ => none
theorem quoC_vc (a : D) : (∃ (g : Nat), EqI 0 (↑g : Int) ∧ 1 = (List.flatMap escB (List.take g (bys a.str))).length + 1 ∧ [D.i 34] = quoP a.str g ∧ g ≤ a.str.size ∧ ∀ (g : Nat), g ≤ a.str.size → bif decide ((↑g : Int) < (↑a.str.size : Int)) then Idx (↑g : Int) a.str.size ∧ bif decide (byteAt' a.str g = 92) then bif decide (byteAt' a.str g = 92) then ((List.flatMap escB (List.take g (bys a.str))).length + 1 + [D.i 92].length) * 1 ≤ 140737488355328 ∧ (List.flatMap escB (List.take g (bys a.str))).length + 1 + [D.i 92].length ≤ 9223372036854775807 ∧ ((List.flatMap escB (List.take g (bys a.str))).length + 1 + [D.i 92].length + [D.i (byteAt' a.str g)].length) * 1 ≤ 140737488355328 ∧ (List.flatMap escB (List.take g (bys a.str))).length + 1 + [D.i 92].length + [D.i (byteAt' a.str g)].length ≤ 9223372036854775807 ∧ I64 ((↑g : Int) + 1) ∧ ∃ (g_1 : Nat), (↑g : Int) + 1 = (↑g_1 : Int) ∧ (List.flatMap escB (List.take g (bys a.str))).length + 1 + [D.i 92].length + [D.i (byteAt' a.str g)].length = (List.flatMap escB (List.take g_1 (bys a.str))).length + 1 ∧ List.take ((List.flatMap escB (List.take g (bys a.str))).length + 1 + [D.i 92].length) (List.take ((List.flatMap escB (List.take g (bys a.str))).length + 1) (quoP a.str g) ++ [D.i 92]) ++ [D.i (byteAt' a.str g)] = quoP a.str g_1 ∧ g_1 ≤ a.str.size ∧ a.str.size - g_1 < a.str.size - g else bif decide (32 ≤ byteAt' a.str g) && decide (byteAt' a.str g ≤ 126) then ((List.flatMap escB (List.take g (bys a.str))).length + 1 + [D.i (byteAt' a.str g)].length) * 1 ≤ 140737488355328 ∧ (List.flatMap escB (List.take g (bys a.str))).length + 1 + [D.i (byteAt' a.str g)].length ≤ 9223372036854775807 ∧ I64 ((↑g : Int) + 1) ∧ ∃ (g_1 : Nat), (↑g : Int) + 1 = (↑g_1 : Int) ∧ (List.flatMap escB (List.take g (bys a.str))).length + 1 + [D.i (byteAt' a.str g)].length = (List.flatMap escB (List.take g_1 (bys a.str))).length + 1 ∧ List.take ((List.flatMap escB (List.take g (bys a.str))).length + 1) (quoP a.str g) ++ [D.i (byteAt' a.str g)] = quoP a.str g_1 ∧ g_1 ≤ a.str.size ∧ a.str.size - g_1 < a.str.size - g else bif decide (byteAt' a.str g = 10) then ((List.flatMap escB (List.take g (bys a.str))).length + 1 + [D.i 92, D.i 110].length) * 1 ≤ 140737488355328 ∧ (List.flatMap escB (List.take g (bys a.str))).length + 1 + [D.i 92, D.i 110].length ≤ 9223372036854775807 ∧ I64 ((↑g : Int) + 1) ∧ ∃ (g_1 : Nat), (↑g : Int) + 1 = (↑g_1 : Int) ∧ (List.flatMap escB (List.take g (bys a.str))).length + 1 + [D.i 92, D.i 110].length = (List.flatMap escB (List.take g_1 (bys a.str))).length + 1 ∧ List.take ((List.flatMap escB (List.take g (bys a.str))).length + 1) (quoP a.str g) ++ [D.i 92, D.i 110] = quoP a.str g_1 ∧ g_1 ≤ a.str.size ∧ a.str.size - g_1 < a.str.size - g else LeI 0 4 ∧ Idx (bshr IntKind.u8 (byteAt' a.str g) 4) (ByteArray.mk #[48, 49, 50, 51, 52, 53, 54, 55, 56, 57, 97, 98, 99, 100, 101, 102]).size ∧ Idx (band IntKind.u8 (byteAt' a.str g) 15) (ByteArray.mk #[48, 49, 50, 51, 52, 53, 54, 55, 56, 57, 97, 98, 99, 100, 101, 102]).size ∧ ((List.flatMap escB (List.take g (bys a.str))).length + 1 + [D.i 92, D.i 120, D.i (byteAt' (ByteArray.mk #[48, 49, 50, 51, 52, 53, 54, 55, 56, 57, 97, 98, 99, 100, 101, 102]) (bshr IntKind.u8 (byteAt' a.str g) 4).toNat), D.i (byteAt' (ByteArray.mk #[48, 49, 50, 51, 52, 53, 54, 55, 56, 57, 97, 98, 99, 100, 101, 102]) (band IntKind.u8 (byteAt' a.str g) 15).toNat)].length) * 1 ≤ 140737488355328 ∧ (List.flatMap escB (List.take g (bys a.str))).length + 1 + [D.i 92, D.i 120, D.i (byteAt' (ByteArray.mk #[48, 49, 50, 51, 52, 53, 54, 55, 56, 57, 97, 98, 99, 100, 101, 102]) (bshr IntKind.u8 (byteAt' a.str g) 4).toNat), D.i (byteAt' (ByteArray.mk #[48, 49, 50, 51, 52, 53, 54, 55, 56, 57, 97, 98, 99, 100, 101, 102]) (band IntKind.u8 (byteAt' a.str g) 15).toNat)].length ≤ 9223372036854775807 ∧ I64 ((↑g : Int) + 1) ∧ ∃ (g_1 : Nat), (↑g : Int) + 1 = (↑g_1 : Int) ∧ (List.flatMap escB (List.take g (bys a.str))).length + 1 + [D.i 92, D.i 120, D.i (byteAt' (ByteArray.mk #[48, 49, 50, 51, 52, 53, 54, 55, 56, 57, 97, 98, 99, 100, 101, 102]) (bshr IntKind.u8 (byteAt' a.str g) 4).toNat), D.i (byteAt' (ByteArray.mk #[48, 49, 50, 51, 52, 53, 54, 55, 56, 57, 97, 98, 99, 100, 101, 102]) (band IntKind.u8 (byteAt' a.str g) 15).toNat)].length = (List.flatMap escB (List.take g_1 (bys a.str))).length + 1 ∧ List.take ((List.flatMap escB (List.take g (bys a.str))).length + 1) (quoP a.str g) ++ [D.i 92, D.i 120, D.i (byteAt' (ByteArray.mk #[48, 49, 50, 51, 52, 53, 54, 55, 56, 57, 97, 98, 99, 100, 101, 102]) (bshr IntKind.u8 (byteAt' a.str g) 4).toNat), D.i (byteAt' (ByteArray.mk #[48, 49, 50, 51, 52, 53, 54, 55, 56, 57, 97, 98, 99, 100, 101, 102]) (band IntKind.u8 (byteAt' a.str g) 15).toNat)] = quoP a.str g_1 ∧ g_1 ≤ a.str.size ∧ a.str.size - g_1 < a.str.size - g else bif decide (byteAt' a.str g = 34) then ((List.flatMap escB (List.take g (bys a.str))).length + 1 + [D.i 92].length) * 1 ≤ 140737488355328 ∧ (List.flatMap escB (List.take g (bys a.str))).length + 1 + [D.i 92].length ≤ 9223372036854775807 ∧ ((List.flatMap escB (List.take g (bys a.str))).length + 1 + [D.i 92].length + [D.i (byteAt' a.str g)].length) * 1 ≤ 140737488355328 ∧ (List.flatMap escB (List.take g (bys a.str))).length + 1 + [D.i 92].length + [D.i (byteAt' a.str g)].length ≤ 9223372036854775807 ∧ I64 ((↑g : Int) + 1) ∧ ∃ (g_1 : Nat), (↑g : Int) + 1 = (↑g_1 : Int) ∧ (List.flatMap escB (List.take g (bys a.str))).length + 1 + [D.i 92].length + [D.i (byteAt' a.str g)].length = (List.flatMap escB (List.take g_1 (bys a.str))).length + 1 ∧ List.take ((List.flatMap escB (List.take g (bys a.str))).length + 1 + [D.i 92].length) (List.take ((List.flatMap escB (List.take g (bys a.str))).length + 1) (quoP a.str g) ++ [D.i 92]) ++ [D.i (byteAt' a.str g)] = quoP a.str g_1 ∧ g_1 ≤ a.str.size ∧ a.str.size - g_1 < a.str.size - g else bif decide (32 ≤ byteAt' a.str g) && decide (byteAt' a.str g ≤ 126) then ((List.flatMap escB (List.take g (bys a.str))).length + 1 + [D.i (byteAt' a.str g)].length) * 1 ≤ 140737488355328 ∧ (List.flatMap escB (List.take g (bys a.str))).length + 1 + [D.i (byteAt' a.str g)].length ≤ 9223372036854775807 ∧ I64 ((↑g : Int) + 1) ∧ ∃ (g_1 : Nat), (↑g : Int) + 1 = (↑g_1 : Int) ∧ (List.flatMap escB (List.take g (bys a.str))).length + 1 + [D.i (byteAt' a.str g)].length = (List.flatMap escB (List.take g_1 (bys a.str))).length + 1 ∧ List.take ((List.flatMap escB (List.take g (bys a.str))).length + 1) (quoP a.str g) ++ [D.i (byteAt' a.str g)] = quoP a.str g_1 ∧ g_1 ≤ a.str.size ∧ a.str.size - g_1 < a.str.size - g else bif decide (byteAt' a.str g = 10) then ((List.flatMap escB (List.take g (bys a.str))).length + 1 + [D.i 92, D.i 110].length) * 1 ≤ 140737488355328 ∧ (List.flatMap escB (List.take g (bys a.str))).length + 1 + [D.i 92, D.i 110].length ≤ 9223372036854775807 ∧ I64 ((↑g : Int) + 1) ∧ ∃ (g_1 : Nat), (↑g : Int) + 1 = (↑g_1 : Int) ∧ (List.flatMap escB (List.take g (bys a.str))).length + 1 + [D.i 92, D.i 110].length = (List.flatMap escB (List.take g_1 (bys a.str))).length + 1 ∧ List.take ((List.flatMap escB (List.take g (bys a.str))).length + 1) (quoP a.str g) ++ [D.i 92, D.i 110] = quoP a.str g_1 ∧ g_1 ≤ a.str.size ∧ a.str.size - g_1 < a.str.size - g else LeI 0 4 ∧ Idx (bshr IntKind.u8 (byteAt' a.str g) 4) (ByteArray.mk #[48, 49, 50, 51, 52, 53, 54, 55, 56, 57, 97, 98, 99, 100, 101, 102]).size ∧ Idx (band IntKind.u8 (byteAt' a.str g) 15) (ByteArray.mk #[48, 49, 50, 51, 52, 53, 54, 55, 56, 57, 97, 98, 99, 100, 101, 102]).size ∧ ((List.flatMap escB (List.take g (bys a.str))).length + 1 + [D.i 92, D.i 120, D.i (byteAt' (ByteArray.mk #[48, 49, 50, 51, 52, 53, 54, 55, 56, 57, 97, 98, 99, 100, 101, 102]) (bshr IntKind.u8 (byteAt' a.str g) 4).toNat), D.i (byteAt' (ByteArray.mk #[48, 49, 50, 51, 52, 53, 54, 55, 56, 57, 97, 98, 99, 100, 101, 102]) (band IntKind.u8 (byteAt' a.str g) 15).toNat)].length) * 1 ≤ 140737488355328 ∧ (List.flatMap escB (List.take g (bys a.str))).length + 1 + [D.i 92, D.i 120, D.i (byteAt' (ByteArray.mk #[48, 49, 50, 51, 52, 53, 54, 55, 56, 57, 97, 98, 99, 100, 101, 102]) (bshr IntKind.u8 (byteAt' a.str g) 4).toNat), D.i (byteAt' (ByteArray.mk #[48, 49, 50, 51, 52, 53, 54, 55, 56, 57, 97, 98, 99, 100, 101, 102]) (band IntKind.u8 (byteAt' a.str g) 15).toNat)].length ≤ 9223372036854775807 ∧ I64 ((↑g : Int) + 1) ∧ ∃ (g_1 : Nat), (↑g : Int) + 1 = (↑g_1 : Int) ∧ (List.flatMap escB (List.take g (bys a.str))).length + 1 + [D.i 92, D.i 120, D.i (byteAt' (ByteArray.mk #[48, 49, 50, 51, 52, 53, 54, 55, 56, 57, 97, 98, 99, 100, 101, 102]) (bshr IntKind.u8 (byteAt' a.str g) 4).toNat), D.i (byteAt' (ByteArray.mk #[48, 49, 50, 51, 52, 53, 54, 55, 56, 57, 97, 98, 99, 100, 101, 102]) (band IntKind.u8 (byteAt' a.str g) 15).toNat)].length = (List.flatMap escB (List.take g_1 (bys a.str))).length + 1 ∧ List.take ((List.flatMap escB (List.take g (bys a.str))).length + 1) (quoP a.str g) ++ [D.i 92, D.i 120, D.i (byteAt' (ByteArray.mk #[48, 49, 50, 51, 52, 53, 54, 55, 56, 57, 97, 98, 99, 100, 101, 102]) (bshr IntKind.u8 (byteAt' a.str g) 4).toNat), D.i (byteAt' (ByteArray.mk #[48, 49, 50, 51, 52, 53, 54, 55, 56, 57, 97, 98, 99, 100, 101, 102]) (band IntKind.u8 (byteAt' a.str g) 15).toNat)] = quoP a.str g_1 ∧ g_1 ≤ a.str.size ∧ a.str.size - g_1 < a.str.size - g else ((List.flatMap escB (List.take g (bys a.str))).length + 1 + [D.i 34].length) * 1 ≤ 140737488355328 ∧ (List.flatMap escB (List.take g (bys a.str))).length + 1 + [D.i 34].length ≤ 9223372036854775807 ∧ strOfD (List.take ((List.flatMap escB (List.take g (bys a.str))).length + 1 + [D.i 34].length) (List.take ((List.flatMap escB (List.take g (bys a.str))).length + 1) (quoP a.str g) ++ [D.i 34])) = sL (quoL (bys a.str))) = conGoal Tryz.prog noS quoC_an 200 52 quoC [a] := by kernel_rfl
theorem quoC_ok : ConOK Tryz.prog gl 52 quoC := con_of mo (noS_ok _) (an := quoC_an) 200 fun ds hl hp => by
  obtain ⟨a, rfl⟩ := len1 hl
  rw [← quoC_vc]
  have p0 : a.str.size ≤ 16777216 := hp _ (.head _)
  refine ⟨0, rfl, rfl, rfl, Nat.zero_le _, fun k h1 => ?_⟩
  have hk := flat_le p0 k
  have hl := quoP_length a.str k
  obtain ⟨b0, b1⟩ := byte_in a.str k
  rw [take_all hl, take_app hl]
  have leaf : (k : Int) < a.str.size → ∀ l, escB (byteAt' a.str k) = l → l.length ≤ 4 → (((((bys a.str).take k).flatMap escB).length + 1 + (dI l).length) * 1 ≤ 140737488355328 ∧ (((bys a.str).take k).flatMap escB).length + 1 + (dI l).length ≤ 9223372036854775807 ∧ I64 ((k : Int) + 1) ∧ ∃ g : Nat, (k : Int) + 1 = g ∧ (((bys a.str).take k).flatMap escB).length + 1 + (dI l).length = (((bys a.str).take g).flatMap escB).length + 1 ∧ quoP a.str k ++ dI l = quoP a.str g ∧ g ≤ a.str.size ∧ a.str.size - g < a.str.size - k) := by
    intro c l he h4
    obtain ⟨q1, q2⟩ := quo_leaf c he
    rw [dI_length]
    exact ⟨by omega, by omega, ⟨by omega, by omega⟩, k + 1, by omega, q1, q2, by omega, by omega⟩
  have two : (k : Int) < a.str.size → escB (byteAt' a.str k) = [92, byteAt' a.str k] → (((((bys a.str).take k).flatMap escB).length + 1 + [D.i 92].length) * 1 ≤ 140737488355328 ∧ (((bys a.str).take k).flatMap escB).length + 1 + [D.i 92].length ≤ 9223372036854775807 ∧ ((((bys a.str).take k).flatMap escB).length + 1 + [D.i 92].length + [D.i (byteAt' a.str k)].length) * 1 ≤ 140737488355328 ∧ (((bys a.str).take k).flatMap escB).length + 1 + [D.i 92].length + [D.i (byteAt' a.str k)].length ≤ 9223372036854775807 ∧ I64 ((k : Int) + 1) ∧ ∃ g : Nat, (k : Int) + 1 = g ∧ (((bys a.str).take k).flatMap escB).length + 1 + [D.i 92].length + [D.i (byteAt' a.str k)].length = (((bys a.str).take g).flatMap escB).length + 1 ∧ quoP a.str k ++ [D.i 92] ++ [D.i (byteAt' a.str k)] = quoP a.str g ∧ g ≤ a.str.size ∧ a.str.size - g < a.str.size - k) := by
    intro c he
    obtain ⟨q1, q2⟩ := quo_leaf c he
    simp only [List.length_cons, List.length_nil] at q1 ⊢
    refine ⟨by omega, by omega, by omega, by omega, ⟨by omega, by omega⟩, k + 1, by omega, by omega, ?_, by omega, by omega⟩
    rw [← q2, List.append_assoc]; rfl
  have rest : (k : Int) < a.str.size → ¬ byteAt' a.str k = 92 → ¬ byteAt' a.str k = 34 → _ := fun c n1 n2 => (cond_of (b := decide (32 ≤ byteAt' a.str k) && decide (byteAt' a.str k ≤ 126)) (fun e => leaf c [byteAt' a.str k] (by simp only [Bool.and_eq_true, decide_eq_true_eq] at e; rw [escB, if_neg (by omega), if_pos e]) (by simp))
    (fun e => cond_of (b := decide (byteAt' a.str k = 10)) (fun e2 => leaf c [92, 110] (by simp only [Bool.and_eq_false_iff, decide_eq_false_iff_not] at e; rw [escB, if_neg (by omega), if_neg (by omega), if_pos (of_decide_eq_true e2)]) (by simp))
      (fun e2 => (by
        have e3 : escB (byteAt' a.str k) = [92, 120, hexc (byteAt' a.str k / 16), hexc (byteAt' a.str k % 16)] := by
          simp only [Bool.and_eq_false_iff, decide_eq_false_iff_not] at e
          rw [escB, if_neg (by omega), if_neg (by omega), if_neg (of_decide_eq_false e2)]
        have h := leaf c _ e3 (by simp)
        have hs : (ByteArray.mk #[48, 49, 50, 51, 52, 53, 54, 55, 56, 57, 97, 98, 99, 100, 101, 102]).size = 16 := rfl
        have r : LeI 0 4 ∧ Idx (bshr IntKind.u8 (byteAt' a.str k) 4) (ByteArray.mk #[48, 49, 50, 51, 52, 53, 54, 55, 56, 57, 97, 98, 99, 100, 101, 102]).size ∧ Idx (band IntKind.u8 (byteAt' a.str k) 15) (ByteArray.mk #[48, 49, 50, 51, 52, 53, 54, 55, 56, 57, 97, 98, 99, 100, 101, 102]).size ∧ _ := ⟨by decide, by rw [shr4b b0, hs]; exact ⟨by omega, by omega⟩, by rw [band15b b0 b1, hs]; exact ⟨by omega, by omega⟩, h⟩
        exact r))))
  have hx1 : byteAt' (ByteArray.mk #[48, 49, 50, 51, 52, 53, 54, 55, 56, 57, 97, 98, 99, 100, 101, 102]) (bshr IntKind.u8 (byteAt' a.str k) 4).toNat = hexc (byteAt' a.str k / 16) := by rw [shr4b b0, at16 (by omega) (by omega)]
  have hx2 : byteAt' (ByteArray.mk #[48, 49, 50, 51, 52, 53, 54, 55, 56, 57, 97, 98, 99, 100, 101, 102]) (band IntKind.u8 (byteAt' a.str k) 15).toNat = hexc (byteAt' a.str k % 16) := by rw [band15b b0 b1, at16 (by omega) (by omega)]
  rw [hx1, hx2]
  refine cond_of (fun c => ?_) (fun c => ?_)
  · have c := of_decide_eq_true c
    refine ⟨⟨by omega, by omega⟩, cond_of (fun e => cond_of (fun _ => ?_) (fun e' => absurd (e.symm.trans e') (by decide))) (fun e => cond_of (fun e2 => ?_) (fun e2 => ?_))⟩
    · exact two c (by rw [escB, if_pos (.inl (of_decide_eq_true e))])
    · exact two c (by rw [escB, if_pos (.inr (of_decide_eq_true e2))])
    · exact rest c (of_decide_eq_false e) (of_decide_eq_false e2)
  · have c := of_decide_eq_false c
    refine ⟨by simp only [List.length_cons, List.length_nil]; omega, by simp only [List.length_cons, List.length_nil]; omega, ?_⟩
    rw [take_app hl, show [D.i 34] = dI [34] from rfl, quoP_add, strOfD_dI, bys_all c]; rfl
end Go.Proofs.YtnhfkdgambncfaaGreatDoor.XT
