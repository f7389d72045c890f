/- Contracts, by the symbolic evaluator. -/
import Derived.Test.YtbbjonjhaoeidaaGreatDoorQT5
import Derived.Test.YtbbjonjhaoeidaaGreatDoorProg
import Derived.Test.YtbbjonjhaoeidaaGreatDoorQTM
set_option linter.unusedVariables false
set_option linter.unusedSimpArgs false
namespace Go.Proofs.YtbbjonjhaoeidaaGreatDoor.XT
open Go Go.RowKit Go.Proofs.YtbbjonjhaoeidaaGreatDoor.Sv
set_option maxRecDepth 100000
theorem take_all {n : Nat} {l : List D} (h : l.length = n) : l.take n = l := List.take_of_length_le (by omega)
theorem take_app {n : Nat} {l r : List D} (h : l.length = n) : (l ++ r).take (n + r.length) = l ++ r := List.take_of_length_le (by rw [List.length_append]; omega)
theorem key_leaf {s : ByteArray} {k : Nat} (h : (k : Int) < s.size) {l : List Int} (he : keyL [byteAt' s k] = l) : (keyL ((bys s).take (k + 1))).length = (keyL ((bys s).take k)).length + l.length ∧ keyP s (k + 1) = keyP s k ++ dI l := by
  have e : keyL ((bys s).take (k + 1)) = keyL ((bys s).take k) ++ l := by rw [bys_succ (by omega), keyL_append, he]
  exact ⟨by rw [e, List.length_append], by rw [keyP, e, ← dI_append]; rfl⟩
theorem quo_leaf {s : ByteArray} {k : Nat} (h : (k : Int) < s.size) {l : List Int} (he : escB (byteAt' s k) = l) : (((bys s).take k).flatMap escB).length + 1 + l.length = (((bys s).take (k + 1)).flatMap escB).length + 1 ∧ quoP s k ++ dI l = quoP s (k + 1) := by
  have e := esc_succ (s := s) (k := k) (by omega)
  rw [he] at e
  exact ⟨by rw [e, List.length_append]; omega, by rw [quoP_add, quoP, e]⟩
theorem rquo_leaf {s : ByteArray} {k : Nat} (h : (k : Int) < s.size) {l : List Int} (he : escB (byteAt' s k) = l) : sL (34 :: ((bys s).take k).flatMap escB) ++ sL l = sL (34 :: ((bys s).take (k + 1)).flatMap escB) := by
  have e := esc_succ (s := s) (k := k) (by omega)
  rw [he] at e
  rw [sL_append, e]; rfl
theorem flat_le {s : ByteArray} (h : s.size ≤ 16777216) (k : Nat) : (((bys s).take k).flatMap escB).length ≤ 67108864 := by
  have h1 := esc_length ((bys s).take k)
  have h2 : ((bys s).take k).length ≤ s.size := by rw [List.length_take, bys_length]; omega
  omega
theorem flatk_le {s : ByteArray} (h : s.size ≤ 16777216) (k : Nat) : (keyL ((bys s).take k)).length ≤ 33554432 := by
  have h1 := keyL_length ((bys s).take k)
  have h2 : ((bys s).take k).length ≤ s.size := by rw [List.length_take, bys_length]; omega
  omega
theorem extract_one {s : ByteArray} {k : Nat} (h : k < s.size) : s.extract k (k + 1) = sL [byteAt' s k] := by
  have hl : k < s.data.toList.length := by rw [Array.length_toList]; exact h
  have e : [byteAt' s k] = nums [s.data.toList[k]] := by
    have h' : k < s.data.size := h
    simp [nums, byteAt', Array.getD, h']
    rw [dif_pos h]
  rw [e, sL_nums]
  apply ByteArray.ext
  apply Array.ext'
  rw [ByteArray.data_extract]
  simp only [Array.toList_extract, List.extract_eq_take_drop]
  rw [List.drop_eq_getElem_cons hl]
  simp
theorem div16 {x : Int} (k : Nat) : x / 16 / 16 ^ k = x / 16 ^ (k + 1) := by
  rw [Int.ediv_ediv_of_nonneg (by decide), Int.pow_succ, Int.mul_comm]
theorem nh_iff : ∀ (k : Nat) {x : Int}, inU x → (nh x ≤ k + 1 ↔ x / 16 ^ (k + 1) = 0)
  | 0, x, h => by
    have h1 := nh_le (x / 16)
    have h2 := h.1
    by_cases hx : x < 16
    · rw [nh_small hx]; simp; omega
    · rw [nh_step (by omega) h.2]; simp; omega
  | k + 1, x, h => by
    have h0 := h.1
    rw [← div16]
    by_cases hx : x < 16
    · rw [nh_small hx, show x / 16 = 0 by omega]; simp
    · have ih := nh_iff k (div_in h 16 (by decide))
      rw [nh_step (by omega) h.2, ← ih]; omega
theorem pow16 (k : Nat) : (2 : Int) ^ (4 * k) = 16 ^ k := by rw [Int.pow_mul]; rfl
def intC : Con := ⟨[.d true (.i .i64)], fun ds => (fun (a : D) => [I64 a.int]) (nthD ds 0), [.d .s], fun ds => (fun (a : D) => [.s (sL (beL (a.int + 9223372036854775808) 8))]) (nthD ds 0), fun ds => []⟩
def intC_an : Anns := fun _ _ => none
theorem intC_vc (a : D) : ((0 ≤ bxor IntKind.u64 (IntKind.u64.wrap a.int) 9223372036854775808 ∧ bxor IntKind.u64 (IntKind.u64.wrap a.int) 9223372036854775808 < 18446744073709551616) ∧ sL (beL (bxor IntKind.u64 (IntKind.u64.wrap a.int) 9223372036854775808) 8) = sL (beL (a.int + 9223372036854775808) 8)) = conGoal Tryz.prog (addS 94 eightC noS) intC_an 200 76 intC [a] := by kernel_rfl
theorem intC_ok : ConOK Tryz.prog gl 76 intC := con_of mo (addS_ok eightC_ok (noS_ok _)) (an := intC_an) 200 fun ds hl hp => by
  obtain ⟨a, rfl⟩ := len1 hl
  rw [← intC_vc]
  have p0 : I64 a.int := hp _ (.head _)
  rw [xor_high _ p0]
  have := p0.1
  have := p0.2
  exact ⟨⟨by omega, by omega⟩, rfl⟩
def keyC : Con := ⟨[.d true .s], fun ds => (fun (a : D) => [a.str.size ≤ 16777216]) (nthD ds 0), [.d .s], fun ds => (fun (a : D) => [.s (sL (keyL (bys a.str) ++ [0, 1]))]) (nthD ds 0), fun ds => []⟩
def keyC_an : Anns := fun _ _ => none
theorem keyC_vc (a : D) : (a.str.size < 4294967281 ∧ 1 ≤ (ByteArray.mk #[0]).size ∧ a.str.size + Lib.countB a.str (ByteArray.mk #[0]) * (ByteArray.mk #[0, 255]).size ≤ 140737488355328 ∧ (replS a.str (ByteArray.mk #[0]) (ByteArray.mk #[0, 255])).size + (ByteArray.mk #[0, 1]).size ≤ 9223372036854775807 ∧ replS a.str (ByteArray.mk #[0]) (ByteArray.mk #[0, 255]) ++ ByteArray.mk #[0, 1] = sL (keyL (bys a.str) ++ [0, 1])) = conGoal Tryz.prog (addS 95 replC noS) keyC_an 200 77 keyC [a] := by kernel_rfl
theorem keyC_ok : ConOK Tryz.prog gl 77 keyC := con_of mo (addS_ok replC_ok (noS_ok _)) (an := keyC_an) 200 fun ds hl hp => by
  obtain ⟨a, rfl⟩ := len1 hl
  rw [← keyC_vc]
  have p0 : a.str.size ≤ 16777216 := hp _ (.head _)
  rw [repl_keyS]
  have h1 := count_leS a.str
  have h2 := keyL_length (bys a.str)
  rw [bys_length] at h2
  have e1 : (ByteArray.mk #[0, 1]).size = 2 := rfl
  have e2 : (ByteArray.mk #[0, 255]).size = 2 := rfl
  refine ⟨by omega, by decide, by rw [e2]; omega, by rw [sL_size, e1]; omega, ?_⟩
  exact sL_append _ [0, 1]
def quoC : Con := ⟨[.d true .s], fun ds => (fun (a : D) => [a.str.size ≤ 16777216]) (nthD ds 0), [.d .s], fun ds => (fun (a : D) => [.s (sL (quoL (bys a.str)))]) (nthD ds 0), fun ds => []⟩
def quoC_an : Anns := fun f i => match f, i with
  | 69, 3 => some fun A st => match A.get 0 with
    | some (.v (.string s)) => ⟨Nat, fun k => [(9, .v (.int .i64 k)), (3, .ow st.nx ((((bys s).take k).flatMap escB).length + 1))], fun k => [(st.nx, .q 5 (.i .u8) (quoP s k))], fun k => k ≤ s.size, fun k => s.size - k⟩
    | _ => LAnn.bad
  | _, _ => none
theorem quoC_vc (a : D) : (∃ (g : Nat), EqI 0 (↑g : Int) ∧ 1 = (List.flatMap escB (List.take g (bys a.str))).length + 1 ∧ [D.i 34] = quoP a.str g ∧ g ≤ a.str.size ∧ ∀ (g : Nat), g ≤ a.str.size → bif decide ((↑g : Int) < (↑a.str.size : Int)) then Idx (↑g : Int) a.str.size ∧ bif decide (byteAt' a.str g = 92) then bif decide (byteAt' a.str g = 92) then ((List.flatMap escB (List.take g (bys a.str))).length + 1 + [D.i 92].length) * 1 ≤ 140737488355328 ∧ (List.flatMap escB (List.take g (bys a.str))).length + 1 + [D.i 92].length ≤ 9223372036854775807 ∧ ((List.flatMap escB (List.take g (bys a.str))).length + 1 + [D.i 92].length + [D.i (byteAt' a.str g)].length) * 1 ≤ 140737488355328 ∧ (List.flatMap escB (List.take g (bys a.str))).length + 1 + [D.i 92].length + [D.i (byteAt' a.str g)].length ≤ 9223372036854775807 ∧ I64 ((↑g : Int) + 1) ∧ ∃ (g_1 : Nat), (↑g : Int) + 1 = (↑g_1 : Int) ∧ (List.flatMap escB (List.take g (bys a.str))).length + 1 + [D.i 92].length + [D.i (byteAt' a.str g)].length = (List.flatMap escB (List.take g_1 (bys a.str))).length + 1 ∧ List.take ((List.flatMap escB (List.take g (bys a.str))).length + 1 + [D.i 92].length) (List.take ((List.flatMap escB (List.take g (bys a.str))).length + 1) (quoP a.str g) ++ [D.i 92]) ++ [D.i (byteAt' a.str g)] = quoP a.str g_1 ∧ g_1 ≤ a.str.size ∧ a.str.size - g_1 < a.str.size - g else bif decide (32 ≤ byteAt' a.str g) && decide (byteAt' a.str g ≤ 126) then ((List.flatMap escB (List.take g (bys a.str))).length + 1 + [D.i (byteAt' a.str g)].length) * 1 ≤ 140737488355328 ∧ (List.flatMap escB (List.take g (bys a.str))).length + 1 + [D.i (byteAt' a.str g)].length ≤ 9223372036854775807 ∧ I64 ((↑g : Int) + 1) ∧ ∃ (g_1 : Nat), (↑g : Int) + 1 = (↑g_1 : Int) ∧ (List.flatMap escB (List.take g (bys a.str))).length + 1 + [D.i (byteAt' a.str g)].length = (List.flatMap escB (List.take g_1 (bys a.str))).length + 1 ∧ List.take ((List.flatMap escB (List.take g (bys a.str))).length + 1) (quoP a.str g) ++ [D.i (byteAt' a.str g)] = quoP a.str g_1 ∧ g_1 ≤ a.str.size ∧ a.str.size - g_1 < a.str.size - g else bif decide (byteAt' a.str g = 10) then ((List.flatMap escB (List.take g (bys a.str))).length + 1 + [D.i 92, D.i 110].length) * 1 ≤ 140737488355328 ∧ (List.flatMap escB (List.take g (bys a.str))).length + 1 + [D.i 92, D.i 110].length ≤ 9223372036854775807 ∧ I64 ((↑g : Int) + 1) ∧ ∃ (g_1 : Nat), (↑g : Int) + 1 = (↑g_1 : Int) ∧ (List.flatMap escB (List.take g (bys a.str))).length + 1 + [D.i 92, D.i 110].length = (List.flatMap escB (List.take g_1 (bys a.str))).length + 1 ∧ List.take ((List.flatMap escB (List.take g (bys a.str))).length + 1) (quoP a.str g) ++ [D.i 92, D.i 110] = quoP a.str g_1 ∧ g_1 ≤ a.str.size ∧ a.str.size - g_1 < a.str.size - g else LeI 0 4 ∧ Idx (bshr IntKind.u8 (byteAt' a.str g) 4) (ByteArray.mk #[48, 49, 50, 51, 52, 53, 54, 55, 56, 57, 97, 98, 99, 100, 101, 102]).size ∧ Idx (band IntKind.u8 (byteAt' a.str g) 15) (ByteArray.mk #[48, 49, 50, 51, 52, 53, 54, 55, 56, 57, 97, 98, 99, 100, 101, 102]).size ∧ ((List.flatMap escB (List.take g (bys a.str))).length + 1 + [D.i 92, D.i 120, D.i (byteAt' (ByteArray.mk #[48, 49, 50, 51, 52, 53, 54, 55, 56, 57, 97, 98, 99, 100, 101, 102]) (bshr IntKind.u8 (byteAt' a.str g) 4).toNat), D.i (byteAt' (ByteArray.mk #[48, 49, 50, 51, 52, 53, 54, 55, 56, 57, 97, 98, 99, 100, 101, 102]) (band IntKind.u8 (byteAt' a.str g) 15).toNat)].length) * 1 ≤ 140737488355328 ∧ (List.flatMap escB (List.take g (bys a.str))).length + 1 + [D.i 92, D.i 120, D.i (byteAt' (ByteArray.mk #[48, 49, 50, 51, 52, 53, 54, 55, 56, 57, 97, 98, 99, 100, 101, 102]) (bshr IntKind.u8 (byteAt' a.str g) 4).toNat), D.i (byteAt' (ByteArray.mk #[48, 49, 50, 51, 52, 53, 54, 55, 56, 57, 97, 98, 99, 100, 101, 102]) (band IntKind.u8 (byteAt' a.str g) 15).toNat)].length ≤ 9223372036854775807 ∧ I64 ((↑g : Int) + 1) ∧ ∃ (g_1 : Nat), (↑g : Int) + 1 = (↑g_1 : Int) ∧ (List.flatMap escB (List.take g (bys a.str))).length + 1 + [D.i 92, D.i 120, D.i (byteAt' (ByteArray.mk #[48, 49, 50, 51, 52, 53, 54, 55, 56, 57, 97, 98, 99, 100, 101, 102]) (bshr IntKind.u8 (byteAt' a.str g) 4).toNat), D.i (byteAt' (ByteArray.mk #[48, 49, 50, 51, 52, 53, 54, 55, 56, 57, 97, 98, 99, 100, 101, 102]) (band IntKind.u8 (byteAt' a.str g) 15).toNat)].length = (List.flatMap escB (List.take g_1 (bys a.str))).length + 1 ∧ List.take ((List.flatMap escB (List.take g (bys a.str))).length + 1) (quoP a.str g) ++ [D.i 92, D.i 120, D.i (byteAt' (ByteArray.mk #[48, 49, 50, 51, 52, 53, 54, 55, 56, 57, 97, 98, 99, 100, 101, 102]) (bshr IntKind.u8 (byteAt' a.str g) 4).toNat), D.i (byteAt' (ByteArray.mk #[48, 49, 50, 51, 52, 53, 54, 55, 56, 57, 97, 98, 99, 100, 101, 102]) (band IntKind.u8 (byteAt' a.str g) 15).toNat)] = quoP a.str g_1 ∧ g_1 ≤ a.str.size ∧ a.str.size - g_1 < a.str.size - g else bif decide (byteAt' a.str g = 34) then ((List.flatMap escB (List.take g (bys a.str))).length + 1 + [D.i 92].length) * 1 ≤ 140737488355328 ∧ (List.flatMap escB (List.take g (bys a.str))).length + 1 + [D.i 92].length ≤ 9223372036854775807 ∧ ((List.flatMap escB (List.take g (bys a.str))).length + 1 + [D.i 92].length + [D.i (byteAt' a.str g)].length) * 1 ≤ 140737488355328 ∧ (List.flatMap escB (List.take g (bys a.str))).length + 1 + [D.i 92].length + [D.i (byteAt' a.str g)].length ≤ 9223372036854775807 ∧ I64 ((↑g : Int) + 1) ∧ ∃ (g_1 : Nat), (↑g : Int) + 1 = (↑g_1 : Int) ∧ (List.flatMap escB (List.take g (bys a.str))).length + 1 + [D.i 92].length + [D.i (byteAt' a.str g)].length = (List.flatMap escB (List.take g_1 (bys a.str))).length + 1 ∧ List.take ((List.flatMap escB (List.take g (bys a.str))).length + 1 + [D.i 92].length) (List.take ((List.flatMap escB (List.take g (bys a.str))).length + 1) (quoP a.str g) ++ [D.i 92]) ++ [D.i (byteAt' a.str g)] = quoP a.str g_1 ∧ g_1 ≤ a.str.size ∧ a.str.size - g_1 < a.str.size - g else bif decide (32 ≤ byteAt' a.str g) && decide (byteAt' a.str g ≤ 126) then ((List.flatMap escB (List.take g (bys a.str))).length + 1 + [D.i (byteAt' a.str g)].length) * 1 ≤ 140737488355328 ∧ (List.flatMap escB (List.take g (bys a.str))).length + 1 + [D.i (byteAt' a.str g)].length ≤ 9223372036854775807 ∧ I64 ((↑g : Int) + 1) ∧ ∃ (g_1 : Nat), (↑g : Int) + 1 = (↑g_1 : Int) ∧ (List.flatMap escB (List.take g (bys a.str))).length + 1 + [D.i (byteAt' a.str g)].length = (List.flatMap escB (List.take g_1 (bys a.str))).length + 1 ∧ List.take ((List.flatMap escB (List.take g (bys a.str))).length + 1) (quoP a.str g) ++ [D.i (byteAt' a.str g)] = quoP a.str g_1 ∧ g_1 ≤ a.str.size ∧ a.str.size - g_1 < a.str.size - g else bif decide (byteAt' a.str g = 10) then ((List.flatMap escB (List.take g (bys a.str))).length + 1 + [D.i 92, D.i 110].length) * 1 ≤ 140737488355328 ∧ (List.flatMap escB (List.take g (bys a.str))).length + 1 + [D.i 92, D.i 110].length ≤ 9223372036854775807 ∧ I64 ((↑g : Int) + 1) ∧ ∃ (g_1 : Nat), (↑g : Int) + 1 = (↑g_1 : Int) ∧ (List.flatMap escB (List.take g (bys a.str))).length + 1 + [D.i 92, D.i 110].length = (List.flatMap escB (List.take g_1 (bys a.str))).length + 1 ∧ List.take ((List.flatMap escB (List.take g (bys a.str))).length + 1) (quoP a.str g) ++ [D.i 92, D.i 110] = quoP a.str g_1 ∧ g_1 ≤ a.str.size ∧ a.str.size - g_1 < a.str.size - g else LeI 0 4 ∧ Idx (bshr IntKind.u8 (byteAt' a.str g) 4) (ByteArray.mk #[48, 49, 50, 51, 52, 53, 54, 55, 56, 57, 97, 98, 99, 100, 101, 102]).size ∧ Idx (band IntKind.u8 (byteAt' a.str g) 15) (ByteArray.mk #[48, 49, 50, 51, 52, 53, 54, 55, 56, 57, 97, 98, 99, 100, 101, 102]).size ∧ ((List.flatMap escB (List.take g (bys a.str))).length + 1 + [D.i 92, D.i 120, D.i (byteAt' (ByteArray.mk #[48, 49, 50, 51, 52, 53, 54, 55, 56, 57, 97, 98, 99, 100, 101, 102]) (bshr IntKind.u8 (byteAt' a.str g) 4).toNat), D.i (byteAt' (ByteArray.mk #[48, 49, 50, 51, 52, 53, 54, 55, 56, 57, 97, 98, 99, 100, 101, 102]) (band IntKind.u8 (byteAt' a.str g) 15).toNat)].length) * 1 ≤ 140737488355328 ∧ (List.flatMap escB (List.take g (bys a.str))).length + 1 + [D.i 92, D.i 120, D.i (byteAt' (ByteArray.mk #[48, 49, 50, 51, 52, 53, 54, 55, 56, 57, 97, 98, 99, 100, 101, 102]) (bshr IntKind.u8 (byteAt' a.str g) 4).toNat), D.i (byteAt' (ByteArray.mk #[48, 49, 50, 51, 52, 53, 54, 55, 56, 57, 97, 98, 99, 100, 101, 102]) (band IntKind.u8 (byteAt' a.str g) 15).toNat)].length ≤ 9223372036854775807 ∧ I64 ((↑g : Int) + 1) ∧ ∃ (g_1 : Nat), (↑g : Int) + 1 = (↑g_1 : Int) ∧ (List.flatMap escB (List.take g (bys a.str))).length + 1 + [D.i 92, D.i 120, D.i (byteAt' (ByteArray.mk #[48, 49, 50, 51, 52, 53, 54, 55, 56, 57, 97, 98, 99, 100, 101, 102]) (bshr IntKind.u8 (byteAt' a.str g) 4).toNat), D.i (byteAt' (ByteArray.mk #[48, 49, 50, 51, 52, 53, 54, 55, 56, 57, 97, 98, 99, 100, 101, 102]) (band IntKind.u8 (byteAt' a.str g) 15).toNat)].length = (List.flatMap escB (List.take g_1 (bys a.str))).length + 1 ∧ List.take ((List.flatMap escB (List.take g (bys a.str))).length + 1) (quoP a.str g) ++ [D.i 92, D.i 120, D.i (byteAt' (ByteArray.mk #[48, 49, 50, 51, 52, 53, 54, 55, 56, 57, 97, 98, 99, 100, 101, 102]) (bshr IntKind.u8 (byteAt' a.str g) 4).toNat), D.i (byteAt' (ByteArray.mk #[48, 49, 50, 51, 52, 53, 54, 55, 56, 57, 97, 98, 99, 100, 101, 102]) (band IntKind.u8 (byteAt' a.str g) 15).toNat)] = quoP a.str g_1 ∧ g_1 ≤ a.str.size ∧ a.str.size - g_1 < a.str.size - g else ((List.flatMap escB (List.take g (bys a.str))).length + 1 + [D.i 34].length) * 1 ≤ 140737488355328 ∧ (List.flatMap escB (List.take g (bys a.str))).length + 1 + [D.i 34].length ≤ 9223372036854775807 ∧ strOfD (List.take ((List.flatMap escB (List.take g (bys a.str))).length + 1 + [D.i 34].length) (List.take ((List.flatMap escB (List.take g (bys a.str))).length + 1) (quoP a.str g) ++ [D.i 34])) = sL (quoL (bys a.str))) = conGoal Tryz.prog noS quoC_an 200 69 quoC [a] := by kernel_rfl
theorem quoC_ok : ConOK Tryz.prog gl 69 quoC := con_of mo (noS_ok _) (an := quoC_an) 200 fun ds hl hp => by
  obtain ⟨a, rfl⟩ := len1 hl
  rw [← quoC_vc]
  have p0 : a.str.size ≤ 16777216 := hp _ (.head _)
  refine ⟨0, rfl, rfl, rfl, Nat.zero_le _, fun k h1 => ?_⟩
  have hk := flat_le p0 k
  have hl := quoP_length a.str k
  obtain ⟨b0, b1⟩ := byte_in a.str k
  rw [take_all hl, take_app hl]
  have leaf : (k : Int) < a.str.size → ∀ l, escB (byteAt' a.str k) = l → l.length ≤ 4 → (((((bys a.str).take k).flatMap escB).length + 1 + (dI l).length) * 1 ≤ 140737488355328 ∧ (((bys a.str).take k).flatMap escB).length + 1 + (dI l).length ≤ 9223372036854775807 ∧ I64 ((k : Int) + 1) ∧ ∃ g : Nat, (k : Int) + 1 = g ∧ (((bys a.str).take k).flatMap escB).length + 1 + (dI l).length = (((bys a.str).take g).flatMap escB).length + 1 ∧ quoP a.str k ++ dI l = quoP a.str g ∧ g ≤ a.str.size ∧ a.str.size - g < a.str.size - k) := by
    intro c l he h4
    obtain ⟨q1, q2⟩ := quo_leaf c he
    rw [dI_length]
    exact ⟨by omega, by omega, ⟨by omega, by omega⟩, k + 1, by omega, q1, q2, by omega, by omega⟩
  have two : (k : Int) < a.str.size → escB (byteAt' a.str k) = [92, byteAt' a.str k] → (((((bys a.str).take k).flatMap escB).length + 1 + [D.i 92].length) * 1 ≤ 140737488355328 ∧ (((bys a.str).take k).flatMap escB).length + 1 + [D.i 92].length ≤ 9223372036854775807 ∧ ((((bys a.str).take k).flatMap escB).length + 1 + [D.i 92].length + [D.i (byteAt' a.str k)].length) * 1 ≤ 140737488355328 ∧ (((bys a.str).take k).flatMap escB).length + 1 + [D.i 92].length + [D.i (byteAt' a.str k)].length ≤ 9223372036854775807 ∧ I64 ((k : Int) + 1) ∧ ∃ g : Nat, (k : Int) + 1 = g ∧ (((bys a.str).take k).flatMap escB).length + 1 + [D.i 92].length + [D.i (byteAt' a.str k)].length = (((bys a.str).take g).flatMap escB).length + 1 ∧ quoP a.str k ++ [D.i 92] ++ [D.i (byteAt' a.str k)] = quoP a.str g ∧ g ≤ a.str.size ∧ a.str.size - g < a.str.size - k) := by
    intro c he
    obtain ⟨q1, q2⟩ := quo_leaf c he
    simp only [List.length_cons, List.length_nil] at q1 ⊢
    refine ⟨by omega, by omega, by omega, by omega, ⟨by omega, by omega⟩, k + 1, by omega, by omega, ?_, by omega, by omega⟩
    rw [← q2, List.append_assoc]; rfl
  have rest : (k : Int) < a.str.size → ¬ byteAt' a.str k = 92 → ¬ byteAt' a.str k = 34 → _ := fun c n1 n2 => (cond_of (b := decide (32 ≤ byteAt' a.str k) && decide (byteAt' a.str k ≤ 126)) (fun e => leaf c [byteAt' a.str k] (by simp only [Bool.and_eq_true, decide_eq_true_eq] at e; rw [escB, if_neg (by omega), if_pos e]) (by simp))
    (fun e => cond_of (b := decide (byteAt' a.str k = 10)) (fun e2 => leaf c [92, 110] (by simp only [Bool.and_eq_false_iff, decide_eq_false_iff_not] at e; rw [escB, if_neg (by omega), if_neg (by omega), if_pos (of_decide_eq_true e2)]) (by simp))
      (fun e2 => (by
        have e3 : escB (byteAt' a.str k) = [92, 120, hexc (byteAt' a.str k / 16), hexc (byteAt' a.str k % 16)] := by
          simp only [Bool.and_eq_false_iff, decide_eq_false_iff_not] at e
          rw [escB, if_neg (by omega), if_neg (by omega), if_neg (of_decide_eq_false e2)]
        have h := leaf c _ e3 (by simp)
        have hs : (ByteArray.mk #[48, 49, 50, 51, 52, 53, 54, 55, 56, 57, 97, 98, 99, 100, 101, 102]).size = 16 := rfl
        have r : LeI 0 4 ∧ Idx (bshr IntKind.u8 (byteAt' a.str k) 4) (ByteArray.mk #[48, 49, 50, 51, 52, 53, 54, 55, 56, 57, 97, 98, 99, 100, 101, 102]).size ∧ Idx (band IntKind.u8 (byteAt' a.str k) 15) (ByteArray.mk #[48, 49, 50, 51, 52, 53, 54, 55, 56, 57, 97, 98, 99, 100, 101, 102]).size ∧ _ := ⟨by decide, by rw [shr4b b0, hs]; exact ⟨by omega, by omega⟩, by rw [band15b b0 b1, hs]; exact ⟨by omega, by omega⟩, h⟩
        exact r))))
  have hx1 : byteAt' (ByteArray.mk #[48, 49, 50, 51, 52, 53, 54, 55, 56, 57, 97, 98, 99, 100, 101, 102]) (bshr IntKind.u8 (byteAt' a.str k) 4).toNat = hexc (byteAt' a.str k / 16) := by rw [shr4b b0, at16 (by omega) (by omega)]
  have hx2 : byteAt' (ByteArray.mk #[48, 49, 50, 51, 52, 53, 54, 55, 56, 57, 97, 98, 99, 100, 101, 102]) (band IntKind.u8 (byteAt' a.str k) 15).toNat = hexc (byteAt' a.str k % 16) := by rw [band15b b0 b1, at16 (by omega) (by omega)]
  rw [hx1, hx2]
  refine cond_of (fun c => ?_) (fun c => ?_)
  · have c := of_decide_eq_true c
    refine ⟨⟨by omega, by omega⟩, cond_of (fun e => cond_of (fun _ => ?_) (fun e' => absurd (e.symm.trans e') (by decide))) (fun e => cond_of (fun e2 => ?_) (fun e2 => ?_))⟩
    · exact two c (by rw [escB, if_pos (.inl (of_decide_eq_true e))])
    · exact two c (by rw [escB, if_pos (.inr (of_decide_eq_true e2))])
    · exact rest c (of_decide_eq_false e) (of_decide_eq_false e2)
  · have c := of_decide_eq_false c
    refine ⟨by simp only [List.length_cons, List.length_nil]; omega, by simp only [List.length_cons, List.length_nil]; omega, ?_⟩
    rw [take_app hl, show [D.i 34] = dI [34] from rfl, quoP_add, strOfD_dI, bys_all c]; rfl
def numbC : Con := ⟨[.d true (.i .u64)], fun ds => (fun (a : D) => [inU a.int]) (nthD ds 0), [.d .s], fun ds => (fun (a : D) => [.s (sL (decL 20 a.int))]) (nthD ds 0), fun ds => []⟩
def numbC_an : Anns := fun f i => match f, i with
  | 74, 2 => some fun A st => match A.get 0 with
    | some (.v (.int _ x)) => ⟨Nat × Int × List Int, fun g => [(0, .v (.int .u64 g.2.1)), (3, .v (.string (sL g.2.2)))], fun _ => [], fun g => g.1 + g.2.2.length = 20 ∧ inU g.2.1 ∧ (1 ≤ g.1 ∧ g.2.1 < 10 ^ g.1) ∧ decL 20 x = decL g.1 g.2.1 ++ g.2.2, fun g => g.1⟩
    | _ => LAnn.bad
  | _, _ => none
theorem numbC_vc (a : D) : (∃ (g : Nat × Int × List Int), a.int = g.snd.fst ∧ (ByteArray.mk #[]) = sL g.snd.snd ∧ (g.fst + g.snd.snd.length = 20 ∧ (0 ≤ g.snd.fst ∧ g.snd.fst < 18446744073709551616) ∧ (1 ≤ g.fst ∧ g.snd.fst < 10 ^ g.fst) ∧ decL 20 a.int = decL g.fst g.snd.fst ++ g.snd.snd) ∧ ∀ (g : Nat × Int × List Int), g.fst + g.snd.snd.length = 20 ∧ (0 ≤ g.snd.fst ∧ g.snd.fst < 18446744073709551616) ∧ (1 ≤ g.fst ∧ g.snd.fst < 10 ^ g.fst) ∧ decL 20 a.int = decL g.fst g.snd.fst ++ g.snd.snd → bif decide (9 < g.snd.fst) then ¬EqI 10 0 ∧ 0 ≤ g.snd.fst.tmod 10 ∧ g.snd.fst.tmod 10 ≤ IntKind.u64.wrap (g.snd.fst.tmod 10 + 1) ∧ IntKind.u64.wrap (g.snd.fst.tmod 10 + 1) ≤ (↑(ByteArray.mk #[48, 49, 50, 51, 52, 53, 54, 55, 56, 57]).size : Int) ∧ ((ByteArray.mk #[48, 49, 50, 51, 52, 53, 54, 55, 56, 57]).extract (g.snd.fst.tmod 10).toNat (IntKind.u64.wrap (g.snd.fst.tmod 10 + 1)).toNat).size + (sL g.snd.snd).size ≤ 9223372036854775807 ∧ ¬EqI 10 0 ∧ ∃ (g_1 : Nat × Int × List Int), IntKind.u64.wrap (g.snd.fst.tdiv 10) = g_1.snd.fst ∧ (ByteArray.mk #[48, 49, 50, 51, 52, 53, 54, 55, 56, 57]).extract (g.snd.fst.tmod 10).toNat (IntKind.u64.wrap (g.snd.fst.tmod 10 + 1)).toNat ++ sL g.snd.snd = sL g_1.snd.snd ∧ (g_1.fst + g_1.snd.snd.length = 20 ∧ (0 ≤ g_1.snd.fst ∧ g_1.snd.fst < 18446744073709551616) ∧ (1 ≤ g_1.fst ∧ g_1.snd.fst < 10 ^ g_1.fst) ∧ decL 20 a.int = decL g_1.fst g_1.snd.fst ++ g_1.snd.snd) ∧ g_1.fst < g.fst else 0 ≤ g.snd.fst ∧ g.snd.fst ≤ IntKind.u64.wrap (g.snd.fst + 1) ∧ IntKind.u64.wrap (g.snd.fst + 1) ≤ (↑(ByteArray.mk #[48, 49, 50, 51, 52, 53, 54, 55, 56, 57]).size : Int) ∧ ((ByteArray.mk #[48, 49, 50, 51, 52, 53, 54, 55, 56, 57]).extract g.snd.fst.toNat (IntKind.u64.wrap (g.snd.fst + 1)).toNat).size + (sL g.snd.snd).size ≤ 9223372036854775807 ∧ (ByteArray.mk #[48, 49, 50, 51, 52, 53, 54, 55, 56, 57]).extract g.snd.fst.toNat (IntKind.u64.wrap (g.snd.fst + 1)).toNat ++ sL g.snd.snd = sL (decL 20 a.int)) = conGoal Tryz.prog noS numbC_an 200 74 numbC [a] := by kernel_rfl
theorem numbC_ok : ConOK Tryz.prog gl 74 numbC := con_of mo (noS_ok _) (an := numbC_an) 200 fun ds hl hp => by
  obtain ⟨a, rfl⟩ := len1 hl
  rw [← numbC_vc]
  have p0 : inU a.int := hp _ (.head _)
  refine ⟨(20, a.int, []), rfl, rfl, ⟨rfl, p0, ⟨show 1 ≤ 20 by decide, Int.lt_trans p0.2 (show (18446744073709551616 : Int) < 10 ^ 20 by decide)⟩, by simp⟩, ?_⟩
  rintro ⟨f, y, l⟩ ⟨h1, h2, ⟨h0, h3⟩, h4⟩
  dsimp only at h0 h1 h2 h3 h4 ⊢
  obtain ⟨m, rfl⟩ : ∃ m, f = m + 1 := ⟨f - 1, by omega⟩
  have y0 := h2.1
  have y1 := h2.2
  by_cases hd : 9 < y
  · rw [decide_eq_true hd, Int.tmod_eq_emod_of_nonneg y0, Int.tdiv_eq_ediv_of_nonneg y0, dig10 (d := y % 10) (by omega) (by omega)]
    have w : IntKind.u64.wrap (y % 10 + 1) = y % 10 + 1 := wrap64 (by omega) (by omega)
    refine ⟨by decide, by omega, by rw [w]; omega, by rw [w]; show y % 10 + 1 ≤ 10; omega, by rw [sL_size, sL_size]; simp; omega, by decide, (m, y / 10, (48 + y % 10) :: l), wrap64 (by omega) (by omega), sL_append _ _, ⟨by simp; omega, div_in h2 10 (by decide), ?_, ?_⟩, Nat.lt_succ_self m⟩
    · rw [Int.pow_succ] at h3
      refine ⟨?_, show y / 10 < 10 ^ m by omega⟩
      cases m with
      | zero => have h3 : y < 10 := h3; omega
      | succ m => exact Nat.succ_le_succ (Nat.zero_le _)
    · rw [h4, decL, if_neg (by omega), List.append_assoc]; rfl
  · rw [decide_eq_false hd, dig10 (d := y) (by omega) (by omega)]
    have w : IntKind.u64.wrap (y + 1) = y + 1 := wrap64 (by omega) (by omega)
    refine ⟨by omega, by rw [w]; omega, by rw [w]; show y + 1 ≤ 10; omega, by rw [sL_size, sL_size]; simp; omega, ?_⟩
    rw [h4, decL, if_pos (by omega), sL_append]
def hexC : Con := ⟨[.d true (.i .u64), .d true (.i .i64)], fun ds => (fun (a : D) (b : D) => [inU a.int, 0 ≤ b.int, b.int ≤ 16]) (nthD ds 0) (nthD ds 1), [.d .s], fun ds => (fun (a : D) (b : D) => [.s (sL (hexL a.int b.int.toNat))]) (nthD ds 0) (nthD ds 1), fun ds => []⟩
def hexC_an : Anns := fun f i => match f, i with
  | 73, 3 => some fun A st => match A.get 0, A.get 1 with
    | some (.v (.int _ x)), some (.v (.int _ n)) => ⟨Nat × Int × List Int, fun g => [(6, .v (.int .i64 g.1)), (5, .v (.string (sL g.2.2))), (0, .v (.int .u64 g.2.1))], fun _ => [], fun g => g.1 ≤ n.toNat ∧ g.2.2.length = g.1 ∧ inU g.2.1 ∧ hexL x n.toNat = hexL g.2.1 (n.toNat - g.1) ++ g.2.2, fun g => n.toNat - g.1⟩
    | _, _ => LAnn.bad
  | _, _ => none
theorem hexC_vc (a b : D) : (∃ (g : Nat × Int × List Int), EqI 0 (↑g.fst : Int) ∧ (ByteArray.mk #[]) = sL g.snd.snd ∧ a.int = g.snd.fst ∧ (g.fst ≤ b.int.toNat ∧ g.snd.snd.length = g.fst ∧ (0 ≤ g.snd.fst ∧ g.snd.fst < 18446744073709551616) ∧ hexL a.int b.int.toNat = hexL g.snd.fst (b.int.toNat - g.fst) ++ g.snd.snd) ∧ ∀ (g : Nat × Int × List Int), g.fst ≤ b.int.toNat ∧ g.snd.snd.length = g.fst ∧ (0 ≤ g.snd.fst ∧ g.snd.fst < 18446744073709551616) ∧ hexL a.int b.int.toNat = hexL g.snd.fst (b.int.toNat - g.fst) ++ g.snd.snd → bif decide ((↑g.fst : Int) < b.int) then 0 ≤ band IntKind.u64 g.snd.fst 15 ∧ band IntKind.u64 g.snd.fst 15 ≤ IntKind.u64.wrap (band IntKind.u64 g.snd.fst 15 + 1) ∧ IntKind.u64.wrap (band IntKind.u64 g.snd.fst 15 + 1) ≤ (↑(ByteArray.mk #[48, 49, 50, 51, 52, 53, 54, 55, 56, 57, 97, 98, 99, 100, 101, 102]).size : Int) ∧ ((ByteArray.mk #[48, 49, 50, 51, 52, 53, 54, 55, 56, 57, 97, 98, 99, 100, 101, 102]).extract (band IntKind.u64 g.snd.fst 15).toNat (IntKind.u64.wrap (band IntKind.u64 g.snd.fst 15 + 1)).toNat).size + (sL g.snd.snd).size ≤ 9223372036854775807 ∧ LeI 0 4 ∧ I64 ((↑g.fst : Int) + 1) ∧ ∃ (g_1 : Nat × Int × List Int), (↑g.fst : Int) + 1 = (↑g_1.fst : Int) ∧ (ByteArray.mk #[48, 49, 50, 51, 52, 53, 54, 55, 56, 57, 97, 98, 99, 100, 101, 102]).extract (band IntKind.u64 g.snd.fst 15).toNat (IntKind.u64.wrap (band IntKind.u64 g.snd.fst 15 + 1)).toNat ++ sL g.snd.snd = sL g_1.snd.snd ∧ bshr IntKind.u64 g.snd.fst 4 = g_1.snd.fst ∧ (g_1.fst ≤ b.int.toNat ∧ g_1.snd.snd.length = g_1.fst ∧ (0 ≤ g_1.snd.fst ∧ g_1.snd.fst < 18446744073709551616) ∧ hexL a.int b.int.toNat = hexL g_1.snd.fst (b.int.toNat - g_1.fst) ++ g_1.snd.snd) ∧ b.int.toNat - g_1.fst < b.int.toNat - g.fst else sL g.snd.snd = sL (hexL a.int b.int.toNat)) = conGoal Tryz.prog noS hexC_an 200 73 hexC [a, b] := by kernel_rfl
theorem hexC_ok : ConOK Tryz.prog gl 73 hexC := con_of mo (noS_ok _) (an := hexC_an) 200 fun ds hl hp => by
  obtain ⟨a, b, rfl⟩ := len2 hl
  rw [← hexC_vc]
  have p0 : inU a.int := hp _ (.head _)
  have p1 : 0 ≤ b.int := hp _ (.tail _ (.head _))
  have p2 : b.int ≤ 16 := hp _ (.tail _ (.tail _ (.head _)))
  refine ⟨(0, a.int, []), rfl, rfl, rfl, ⟨Nat.zero_le _, rfl, p0, by simp⟩, ?_⟩
  rintro ⟨k, y, l⟩ ⟨h1, h2, h3, h4⟩
  dsimp only at h1 h2 h3 h4 ⊢
  have y0 := h3.1
  by_cases hd : (k : Int) < b.int
  · obtain ⟨m, hm⟩ : ∃ m, b.int.toNat - k = m + 1 := ⟨b.int.toNat - k - 1, by omega⟩
    have w : IntKind.u64.wrap (y % 16 + 1) = y % 16 + 1 := wrap64 (by omega) (by omega)
    rw [decide_eq_true hd, band15 h3, dig16 (by omega) (by omega)]
    refine ⟨by omega, by rw [w]; omega, by rw [w]; show y % 16 + 1 ≤ 16; omega, by rw [sL_size, sL_size]; simp; omega, by decide, ⟨by omega, by omega⟩, (k + 1, y / 16, hexc (y % 16) :: l), by omega, sL_append _ _, shr4 y0, ⟨by omega, by simp; omega, div_in h3 16 (by decide), ?_⟩, by omega⟩
    rw [h4, hm, hexL, List.append_assoc, show b.int.toNat - (k + 1) = m by omega]; rfl
  · rw [decide_eq_false hd]
    show sL l = _
    rw [h4, show b.int.toNat - k = 0 by omega]; rfl
def uidC : Con := ⟨[.d true (.i .u64)], fun ds => (fun (a : D) => [inU a.int]) (nthD ds 0), [.d .s], fun ds => (fun (a : D) => [.s (sL (48 :: 120 :: hexL a.int (nh a.int)))]) (nthD ds 0), fun ds => []⟩
def uidC_an : Anns := fun f i => match f, i with
  | 50, 2 => some fun A st => match A.get 0 with
    | some (.v (.int _ x)) => ⟨Nat, fun k => [(3, .v (.int .i64 k))], fun _ => [], fun k => 1 ≤ k ∧ k ≤ 16 ∧ k ≤ nh x, fun k => 16 - k⟩
    | _ => LAnn.bad
  | _, _ => none
theorem uidC_vc (a : D) : (∃ (g : Nat), EqI 1 (↑g : Int) ∧ (1 ≤ g ∧ g ≤ 16 ∧ g ≤ nh a.int) ∧ ∀ (g : Nat), 1 ≤ g ∧ g ≤ 16 ∧ g ≤ nh a.int → (decide ((↑g : Int) < 16) = true → I64 (4 * (↑g : Int)) ∧ 0 ≤ IntKind.u64.wrap (4 * (↑g : Int))) ∧ bif decide ((↑g : Int) < 16) && !decide (bshr IntKind.u64 a.int (IntKind.u64.wrap (4 * (↑g : Int))) = 0) then I64 ((↑g : Int) + 1) ∧ ∃ (g_1 : Nat), (↑g : Int) + 1 = (↑g_1 : Int) ∧ (1 ≤ g_1 ∧ g_1 ≤ 16 ∧ g_1 ≤ nh a.int) ∧ 16 - g_1 < 16 - g else (0 ≤ a.int ∧ a.int < 18446744073709551616) ∧ 0 ≤ (↑g : Int) ∧ (↑g : Int) ≤ 16 ∧ (ByteArray.mk #[48, 120]).size + (sL (hexL a.int g)).size ≤ 9223372036854775807 ∧ ByteArray.mk #[48, 120] ++ sL (hexL a.int g) = sL (48 :: 120 :: hexL a.int (nh a.int))) = conGoal Tryz.prog (addS 73 hexC noS) uidC_an 200 50 uidC [a] := by kernel_rfl
theorem uidC_ok : ConOK Tryz.prog gl 50 uidC := con_of mo (addS_ok hexC_ok (noS_ok _)) (an := uidC_an) 200 fun ds hl hp => by
  obtain ⟨a, rfl⟩ := len1 hl
  rw [← uidC_vc]
  have p0 : inU a.int := hp _ (.head _)
  have hn := nh_le a.int
  refine ⟨1, rfl, ⟨Nat.le_refl _, by decide, hn.1⟩, ?_⟩
  rintro k ⟨h1, h2, h3⟩
  have hw : k < 16 → bshr .u64 a.int (IntKind.u64.wrap (4 * (k : Int))) = a.int / 16 ^ k := fun h => by
    rw [show (4 * (k : Int)) = ((4 * k : Nat) : Int) by omega, u64n (by omega), shr64 p0.1 _ (by omega), pow16]
  have hi : nh a.int ≤ k ↔ a.int / 16 ^ k = 0 := by
    obtain ⟨m, rfl⟩ : ∃ m, k = m + 1 := ⟨k - 1, by omega⟩
    exact nh_iff m p0
  refine ⟨fun h => ?_, ?_⟩
  · have h := of_decide_eq_true h
    exact ⟨⟨by omega, by omega⟩, by rw [show (4 * (k : Int)) = ((4 * k : Nat) : Int) by omega, u64n (by omega)]; omega⟩
  · by_cases hd : (k : Int) < 16 ∧ ¬ bshr .u64 a.int (IntKind.u64.wrap (4 * (k : Int))) = 0
    · rw [decide_eq_true hd.1, decide_eq_false hd.2]
      have h3' := hd.2
      rw [hw (by omega)] at h3'
      have h4 : ¬ nh a.int ≤ k := fun h => h3' (hi.1 h)
      exact ⟨⟨by omega, by omega⟩, k + 1, by omega, ⟨by omega, by omega, by omega⟩, by omega⟩
    · have hz : nh a.int = k := by
        by_cases h8 : k < 16
        · have h0 : a.int / 16 ^ k = 0 := by
            rw [← hw h8]
            exact Classical.byContradiction fun h => hd ⟨by omega, h⟩
          have := hi.2 h0
          omega
        · omega
      rw [show (decide ((k : Int) < 16) && !decide (bshr IntKind.u64 a.int (IntKind.u64.wrap (4 * (k : Int))) = 0)) = false by
        rw [Bool.eq_false_iff]; intro h; simp only [Bool.and_eq_true, decide_eq_true_eq, Bool.not_eq_true', decide_eq_false_iff_not] at h; exact hd h]
      refine ⟨p0, by omega, by omega, ?_, ?_⟩
      · rw [sL_size, hexL_length]; have : (ByteArray.mk #[48, 120]).size = 2 := rfl; omega
      · rw [hz]; exact sL_append [48, 120] _
def rquoC : Con := ⟨[.d true .s], fun ds => (fun (a : D) => [a.str.size ≤ 1152921504606846976]) (nthD ds 0), [.d .s], fun ds => (fun (a : D) => [.s (sL (quoL (bys a.str)))]) (nthD ds 0), fun ds => []⟩
def rquoC_an : Anns := fun f i => match f, i with
  | 72, 3 => some fun A st => match A.get 0 with
    | some (.v (.string s)) => ⟨Nat, fun k => [(4, .v (.int .i64 k)), (3, .v (.string (sL (34 :: ((bys s).take k).flatMap escB))))], fun _ => [], fun k => k ≤ s.size, fun k => s.size - k⟩
    | _ => LAnn.bad
  | _, _ => none
theorem rquoC_vc (a : D) : (∃ (g : Nat), EqI 0 (↑g : Int) ∧ ByteArray.mk #[34] = sL (34 :: List.flatMap escB (List.take g (bys a.str))) ∧ g ≤ a.str.size ∧ ∀ (g : Nat), g ≤ a.str.size → bif decide ((↑g : Int) < (↑a.str.size : Int)) then Idx (↑g : Int) a.str.size ∧ bif decide (byteAt' a.str g = 92) then (sL (34 :: List.flatMap escB (List.take g (bys a.str)))).size + (ByteArray.mk #[92, 92]).size ≤ 9223372036854775807 ∧ I64 ((↑g : Int) + 1) ∧ ∃ (g_1 : Nat), (↑g : Int) + 1 = (↑g_1 : Int) ∧ sL (34 :: List.flatMap escB (List.take g (bys a.str))) ++ ByteArray.mk #[92, 92] = sL (34 :: List.flatMap escB (List.take g_1 (bys a.str))) ∧ g_1 ≤ a.str.size ∧ a.str.size - g_1 < a.str.size - g else bif decide (byteAt' a.str g = 34) then (sL (34 :: List.flatMap escB (List.take g (bys a.str)))).size + (ByteArray.mk #[92, 34]).size ≤ 9223372036854775807 ∧ I64 ((↑g : Int) + 1) ∧ ∃ (g_1 : Nat), (↑g : Int) + 1 = (↑g_1 : Int) ∧ sL (34 :: List.flatMap escB (List.take g (bys a.str))) ++ ByteArray.mk #[92, 34] = sL (34 :: List.flatMap escB (List.take g_1 (bys a.str))) ∧ g_1 ≤ a.str.size ∧ a.str.size - g_1 < a.str.size - g else bif decide (byteAt' a.str g = 10) then (sL (34 :: List.flatMap escB (List.take g (bys a.str)))).size + (ByteArray.mk #[92, 110]).size ≤ 9223372036854775807 ∧ I64 ((↑g : Int) + 1) ∧ ∃ (g_1 : Nat), (↑g : Int) + 1 = (↑g_1 : Int) ∧ sL (34 :: List.flatMap escB (List.take g (bys a.str))) ++ ByteArray.mk #[92, 110] = sL (34 :: List.flatMap escB (List.take g_1 (bys a.str))) ∧ g_1 ≤ a.str.size ∧ a.str.size - g_1 < a.str.size - g else bif decide (32 ≤ byteAt' a.str g) && decide (byteAt' a.str g ≤ 126) then I64 ((↑g : Int) + 1) ∧ 0 ≤ (↑g : Int) ∧ (↑g : Int) ≤ (↑g : Int) + 1 ∧ (↑g : Int) + 1 ≤ (↑a.str.size : Int) ∧ (sL (34 :: List.flatMap escB (List.take g (bys a.str)))).size + (a.str.extract g ((↑g : Int) + 1).toNat).size ≤ 9223372036854775807 ∧ I64 ((↑g : Int) + 1) ∧ ∃ (g_1 : Nat), (↑g : Int) + 1 = (↑g_1 : Int) ∧ sL (34 :: List.flatMap escB (List.take g (bys a.str))) ++ a.str.extract g ((↑g : Int) + 1).toNat = sL (34 :: List.flatMap escB (List.take g_1 (bys a.str))) ∧ g_1 ≤ a.str.size ∧ a.str.size - g_1 < a.str.size - g else (sL (34 :: List.flatMap escB (List.take g (bys a.str)))).size + (ByteArray.mk #[92, 120]).size ≤ 9223372036854775807 ∧ (0 ≤ IntKind.u64.wrap (byteAt' a.str g) ∧ IntKind.u64.wrap (byteAt' a.str g) < 18446744073709551616) ∧ LeI 0 2 ∧ LeI 2 16 ∧ (sL (34 :: List.flatMap escB (List.take g (bys a.str))) ++ ByteArray.mk #[92, 120]).size + (sL (hexL (IntKind.u64.wrap (byteAt' a.str g)) (Int.toNat 2))).size ≤ 9223372036854775807 ∧ I64 ((↑g : Int) + 1) ∧ ∃ (g_1 : Nat), (↑g : Int) + 1 = (↑g_1 : Int) ∧ sL (34 :: List.flatMap escB (List.take g (bys a.str))) ++ ByteArray.mk #[92, 120] ++ sL (hexL (IntKind.u64.wrap (byteAt' a.str g)) (Int.toNat 2)) = sL (34 :: List.flatMap escB (List.take g_1 (bys a.str))) ∧ g_1 ≤ a.str.size ∧ a.str.size - g_1 < a.str.size - g else (sL (34 :: List.flatMap escB (List.take g (bys a.str)))).size + (ByteArray.mk #[34]).size ≤ 9223372036854775807 ∧ sL (34 :: List.flatMap escB (List.take g (bys a.str))) ++ ByteArray.mk #[34] = sL (quoL (bys a.str))) = conGoal Tryz.prog (addS 73 hexC noS) rquoC_an 200 72 rquoC [a] := by kernel_rfl
theorem rquoC_ok : ConOK Tryz.prog gl 72 rquoC := con_of mo (addS_ok hexC_ok (noS_ok _)) (an := rquoC_an) 200 fun ds hl hp => by
  obtain ⟨a, rfl⟩ := len1 hl
  rw [← rquoC_vc]
  have p0 : a.str.size ≤ 1152921504606846976 := hp _ (.head _)
  refine ⟨0, rfl, rfl, Nat.zero_le _, fun k h1 => ?_⟩
  have hk : (((bys a.str).take k).flatMap escB).length ≤ 4611686018427387904 := by
    have h1 := esc_length ((bys a.str).take k)
    have h2 : ((bys a.str).take k).length ≤ a.str.size := by rw [List.length_take, bys_length]; omega
    omega
  obtain ⟨b0, b1⟩ := byte_in a.str k
  have s2 : ∀ x y : UInt8, (ByteArray.mk #[x, y]).size = 2 := fun _ _ => rfl
  have hb : IntKind.u64.wrap (byteAt' a.str k) = byteAt' a.str k := wrap64 b0 (by omega)
  rw [hb]
  refine cond_of (fun c => ?_) (fun c => ?_)
  · have c := of_decide_eq_true c
    refine ⟨⟨by omega, by omega⟩, cond_of (fun e => ?_) (fun e => cond_of (fun e2 => ?_) (fun e2 => cond_of (fun e3 => ?_) (fun e3 => cond_of (fun e4 => ?_) (fun e4 => ?_))))⟩
    · have e := of_decide_eq_true e
      exact ⟨by rw [sL_size, s2]; simp only [List.length_cons]; omega, ⟨by omega, by omega⟩, k + 1, by omega, rquo_leaf c (l := [92, 92]) (by rw [e]; rfl), by omega, by omega⟩
    · have e2 := of_decide_eq_true e2
      exact ⟨by rw [sL_size, s2]; simp only [List.length_cons]; omega, ⟨by omega, by omega⟩, k + 1, by omega, rquo_leaf c (l := [92, 34]) (by rw [e2]; rfl), by omega, by omega⟩
    · have e3 := of_decide_eq_true e3
      exact ⟨by rw [sL_size, s2]; simp only [List.length_cons]; omega, ⟨by omega, by omega⟩, k + 1, by omega, rquo_leaf c (l := [92, 110]) (by rw [e3]; rfl), by omega, by omega⟩
    · have e := of_decide_eq_false e
      have e2 := of_decide_eq_false e2
      simp only [Bool.and_eq_true, decide_eq_true_eq] at e4
      have e5 : a.str.extract k ((k : Int) + 1).toNat = sL [byteAt' a.str k] := by
        rw [show ((k : Int) + 1).toNat = k + 1 by omega]; exact extract_one (by omega)
      rw [e5]
      exact ⟨⟨by omega, by omega⟩, by omega, by omega, by omega, by rw [sL_size, sL_size]; simp only [List.length_cons, List.length_nil]; omega, ⟨by omega, by omega⟩, k + 1, by omega, rquo_leaf c (by rw [escB, if_neg (by omega), if_pos e4]), by omega, by omega⟩
    · have e := of_decide_eq_false e
      have e2 := of_decide_eq_false e2
      have e3 := of_decide_eq_false e3
      simp only [Bool.and_eq_false_iff, decide_eq_false_iff_not] at e4
      have e5 : hexL (byteAt' a.str k) (Int.toNat 2) = [hexc (byteAt' a.str k / 16), hexc (byteAt' a.str k % 16)] := by
        show [hexc (byteAt' a.str k / 16 % 16), hexc (byteAt' a.str k % 16)] = _
        rw [show byteAt' a.str k / 16 % 16 = byteAt' a.str k / 16 by omega]
      rw [e5]
      refine ⟨by rw [sL_size, s2]; simp only [List.length_cons]; omega, ⟨by omega, by omega⟩, by decide, by decide, by rw [show ByteArray.mk #[92, 120] = sL [92, 120] from rfl, sL_append, sL_size, sL_size]; simp only [List.length_cons, List.length_nil, List.length_append]; omega, ⟨by omega, by omega⟩, k + 1, by omega, ?_, by omega, by omega⟩
      rw [← rquo_leaf c (l := [92, 120, hexc (byteAt' a.str k / 16), hexc (byteAt' a.str k % 16)]) (by rw [escB, if_neg (by omega), if_neg (by omega), if_neg e3])]
      rw [show ByteArray.mk #[92, 120] = sL [92, 120] from rfl, sL_append, sL_append, sL_append, List.append_assoc]; rfl
  · have c := of_decide_eq_false c
    rw [bys_all c]
    rw [sL_size]
    rw [bys_all c] at hk
    refine ⟨?_, sL_append _ [34]⟩
    have : (ByteArray.mk #[34]).size = 1 := rfl
    simp only [List.length_cons]; omega
end Go.Proofs.YtbbjonjhaoeidaaGreatDoor.XT
