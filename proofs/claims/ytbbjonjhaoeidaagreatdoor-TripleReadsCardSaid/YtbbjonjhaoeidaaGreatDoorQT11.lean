/- Contracts, by the symbolic evaluator. -/
import Derived.Test.YtbbjonjhaoeidaaGreatDoorQT10
import Derived.Test.YtbbjonjhaoeidaaGreatDoorProg
set_option linter.unusedVariables false
set_option linter.unusedSimpArgs false
namespace Go.Proofs.YtbbjonjhaoeidaaGreatDoor.XT
open Go Go.RowKit Go.Proofs.YtbbjonjhaoeidaaGreatDoor.Sv
set_option maxRecDepth 100000
/-- the number of bytes, the highest first -/
def deB : List Int → Int → Int
  | [], n => n
  | c :: r, n => deB r (n * 256 + c)
/-- what reading a number answers -/
def rnE (s : ByteArray) : Int := if s = (ByteArray.mk #[]) then 20 else if 8 < byteAt' s 0 then 21 else if (s.size : Int) < 1 + byteAt' s 0 then 20 else if 0 < byteAt' s 0 ∧ byteAt' s 1 = 0 then 21 else 0
def rnV (s : ByteArray) : Int := if rnE s = 0 then deB (((bys s).drop 1).take (byteAt' s 0).toNat) 0 else 0
def rnS (s : ByteArray) : ByteArray := if rnE s = 0 then s.extract (1 + byteAt' s 0).toNat s.size else (ByteArray.mk #[])
def riE (s : ByteArray) : Int := if (s.size : Int) < 8 then 20 else 0
def riV (s : ByteArray) : Int := if riE s = 0 then deB ((bys s).take 8) 0 - 9223372036854775808 else 0
def riS (s : ByteArray) : ByteArray := if riE s = 0 then s.extract 8 s.size else (ByteArray.mk #[])
theorem p256 : ∀ k ≤ 7, (256 : Int) ^ k ≤ 72057594037927936 := by decide
theorem wrapI (y : Int) : IntKind.i64.wrap y = (y + 9223372036854775808) % 18446744073709551616 - 9223372036854775808 := by
  simp only [IntKind.wrap, IntKind.signed, IntKind.bits]; simp
  omega
theorem shl_or {n c : Int} (h0 : 0 ≤ n) (h1 : n < 72057594037927936) (c0 : 0 ≤ c) (c1 : c < 256) : bor .u64 (bshl .u64 n 8) (IntKind.u64.wrap c) = n * 256 + c := by
  have e1 : bshl .u64 n 8 = n * 256 := wrap64 (x := n * 256) (by omega) (by omega)
  have e2 : IntKind.u64.wrap c = c := wrap64 c0 (by omega)
  rw [e1, e2]
  have e : bor .u64 (n * 256) c = IntKind.u64.wrap ((BitVec.ofInt 64 (n * 256) ||| BitVec.ofInt 64 c).toNat : Int) := rfl
  rw [e, BitVec.toNat_or, BitVec.toNat_ofInt, BitVec.toNat_ofInt]
  have a1 : (n * 256 % ((2 ^ 64 : Nat) : Int)).toNat = 2 ^ 8 * n.toNat := by omega
  have a2 : (c % ((2 ^ 64 : Nat) : Int)).toNat = c.toNat := by omega
  rw [a1, a2, ← Nat.two_pow_add_eq_or_of_lt (by omega)]
  rw [wrap64 (by omega) (by omega)]; omega
theorem xor_low {x : Int} (h : inU x) : IntKind.i64.wrap (bxor .u64 x 9223372036854775808) = x - 9223372036854775808 := by
  have h0 := h.1
  have h1 := h.2
  have e : bxor .u64 x 9223372036854775808 = IntKind.u64.wrap ((BitVec.ofInt 64 x ^^^ BitVec.ofInt 64 9223372036854775808).toNat : Int) := rfl
  rw [e, BitVec.toNat_xor, BitVec.toNat_ofInt, BitVec.toNat_ofInt]
  have a1 : (x % ((2 ^ 64 : Nat) : Int)).toNat = x.toNat := by omega
  have a2 : ((9223372036854775808 : Int) % ((2 ^ 64 : Nat) : Int)).toNat = 2 ^ 63 := by decide
  rw [a1, a2]
  by_cases hx : x < 9223372036854775808
  · rw [xor_top _ (by omega), wrap64 (by omega) (by omega), wrapI]; omega
  · obtain ⟨m, hm⟩ : ∃ m : Nat, x.toNat = 2 ^ 63 + m := ⟨x.toNat - 2 ^ 63, by omega⟩
    have hlt : m < 2 ^ 63 := by omega
    rw [hm, ← xor_top m hlt, Nat.xor_assoc, Nat.xor_self, Nat.xor_zero, wrap64 (by omega) (by omega), wrapI]; omega
theorem sub_low {x : Int} (h : inU x) : IntKind.i64.wrap (IntKind.u64.wrap (x - 9223372036854775808)) = x - 9223372036854775808 := by
  have hw : ∀ y : Int, IntKind.u64.wrap y = y % 18446744073709551616 := fun y => by simp only [IntKind.wrap, IntKind.signed, IntKind.bits]; simp
  have h0 := h.1
  have h1 := h.2
  rw [hw, wrapI]; omega
theorem deB_in : ∀ (l : List Int) (n : Int), (∀ c ∈ l, 0 ≤ c ∧ c < 256) → 0 ≤ n → 0 ≤ deB l n ∧ deB l n < (n + 1) * 256 ^ l.length
  | [], n, _, h => by simp only [deB, List.length_nil, Int.pow_zero, Int.mul_one]; omega
  | c :: r, n, hc, h => by
    obtain ⟨c0, c1⟩ := hc c (by simp)
    obtain ⟨i1, i2⟩ := deB_in r (n * 256 + c) (fun x hx => hc x (by simp [hx])) (by omega)
    refine ⟨i1, ?_⟩
    rw [deB, List.length_cons, Int.pow_succ]
    refine Int.lt_of_lt_of_le i2 ?_
    rw [Int.mul_comm (256 ^ r.length) 256, ← Int.mul_assoc]
    exact Int.mul_le_mul_of_nonneg_right (by omega) (Int.le_of_lt (Int.pow_pos (by decide)))
theorem deB_step {s : ByteArray} {k : Nat} {n : Int} (h : k < s.size) : deB ((bys s).drop k) n = deB ((bys s).drop (k + 1)) (n * 256 + byteAt' s k) := by
  have hl : k < (bys s).length := by rw [bys_length]; exact h
  rw [List.drop_eq_getElem_cons hl, deB]
  have : (bys s)[k] = byteAt' s k := by
    have h' : k < s.data.size := h
    simp [bys, byteAt', Array.getD, h']
    rw [dif_pos h]
  rw [this]
theorem bys_extract (s : ByteArray) (i j : Nat) : bys (s.extract i j) = ((bys s).drop i).take (j - i) := by
  have e : (s.extract i j).data.toList = (s.data.toList.drop i).take (j - i) := by
    rw [ByteArray.data_extract, Array.toList_extract, List.extract_eq_take_drop]
  unfold bys
  rw [e, List.map_take, List.map_drop]
theorem extract_size (s : ByteArray) (i j : Nat) (h : j ≤ s.size) : (s.extract i j).size = j - i := by
  rw [ByteArray.size_extract]; omega
theorem deB_u64 {s : ByteArray} (h : s.size ≤ 8) : inU (deB (bys s) 0) := by
  have hb : ∀ c ∈ bys s, 0 ≤ c ∧ c < 256 := fun c hc => by
    simp only [bys, List.mem_map] at hc
    obtain ⟨b, _, rfl⟩ := hc
    have := UInt8.toNat_lt b
    omega
  obtain ⟨h1, h2⟩ := deB_in (bys s) 0 hb (by decide)
  rw [bys_length] at h2
  have hp : ∀ k ≤ 8, (0 + 1 : Int) * (256 : Int) ^ k ≤ 18446744073709551616 := by decide
  exact ⟨h1, Int.lt_of_lt_of_le h2 (hp _ h)⟩
def bigC : Con := ⟨[.d true .s], fun ds => (fun (a : D) => [a.str.size ≤ 8]) (nthD ds 0), [.d (.i .u64)], fun ds => (fun (a : D) => [.i (deB (bys a.str) 0)]) (nthD ds 0), fun ds => []⟩
def bigC_an : Anns := fun f i => match f, i with
  | 29, 3 => some fun A st => match A.get 0 with
    | some (.v (.string s)) => ⟨Nat × Int, fun g => [(7, .v (.int .i64 g.1)), (3, .v (.int .u64 g.2))], fun _ => [], fun g => g.1 ≤ s.size ∧ 0 ≤ g.2 ∧ g.2 < 256 ^ g.1 ∧ deB (bys s) 0 = deB ((bys s).drop g.1) g.2, fun g => s.size - g.1⟩
    | _ => LAnn.bad
  | _, _ => none
theorem bigC_vc (a : D) : (∃ (g : Nat × Int), EqI 0 (↑g.fst : Int) ∧ EqI 0 g.snd ∧ (g.fst ≤ a.str.size ∧ 0 ≤ g.snd ∧ g.snd < 256 ^ g.fst ∧ deB (bys a.str) 0 = deB (List.drop g.fst (bys a.str)) g.snd) ∧ ∀ (g : Nat × Int), g.fst ≤ a.str.size ∧ 0 ≤ g.snd ∧ g.snd < 256 ^ g.fst ∧ deB (bys a.str) 0 = deB (List.drop g.fst (bys a.str)) g.snd → bif decide ((↑g.fst : Int) < (↑a.str.size : Int)) then LeI 0 8 ∧ Idx (↑g.fst : Int) a.str.size ∧ I64 ((↑g.fst : Int) + 1) ∧ ∃ (g_1 : Nat × Int), (↑g.fst : Int) + 1 = (↑g_1.fst : Int) ∧ bor IntKind.u64 (bshl IntKind.u64 g.snd 8) (IntKind.u64.wrap (byteAt' a.str g.fst)) = g_1.snd ∧ (g_1.fst ≤ a.str.size ∧ 0 ≤ g_1.snd ∧ g_1.snd < 256 ^ g_1.fst ∧ deB (bys a.str) 0 = deB (List.drop g_1.fst (bys a.str)) g_1.snd) ∧ a.str.size - g_1.fst < a.str.size - g.fst else g.snd = deB (bys a.str) 0) = conGoal Tryz.prog noS bigC_an 200 29 bigC [a] := by kernel_rfl
theorem bigC_ok : ConOK Tryz.prog gl 29 bigC := con_of mo (noS_ok _) (an := bigC_an) 200 fun ds hl hp => by
  obtain ⟨a, rfl⟩ := len1 hl
  rw [← bigC_vc]
  have p0 : a.str.size ≤ 8 := hp _ (.head _)
  refine ⟨(0, 0), rfl, rfl, ⟨Nat.zero_le _, by decide, by decide, rfl⟩, ?_⟩
  rintro ⟨k, n⟩ ⟨h1, h2, h3, h4⟩
  dsimp only at h1 h2 h3 h4 ⊢
  refine cond_of (fun c => ?_) (fun c => ?_)
  · have c := of_decide_eq_true c
    have hk : k < a.str.size := by omega
    obtain ⟨b0, b1⟩ := byte_in a.str k
    have h5 := p256 k (by omega)
    rw [shl_or h2 (by omega) b0 b1]
    refine ⟨by decide, ⟨by omega, by omega⟩, ⟨by omega, by omega⟩, (k + 1, n * 256 + byteAt' a.str k), by simp, rfl, ⟨hk, by show 0 ≤ n * 256 + byteAt' a.str k; omega, ?_, by rw [h4, deB_step hk]⟩, by show a.str.size - (k + 1) < _; omega⟩
    show n * 256 + byteAt' a.str k < 256 ^ (k + 1)
    rw [Int.pow_succ]; omega
  · have c := of_decide_eq_false c
    show n = _
    rw [h4, List.drop_of_length_le (by rw [bys_length]; omega)]; rfl
def rbigC : Con := ⟨[.d true .s], fun ds => (fun (a : D) => [a.str.size ≤ 8]) (nthD ds 0), [.d (.i .u64)], fun ds => (fun (a : D) => [.i (deB (bys a.str) 0)]) (nthD ds 0), fun ds => []⟩
def rbigC_an : Anns := fun f i => match f, i with
  | 34, 3 => some fun A st => match A.get 0 with
    | some (.v (.string s)) => ⟨Nat × Int, fun g => [(4, .v (.int .i64 g.1)), (3, .v (.int .u64 g.2))], fun _ => [], fun g => g.1 ≤ s.size ∧ 0 ≤ g.2 ∧ g.2 < 256 ^ g.1 ∧ deB (bys s) 0 = deB ((bys s).drop g.1) g.2, fun g => s.size - g.1⟩
    | _ => LAnn.bad
  | _, _ => none
theorem rbigC_vc (a : D) : (∃ (g : Nat × Int), EqI 0 (↑g.fst : Int) ∧ EqI 0 g.snd ∧ (g.fst ≤ a.str.size ∧ 0 ≤ g.snd ∧ g.snd < 256 ^ g.fst ∧ deB (bys a.str) 0 = deB (List.drop g.fst (bys a.str)) g.snd) ∧ ∀ (g : Nat × Int), g.fst ≤ a.str.size ∧ 0 ≤ g.snd ∧ g.snd < 256 ^ g.fst ∧ deB (bys a.str) 0 = deB (List.drop g.fst (bys a.str)) g.snd → bif decide ((↑g.fst : Int) < (↑a.str.size : Int)) then LeI 0 8 ∧ Idx (↑g.fst : Int) a.str.size ∧ I64 ((↑g.fst : Int) + 1) ∧ ∃ (g_1 : Nat × Int), (↑g.fst : Int) + 1 = (↑g_1.fst : Int) ∧ bor IntKind.u64 (bshl IntKind.u64 g.snd 8) (IntKind.u64.wrap (byteAt' a.str g.fst)) = g_1.snd ∧ (g_1.fst ≤ a.str.size ∧ 0 ≤ g_1.snd ∧ g_1.snd < 256 ^ g_1.fst ∧ deB (bys a.str) 0 = deB (List.drop g_1.fst (bys a.str)) g_1.snd) ∧ a.str.size - g_1.fst < a.str.size - g.fst else g.snd = deB (bys a.str) 0) = conGoal Tryz.prog noS rbigC_an 200 34 rbigC [a] := by kernel_rfl
theorem rbigC_ok : ConOK Tryz.prog gl 34 rbigC := con_of mo (noS_ok _) (an := rbigC_an) 200 fun ds hl hp => by
  obtain ⟨a, rfl⟩ := len1 hl
  rw [← rbigC_vc]
  have p0 : a.str.size ≤ 8 := hp _ (.head _)
  refine ⟨(0, 0), rfl, rfl, ⟨Nat.zero_le _, by decide, by decide, rfl⟩, ?_⟩
  rintro ⟨k, n⟩ ⟨h1, h2, h3, h4⟩
  dsimp only at h1 h2 h3 h4 ⊢
  refine cond_of (fun c => ?_) (fun c => ?_)
  · have c := of_decide_eq_true c
    have hk : k < a.str.size := by omega
    obtain ⟨b0, b1⟩ := byte_in a.str k
    have h5 := p256 k (by omega)
    rw [shl_or h2 (by omega) b0 b1]
    refine ⟨by decide, ⟨by omega, by omega⟩, ⟨by omega, by omega⟩, (k + 1, n * 256 + byteAt' a.str k), by simp, rfl, ⟨hk, by show 0 ≤ n * 256 + byteAt' a.str k; omega, ?_, by rw [h4, deB_step hk]⟩, by show a.str.size - (k + 1) < _; omega⟩
    show n * 256 + byteAt' a.str k < 256 ^ (k + 1)
    rw [Int.pow_succ]; omega
  · have c := of_decide_eq_false c
    show n = _
    rw [h4, List.drop_of_length_le (by rw [bys_length]; omega)]; rfl
def riC : Con := ⟨[.d true .s], fun ds => (fun (a : D) => [a.str.size ≤ 9223372036854775807]) (nthD ds 0), [.d (.i .i64), .d .s, .d (.i .i64)], fun ds => (fun (a : D) => [.i (riV a.str), .s (riS a.str), .i (riE a.str)]) (nthD ds 0), fun ds => []⟩
def riC_an : Anns := fun _ _ => none
theorem riC_vc (a : D) : (bif decide ((↑a.str.size : Int) < 8) then EqI 0 (riV a.str) ∧ (ByteArray.mk #[]) = riS a.str ∧ EqI 20 (riE a.str) else LeI 0 8 ∧ 8 ≤ (↑a.str.size : Int) ∧ (a.str.extract (Int.toNat 0) (Int.toNat 8)).size ≤ 8 ∧ LeI 0 8 ∧ 8 ≤ (↑a.str.size : Int) ∧ IntKind.i64.wrap (bxor IntKind.u64 (deB (bys (a.str.extract (Int.toNat 0) (Int.toNat 8))) 0) 9223372036854775808) = riV a.str ∧ a.str.extract (Int.toNat 8) a.str.size = riS a.str ∧ EqI 0 (riE a.str)) = conGoal Tryz.prog (addS 29 bigC noS) riC_an 200 30 riC [a] := by kernel_rfl
theorem riC_ok : ConOK Tryz.prog gl 30 riC := con_of mo (addS_ok bigC_ok (noS_ok _)) (an := riC_an) 200 fun ds hl hp => by
  obtain ⟨a, rfl⟩ := len1 hl
  rw [← riC_vc]
  have p0 : a.str.size ≤ 9223372036854775807 := hp _ (.head _)
  refine cond_of (fun c => ?_) (fun c => ?_)
  · have e : riE a.str = 20 := if_pos (of_decide_eq_true c)
    exact ⟨by rw [riV, if_neg (by rw [e]; decide)], by rw [riS, if_neg (by rw [e]; decide)], e.symm⟩
  · have c := of_decide_eq_false c
    have e : riE a.str = 0 := if_neg c
    have hs : (a.str.extract (Int.toNat 0) (Int.toNat 8)).size = 8 := extract_size a.str 0 8 (by omega)
    have hu := deB_u64 (s := a.str.extract (Int.toNat 0) (Int.toNat 8)) (by omega)
    have hb : bys (a.str.extract (Int.toNat 0) (Int.toNat 8)) = (bys a.str).take 8 := bys_extract a.str 0 8
    refine ⟨by decide, by omega, by omega, by decide, by omega, ?_, by rw [riS, if_pos e]; rfl, e.symm⟩
    rw [xor_low hu, hb, riV, if_pos e]
def rriC : Con := ⟨[.d true .s], fun ds => (fun (a : D) => [a.str.size ≤ 9223372036854775807]) (nthD ds 0), [.d (.i .i64), .d .s, .d (.i .i64)], fun ds => (fun (a : D) => [.i (riV a.str), .s (riS a.str), .i (riE a.str)]) (nthD ds 0), fun ds => []⟩
def rriC_an : Anns := fun _ _ => none
theorem rriC_vc (a : D) : (bif decide ((↑a.str.size : Int) < 8) then EqI 0 (riV a.str) ∧ (ByteArray.mk #[]) = riS a.str ∧ EqI 20 (riE a.str) else LeI 0 8 ∧ 8 ≤ (↑a.str.size : Int) ∧ (a.str.extract (Int.toNat 0) (Int.toNat 8)).size ≤ 8 ∧ LeI 0 8 ∧ 8 ≤ (↑a.str.size : Int) ∧ IntKind.i64.wrap (IntKind.u64.wrap (deB (bys (a.str.extract (Int.toNat 0) (Int.toNat 8))) 0 - 9223372036854775808)) = riV a.str ∧ a.str.extract (Int.toNat 8) a.str.size = riS a.str ∧ EqI 0 (riE a.str)) = conGoal Tryz.prog (addS 34 rbigC noS) rriC_an 200 35 rriC [a] := by kernel_rfl
theorem rriC_ok : ConOK Tryz.prog gl 35 rriC := con_of mo (addS_ok rbigC_ok (noS_ok _)) (an := rriC_an) 200 fun ds hl hp => by
  obtain ⟨a, rfl⟩ := len1 hl
  rw [← rriC_vc]
  have p0 : a.str.size ≤ 9223372036854775807 := hp _ (.head _)
  refine cond_of (fun c => ?_) (fun c => ?_)
  · have e : riE a.str = 20 := if_pos (of_decide_eq_true c)
    exact ⟨by rw [riV, if_neg (by rw [e]; decide)], by rw [riS, if_neg (by rw [e]; decide)], e.symm⟩
  · have c := of_decide_eq_false c
    have e : riE a.str = 0 := if_neg c
    have hs : (a.str.extract (Int.toNat 0) (Int.toNat 8)).size = 8 := extract_size a.str 0 8 (by omega)
    have hu := deB_u64 (s := a.str.extract (Int.toNat 0) (Int.toNat 8)) (by omega)
    have hb : bys (a.str.extract (Int.toNat 0) (Int.toNat 8)) = (bys a.str).take 8 := bys_extract a.str 0 8
    refine ⟨by decide, by omega, by omega, by decide, by omega, ?_, by rw [riS, if_pos e]; rfl, e.symm⟩
    rw [sub_low hu, hb, riV, if_pos e]
def rnC : Con := ⟨[.d true .s], fun ds => (fun (a : D) => [a.str.size ≤ 9223372036854775807]) (nthD ds 0), [.d (.i .u64), .d .s, .d (.i .i64)], fun ds => (fun (a : D) => [.i (rnV a.str), .s (rnS a.str), .i (rnE a.str)]) (nthD ds 0), fun ds => []⟩
def rnC_an : Anns := fun _ _ => none
theorem rnC_vc (a : D) : (bif decide (a.str = (ByteArray.mk #[])) then EqI 0 (rnV a.str) ∧ (ByteArray.mk #[]) = rnS a.str ∧ EqI 20 (rnE a.str) else Idx 0 a.str.size ∧ bif decide (8 < byteAt' a.str (Int.toNat 0)) then EqI 0 (rnV a.str) ∧ (ByteArray.mk #[]) = rnS a.str ∧ EqI 21 (rnE a.str) else Idx 0 a.str.size ∧ I64 (1 + IntKind.i64.wrap (byteAt' a.str (Int.toNat 0))) ∧ bif decide ((↑a.str.size : Int) < 1 + IntKind.i64.wrap (byteAt' a.str (Int.toNat 0))) then EqI 0 (rnV a.str) ∧ (ByteArray.mk #[]) = rnS a.str ∧ EqI 20 (rnE a.str) else (decide (1 < 1 + IntKind.i64.wrap (byteAt' a.str (Int.toNat 0))) = true → Idx 1 a.str.size) ∧ bif decide (1 < 1 + IntKind.i64.wrap (byteAt' a.str (Int.toNat 0))) && decide (byteAt' a.str (Int.toNat 1) = 0) then EqI 0 (rnV a.str) ∧ (ByteArray.mk #[]) = rnS a.str ∧ EqI 21 (rnE a.str) else LeI 0 1 ∧ 1 ≤ 1 + IntKind.i64.wrap (byteAt' a.str (Int.toNat 0)) ∧ 1 + IntKind.i64.wrap (byteAt' a.str (Int.toNat 0)) ≤ (↑a.str.size : Int) ∧ (a.str.extract (Int.toNat 1) (1 + IntKind.i64.wrap (byteAt' a.str (Int.toNat 0))).toNat).size ≤ 8 ∧ 0 ≤ 1 + IntKind.i64.wrap (byteAt' a.str (Int.toNat 0)) ∧ 1 + IntKind.i64.wrap (byteAt' a.str (Int.toNat 0)) ≤ (↑a.str.size : Int) ∧ deB (bys (a.str.extract (Int.toNat 1) (1 + IntKind.i64.wrap (byteAt' a.str (Int.toNat 0))).toNat)) 0 = rnV a.str ∧ a.str.extract (1 + IntKind.i64.wrap (byteAt' a.str (Int.toNat 0))).toNat a.str.size = rnS a.str ∧ EqI 0 (rnE a.str)) = conGoal Tryz.prog (addS 29 bigC noS) rnC_an 200 10 rnC [a] := by kernel_rfl
theorem rnC_ok : ConOK Tryz.prog gl 10 rnC := con_of mo (addS_ok bigC_ok (noS_ok _)) (an := rnC_an) 200 fun ds hl hp => by
  obtain ⟨a, rfl⟩ := len1 hl
  rw [← rnC_vc]
  have p0 : a.str.size ≤ 9223372036854775807 := hp _ (.head _)
  have z0 : Int.toNat 0 = 0 := rfl
  have z1 : Int.toNat 1 = 1 := rfl
  obtain ⟨b0, b1⟩ := byte_in a.str 0
  have hw : IntKind.i64.wrap (byteAt' a.str 0) = byteAt' a.str 0 := by rw [wrapI]; omega
  have fail : ∀ e : Int, rnE a.str = e → e ≠ 0 → (EqI 0 (rnV a.str) ∧ (ByteArray.mk #[]) = rnS a.str ∧ EqI e (rnE a.str)) := fun e he h0 => ⟨by show 0 = rnV a.str; rw [rnV, if_neg (by rw [he]; exact h0)], by rw [rnS, if_neg (by rw [he]; exact h0)], he.symm⟩
  rw [z0, z1, hw]
  refine cond_of (fun c => ?_) (fun c => ?_)
  · exact fail 20 (if_pos (of_decide_eq_true c)) (by decide)
  have c := of_decide_eq_false c
  have hs : 0 < a.str.size := by
    refine Nat.pos_of_ne_zero fun h => c ?_
    exact ByteArray.ext (Array.eq_empty_of_size_eq_zero h)
  refine ⟨⟨by decide, by omega⟩, cond_of (fun c2 => ?_) (fun c2 => ?_)⟩
  · exact fail 21 (by rw [rnE, if_neg c, if_pos (of_decide_eq_true c2)]) (by decide)
  have c2 := of_decide_eq_false c2
  refine ⟨⟨by decide, by omega⟩, ⟨by omega, by omega⟩, cond_of (fun c3 => ?_) (fun c3 => ?_)⟩
  · exact fail 20 (by rw [rnE, if_neg c, if_neg c2, if_pos (of_decide_eq_true c3)]) (by decide)
  have c3 := of_decide_eq_false c3
  refine ⟨fun h => ⟨by decide, by have := of_decide_eq_true h; omega⟩, cond_of (fun c4 => ?_) (fun c4 => ?_)⟩
  · simp only [Bool.and_eq_true, decide_eq_true_eq] at c4
    exact fail 21 (by rw [rnE, if_neg c, if_neg c2, if_neg c3, if_pos (by omega)]) (by decide)
  simp only [Bool.and_eq_false_iff, decide_eq_false_iff_not] at c4
  have he : rnE a.str = 0 := by rw [rnE, if_neg c, if_neg c2, if_neg c3, if_neg (by omega)]
  obtain ⟨m, hm⟩ := Int.eq_ofNat_of_zero_le b0
  have hm1 : (1 + byteAt' a.str 0).toNat = 1 + m := by omega
  have hsz : (a.str.extract 1 (1 + byteAt' a.str 0).toNat).size ≤ 8 := by
    rw [hm1, extract_size _ _ _ (by omega)]; omega
  have hv : deB (bys (a.str.extract 1 (1 + byteAt' a.str 0).toNat)) 0 = rnV a.str := by
    rw [rnV, if_pos he, bys_extract, hm1, hm, show 1 + m - 1 = m by omega]; rfl
  exact ⟨by decide, by omega, by omega, hsz, by omega, by omega, hv, by rw [rnS, if_pos he], he.symm⟩
def rrnC : Con := ⟨[.d true .s], fun ds => (fun (a : D) => [a.str.size ≤ 9223372036854775807]) (nthD ds 0), [.d (.i .u64), .d .s, .d (.i .i64)], fun ds => (fun (a : D) => [.i (rnV a.str), .s (rnS a.str), .i (rnE a.str)]) (nthD ds 0), fun ds => []⟩
def rrnC_an : Anns := fun _ _ => none
theorem rrnC_vc (a : D) : (bif decide (a.str = (ByteArray.mk #[])) then EqI 0 (rnV a.str) ∧ (ByteArray.mk #[]) = rnS a.str ∧ EqI 20 (rnE a.str) else Idx 0 a.str.size ∧ bif decide (8 < IntKind.i64.wrap (byteAt' a.str (Int.toNat 0))) then EqI 0 (rnV a.str) ∧ (ByteArray.mk #[]) = rnS a.str ∧ EqI 21 (rnE a.str) else I64 (1 + IntKind.i64.wrap (byteAt' a.str (Int.toNat 0))) ∧ bif decide ((↑a.str.size : Int) < 1 + IntKind.i64.wrap (byteAt' a.str (Int.toNat 0))) then EqI 0 (rnV a.str) ∧ (ByteArray.mk #[]) = rnS a.str ∧ EqI 20 (rnE a.str) else (decide (0 < IntKind.i64.wrap (byteAt' a.str (Int.toNat 0))) = true → Idx 1 a.str.size) ∧ bif decide (0 < IntKind.i64.wrap (byteAt' a.str (Int.toNat 0))) && decide (byteAt' a.str (Int.toNat 1) = 0) then EqI 0 (rnV a.str) ∧ (ByteArray.mk #[]) = rnS a.str ∧ EqI 21 (rnE a.str) else I64 (1 + IntKind.i64.wrap (byteAt' a.str (Int.toNat 0))) ∧ LeI 0 1 ∧ 1 ≤ 1 + IntKind.i64.wrap (byteAt' a.str (Int.toNat 0)) ∧ 1 + IntKind.i64.wrap (byteAt' a.str (Int.toNat 0)) ≤ (↑a.str.size : Int) ∧ (a.str.extract (Int.toNat 1) (1 + IntKind.i64.wrap (byteAt' a.str (Int.toNat 0))).toNat).size ≤ 8 ∧ I64 (1 + IntKind.i64.wrap (byteAt' a.str (Int.toNat 0))) ∧ 0 ≤ 1 + IntKind.i64.wrap (byteAt' a.str (Int.toNat 0)) ∧ 1 + IntKind.i64.wrap (byteAt' a.str (Int.toNat 0)) ≤ (↑a.str.size : Int) ∧ deB (bys (a.str.extract (Int.toNat 1) (1 + IntKind.i64.wrap (byteAt' a.str (Int.toNat 0))).toNat)) 0 = rnV a.str ∧ a.str.extract (1 + IntKind.i64.wrap (byteAt' a.str (Int.toNat 0))).toNat a.str.size = rnS a.str ∧ EqI 0 (rnE a.str)) = conGoal Tryz.prog (addS 34 rbigC noS) rrnC_an 200 17 rrnC [a] := by kernel_rfl
theorem rrnC_ok : ConOK Tryz.prog gl 17 rrnC := con_of mo (addS_ok rbigC_ok (noS_ok _)) (an := rrnC_an) 200 fun ds hl hp => by
  obtain ⟨a, rfl⟩ := len1 hl
  rw [← rrnC_vc]
  have p0 : a.str.size ≤ 9223372036854775807 := hp _ (.head _)
  have z0 : Int.toNat 0 = 0 := rfl
  have z1 : Int.toNat 1 = 1 := rfl
  obtain ⟨b0, b1⟩ := byte_in a.str 0
  have hw : IntKind.i64.wrap (byteAt' a.str 0) = byteAt' a.str 0 := by rw [wrapI]; omega
  have fail : ∀ e : Int, rnE a.str = e → e ≠ 0 → (EqI 0 (rnV a.str) ∧ (ByteArray.mk #[]) = rnS a.str ∧ EqI e (rnE a.str)) := fun e he h0 => ⟨by show 0 = rnV a.str; rw [rnV, if_neg (by rw [he]; exact h0)], by rw [rnS, if_neg (by rw [he]; exact h0)], he.symm⟩
  rw [z0, z1, hw]
  refine cond_of (fun c => ?_) (fun c => ?_)
  · exact fail 20 (if_pos (of_decide_eq_true c)) (by decide)
  have c := of_decide_eq_false c
  have hs : 0 < a.str.size := by
    refine Nat.pos_of_ne_zero fun h => c ?_
    exact ByteArray.ext (Array.eq_empty_of_size_eq_zero h)
  refine ⟨⟨by decide, by omega⟩, cond_of (fun c2 => ?_) (fun c2 => ?_)⟩
  · exact fail 21 (by rw [rnE, if_neg c, if_pos (of_decide_eq_true c2)]) (by decide)
  have c2 := of_decide_eq_false c2
  refine ⟨⟨by omega, by omega⟩, cond_of (fun c3 => ?_) (fun c3 => ?_)⟩
  · exact fail 20 (by rw [rnE, if_neg c, if_neg c2, if_pos (of_decide_eq_true c3)]) (by decide)
  have c3 := of_decide_eq_false c3
  refine ⟨fun h => ⟨by decide, by have := of_decide_eq_true h; omega⟩, cond_of (fun c4 => ?_) (fun c4 => ?_)⟩
  · simp only [Bool.and_eq_true, decide_eq_true_eq] at c4
    exact fail 21 (by rw [rnE, if_neg c, if_neg c2, if_neg c3, if_pos (by omega)]) (by decide)
  simp only [Bool.and_eq_false_iff, decide_eq_false_iff_not] at c4
  have he : rnE a.str = 0 := by rw [rnE, if_neg c, if_neg c2, if_neg c3, if_neg (by omega)]
  obtain ⟨m, hm⟩ := Int.eq_ofNat_of_zero_le b0
  have hm1 : (1 + byteAt' a.str 0).toNat = 1 + m := by omega
  have hsz : (a.str.extract 1 (1 + byteAt' a.str 0).toNat).size ≤ 8 := by
    rw [hm1, extract_size _ _ _ (by omega)]; omega
  have hv : deB (bys (a.str.extract 1 (1 + byteAt' a.str 0).toNat)) 0 = rnV a.str := by
    rw [rnV, if_pos he, bys_extract, hm1, hm, show 1 + m - 1 = m by omega]; rfl
  exact ⟨⟨by omega, by omega⟩, by decide, by omega, by omega, hsz, ⟨by omega, by omega⟩, by omega, by omega, hv, by rw [rnS, if_pos he], he.symm⟩
end Go.Proofs.YtbbjonjhaoeidaaGreatDoor.XT
