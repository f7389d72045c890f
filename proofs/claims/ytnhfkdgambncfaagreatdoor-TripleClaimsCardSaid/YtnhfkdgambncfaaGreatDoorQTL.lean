/- Texts as lists of numbers: plain laws. -/
import Derived.Test.YtnhfkdgambncfaaGreatDoorQS14x
set_option linter.unusedVariables false
set_option linter.unusedSimpArgs false
set_option linter.unusedSectionVars false
namespace Go.Proofs.YtnhfkdgambncfaaGreatDoor.XT
open Go Go.RowKit Go.Proofs.YtnhfkdgambncfaaGreatDoor.Sv
/-! ### Texts as lists of numbers -/
abbrev sL (l : List Int) : ByteArray := strOfNums l
def bys (s : ByteArray) : List Int := s.data.toList.map fun b => (b.toNat : Int)
def dI (l : List Int) : List D := l.map D.i
/-- the highest byte first: so many bytes -/
def beL (x : Int) : Nat → List Int
  | 0 => []
  | n + 1 => beL (x / 256) n ++ [x % 256]
def nb (x : Int) : Nat := if x < 1 then 0 else if x < 256 then 1 else if x < 65536 then 2 else if x < 16777216 then 3 else if x < 4294967296 then 4 else if x < 1099511627776 then 5 else if x < 281474976710656 then 6 else if x < 72057594037927936 then 7 else 8
def numL (x : Int) : List Int := (nb x : Int) :: beL x (nb x)
def arrN (n i : Nat) (suf : List Int) : List D := dI ((n : Int) :: (List.replicate i 0 ++ suf ++ List.replicate (8 - n) 0))
def hexc (n : Int) : Int := if n < 10 then 48 + n else 87 + n
def escB (c : Int) : List Int := if c = 92 ∨ c = 34 then [92, c] else if 32 ≤ c ∧ c ≤ 126 then [c] else if c = 10 then [92, 110] else [92, 120, hexc (c / 16), hexc (c % 16)]
def quoL (l : List Int) : List Int := 34 :: (l.flatMap escB ++ [34])
def quoP (s : ByteArray) (k : Nat) : List D := dI (34 :: ((bys s).take k).flatMap escB)
def keyL (l : List Int) : List Int := l.flatMap fun c => if c = 0 then [0, 255] else [c]
def keyP (s : ByteArray) (k : Nat) : List D := dI (keyL ((bys s).take k))
/-- decimal digits -/
def decL : Nat → Int → List Int
  | 0, _ => []
  | f + 1, n => if n ≤ 9 then [48 + n] else decL f (n / 10) ++ [48 + n % 10]
/-- so many hexadecimal digits -/
def hexL (x : Int) : Nat → List Int
  | 0 => []
  | n + 1 => hexL (x / 16) n ++ [hexc (x % 16)]
/-- how many hexadecimal digits, 1 at least -/
def nh (x : Int) : Nat := if x < 16 then 1 else if x < 256 then 2 else if x < 4096 then 3 else if x < 65536 then 4 else if x < 1048576 then 5 else if x < 16777216 then 6 else if x < 268435456 then 7 else if x < 4294967296 then 8 else if x < 68719476736 then 9 else if x < 1099511627776 then 10 else if x < 17592186044416 then 11 else if x < 281474976710656 then 12 else if x < 4503599627370496 then 13 else if x < 72057594037927936 then 14 else if x < 1152921504606846976 then 15 else 16
abbrev inU (x : Int) : Prop := 0 ≤ x ∧ x < 18446744073709551616
theorem strOfD_dI (l : List Int) : strOfD (dI l) = sL l := by
  simp only [strOfD, dI, List.map_map]
  congr 1
  exact (List.map_congr_left fun x _ => rfl).trans (List.map_id l)
theorem sL_append (l r : List Int) : sL l ++ sL r = sL (l ++ r) := by
  apply ByteArray.ext
  simp [strOfNums, ByteArray.data_append]
theorem sL_size (l : List Int) : (sL l).size = l.length := by simp [strOfNums, ByteArray.size]
theorem dI_length (l : List Int) : (dI l).length = l.length := by simp [dI]
theorem dI_take (l : List Int) (n : Nat) : (dI l).take n = dI (l.take n) := by simp [dI]
theorem dI_append (l r : List Int) : dI l ++ dI r = dI (l ++ r) := by simp [dI]
theorem dI_set {l : List Int} {i : Nat} {v : Int} (h : i < l.length) : setD (dI l) i (.i v) = dI (l.set i v) := by
  rw [setD_eq (by rw [dI_length]; exact h), dI, dI, List.map_set]
theorem dI_one (v : Int) : [D.i v] = dI [v] := rfl
theorem rep_dI (n : Nat) : List.replicate n (D.i 0) = dI (List.replicate n 0) := by simp [dI]
theorem wrap8 (x : Int) : IntKind.u8.wrap x = x % 256 := by simp only [IntKind.wrap, IntKind.signed, IntKind.bits]; simp
theorem wrap64 {x : Int} (h0 : 0 ≤ x) (h1 : x < 18446744073709551616) : IntKind.u64.wrap x = x := by simp only [IntKind.wrap, IntKind.signed, IntKind.bits]; simp; omega
theorem shr64 {x : Int} (h0 : 0 ≤ x) (n : Nat) (hn : n ≤ 64) : bshr .u64 x n = x / 2 ^ n := by
  simp only [bshr, Int.toNat_natCast, IntKind.bits, Nat.min_eq_left hn]
  rw [Int.fdiv_eq_ediv_of_nonneg _ (Int.le_of_lt (Int.pow_pos (by decide)))]
theorem set_rep (m : Nat) (suf : List Int) (v : Int) : (List.replicate (m + 1) (0 : Int) ++ suf).set m v = List.replicate m 0 ++ v :: suf := by
  rw [List.set_append_left _ _ (by simp), List.replicate_succ', List.set_append_right _ _ (by simp)]
  simp
theorem beL_length : ∀ (n : Nat) (x : Int), (beL x n).length = n
  | 0, _ => rfl
  | n + 1, x => by simp [beL, beL_length n]
theorem nb_step {y : Int} (h0 : 0 < y) (h1 : y < 18446744073709551616) : nb y = nb (y / 256) + 1 := by
  simp only [nb]
  by_cases h2 : y < 256
  · rw [if_neg (show ¬ y < 1 by omega), if_pos h2, if_pos (show y / 256 < 1 by omega)]
  by_cases h3 : y < 65536
  · rw [if_neg (show ¬ y < 1 by omega), if_neg (show ¬ y < 256 by omega), if_pos h3, if_neg (show ¬ y / 256 < 1 by omega), if_pos (show y / 256 < 256 by omega)]
  by_cases h4 : y < 16777216
  · rw [if_neg (show ¬ y < 1 by omega), if_neg (show ¬ y < 256 by omega), if_neg (show ¬ y < 65536 by omega), if_pos h4, if_neg (show ¬ y / 256 < 1 by omega), if_neg (show ¬ y / 256 < 256 by omega), if_pos (show y / 256 < 65536 by omega)]
  by_cases h5 : y < 4294967296
  · rw [if_neg (show ¬ y < 1 by omega), if_neg (show ¬ y < 256 by omega), if_neg (show ¬ y < 65536 by omega), if_neg (show ¬ y < 16777216 by omega), if_pos h5, if_neg (show ¬ y / 256 < 1 by omega), if_neg (show ¬ y / 256 < 256 by omega), if_neg (show ¬ y / 256 < 65536 by omega), if_pos (show y / 256 < 16777216 by omega)]
  by_cases h6 : y < 1099511627776
  · rw [if_neg (show ¬ y < 1 by omega), if_neg (show ¬ y < 256 by omega), if_neg (show ¬ y < 65536 by omega), if_neg (show ¬ y < 16777216 by omega), if_neg (show ¬ y < 4294967296 by omega), if_pos h6, if_neg (show ¬ y / 256 < 1 by omega), if_neg (show ¬ y / 256 < 256 by omega), if_neg (show ¬ y / 256 < 65536 by omega), if_neg (show ¬ y / 256 < 16777216 by omega), if_pos (show y / 256 < 4294967296 by omega)]
  by_cases h7 : y < 281474976710656
  · rw [if_neg (show ¬ y < 1 by omega), if_neg (show ¬ y < 256 by omega), if_neg (show ¬ y < 65536 by omega), if_neg (show ¬ y < 16777216 by omega), if_neg (show ¬ y < 4294967296 by omega), if_neg (show ¬ y < 1099511627776 by omega), if_pos h7, if_neg (show ¬ y / 256 < 1 by omega), if_neg (show ¬ y / 256 < 256 by omega), if_neg (show ¬ y / 256 < 65536 by omega), if_neg (show ¬ y / 256 < 16777216 by omega), if_neg (show ¬ y / 256 < 4294967296 by omega), if_pos (show y / 256 < 1099511627776 by omega)]
  by_cases h8 : y < 72057594037927936
  · rw [if_neg (show ¬ y < 1 by omega), if_neg (show ¬ y < 256 by omega), if_neg (show ¬ y < 65536 by omega), if_neg (show ¬ y < 16777216 by omega), if_neg (show ¬ y < 4294967296 by omega), if_neg (show ¬ y < 1099511627776 by omega), if_neg (show ¬ y < 281474976710656 by omega), if_pos h8, if_neg (show ¬ y / 256 < 1 by omega), if_neg (show ¬ y / 256 < 256 by omega), if_neg (show ¬ y / 256 < 65536 by omega), if_neg (show ¬ y / 256 < 16777216 by omega), if_neg (show ¬ y / 256 < 4294967296 by omega), if_neg (show ¬ y / 256 < 1099511627776 by omega), if_pos (show y / 256 < 281474976710656 by omega)]
  rw [if_neg (show ¬ y < 1 by omega), if_neg (show ¬ y < 256 by omega), if_neg (show ¬ y < 65536 by omega), if_neg (show ¬ y < 16777216 by omega), if_neg (show ¬ y < 4294967296 by omega), if_neg (show ¬ y < 1099511627776 by omega), if_neg (show ¬ y < 281474976710656 by omega), if_neg (show ¬ y < 72057594037927936 by omega), if_neg (show ¬ y / 256 < 1 by omega), if_neg (show ¬ y / 256 < 256 by omega), if_neg (show ¬ y / 256 < 65536 by omega), if_neg (show ¬ y / 256 < 16777216 by omega), if_neg (show ¬ y / 256 < 4294967296 by omega), if_neg (show ¬ y / 256 < 1099511627776 by omega), if_neg (show ¬ y / 256 < 281474976710656 by omega), if_pos (show y / 256 < 72057594037927936 by omega)]
theorem nb_le (y : Int) : nb y ≤ 8 := by
  unfold nb
  repeat' split
  all_goals omega
theorem nb_zero {y : Int} (h : 0 ≤ y) : nb y = 0 ↔ y = 0 := by
  unfold nb
  constructor
  · intro e
    repeat' split at e
    all_goals omega
  · intro e; subst e; rfl
theorem pow256 (g : Nat) : (2 : Int) ^ (8 * g) = 256 ^ g := by rw [Int.pow_mul]; rfl
theorem div256 {x : Int} (g : Nat) : x / 256 ^ g / 256 = x / 256 ^ (g + 1) := by
  rw [Int.ediv_ediv_of_nonneg (Int.le_of_lt (Int.pow_pos (by decide))), Int.pow_succ]
theorem div_in {x : Int} (h : inU x) (k : Int) (hk : 0 < k) : inU (x / k) := by
  refine ⟨Int.ediv_nonneg h.1 (Int.le_of_lt hk), ?_⟩
  have := Int.ediv_le_self k h.1
  have := h.2
  omega
theorem numL_length (x : Int) : (numL x).length = nb x + 1 := by simp [numL, beL_length]
theorem arrN_length {n i : Nat} {suf : List Int} (h : i + suf.length = n) (h8 : n ≤ 8) : (arrN n i suf).length = 9 := by
  simp [arrN, dI_length]; omega
theorem arrN_set {n i : Nat} {suf : List Int} {v : Int} (h8 : i + 1 ≤ 8) : setD (arrN n (i + 1) suf) (i + 1) (.i v) = arrN n i (v :: suf) := by
  rw [arrN, dI_set (by simp [dI]; omega), arrN]
  congr 1
  rw [List.set_cons_succ, List.append_assoc, set_rep, List.append_assoc, List.cons_append]
theorem arrN_take {n : Nat} {suf : List Int} (h : suf.length = n) : (arrN n 0 suf).take (n + 1) = dI ((n : Int) :: suf) := by
  rw [arrN, dI_take]; congr 1
  simp [← h]
theorem wrap8n {n : Nat} (h : n ≤ 8) : IntKind.u8.wrap (n : Int) = n := by rw [wrap8]; omega
theorem u64n {n : Nat} (h : n ≤ 64) : IntKind.u64.wrap (n : Int) = n := wrap64 (by omega) (by omega)
theorem shrW {x k : Int} (h : 0 ≤ x) (h0 : 0 ≤ k) (h1 : k ≤ 64) : bshr .u64 x (IntKind.u64.wrap k) = x / 2 ^ k.toNat := by
  obtain ⟨n, rfl⟩ := Int.eq_ofNat_of_zero_le h0
  rw [u64n (by omega), shr64 h n (by omega)]; rfl
theorem shr8 {x : Int} (h : 0 ≤ x) : bshr .u64 x 8 = x / 256 := shr64 h 8 (by decide)
theorem beL_eight (x : Int) : beL x 8 = [x / 72057594037927936 % 256, x / 281474976710656 % 256, x / 1099511627776 % 256, x / 4294967296 % 256, x / 16777216 % 256, x / 65536 % 256, x / 256 % 256, x % 256] := by
  simp only [beL, List.nil_append, List.cons_append, List.cons.injEq, and_true]
  refine ⟨?_, ?_, ?_, ?_, ?_, ?_⟩ <;> omega
end Go.Proofs.YtnhfkdgambncfaaGreatDoor.XT
