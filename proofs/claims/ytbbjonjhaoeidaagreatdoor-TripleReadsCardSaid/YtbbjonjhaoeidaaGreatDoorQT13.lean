/- Contracts, by the symbolic evaluator. -/
import Derived.Test.YtbbjonjhaoeidaaGreatDoorQT12
import Derived.Test.YtbbjonjhaoeidaaGreatDoorProg
set_option linter.unusedVariables false
set_option linter.unusedSimpArgs false
namespace Go.Proofs.YtbbjonjhaoeidaaGreatDoor.XT
open Go Go.RowKit Go.Proofs.YtbbjonjhaoeidaaGreatDoor.Sv
set_option maxRecDepth 100000
/-- a digit's number by the document, -1 for what is none -/
def digR (c : Int) : Int := if 48 ≤ c ∧ c ≤ 57 then c - 48 else if 97 ≤ c ∧ c ≤ 102 then c - 87 else -1
/-- the number of hexadecimal digits, -1 for what is none -/
def hxV : List Int → Int → Int
  | [], n => n
  | c :: r, n => if digR c < 0 then -1 else hxV r (n * 16 + digR c)
def hxS (s : ByteArray) : Int := if (s.size : Int) < 3 ∨ 18 < (s.size : Int) ∨ s.extract 0 2 ≠ ByteArray.mk #[48, 120] then -1 else hxV ((bys s).drop 2) 0
def ruV (s : ByteArray) : Int := if hxS s = -1 then 0 else if sL (hexT (hxS s)) = s then hxS s else 0
/-- the number of decimal digits, -1 for what is none -/
def dcV : List Int → Int → Int
  | [], n => n
  | c :: r, n => if c < 48 ∨ 57 < c then -1 else dcV r (n * 10 + (c - 48))
def ngB (s : ByteArray) : Bool := decide (0 < (s.size : Int)) && decide (byteAt' s 0 = 45)
def bdS (s : ByteArray) : ByteArray := if ngB s = true then s.extract 1 s.size else s
def dcS (s : ByteArray) : Int := if bdS s = (ByteArray.mk #[]) ∨ 19 < ((bdS s).size : Int) then -1 else dcV (bys (bdS s)) 0
def inV (s : ByteArray) : Int := if dcS s = -1 then 0 else if ngB s = true then IntKind.i64.wrap (IntKind.u64.wrap (0 - dcS s)) else IntKind.i64.wrap (dcS s)
def inB (s : ByteArray) : Bool := if dcS s = -1 then false else decide (sL (itoL (inV s)) = s)
theorem shl_or4 {n c : Int} (h0 : 0 ≤ n) (h1 : n < 1152921504606846976) (c0 : 0 ≤ c) (c1 : c < 16) : bor .u64 (bshl .u64 n 4) (IntKind.u64.wrap c) = n * 16 + c := by
  have e1 : bshl .u64 n 4 = n * 16 := wrap64 (x := n * 16) (by omega) (by omega)
  have e2 : IntKind.u64.wrap c = c := wrap64 c0 (by omega)
  rw [e1, e2]
  have e : bor .u64 (n * 16) c = IntKind.u64.wrap ((BitVec.ofInt 64 (n * 16) ||| BitVec.ofInt 64 c).toNat : Int) := rfl
  rw [e, BitVec.toNat_or, BitVec.toNat_ofInt, BitVec.toNat_ofInt]
  have a1 : (n * 16 % ((2 ^ 64 : Nat) : Int)).toNat = 2 ^ 4 * n.toNat := by omega
  have a2 : (c % ((2 ^ 64 : Nat) : Int)).toNat = c.toNat := by omega
  rw [a1, a2, ← Nat.two_pow_add_eq_or_of_lt (by omega)]
  rw [wrap64 (by omega) (by omega)]; omega
theorem p16 : ∀ k ≤ 15, (16 : Int) ^ k ≤ 1152921504606846976 := by decide
theorem p16' : ∀ k ≤ 16, (16 : Int) ^ k ≤ 18446744073709551616 := by decide
theorem p10 : ∀ k ≤ 18, (10 : Int) ^ k ≤ 1000000000000000000 := by decide
theorem p10' : ∀ k ≤ 19, (10 : Int) ^ k ≤ 10000000000000000000 := by decide
theorem wrapI_in (y : Int) : I64 (IntKind.i64.wrap y) := by rw [wrapI]; exact ⟨by omega, by omega⟩
theorem digR_le (c : Int) : digR c < 16 := by
  unfold digR
  split
  · omega
  · split <;> omega
def digC : Con := ⟨[.d true (.i .u8)], fun ds => (fun (a : D) => [0 ≤ a.int, a.int < 256]) (nthD ds 0), [.d (.i .i64)], fun ds => (fun (a : D) => [.i (digR a.int)]) (nthD ds 0), fun ds => []⟩
def digC_an : Anns := fun _ _ => none
theorem digC_vc (a : D) : (bif decide (48 ≤ a.int) && decide (a.int ≤ 57) then IntKind.i64.wrap (IntKind.u8.wrap (a.int - 48)) = digR a.int else bif decide (97 ≤ a.int) && decide (a.int ≤ 102) then I64 (IntKind.i64.wrap (IntKind.u8.wrap (a.int - 97)) + 10) ∧ IntKind.i64.wrap (IntKind.u8.wrap (a.int - 97)) + 10 = digR a.int else EqI (-1) (digR a.int)) = conGoal Tryz.prog noS digC_an 200 49 digC [a] := by kernel_rfl
theorem digC_ok : ConOK Tryz.prog gl 49 digC := con_of mo (noS_ok _) (an := digC_an) 200 fun ds hl hp => by
  obtain ⟨a, rfl⟩ := len1 hl
  rw [← digC_vc]
  have p0 : 0 ≤ a.int := hp _ (.head _)
  have p1 : a.int < 256 := hp _ (.tail _ (.head _))
  refine cond_of (fun c => ?_) (fun c => cond_of (fun c2 => ?_) (fun c2 => ?_))
  · simp only [Bool.and_eq_true, decide_eq_true_eq] at c
    rw [wrap8, wrapI, digR, if_pos c]; omega
  · simp only [Bool.and_eq_true, decide_eq_true_eq] at c2
    simp only [Bool.and_eq_false_iff, decide_eq_false_iff_not] at c
    rw [wrap8, wrapI, digR, if_neg (by omega), if_pos c2]
    exact ⟨⟨by omega, by omega⟩, by omega⟩
  · simp only [Bool.and_eq_false_iff, decide_eq_false_iff_not] at c c2
    show -1 = digR a.int
    rw [digR, if_neg (by omega), if_neg (by omega)]
def ruidC : Con := ⟨[.d true .s], fun ds => (fun (a : D) => [a.str.size ≤ 9223372036854775807]) (nthD ds 0), [.d (.i .u64)], fun ds => (fun (a : D) => [.i (ruV a.str)]) (nthD ds 0), fun ds => []⟩
def ruidC_an : Anns := fun f i => match f, i with
  | 25, 5 => some fun A st => match A.get 0 with
    | some (.v (.string s)) => ⟨Nat × Int, fun g => [(4, .v (.int .i64 g.1)), (3, .v (.int .u64 g.2))], fun _ => [], fun g => 2 ≤ g.1 ∧ g.1 ≤ s.size ∧ 0 ≤ g.2 ∧ g.2 < 16 ^ (g.1 - 2) ∧ hxV ((bys s).drop 2) 0 = hxV ((bys s).drop g.1) g.2, fun g => s.size - g.1⟩
    | _ => LAnn.bad
  | _, _ => none
theorem ruidC_vc (a : D) : (((decide ((↑a.str.size : Int) < 3) || decide (18 < (↑a.str.size : Int))) = false → LeI 0 2 ∧ 2 ≤ (↑a.str.size : Int)) ∧ bif decide ((↑a.str.size : Int) < 3) || decide (18 < (↑a.str.size : Int)) || !decide (a.str.extract (Int.toNat 0) (Int.toNat 2) = ByteArray.mk #[48, 120]) then EqI 0 (ruV a.str) else ∃ (g : Nat × Int), EqI 2 (↑g.fst : Int) ∧ EqI 0 g.snd ∧ (2 ≤ g.fst ∧ g.fst ≤ a.str.size ∧ 0 ≤ g.snd ∧ g.snd < 16 ^ (g.fst - 2) ∧ hxV (List.drop 2 (bys a.str)) 0 = hxV (List.drop g.fst (bys a.str)) g.snd) ∧ ∀ (g : Nat × Int), 2 ≤ g.fst ∧ g.fst ≤ a.str.size ∧ 0 ≤ g.snd ∧ g.snd < 16 ^ (g.fst - 2) ∧ hxV (List.drop 2 (bys a.str)) 0 = hxV (List.drop g.fst (bys a.str)) g.snd → bif decide ((↑g.fst : Int) < (↑a.str.size : Int)) then Idx (↑g.fst : Int) a.str.size ∧ 0 ≤ byteAt' a.str g.fst ∧ byteAt' a.str g.fst < 256 ∧ bif decide (digR (byteAt' a.str g.fst) < 0) then EqI 0 (ruV a.str) else LeI 0 4 ∧ I64 ((↑g.fst : Int) + 1) ∧ ∃ (g_1 : Nat × Int), (↑g.fst : Int) + 1 = (↑g_1.fst : Int) ∧ bor IntKind.u64 (bshl IntKind.u64 g.snd 4) (IntKind.u64.wrap (digR (byteAt' a.str g.fst))) = g_1.snd ∧ (2 ≤ g_1.fst ∧ g_1.fst ≤ a.str.size ∧ 0 ≤ g_1.snd ∧ g_1.snd < 16 ^ (g_1.fst - 2) ∧ hxV (List.drop 2 (bys a.str)) 0 = hxV (List.drop g_1.fst (bys a.str)) g_1.snd) ∧ a.str.size - g_1.fst < a.str.size - g.fst else (0 ≤ g.snd ∧ g.snd < 18446744073709551616) ∧ bif !decide (sL (48 :: 120 :: hexL g.snd (nh g.snd)) = a.str) then EqI 0 (ruV a.str) else g.snd = ruV a.str) = conGoal Tryz.prog (addS 50 uidC (addS 49 digC noS)) ruidC_an 200 25 ruidC [a] := by kernel_rfl
theorem ruidC_ok : ConOK Tryz.prog gl 25 ruidC := con_of mo (addS_ok uidC_ok (addS_ok digC_ok (noS_ok _))) (an := ruidC_an) 200 fun ds hl hp => by
  obtain ⟨a, rfl⟩ := len1 hl
  rw [← ruidC_vc]
  have p0 : a.str.size ≤ 9223372036854775807 := hp _ (.head _)
  refine ⟨fun h => ⟨by decide, by simp only [Bool.or_eq_false_iff, decide_eq_false_iff_not] at h; omega⟩, cond_of (fun c => ?_) (fun c => ?_)⟩
  · have e : hxS a.str = -1 := by
      simp only [Bool.or_eq_true, Bool.not_eq_true', decide_eq_true_eq, decide_eq_false_iff_not] at c
      refine if_pos ?_
      rcases c with (c | c) | c
      · exact .inl c
      · exact .inr (.inl c)
      · exact .inr (.inr c)
    show 0 = ruV a.str
    rw [ruV, if_pos e]
  · simp only [Bool.or_eq_false_iff, Bool.not_eq_false', decide_eq_true_eq, decide_eq_false_iff_not] at c
    obtain ⟨⟨c1, c2⟩, c3⟩ := c
    have e : hxS a.str = hxV ((bys a.str).drop 2) 0 := if_neg (by
      rintro (h | h | h)
      · exact c1 h
      · exact c2 h
      · exact h c3)
    refine ⟨(2, 0), rfl, rfl, ⟨Nat.le_refl _, by show 2 ≤ _; omega, by decide, by decide, rfl⟩, ?_⟩
    rintro ⟨k, n⟩ ⟨h0, h1, h2, h3, h4⟩
    dsimp only at h0 h1 h2 h3 h4 ⊢
    refine cond_of (fun d => ?_) (fun d => ?_)
    · have d := of_decide_eq_true d
      have hk : k < a.str.size := by omega
      obtain ⟨b0, b1⟩ := byte_in a.str k
      rw [bys_drop hk, hxV] at h4
      refine ⟨⟨by omega, by omega⟩, b0, b1, cond_of (fun f => ?_) (fun f => ?_)⟩
      · rw [if_pos (of_decide_eq_true f)] at h4
        show 0 = ruV a.str
        rw [ruV, if_pos (by rw [e, h4])]
      · have f := of_decide_eq_false f
        rw [if_neg f] at h4
        have hp := p16 (k - 2) (by omega)
        have hr := digR_le (byteAt' a.str k)
        rw [shl_or4 h2 (by omega) (by omega) hr]
        refine ⟨by decide, ⟨by omega, by omega⟩, (k + 1, n * 16 + digR (byteAt' a.str k)), by simp, rfl, ⟨by show 2 ≤ k + 1; omega, hk, by show 0 ≤ n * 16 + digR (byteAt' a.str k); omega, ?_, h4⟩, by show a.str.size - (k + 1) < _; omega⟩
        show n * 16 + digR (byteAt' a.str k) < 16 ^ (k + 1 - 2)
        rw [show k + 1 - 2 = (k - 2) + 1 by omega, Int.pow_succ]; omega
    · have d := of_decide_eq_false d
      have h5 : hxV ((bys a.str).drop 2) 0 = n := by rw [h4, bys_end (by omega)]; rfl
      have hp := p16' (k - 2) (by omega)
      have hne : ¬ hxS a.str = -1 := by rw [e, h5]; omega
      have e2 : hxS a.str = n := by rw [e, h5]
      refine ⟨⟨h2, by omega⟩, cond_of (fun f => ?_) (fun f => ?_)⟩
      · have f : ¬ sL (hexT n) = a.str := by simp only [Bool.not_eq_true', decide_eq_false_iff_not] at f; exact f
        show 0 = ruV a.str
        rw [ruV, if_neg hne, e2, if_neg f]
      · have f : sL (hexT n) = a.str := by simp only [Bool.not_eq_false', decide_eq_true_eq] at f; exact f
        rw [ruV, if_neg hne, e2, if_pos f]
def intgC : Con := ⟨[.d true .s], fun ds => (fun (a : D) => [a.str.size ≤ 9223372036854775807]) (nthD ds 0), [.d (.i .i64), .d .b], fun ds => (fun (a : D) => [.i (inV a.str), .b (inB a.str)]) (nthD ds 0), fun ds => []⟩
def intgC_an : Anns := fun f i => match f, i with
  | 47, 1000005 => some fun A st => match A.get 0 with
    | some (.v (.string s)) => ⟨Unit, fun _ => [(5, .v (.string (bdS s)))], fun _ => [], fun _ => True, fun _ => 0⟩
    | _ => LAnn.bad
  | 47, 9 => some fun A st => match A.get 5 with
    | some (.v (.string s)) => ⟨Nat × Int, fun g => [(7, .v (.int .i64 g.1)), (6, .v (.int .u64 g.2))], fun _ => [], fun g => g.1 ≤ s.size ∧ 0 ≤ g.2 ∧ g.2 < 10 ^ g.1 ∧ dcV (bys s) 0 = dcV ((bys s).drop g.1) g.2, fun g => s.size - g.1⟩
    | _ => LAnn.bad
  | _, _ => none
theorem intgC_vc (a : D) : ((decide (0 < (↑a.str.size : Int)) = true → Idx 0 a.str.size) ∧ (bif decide (0 < (↑a.str.size : Int)) && decide (byteAt' a.str (Int.toNat 0) = 45) then LeI 0 1 ∧ 1 ≤ (↑a.str.size : Int) ∧ ∃ (g : Unit), a.str.extract (Int.toNat 1) a.str.size = bdS a.str ∧ True else ∃ (g : Unit), a.str = bdS a.str ∧ True) ∧ ∀ (g : Unit), True → bif decide (bdS a.str = (ByteArray.mk #[])) || decide (19 < (↑(bdS a.str).size : Int)) then EqI 0 (inV a.str) ∧ false = inB a.str else ∃ (g : Nat × Int), EqI 0 (↑g.fst : Int) ∧ EqI 0 g.snd ∧ (g.fst ≤ (bdS a.str).size ∧ 0 ≤ g.snd ∧ g.snd < 10 ^ g.fst ∧ dcV (bys (bdS a.str)) 0 = dcV (List.drop g.fst (bys (bdS a.str))) g.snd) ∧ ∀ (g : Nat × Int), g.fst ≤ (bdS a.str).size ∧ 0 ≤ g.snd ∧ g.snd < 10 ^ g.fst ∧ dcV (bys (bdS a.str)) 0 = dcV (List.drop g.fst (bys (bdS a.str))) g.snd → bif decide ((↑g.fst : Int) < (↑(bdS a.str).size : Int)) then Idx (↑g.fst : Int) (bdS a.str).size ∧ (decide (byteAt' (bdS a.str) g.fst < 48) = false → Idx (↑g.fst : Int) (bdS a.str).size) ∧ bif decide (byteAt' (bdS a.str) g.fst < 48) || decide (57 < byteAt' (bdS a.str) g.fst) then EqI 0 (inV a.str) ∧ false = inB a.str else Idx (↑g.fst : Int) (bdS a.str).size ∧ I64 ((↑g.fst : Int) + 1) ∧ ∃ (g_1 : Nat × Int), (↑g.fst : Int) + 1 = (↑g_1.fst : Int) ∧ IntKind.u64.wrap (IntKind.u64.wrap (10 * g.snd) + IntKind.u64.wrap (IntKind.u8.wrap (byteAt' (bdS a.str) g.fst - 48))) = g_1.snd ∧ (g_1.fst ≤ (bdS a.str).size ∧ 0 ≤ g_1.snd ∧ g_1.snd < 10 ^ g_1.fst ∧ dcV (bys (bdS a.str)) 0 = dcV (List.drop g_1.fst (bys (bdS a.str))) g_1.snd) ∧ (bdS a.str).size - g_1.fst < (bdS a.str).size - g.fst else bif decide (0 < (↑a.str.size : Int)) && decide (byteAt' a.str (Int.toNat 0) = 45) then (LeI 0 2 ∧ LtI 2 256 ∧ I64 (IntKind.i64.wrap (IntKind.u64.wrap (0 - g.snd))) ∧ LeI 0 0 ∧ LtI 0 18446744073709551616) ∧ mayV (D.t [D.i 2, D.b false, D.i (IntKind.i64.wrap (IntKind.u64.wrap (0 - g.snd))), D.s (ByteArray.mk #[]), D.i 0]) = true ∧ IntKind.i64.wrap (IntKind.u64.wrap (0 - g.snd)) = inV a.str ∧ decide (sL (valL (D.t [D.i 2, D.b false, D.i (IntKind.i64.wrap (IntKind.u64.wrap (0 - g.snd))), D.s (ByteArray.mk #[]), D.i 0])) = a.str) = inB a.str else (LeI 0 2 ∧ LtI 2 256 ∧ I64 (IntKind.i64.wrap g.snd) ∧ LeI 0 0 ∧ LtI 0 18446744073709551616) ∧ mayV (D.t [D.i 2, D.b false, D.i (IntKind.i64.wrap g.snd), D.s (ByteArray.mk #[]), D.i 0]) = true ∧ IntKind.i64.wrap g.snd = inV a.str ∧ decide (sL (valL (D.t [D.i 2, D.b false, D.i (IntKind.i64.wrap g.snd), D.s (ByteArray.mk #[]), D.i 0])) = a.str) = inB a.str) = conGoal Tryz.prog (addS 51 rvTC noS) intgC_an 200 47 intgC [a] := by kernel_rfl
theorem intgC_ok : ConOK Tryz.prog gl 47 intgC := con_of mo (addS_ok rvTC_ok (noS_ok _)) (an := intgC_an) 200 fun ds hl hp => by
  obtain ⟨a, rfl⟩ := len1 hl
  rw [← intgC_vc]
  have p0 : a.str.size ≤ 9223372036854775807 := hp _ (.head _)
  have hng : (decide (0 < (a.str.size : Int)) && decide (byteAt' a.str (Int.toNat 0) = 45)) = ngB a.str := rfl
  rw [hng]
  refine ⟨fun h => ⟨by decide, by have := of_decide_eq_true h; omega⟩, ?_, fun _ _ => ?_⟩
  · refine cond_of (fun c => ?_) (fun c => ?_)
    · have hs : 0 < a.str.size := by
        simp only [ngB, Bool.and_eq_true, decide_eq_true_eq] at c; omega
      exact ⟨by decide, by omega, (), by rw [bdS, if_pos c]; rfl, trivial⟩
    · exact ⟨(), by rw [bdS, if_neg (by rw [c]; decide)], trivial⟩
  · have fail : dcS a.str = -1 → EqI 0 (inV a.str) ∧ false = inB a.str := fun h => ⟨by show 0 = inV a.str; rw [inV, if_pos h], by rw [inB, if_pos h]⟩
    refine cond_of (fun c => ?_) (fun c => ?_)
    · exact fail (if_pos (by simp only [Bool.or_eq_true, decide_eq_true_eq] at c; exact c))
    · simp only [Bool.or_eq_false_iff, decide_eq_false_iff_not] at c
      have e : dcS a.str = dcV (bys (bdS a.str)) 0 := if_neg (by
        rintro (h | h)
        · exact c.1 h
        · exact c.2 h)
      refine ⟨(0, 0), rfl, rfl, ⟨Nat.zero_le _, by decide, by decide, rfl⟩, ?_⟩
      rintro ⟨k, n⟩ ⟨h1, h2, h3, h4⟩
      dsimp only at h1 h2 h3 h4 ⊢
      refine cond_of (fun d => ?_) (fun d => ?_)
      · have d := of_decide_eq_true d
        have hk : k < (bdS a.str).size := by omega
        obtain ⟨b0, b1⟩ := byte_in (bdS a.str) k
        rw [bys_drop hk, dcV] at h4
        refine ⟨⟨by omega, by omega⟩, fun _ => ⟨by omega, by omega⟩, cond_of (fun f => ?_) (fun f => ?_)⟩
        · simp only [Bool.or_eq_true, decide_eq_true_eq] at f
          rw [if_pos f] at h4
          exact fail (by rw [e, h4])
        · simp only [Bool.or_eq_false_iff, decide_eq_false_iff_not] at f
          rw [if_neg (by omega)] at h4
          have hp := p10 k (by omega)
          have w1 : IntKind.u64.wrap (10 * n) = n * 10 := by rw [wrap64 (x := 10 * n) (by omega) (by omega)]; omega
          have w2 : IntKind.u8.wrap (byteAt' (bdS a.str) k - 48) = byteAt' (bdS a.str) k - 48 := by rw [wrap8]; omega
          rw [w1, w2, wrap64 (x := byteAt' (bdS a.str) k - 48) (by omega) (by omega), wrap64 (x := n * 10 + (byteAt' (bdS a.str) k - 48)) (by omega) (by omega)]
          refine ⟨⟨by omega, by omega⟩, ⟨by omega, by omega⟩, (k + 1, n * 10 + (byteAt' (bdS a.str) k - 48)), by simp, rfl, ⟨hk, by show 0 ≤ n * 10 + (byteAt' (bdS a.str) k - 48); omega, ?_, h4⟩, by show (bdS a.str).size - (k + 1) < _; omega⟩
          show n * 10 + (byteAt' (bdS a.str) k - 48) < 10 ^ (k + 1)
          rw [Int.pow_succ]; omega
      · have d := of_decide_eq_false d
        have h5 : dcV (bys (bdS a.str)) 0 = n := by rw [h4, bys_end (by omega)]; rfl
        have hne : ¬ dcS a.str = -1 := by rw [e, h5]; omega
        have e2 : dcS a.str = n := by rw [e, h5]
        refine cond_of (fun g => ?_) (fun g => ?_)
        · have hv : inV a.str = IntKind.i64.wrap (IntKind.u64.wrap (0 - n)) := by rw [inV, if_neg hne, if_pos g, e2]
          exact ⟨⟨by decide, by decide, wrapI_in _, by decide, by decide⟩, rfl, hv.symm, by rw [inB, if_neg hne, hv]; rfl⟩
        · have hv : inV a.str = IntKind.i64.wrap n := by rw [inV, if_neg hne, if_neg (by rw [g]; decide), e2]
          exact ⟨⟨by decide, by decide, wrapI_in _, by decide, by decide⟩, rfl, hv.symm, by rw [inB, if_neg hne, hv]; rfl⟩
end Go.Proofs.YtbbjonjhaoeidaaGreatDoor.XT
