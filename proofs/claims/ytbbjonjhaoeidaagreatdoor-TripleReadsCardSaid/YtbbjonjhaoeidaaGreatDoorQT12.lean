/- Contracts, by the symbolic evaluator. -/
import Derived.Test.YtbbjonjhaoeidaaGreatDoorQT11
import Derived.Test.YtbbjonjhaoeidaaGreatDoorProg
set_option linter.unusedVariables false
set_option linter.unusedSimpArgs false
namespace Go.Proofs.YtbbjonjhaoeidaaGreatDoor.XT
open Go Go.RowKit Go.Proofs.YtbbjonjhaoeidaaGreatDoor.Sv
set_option maxRecDepth 100000
/-- reading a key: what is amiss, the key, what is left -/
def rkE : List Int → Int
  | [] => 20
  | [c] => 20
  | c :: d :: r => if c ≠ 0 then rkE (d :: r) else if d = 1 then 0 else if d ≠ 255 then 21 else rkE r
def rkV : List Int → List Int
  | [] => []
  | [c] => if c ≠ 0 then [c] else []
  | c :: d :: r => if c ≠ 0 then c :: rkV (d :: r) else if d = 1 then [] else if d ≠ 255 then [] else 0 :: rkV r
def rkR : List Int → List Int
  | [] => []
  | [c] => []
  | c :: d :: r => if c ≠ 0 then rkR (d :: r) else if d = 1 then r else if d ≠ 255 then [] else rkR r
def rkVs (s : ByteArray) : ByteArray := if rkE (bys s) = 0 then sL (rkV (bys s)) else (ByteArray.mk #[])
def rkRs (s : ByteArray) : ByteArray := if rkE (bys s) = 0 then sL (rkR (bys s)) else (ByteArray.mk #[])
/-- unquoting -/
def uq : Nat → List Int → List Int
  | 0, _ => []
  | _ + 1, [] => []
  | _ + 1, [c] => [c]
  | f + 1, c :: d :: r => if c ≠ 92 then c :: uq f (d :: r) else if d = 110 then 10 :: uq f r else if d = 120 then puV 255 (r.take 2) 0 :: uq f (r.drop 2) else d :: uq f r
theorem bys_drop {s : ByteArray} {k : Nat} (h : k < s.size) : (bys s).drop k = byteAt' s k :: (bys s).drop (k + 1) := by
  have hl : k < (bys s).length := by rw [bys_length]; exact h
  rw [List.drop_eq_getElem_cons hl]
  have : (bys s)[k] = byteAt' s k := by
    have h' : k < s.data.size := h
    simp [bys, byteAt', Array.getD, h']
    rw [dif_pos h]
  rw [this]
theorem bys_end {s : ByteArray} {k : Nat} (h : s.size ≤ k) : (bys s).drop k = [] := List.drop_of_length_le (by rw [bys_length]; exact h)
theorem extract_end (s : ByteArray) (i : Nat) : s.extract i s.size = sL ((bys s).drop i) := by
  rw [← sL_bys (s.extract i s.size), bys_extract, List.take_of_length_le (by rw [List.length_drop, bys_length]; omega)]
theorem rk_ne {c : Int} (h : c ≠ 0) : ∀ r, rkE (c :: r) = rkE r ∧ rkV (c :: r) = c :: rkV r ∧ rkR (c :: r) = rkR r
  | [] => ⟨rfl, by show (if c ≠ 0 then [c] else []) = [c]; rw [if_pos h], rfl⟩
  | d :: r => ⟨by rw [rkE, if_pos h], by rw [rkV, if_pos h], by rw [rkR, if_pos h]⟩
theorem uq_nil (f : Nat) : uq f [] = [] := by cases f <;> rfl
theorem uq_one {c : Int} {f : Nat} {r : List Int} (h : c ≠ 92 ∨ r = []) : uq (f + 1) (c :: r) = c :: uq f r := by
  cases r with
  | nil => rw [uq_nil]; rfl
  | cons d r => rw [uq, if_pos (by rcases h with h | h; exact h; cases h)]
theorem digV_in (c : Int) : 0 ≤ digV c := by
  unfold digV
  split
  · omega
  · split <;> omega
theorem puV_in (mx : Int) (h : 0 ≤ mx) : ∀ (l : List Int) (n : Int), 0 ≤ n → n ≤ mx → 0 ≤ puV mx l n ∧ puV mx l n ≤ mx
  | [], n, h0, h1 => ⟨h0, h1⟩
  | c :: r, n, h0, h1 => by
    have := digV_in c
    rw [puV]
    split
    · omega
    · split
      · omega
      · split
        · omega
        · exact puV_in mx h r _ (by omega) (by omega)
theorem take_two {L : List Int} {n k : Nat} (h : L.length = n - k) (hk : k ≤ n) : L.take (min (k + 2) n - k) = L.take 2 := by
  by_cases h2 : k + 2 ≤ n
  · rw [show min (k + 2) n - k = 2 by omega]
  · rw [List.take_of_length_le (by omega), List.take_of_length_le (by omega)]
def rrkC : Con := ⟨[.d true .s], fun ds => (fun (a : D) => [a.str.size ≤ 140737488355327]) (nthD ds 0), [.d .s, .d .s, .d (.i .i64)], fun ds => (fun (a : D) => [.s (rkVs a.str), .s (rkRs a.str), .i (rkE (bys a.str))]) (nthD ds 0), fun ds => []⟩
def rrkC_an : Anns := fun f i => match f, i with
  | 36, 2000003 => some fun A st => ⟨Unit, fun _ => [], fun _ => [(5, .q 5 (.i .u8) [])], fun _ => True, fun _ => 0⟩
  | 36, 3 => some fun A st => match A.get 0 with
    | some (.v (.string s)) => ⟨Nat × List Int, fun g => [(6, .v (.int .i64 g.1)), (5, .ow st.nx g.2.length)], fun g => [(st.nx, .q 5 (.i .u8) (dI g.2))], fun g => g.1 ≤ s.size ∧ g.2.length ≤ g.1 ∧ rkE (bys s) = rkE ((bys s).drop g.1) ∧ rkV (bys s) = g.2 ++ rkV ((bys s).drop g.1) ∧ rkR (bys s) = rkR ((bys s).drop g.1), fun g => s.size - g.1⟩
    | _ => LAnn.bad
  | _, _ => none
theorem rrkC_vc (a : D) : (∃ (g : Unit), ∃ (g : Nat × List Int), EqI 0 (↑g.fst : Int) ∧ 0 = g.snd.length ∧ [] = dI g.snd ∧ (g.fst ≤ a.str.size ∧ g.snd.length ≤ g.fst ∧ rkE (bys a.str) = rkE (List.drop g.fst (bys a.str)) ∧ rkV (bys a.str) = g.snd ++ rkV (List.drop g.fst (bys a.str)) ∧ rkR (bys a.str) = rkR (List.drop g.fst (bys a.str))) ∧ ∀ (g : Nat × List Int), g.fst ≤ a.str.size ∧ g.snd.length ≤ g.fst ∧ rkE (bys a.str) = rkE (List.drop g.fst (bys a.str)) ∧ rkV (bys a.str) = g.snd ++ rkV (List.drop g.fst (bys a.str)) ∧ rkR (bys a.str) = rkR (List.drop g.fst (bys a.str)) → bif decide ((↑g.fst : Int) < (↑a.str.size : Int)) then Idx (↑g.fst : Int) a.str.size ∧ I64 ((↑g.fst : Int) + 1) ∧ bif !decide (byteAt' a.str g.fst = 0) then (g.snd.length + [D.i (byteAt' a.str g.fst)].length) * 1 ≤ 140737488355328 ∧ g.snd.length + [D.i (byteAt' a.str g.fst)].length ≤ 9223372036854775807 ∧ ∃ (g_1 : Nat × List Int), (↑g.fst : Int) + 1 = (↑g_1.fst : Int) ∧ g.snd.length + [D.i (byteAt' a.str g.fst)].length = g_1.snd.length ∧ List.take g.snd.length (dI g.snd) ++ [D.i (byteAt' a.str g.fst)] = dI g_1.snd ∧ (g_1.fst ≤ a.str.size ∧ g_1.snd.length ≤ g_1.fst ∧ rkE (bys a.str) = rkE (List.drop g_1.fst (bys a.str)) ∧ rkV (bys a.str) = g_1.snd ++ rkV (List.drop g_1.fst (bys a.str)) ∧ rkR (bys a.str) = rkR (List.drop g_1.fst (bys a.str))) ∧ a.str.size - g_1.fst < a.str.size - g.fst else bif decide ((↑g.fst : Int) + 1 = (↑a.str.size : Int)) then (ByteArray.mk #[]) = rkVs a.str ∧ (ByteArray.mk #[]) = rkRs a.str ∧ EqI 20 (rkE (bys a.str)) else Idx ((↑g.fst : Int) + 1) a.str.size ∧ bif decide (byteAt' a.str ((↑g.fst : Int) + 1).toNat = 1) then I64 ((↑g.fst : Int) + 1 + 1) ∧ 0 ≤ (↑g.fst : Int) + 1 + 1 ∧ (↑g.fst : Int) + 1 + 1 ≤ (↑a.str.size : Int) ∧ strOfD (List.take g.snd.length (dI g.snd)) = rkVs a.str ∧ a.str.extract ((↑g.fst : Int) + 1 + 1).toNat a.str.size = rkRs a.str ∧ EqI 0 (rkE (bys a.str)) else Idx ((↑g.fst : Int) + 1) a.str.size ∧ bif !decide (byteAt' a.str ((↑g.fst : Int) + 1).toNat = 255) then (ByteArray.mk #[]) = rkVs a.str ∧ (ByteArray.mk #[]) = rkRs a.str ∧ EqI 21 (rkE (bys a.str)) else (g.snd.length + [D.i 0].length) * 1 ≤ 140737488355328 ∧ g.snd.length + [D.i 0].length ≤ 9223372036854775807 ∧ I64 ((↑g.fst : Int) + 1 + 1) ∧ ∃ (g_1 : Nat × List Int), (↑g.fst : Int) + 1 + 1 = (↑g_1.fst : Int) ∧ g.snd.length + [D.i 0].length = g_1.snd.length ∧ List.take g.snd.length (dI g.snd) ++ [D.i 0] = dI g_1.snd ∧ (g_1.fst ≤ a.str.size ∧ g_1.snd.length ≤ g_1.fst ∧ rkE (bys a.str) = rkE (List.drop g_1.fst (bys a.str)) ∧ rkV (bys a.str) = g_1.snd ++ rkV (List.drop g_1.fst (bys a.str)) ∧ rkR (bys a.str) = rkR (List.drop g_1.fst (bys a.str))) ∧ a.str.size - g_1.fst < a.str.size - g.fst else (ByteArray.mk #[]) = rkVs a.str ∧ (ByteArray.mk #[]) = rkRs a.str ∧ EqI 20 (rkE (bys a.str))) = conGoal Tryz.prog noS rrkC_an 200 36 rrkC [a] := by kernel_rfl
theorem rrkC_ok : ConOK Tryz.prog gl 36 rrkC := con_of mo (noS_ok _) (an := rrkC_an) 200 fun ds hl hp => by
  obtain ⟨a, rfl⟩ := len1 hl
  rw [← rrkC_vc]
  have p0 : a.str.size ≤ 140737488355327 := hp _ (.head _)
  refine ⟨(), (0, []), rfl, rfl, rfl, ⟨Nat.zero_le _, Nat.le_refl _, rfl, rfl, rfl⟩, ?_⟩
  rintro ⟨k, l⟩ ⟨h1, h2, h3, h4, h5⟩
  dsimp only at h1 h2 h3 h4 h5 ⊢
  have hl : (dI l).length = l.length := dI_length l
  rw [take_all hl]
  have fail : ∀ e : Int, rkE (bys a.str) = e → e ≠ 0 → ((ByteArray.mk #[]) = rkVs a.str ∧ (ByteArray.mk #[]) = rkRs a.str ∧ EqI e (rkE (bys a.str))) := fun e he h0 => ⟨by rw [rkVs, if_neg (by rw [he]; exact h0)], by rw [rkRs, if_neg (by rw [he]; exact h0)], he.symm⟩
  refine cond_of (fun c => ?_) (fun c => ?_)
  · have c := of_decide_eq_true c
    have hk : k < a.str.size := by omega
    have hd := bys_drop hk
    have n1 : ((k : Int) + 1).toNat = k + 1 := by omega
    have n2 : ((k : Int) + 1 + 1).toNat = k + 2 := by omega
    rw [n1, n2]
    refine ⟨⟨by omega, by omega⟩, ⟨by omega, by omega⟩, cond_of (fun e => ?_) (fun e => ?_)⟩
    · have e : ¬ byteAt' a.str k = 0 := by simpa using e
      obtain ⟨q1, q2, q3⟩ := rk_ne e ((bys a.str).drop (k + 1))
      refine ⟨by simp; omega, by simp; omega, (k + 1, l ++ [byteAt' a.str k]), by simp, by simp, by rw [← dI_append]; rfl, ⟨hk, by simp; omega, by rw [h3, hd, q1], by rw [h4, hd, q2, List.append_assoc]; rfl, by rw [h5, hd, q3]⟩, by show a.str.size - (k + 1) < _; omega⟩
    · have e : byteAt' a.str k = 0 := by simpa using e
      rw [e] at hd
      refine cond_of (fun e2 => ?_) (fun e2 => ?_)
      · have e2 := of_decide_eq_true e2
        exact fail 20 (by rw [h3, hd, bys_end (by omega)]; rfl) (by decide)
      have e2 := of_decide_eq_false e2
      have hd2 := bys_drop (s := a.str) (k := k + 1) (by omega)
      rw [hd2] at hd
      refine ⟨⟨by omega, by omega⟩, cond_of (fun e3 => ?_) (fun e3 => ⟨⟨by omega, by omega⟩, cond_of (fun e4 => ?_) (fun e4 => ?_)⟩)⟩
      · have e3 := of_decide_eq_true e3
        have hE : rkE (bys a.str) = 0 := by rw [h3, hd, rkE, if_neg (by simp), if_pos e3]
        refine ⟨⟨by omega, by omega⟩, by omega, by omega, ?_, ?_, hE.symm⟩
        · rw [rkVs, if_pos hE, h4, hd, rkV, if_neg (by simp), if_pos e3, List.append_nil, strOfD_dI]
        · rw [rkRs, if_pos hE, h5, hd, rkR, if_neg (by simp), if_pos e3, extract_end]
      · have e3 := of_decide_eq_false e3
        have e4 : ¬ byteAt' a.str (k + 1) = 255 := by simpa using e4
        exact fail 21 (by rw [h3, hd, rkE, if_neg (by simp), if_neg e3, if_pos e4]) (by decide)
      · have e3 := of_decide_eq_false e3
        have e4 : byteAt' a.str (k + 1) = 255 := by simpa using e4
        have e4' : ¬ byteAt' a.str (k + 1) ≠ 255 := fun h => h e4
        refine ⟨by simp; omega, by simp; omega, ⟨by omega, by omega⟩, (k + 2, l ++ [0]), by show (k : Int) + 1 + 1 = ((k + 2 : Nat) : Int); omega, by simp, by rw [← dI_append]; rfl, ⟨by show k + 2 ≤ _; omega, by simp; omega, by rw [h3, hd, rkE, if_neg (by simp), if_neg e3, if_neg e4'], by rw [h4, hd, rkV, if_neg (by simp), if_neg e3, if_neg e4', List.append_assoc]; rfl, by rw [h5, hd, rkR, if_neg (by simp), if_neg e3, if_neg e4']⟩, by show a.str.size - (k + 2) < _; omega⟩
  · have c := of_decide_eq_false c
    exact fail 20 (by rw [h3, bys_end (by omega)]; rfl) (by decide)
def uqC : Con := ⟨[.d true .s], fun ds => (fun (a : D) => [a.str.size ≤ 140737488355327]) (nthD ds 0), [.d .s], fun ds => (fun (a : D) => [.s (sL (uq a.str.size (bys a.str)))]) (nthD ds 0), fun ds => []⟩
def uqC_an : Anns := fun f i => match f, i with
  | 42, 2000003 => some fun A st => ⟨Unit, fun _ => [], fun _ => [(3, .q 5 (.i .u8) [])], fun _ => True, fun _ => 0⟩
  | 42, 3 => some fun A st => match A.get 0 with
    | some (.v (.string s)) => ⟨Nat × Nat × List Int, fun g => [(4, .v (.int .i64 g.1)), (3, .ow st.nx g.2.2.length)], fun g => [(st.nx, .q 5 (.i .u8) (dI g.2.2))], fun g => g.1 ≤ s.size + 2 ∧ g.2.2.length ≤ g.1 ∧ s.size - g.1 ≤ g.2.1 ∧ uq s.size (bys s) = g.2.2 ++ uq g.2.1 ((bys s).drop g.1), fun g => s.size + 2 - g.1⟩
    | _ => LAnn.bad
  | _, _ => none
theorem uqC_vc (a : D) : (∃ (g : Unit), ∃ (g : Nat × Nat × List Int), EqI 0 (↑g.fst : Int) ∧ 0 = g.snd.snd.length ∧ [] = dI g.snd.snd ∧ (g.fst ≤ a.str.size + 2 ∧ g.snd.snd.length ≤ g.fst ∧ a.str.size - g.fst ≤ g.snd.fst ∧ uq a.str.size (bys a.str) = g.snd.snd ++ uq g.snd.fst (List.drop g.fst (bys a.str))) ∧ ∀ (g : Nat × Nat × List Int), g.fst ≤ a.str.size + 2 ∧ g.snd.snd.length ≤ g.fst ∧ a.str.size - g.fst ≤ g.snd.fst ∧ uq a.str.size (bys a.str) = g.snd.snd ++ uq g.snd.fst (List.drop g.fst (bys a.str)) → bif decide ((↑g.fst : Int) < (↑a.str.size : Int)) then Idx (↑g.fst : Int) a.str.size ∧ ((!decide (byteAt' a.str g.fst = 92)) = false → I64 ((↑g.fst : Int) + 1)) ∧ bif !decide (byteAt' a.str g.fst = 92) || decide ((↑g.fst : Int) + 1 = (↑a.str.size : Int)) then Idx (↑g.fst : Int) a.str.size ∧ (g.snd.snd.length + [D.i (byteAt' a.str g.fst)].length) * 1 ≤ 140737488355328 ∧ g.snd.snd.length + [D.i (byteAt' a.str g.fst)].length ≤ 9223372036854775807 ∧ I64 ((↑g.fst : Int) + 1) ∧ ∃ (g_1 : Nat × Nat × List Int), (↑g.fst : Int) + 1 = (↑g_1.fst : Int) ∧ g.snd.snd.length + [D.i (byteAt' a.str g.fst)].length = g_1.snd.snd.length ∧ List.take g.snd.snd.length (dI g.snd.snd) ++ [D.i (byteAt' a.str g.fst)] = dI g_1.snd.snd ∧ (g_1.fst ≤ a.str.size + 2 ∧ g_1.snd.snd.length ≤ g_1.fst ∧ a.str.size - g_1.fst ≤ g_1.snd.fst ∧ uq a.str.size (bys a.str) = g_1.snd.snd ++ uq g_1.snd.fst (List.drop g_1.fst (bys a.str))) ∧ a.str.size + 2 - g_1.fst < a.str.size + 2 - g.fst else I64 ((↑g.fst : Int) + 1) ∧ Idx ((↑g.fst : Int) + 1) a.str.size ∧ bif decide (byteAt' a.str ((↑g.fst : Int) + 1).toNat = 110) then (g.snd.snd.length + [D.i 10].length) * 1 ≤ 140737488355328 ∧ g.snd.snd.length + [D.i 10].length ≤ 9223372036854775807 ∧ I64 ((↑g.fst : Int) + 1 + 1) ∧ ∃ (g_1 : Nat × Nat × List Int), (↑g.fst : Int) + 1 + 1 = (↑g_1.fst : Int) ∧ g.snd.snd.length + [D.i 10].length = g_1.snd.snd.length ∧ List.take g.snd.snd.length (dI g.snd.snd) ++ [D.i 10] = dI g_1.snd.snd ∧ (g_1.fst ≤ a.str.size + 2 ∧ g_1.snd.snd.length ≤ g_1.fst ∧ a.str.size - g_1.fst ≤ g_1.snd.fst ∧ uq a.str.size (bys a.str) = g_1.snd.snd ++ uq g_1.snd.fst (List.drop g_1.fst (bys a.str))) ∧ a.str.size + 2 - g_1.fst < a.str.size + 2 - g.fst else bif decide (byteAt' a.str ((↑g.fst : Int) + 1).toNat = 120) then I64 ((↑g.fst : Int) + 1 + 1) ∧ I64 ((↑g.fst : Int) + 1 + 3) ∧ 0 ≤ (↑g.fst : Int) + 1 + 1 ∧ (↑g.fst : Int) + 1 + 1 ≤ min ((↑g.fst : Int) + 1 + 3) (↑a.str.size : Int) ∧ min ((↑g.fst : Int) + 1 + 3) (↑a.str.size : Int) ≤ (↑a.str.size : Int) ∧ EqI 16 16 ∧ EqI 8 8 ∧ (a.str.extract ((↑g.fst : Int) + 1 + 1).toNat (min ((↑g.fst : Int) + 1 + 3) (↑a.str.size : Int)).toNat).size ≤ 140737488355328 ∧ (g.snd.snd.length + [D.i (IntKind.u8.wrap (puV 255 (bys (a.str.extract ((↑g.fst : Int) + 1 + 1).toNat (min ((↑g.fst : Int) + 1 + 3) (↑a.str.size : Int)).toNat)) 0))].length) * 1 ≤ 140737488355328 ∧ g.snd.snd.length + [D.i (IntKind.u8.wrap (puV 255 (bys (a.str.extract ((↑g.fst : Int) + 1 + 1).toNat (min ((↑g.fst : Int) + 1 + 3) (↑a.str.size : Int)).toNat)) 0))].length ≤ 9223372036854775807 ∧ I64 ((↑g.fst : Int) + 1 + 2) ∧ I64 ((↑g.fst : Int) + 1 + 2 + 1) ∧ ∃ (g_1 : Nat × Nat × List Int), (↑g.fst : Int) + 1 + 2 + 1 = (↑g_1.fst : Int) ∧ g.snd.snd.length + [D.i (IntKind.u8.wrap (puV 255 (bys (a.str.extract ((↑g.fst : Int) + 1 + 1).toNat (min ((↑g.fst : Int) + 1 + 3) (↑a.str.size : Int)).toNat)) 0))].length = g_1.snd.snd.length ∧ List.take g.snd.snd.length (dI g.snd.snd) ++ [D.i (IntKind.u8.wrap (puV 255 (bys (a.str.extract ((↑g.fst : Int) + 1 + 1).toNat (min ((↑g.fst : Int) + 1 + 3) (↑a.str.size : Int)).toNat)) 0))] = dI g_1.snd.snd ∧ (g_1.fst ≤ a.str.size + 2 ∧ g_1.snd.snd.length ≤ g_1.fst ∧ a.str.size - g_1.fst ≤ g_1.snd.fst ∧ uq a.str.size (bys a.str) = g_1.snd.snd ++ uq g_1.snd.fst (List.drop g_1.fst (bys a.str))) ∧ a.str.size + 2 - g_1.fst < a.str.size + 2 - g.fst else Idx ((↑g.fst : Int) + 1) a.str.size ∧ (g.snd.snd.length + [D.i (byteAt' a.str ((↑g.fst : Int) + 1).toNat)].length) * 1 ≤ 140737488355328 ∧ g.snd.snd.length + [D.i (byteAt' a.str ((↑g.fst : Int) + 1).toNat)].length ≤ 9223372036854775807 ∧ I64 ((↑g.fst : Int) + 1 + 1) ∧ ∃ (g_1 : Nat × Nat × List Int), (↑g.fst : Int) + 1 + 1 = (↑g_1.fst : Int) ∧ g.snd.snd.length + [D.i (byteAt' a.str ((↑g.fst : Int) + 1).toNat)].length = g_1.snd.snd.length ∧ List.take g.snd.snd.length (dI g.snd.snd) ++ [D.i (byteAt' a.str ((↑g.fst : Int) + 1).toNat)] = dI g_1.snd.snd ∧ (g_1.fst ≤ a.str.size + 2 ∧ g_1.snd.snd.length ≤ g_1.fst ∧ a.str.size - g_1.fst ≤ g_1.snd.fst ∧ uq a.str.size (bys a.str) = g_1.snd.snd ++ uq g_1.snd.fst (List.drop g_1.fst (bys a.str))) ∧ a.str.size + 2 - g_1.fst < a.str.size + 2 - g.fst else strOfD (List.take g.snd.snd.length (dI g.snd.snd)) = sL (uq a.str.size (bys a.str))) = conGoal Tryz.prog (addS 41 pu8C noS) uqC_an 200 42 uqC [a] := by kernel_rfl
theorem uqC_ok : ConOK Tryz.prog gl 42 uqC := con_of mo (addS_ok pu8C_ok (noS_ok _)) (an := uqC_an) 200 fun ds hl hp => by
  obtain ⟨a, rfl⟩ := len1 hl
  rw [← uqC_vc]
  have p0 : a.str.size ≤ 140737488355327 := hp _ (.head _)
  refine ⟨(), (0, a.str.size, []), rfl, rfl, rfl, ⟨Nat.zero_le _, Nat.le_refl _, Nat.le_refl _, rfl⟩, ?_⟩
  rintro ⟨k, f, l⟩ ⟨h1, h2, h3, h4⟩
  dsimp only at h1 h2 h3 h4 ⊢
  have hl : (dI l).length = l.length := dI_length l
  rw [take_all hl]
  refine cond_of (fun c => ?_) (fun c => ?_)
  · have c := of_decide_eq_true c
    have hk : k < a.str.size := by omega
    have hd := bys_drop hk
    have n1 : ((k : Int) + 1).toNat = k + 1 := by omega
    have n2 : ((k : Int) + 1 + 1).toNat = k + 2 := by omega
    rw [n1, n2]
    obtain ⟨m, rfl⟩ : ∃ m, f = m + 1 := ⟨f - 1, by omega⟩
    refine ⟨⟨by omega, by omega⟩, fun _ => ⟨by omega, by omega⟩, cond_of (fun e => ?_) (fun e => ?_)⟩
    · have e' : byteAt' a.str k ≠ 92 ∨ (bys a.str).drop (k + 1) = [] := by
        simp only [Bool.or_eq_true, Bool.not_eq_true', decide_eq_false_iff_not, decide_eq_true_eq] at e
        rcases e with e | e
        · exact .inl e
        · exact .inr (bys_end (by omega))
      refine ⟨⟨by omega, by omega⟩, by simp; omega, by simp; omega, ⟨by omega, by omega⟩, (k + 1, m, l ++ [byteAt' a.str k]), by simp, by simp, by rw [← dI_append]; rfl, ⟨by show k + 1 ≤ _; omega, by simp; omega, by show a.str.size - (k + 1) ≤ m; omega, by rw [h4, hd, uq_one e', List.append_assoc]; rfl⟩, by show a.str.size + 2 - (k + 1) < _; omega⟩
    · simp only [Bool.or_eq_false_iff, Bool.not_eq_false', decide_eq_true_eq, decide_eq_false_iff_not] at e
      obtain ⟨e1, e2⟩ := e
      have hd2 := bys_drop (s := a.str) (k := k + 1) (by omega)
      rw [hd2, e1] at hd
      refine ⟨⟨by omega, by omega⟩, ⟨by omega, by omega⟩, cond_of (fun e3 => ?_) (fun e3 => cond_of (fun e4 => ?_) (fun e4 => ?_))⟩
      · have e3 := of_decide_eq_true e3
        refine ⟨by simp; omega, by simp; omega, ⟨by omega, by omega⟩, (k + 2, m, l ++ [10]), by show (k : Int) + 1 + 1 = ((k + 2 : Nat) : Int); omega, by simp, by rw [← dI_append]; rfl, ⟨by show k + 2 ≤ _; omega, by simp; omega, by show a.str.size - (k + 2) ≤ m; omega, by rw [h4, hd, uq, if_neg (by simp), if_pos e3, List.append_assoc]; rfl⟩, by show a.str.size + 2 - (k + 2) < _; omega⟩
      · have e3 := of_decide_eq_false e3
        have e4 := of_decide_eq_true e4
        have n3 : (min ((k : Int) + 1 + 3) (a.str.size : Int)).toNat = min (k + 2 + 2) a.str.size := by omega
        have hv : puV 255 (bys (a.str.extract (k + 2) (min (k + 2 + 2) a.str.size))) 0 = puV 255 (((bys a.str).drop (k + 2)).take 2) 0 := by
          rw [bys_extract, take_two (by rw [List.length_drop, bys_length]) (by omega)]
        obtain ⟨v0, v1⟩ := puV_in 255 (by decide) (((bys a.str).drop (k + 2)).take 2) 0 (by decide) (by decide)
        rw [n3, hv, show IntKind.u8.wrap (puV 255 (((bys a.str).drop (k + 2)).take 2) 0) = puV 255 (((bys a.str).drop (k + 2)).take 2) 0 by rw [wrap8]; omega]
        refine ⟨⟨by omega, by omega⟩, ⟨by omega, by omega⟩, by omega, by omega, by omega, rfl, rfl, by rw [ByteArray.size_extract]; omega, by simp; omega, by simp; omega, ⟨by omega, by omega⟩, ⟨by omega, by omega⟩, (k + 4, m, l ++ [puV 255 (((bys a.str).drop (k + 2)).take 2) 0]), by show (k : Int) + 1 + 2 + 1 = ((k + 4 : Nat) : Int); omega, by simp, by rw [← dI_append]; rfl, ⟨by show k + 4 ≤ _; omega, by simp; omega, by show a.str.size - (k + 4) ≤ m; omega, ?_⟩, by show a.str.size + 2 - (k + 4) < _; omega⟩
        rw [h4, hd, uq, if_neg (by simp), if_neg e3, if_pos e4, List.append_assoc, List.drop_drop]; rfl
      · have e3 := of_decide_eq_false e3
        have e4 := of_decide_eq_false e4
        refine ⟨⟨by omega, by omega⟩, by simp; omega, by simp; omega, ⟨by omega, by omega⟩, (k + 2, m, l ++ [byteAt' a.str (k + 1)]), by show (k : Int) + 1 + 1 = ((k + 2 : Nat) : Int); omega, by simp, by rw [← dI_append]; rfl, ⟨by show k + 2 ≤ _; omega, by simp; omega, by show a.str.size - (k + 2) ≤ m; omega, by rw [h4, hd, uq, if_neg (by simp), if_neg e3, if_neg e4, List.append_assoc]; rfl⟩, by show a.str.size + 2 - (k + 2) < _; omega⟩
  · have c := of_decide_eq_false c
    rw [h4, bys_end (by omega), uq_nil, List.append_nil, strOfD_dI]
end Go.Proofs.YtbbjonjhaoeidaaGreatDoor.XT
