/- Contracts, by the symbolic evaluator. -/
import Derived.Test.YtlfafkeamppakaaDoorQY1
import Derived.Test.YtlfafkeamppakaaDoorProg
import Derived.Test.YtlfafkeamppakaaDoorQY5
set_option linter.unusedVariables false
set_option linter.unusedSimpArgs false
namespace Go.Proofs.YtlfafkeamppakaaDoor.XT
open Go Go.RowKit Go.Proofs.YtlfafkeamppakaaDoor.Sv
set_option maxRecDepth 100000
/-- never called -/
def usC : Con := ⟨[.d true .s], fun _ => [False], [.d .b], fun _ => [.b true], fun _ => []⟩
theorem usC_ok : ConOK Tryd.prog gl 71 usC := by
  intro F G w vs ds bs _ _ _ _ _ _ _ _ hp
  exact (hp False (List.mem_singleton.2 rfl)).elim
def lowC : Con := ⟨[.d true (.i .u8)], fun ds => [], [.d (.i .u8)], fun ds => (fun (a : D) => [.i (bor .u8 a.int 32)]) (nthD ds 0), fun ds => []⟩
def lowC_an : Anns := fun _ _ => none
theorem lowC_vc (a : D) : (bor IntKind.u8 a.int 32 = bor IntKind.u8 a.int 32) = conGoal Tryd.prog noS lowC_an 200 70 lowC [a] := by kernel_rfl
theorem lowC_ok : ConOK Tryd.prog gl 70 lowC := con_of mo (noS_ok _) (an := lowC_an) 200 fun ds hl hp => by
  obtain ⟨a, rfl⟩ := len1 hl
  rw [← lowC_vc]
  try rfl
theorem bytesD_nth {s : ByteArray} {k : Nat} (h : k < s.size) : (nthD (bytesD s) k).int = byteAt' s k := by
  have hl : k < (bytesD s).length := by rw [bytesD_length]; exact h
  have h1 := get_nthD hl
  have h2 : k < s.data.size := h
  rw [bytesD, List.getElem?_map, Array.getElem?_toList, Array.getElem?_eq_getElem h2] at h1
  have h3 := Option.some.inj h1
  rw [show (nthD (bytesD s) k) = D.i (s.data[k].toNat) from h3.symm]
  simp [byteAt', D.int, Array.getD, h2]
  rw [dif_pos h]
theorem bor_in (c : Int) : 0 ≤ bor .u8 c 32 ∧ bor .u8 c 32 < 256 := by
  unfold bor
  rw [wrap8]; omega
/-- a digit's number, 99 for what is none -/
def digV (c : Int) : Int := if 48 ≤ c ∧ c ≤ 57 then c - 48 else if 97 ≤ bor .u8 c 32 ∧ bor .u8 c 32 ≤ 122 then bor .u8 c 32 - 87 else 99
/-- ParseUint's number at base 16, in any case -/
def puV (mx : Int) : List Int → Int → Int
  | [], n => n
  | c :: r, n => if 16 ≤ digV c then 0 else if 1152921504606846976 ≤ n then mx else if mx < n * 16 + digV c then mx else puV mx r (n * 16 + digV c)
theorem pu_step (mx : Int) {s : ByteArray} {k : Nat} {n : Int} (h : k < s.size) : puV mx ((bys s).drop k) n = if 16 ≤ digV (byteAt' s k) then 0 else if 1152921504606846976 ≤ n then mx else if mx < n * 16 + digV (byteAt' s k) then mx else puV mx ((bys s).drop (k + 1)) (n * 16 + digV (byteAt' s k)) := by
  have hl : k < (bys s).length := by rw [bys_length]; exact h
  rw [List.drop_eq_getElem_cons hl, puV]
  have : (bys s)[k] = byteAt' s k := by
    have h' : k < s.data.size := h
    simp [bys, byteAt', Array.getD, h']
    rw [dif_pos h]
  rw [this]
def pu8C : Con := ⟨[.d true .s, .d true (.i .i64), .d true (.i .i64)], fun ds => (fun (a : D) (b : D) (c : D) => [b.int = 16, c.int = 8, a.str.size ≤ 140737488355328]) (nthD ds 0) (nthD ds 1) (nthD ds 2), [.d (.i .u64), .any], fun ds => (fun (a : D) (b : D) (c : D) => [.i (puV 255 (bys a.str) 0), .i 0]) (nthD ds 0) (nthD ds 1) (nthD ds 2), fun ds => []⟩
def pu8C_an : Anns := fun f i => match f, i with
  | 65, 36 => some fun A st => match A.get 0 with
    | some (.v (.string s)) => ⟨Nat × Int, fun g => [(101, .v (.int .i64 g.1)), (13, .v (.int .u64 g.2)), (12, .v (.bool false))], fun _ => [], fun g => g.1 ≤ s.size ∧ 0 ≤ g.2 ∧ g.2 ≤ 255 ∧ puV 255 (bys s) 0 = puV 255 ((bys s).drop g.1) g.2, fun g => s.size - g.1⟩
    | _ => LAnn.bad
  | _, _ => none
theorem pu8C_vc (a b c : D) : (bif decide (a.str = (ByteArray.mk #[])) then a.str.size ≤ 281474976710656 ∧ EqI 0 (puV 255 (bys a.str) 0) else LeI 0 (IntKind.u64.wrap 8) ∧ a.str.size ≤ 140737488355328 ∧ ∃ (g : Nat × Int), EqI 0 (↑g.fst : Int) ∧ EqI 0 g.snd ∧ false = false ∧ (g.fst ≤ a.str.size ∧ 0 ≤ g.snd ∧ g.snd ≤ 255 ∧ puV 255 (bys a.str) 0 = puV 255 (List.drop g.fst (bys a.str)) g.snd) ∧ ∀ (g : Nat × Int), g.fst ≤ a.str.size ∧ 0 ≤ g.snd ∧ g.snd ≤ 255 ∧ puV 255 (bys a.str) 0 = puV 255 (List.drop g.fst (bys a.str)) g.snd → bif decide ((↑g.fst : Int) < (↑(bytesD a.str).length : Int)) then Idx (↑g.fst : Int) (bytesD a.str).length ∧ bif decide ((nthD (bytesD a.str) g.fst).int = 95) && decide (EqI 16 0) then I64 ((↑g.fst : Int) + 1) ∧ ∃ (g_1 : Nat × Int), (↑g.fst : Int) + 1 = (↑g_1.fst : Int) ∧ g.snd = g_1.snd ∧ true = false ∧ (g_1.fst ≤ a.str.size ∧ 0 ≤ g_1.snd ∧ g_1.snd ≤ 255 ∧ puV 255 (bys a.str) 0 = puV 255 (List.drop g_1.fst (bys a.str)) g_1.snd) ∧ a.str.size - g_1.fst < a.str.size - g.fst else bif decide (48 ≤ (nthD (bytesD a.str) g.fst).int) && decide ((nthD (bytesD a.str) g.fst).int ≤ 57) then bif decide (IntKind.u8.wrap 16 ≤ IntKind.u8.wrap ((nthD (bytesD a.str) g.fst).int - 48)) then a.str.size ≤ 281474976710656 ∧ EqI 0 (puV 255 (bys a.str) 0) else bif decide (1152921504606846976 ≤ g.snd) then a.str.size ≤ 281474976710656 ∧ EqI (IntKind.u64.wrap (bshl IntKind.u64 1 (IntKind.u64.wrap 8) - 1)) (puV 255 (bys a.str) 0) else bif decide (IntKind.u64.wrap (IntKind.u64.wrap (g.snd * IntKind.u64.wrap 16) + IntKind.u64.wrap (IntKind.u8.wrap ((nthD (bytesD a.str) g.fst).int - 48))) < IntKind.u64.wrap (g.snd * IntKind.u64.wrap 16)) || decide (IntKind.u64.wrap (bshl IntKind.u64 1 (IntKind.u64.wrap 8) - 1) < IntKind.u64.wrap (IntKind.u64.wrap (g.snd * IntKind.u64.wrap 16) + IntKind.u64.wrap (IntKind.u8.wrap ((nthD (bytesD a.str) g.fst).int - 48)))) then a.str.size ≤ 281474976710656 ∧ EqI (IntKind.u64.wrap (bshl IntKind.u64 1 (IntKind.u64.wrap 8) - 1)) (puV 255 (bys a.str) 0) else I64 ((↑g.fst : Int) + 1) ∧ ∃ (g_1 : Nat × Int), (↑g.fst : Int) + 1 = (↑g_1.fst : Int) ∧ IntKind.u64.wrap (IntKind.u64.wrap (g.snd * IntKind.u64.wrap 16) + IntKind.u64.wrap (IntKind.u8.wrap ((nthD (bytesD a.str) g.fst).int - 48))) = g_1.snd ∧ false = false ∧ (g_1.fst ≤ a.str.size ∧ 0 ≤ g_1.snd ∧ g_1.snd ≤ 255 ∧ puV 255 (bys a.str) 0 = puV 255 (List.drop g_1.fst (bys a.str)) g_1.snd) ∧ a.str.size - g_1.fst < a.str.size - g.fst else bif decide (97 ≤ bor IntKind.u8 (nthD (bytesD a.str) g.fst).int 32) && decide (bor IntKind.u8 (nthD (bytesD a.str) g.fst).int 32 ≤ 122) then bif decide (IntKind.u8.wrap 16 ≤ IntKind.u8.wrap (IntKind.u8.wrap (bor IntKind.u8 (nthD (bytesD a.str) g.fst).int 32 - 97) + 10)) then a.str.size ≤ 281474976710656 ∧ EqI 0 (puV 255 (bys a.str) 0) else bif decide (1152921504606846976 ≤ g.snd) then a.str.size ≤ 281474976710656 ∧ EqI (IntKind.u64.wrap (bshl IntKind.u64 1 (IntKind.u64.wrap 8) - 1)) (puV 255 (bys a.str) 0) else bif decide (IntKind.u64.wrap (IntKind.u64.wrap (g.snd * IntKind.u64.wrap 16) + IntKind.u64.wrap (IntKind.u8.wrap (IntKind.u8.wrap (bor IntKind.u8 (nthD (bytesD a.str) g.fst).int 32 - 97) + 10))) < IntKind.u64.wrap (g.snd * IntKind.u64.wrap 16)) || decide (IntKind.u64.wrap (bshl IntKind.u64 1 (IntKind.u64.wrap 8) - 1) < IntKind.u64.wrap (IntKind.u64.wrap (g.snd * IntKind.u64.wrap 16) + IntKind.u64.wrap (IntKind.u8.wrap (IntKind.u8.wrap (bor IntKind.u8 (nthD (bytesD a.str) g.fst).int 32 - 97) + 10)))) then a.str.size ≤ 281474976710656 ∧ EqI (IntKind.u64.wrap (bshl IntKind.u64 1 (IntKind.u64.wrap 8) - 1)) (puV 255 (bys a.str) 0) else I64 ((↑g.fst : Int) + 1) ∧ ∃ (g_1 : Nat × Int), (↑g.fst : Int) + 1 = (↑g_1.fst : Int) ∧ IntKind.u64.wrap (IntKind.u64.wrap (g.snd * IntKind.u64.wrap 16) + IntKind.u64.wrap (IntKind.u8.wrap (IntKind.u8.wrap (bor IntKind.u8 (nthD (bytesD a.str) g.fst).int 32 - 97) + 10))) = g_1.snd ∧ false = false ∧ (g_1.fst ≤ a.str.size ∧ 0 ≤ g_1.snd ∧ g_1.snd ≤ 255 ∧ puV 255 (bys a.str) 0 = puV 255 (List.drop g_1.fst (bys a.str)) g_1.snd) ∧ a.str.size - g_1.fst < a.str.size - g.fst else a.str.size ≤ 281474976710656 ∧ EqI 0 (puV 255 (bys a.str) 0) else (false = true → False) ∧ g.snd = puV 255 (bys a.str) 0) = conGoal Tryd.prog (addS 85 tzC (addS 67 rngC (addS 66 synC (addS 71 usC (addS 70 lowC noS))))) pu8C_an 200 63 pu8C [a, D.i 16, D.i 8] := by kernel_rfl
theorem pu8C_ok : ConOK Tryd.prog gl 63 pu8C := con_of mo (addS_ok tzC_ok (addS_ok rngC_ok (addS_ok synC_ok (addS_ok usC_ok (addS_ok lowC_ok (noS_ok _)))))) (an := pu8C_an) 200 fun ds hl hp => by
  obtain ⟨a, b, c, rfl⟩ := len3 hl
  have p0 : b.int = 16 := hp _ (.head _)
  have p1 : c.int = 8 := hp _ (.tail _ (.head _))
  have p2 : a.str.size ≤ 140737488355328 := hp _ (.tail _ (.tail _ (.head _)))
  have hat : conGoal Tryd.prog (addS 85 tzC (addS 67 rngC (addS 66 synC (addS 71 usC (addS 70 lowC noS))))) pu8C_an 200 63 pu8C [a, b, c] = conGoal Tryd.prog (addS 85 tzC (addS 67 rngC (addS 66 synC (addS 71 usC (addS 70 lowC noS))))) pu8C_an 200 63 pu8C [a, D.i 16, D.i 8] := by
    unfold conGoal
    have e : startAs pu8C.args [a, b, c] 0 = startAs pu8C.args [a, D.i 16, D.i 8] 0 := by
      show [_, AV.v (.int .i64 b.int), AV.v (.int .i64 c.int)] = _
      rw [p0, p1]; rfl
    rw [e]; rfl
  rw [hat, ← pu8C_vc a b c]
  have hmx : IntKind.u64.wrap (bshl IntKind.u64 1 (IntKind.u64.wrap 8) - 1) = 255 := by decide
  have h16 : IntKind.u8.wrap 16 = 16 := by decide
  have h16' : IntKind.u64.wrap 16 = 16 := by decide
  rw [hmx, h16, h16']
  refine cond_of (fun c0 => ?_) (fun c0 => ?_)
  · have c0 := of_decide_eq_true c0
    refine ⟨by omega, ?_⟩
    rw [c0]; rfl
  · refine ⟨by decide, p2, (0, 0), rfl, rfl, rfl, ⟨Nat.zero_le _, by decide, by decide, rfl⟩, ?_⟩
    rintro ⟨k, n⟩ ⟨h1, h2, h3, h4⟩
    dsimp only at h1 h2 h3 h4 ⊢
    rw [bytesD_length]
    refine cond_of (fun c => ?_) (fun c => ?_)
    · have c := of_decide_eq_true c
      have hk : k < a.str.size := by omega
      obtain ⟨b0, b1⟩ := byte_in a.str k
      obtain ⟨o0, o1⟩ := bor_in (byteAt' a.str k)
      rw [bytesD_nth hk]
      have hst := pu_step 255 (n := n) hk
      rw [← h4] at hst
      have tail : ∀ d : Int, digV (byteAt' a.str k) = d → 0 ≤ d → d < 256 → (bif decide (16 ≤ d) then a.str.size ≤ 281474976710656 ∧ EqI 0 (puV 255 (bys a.str) 0) else bif decide (1152921504606846976 ≤ n) then a.str.size ≤ 281474976710656 ∧ EqI 255 (puV 255 (bys a.str) 0) else bif decide (IntKind.u64.wrap (IntKind.u64.wrap (n * 16) + IntKind.u64.wrap d) < IntKind.u64.wrap (n * 16)) || decide (255 < IntKind.u64.wrap (IntKind.u64.wrap (n * 16) + IntKind.u64.wrap d)) then a.str.size ≤ 281474976710656 ∧ EqI 255 (puV 255 (bys a.str) 0) else I64 ((k : Int) + 1) ∧ ∃ g_1 : Nat × Int, (k : Int) + 1 = (g_1.fst : Int) ∧ IntKind.u64.wrap (IntKind.u64.wrap (n * 16) + IntKind.u64.wrap d) = g_1.snd ∧ false = false ∧ (g_1.fst ≤ a.str.size ∧ 0 ≤ g_1.snd ∧ g_1.snd ≤ 255 ∧ puV 255 (bys a.str) 0 = puV 255 ((bys a.str).drop g_1.fst) g_1.snd) ∧ a.str.size - g_1.fst < a.str.size - k) := by
        intro d hd d0 d1
        rw [hd] at hst
        refine cond_of (fun e => ?_) (fun e => cond_of (fun e2 => ?_) (fun e2 => ?_))
        · exact ⟨by omega, by show 0 = _; rw [hst, if_pos (of_decide_eq_true e)]⟩
        · exact ⟨by omega, by show 255 = _; rw [hst, if_neg (of_decide_eq_false e), if_pos (of_decide_eq_true e2)]⟩
        · have e := of_decide_eq_false e
          have e2 := of_decide_eq_false e2
          rw [wrap64 (x := n * 16) (by omega) (by omega), wrap64 (x := d) (by omega) (by omega), wrap64 (x := n * 16 + d) (by omega) (by omega)]
          refine cond_of (fun e3 => ?_) (fun e3 => ?_)
          · simp only [Bool.or_eq_true, decide_eq_true_eq] at e3
            have e4 : 255 < n * 16 + d := by omega
            exact ⟨by omega, by show 255 = _; rw [hst, if_neg e, if_neg e2, if_pos e4]⟩
          · simp only [Bool.or_eq_false_iff, decide_eq_false_iff_not] at e3
            exact ⟨⟨by omega, by omega⟩, (k + 1, n * 16 + d), by simp, rfl, rfl, ⟨hk, by show 0 ≤ n * 16 + d; omega, by show n * 16 + d ≤ 255; omega, by rw [hst, if_neg e, if_neg e2, if_neg e3.2]⟩, by show a.str.size - (k + 1) < _; omega⟩
      refine ⟨⟨by omega, by omega⟩, cond_of (fun e => ?_) (fun _ => cond_of (fun e => ?_) (fun e => cond_of (fun e2 => ?_) (fun e2 => ?_)))⟩
      · simp [EqI] at e
      · simp only [Bool.and_eq_true, decide_eq_true_eq] at e
        rw [show IntKind.u8.wrap (byteAt' a.str k - 48) = byteAt' a.str k - 48 by rw [wrap8]; omega]
        exact tail _ (by rw [digV, if_pos e]) (by omega) (by omega)
      · simp only [Bool.and_eq_true, decide_eq_true_eq] at e2
        simp only [Bool.and_eq_false_iff, decide_eq_false_iff_not] at e
        rw [show IntKind.u8.wrap (IntKind.u8.wrap (bor IntKind.u8 (byteAt' a.str k) 32 - 97) + 10) = bor IntKind.u8 (byteAt' a.str k) 32 - 87 by rw [wrap8, wrap8]; omega]
        exact tail _ (by rw [digV, if_neg (by omega), if_pos e2]) (by omega) (by omega)
      · simp only [Bool.and_eq_false_iff, decide_eq_false_iff_not] at e e2
        have hd : digV (byteAt' a.str k) = 99 := by rw [digV, if_neg (by omega), if_neg (by omega)]
        rw [hd, if_pos (by decide)] at hst
        exact ⟨by omega, hst.symm⟩
    · have c := of_decide_eq_false c
      refine ⟨fun h => (by cases h), ?_⟩
      rw [h4, List.drop_of_length_le (by rw [bys_length]; omega)]; rfl
/-- what a backslash stands for -/
def esV (R : List Int) : Int := if R.getD 0 0 = 110 then 10 else if R.getD 0 0 = 92 ∨ R.getD 0 0 = 34 then R.getD 0 0 else if R.getD 0 0 = 120 ∧ hxC (R.getD 1 0) = true ∧ hxC (R.getD 2 0) = true then 16 * hxV' (R.getD 1 0) + hxV' (R.getD 2 0) else 0
def esK (R : List Int) : Nat := if R.getD 0 0 = 110 ∨ R.getD 0 0 = 92 ∨ R.getD 0 0 = 34 then 1 else if R.getD 0 0 = 120 then (if hxC (R.getD 1 0) = false then 1 else if hxC (R.getD 2 0) = false then 2 else 3) else 0
def esO (R : List Int) : Bool := decide (R.getD 0 0 = 110) || decide (R.getD 0 0 = 92) || decide (R.getD 0 0 = 34) || decide (R.getD 0 0 = 120) && hxC (R.getD 1 0) && hxC (R.getD 2 0)
theorem sg_idx8 : ∀ n : Fin 256, (!decide (((n.val : Nat) : Int) = 0) && decide (0 ≤ Lib.indexByte (ByteArray.mk #[123, 125, 40, 41, 58, 44, 64, 126, 45]).data.toList (((n.val : Nat) : Int)).toNat.toUInt8)) = sgC ((n.val : Nat) : Int) := by decide +kernel
theorem sg_idx {c : Int} (h0 : 0 ≤ c) (h1 : c < 256) : (!decide (c = 0) && decide (0 ≤ Lib.indexByte (ByteArray.mk #[123, 125, 40, 41, 58, 44, 64, 126, 45]).data.toList c.toNat.toUInt8)) = sgC c := by
  obtain ⟨n, rfl⟩ := Int.eq_ofNat_of_zero_le h0
  exact sg_idx8 ⟨n, by omega⟩
theorem list_byte {l : List Int} (h : ∀ c ∈ l, 0 ≤ c ∧ c < 256) (k : Nat) : 0 ≤ l.getD k 0 ∧ l.getD k 0 < 256 := by
  rw [List.getD_eq_getElem?_getD]
  rcases e : l[k]? with _ | c
  · exact ⟨by decide, by decide⟩
  · exact h c (List.mem_of_getElem? e)
theorem rst_in (a : D) : ∀ c ∈ rst a, 0 ≤ c ∧ c < 256 := fun c hc => bys_all_in _ c (List.mem_of_mem_drop hc)
theorem rst_byte (a : D) (k : Nat) : 0 ≤ (rst a).getD k 0 ∧ (rst a).getD k 0 < 256 := list_byte (rst_in a) k
theorem hxV_in {c : Int} (h : hxC c = true) : 0 ≤ hxV' c ∧ hxV' c < 16 := by
  simp only [hxC, dgC, Bool.or_eq_true, Bool.and_eq_true, decide_eq_true_eq] at h
  unfold hxV'; split <;> omega
theorem hx_dig8 : ∀ n : Fin 256, hxC ((n.val : Nat) : Int) = true → digV ((n.val : Nat) : Int) = hxV' ((n.val : Nat) : Int) := by decide +kernel
theorem hx_dig {c : Int} (h : 0 ≤ c ∧ c < 256) (hc : hxC c = true) : digV c = hxV' c := by
  obtain ⟨n, rfl⟩ := Int.eq_ofNat_of_zero_le h.1
  exact hx_dig8 ⟨n, by omega⟩ hc
theorem pu_two {e f : Int} (h1 : 0 ≤ e ∧ e < 256) (h2 : 0 ≤ f ∧ f < 256) (he : hxC e = true) (hf : hxC f = true) : puV 255 [e, f] 0 = 16 * hxV' e + hxV' f := by
  have v1 := hxV_in he
  have v2 := hxV_in hf
  rw [puV, hx_dig h1 he, if_neg (by omega), if_neg (by omega), if_neg (by omega), puV, hx_dig h2 hf, if_neg (by omega), if_neg (by omega), if_neg (by omega), puV]
  omega
def lxkdC : Con := ⟨[.box 51 [.s, (.i .i64)]], fun ds => (fun (a : D) => [0 ≤ (D.int (D.fld a 1)), (D.int (D.fld a 1)) ≤ ((D.str (D.fld a 0))).size, ((D.str (D.fld a 0))).size ≤ 1099511627776]) (nthD ds 0), [.d (.i .u8)], fun ds => (fun (a : D) => [.i (kdL (rst a))]) (nthD ds 0), fun ds => (fun (a : D) => [.t [.s ((D.str (D.fld a 0))), .i ((D.int (D.fld a 1)))]]) (nthD ds 0)⟩
def lxkdC_an : Anns := fun _ _ => none
theorem lxkdC_vc (a : D) : (0 ≤ (a.fld 1).int ∧ (a.fld 1).int ≤ (↑(a.fld 0).str.size : Int) ∧ (a.fld 0).str.size ≤ 1099511627776 ∧ LeI 0 0 ∧ LeI 0 1 ∧ bif bgC ((rst (D.t [D.s (a.fld 0).str, D.i (a.fld 1).int])).getD (Int.toNat 0) 0) then (a.fld 0).str = (a.fld 0).str ∧ (a.fld 1).int = (a.fld 1).int ∧ EqI 1 (kdL (rst a)) else bif eqvB true (decide ((rst (D.t [D.s (a.fld 0).str, D.i (a.fld 1).int])).getD (Int.toNat 0) 0 = 48)) then 0 ≤ (a.fld 1).int ∧ (a.fld 1).int ≤ (↑(a.fld 0).str.size : Int) ∧ (a.fld 0).str.size ≤ 1099511627776 ∧ LeI 0 1 ∧ LeI 1 1 ∧ bif true && decide ((rst (D.t [D.s (a.fld 0).str, D.i (a.fld 1).int])).getD (Int.toNat 1) 0 = 120) then (a.fld 0).str = (a.fld 0).str ∧ (a.fld 1).int = (a.fld 1).int ∧ EqI 3 (kdL (rst a)) else bif dgC ((rst (D.t [D.s (a.fld 0).str, D.i (a.fld 1).int])).getD (Int.toNat 0) 0) then bif dgC ((rst (D.t [D.s (a.fld 0).str, D.i (a.fld 1).int])).getD (Int.toNat 0) 0) then (a.fld 0).str = (a.fld 0).str ∧ (a.fld 1).int = (a.fld 1).int ∧ EqI 2 (kdL (rst a)) else bif decide ((rst (D.t [D.s (a.fld 0).str, D.i (a.fld 1).int])).getD (Int.toNat 0) 0 = 34) then (a.fld 0).str = (a.fld 0).str ∧ (a.fld 1).int = (a.fld 1).int ∧ EqI 4 (kdL (rst a)) else bif !decide ((rst (D.t [D.s (a.fld 0).str, D.i (a.fld 1).int])).getD (Int.toNat 0) 0 = 0) && decide (0 ≤ Lib.indexByte (ByteArray.mk #[123, 125, 40, 41, 58, 44, 64, 126, 45]).data.toList ((rst (D.t [D.s (a.fld 0).str, D.i (a.fld 1).int])).getD (Int.toNat 0) 0).toNat.toUInt8) then (a.fld 0).str = (a.fld 0).str ∧ (a.fld 1).int = (a.fld 1).int ∧ EqI 5 (kdL (rst a)) else (a.fld 0).str = (a.fld 0).str ∧ (a.fld 1).int = (a.fld 1).int ∧ EqI 0 (kdL (rst a)) else bif eqvB true (decide ((rst (D.t [D.s (a.fld 0).str, D.i (a.fld 1).int])).getD (Int.toNat 0) 0 = 45)) then 0 ≤ (a.fld 1).int ∧ (a.fld 1).int ≤ (↑(a.fld 0).str.size : Int) ∧ (a.fld 0).str.size ≤ 1099511627776 ∧ LeI 0 1 ∧ LeI 1 1 ∧ bif true && dgC ((rst (D.t [D.s (a.fld 0).str, D.i (a.fld 1).int])).getD (Int.toNat 1) 0) then (a.fld 0).str = (a.fld 0).str ∧ (a.fld 1).int = (a.fld 1).int ∧ EqI 2 (kdL (rst a)) else bif decide ((rst (D.t [D.s (a.fld 0).str, D.i (a.fld 1).int])).getD (Int.toNat 0) 0 = 34) then (a.fld 0).str = (a.fld 0).str ∧ (a.fld 1).int = (a.fld 1).int ∧ EqI 4 (kdL (rst a)) else bif !decide ((rst (D.t [D.s (a.fld 0).str, D.i (a.fld 1).int])).getD (Int.toNat 0) 0 = 0) && decide (0 ≤ Lib.indexByte (ByteArray.mk #[123, 125, 40, 41, 58, 44, 64, 126, 45]).data.toList ((rst (D.t [D.s (a.fld 0).str, D.i (a.fld 1).int])).getD (Int.toNat 0) 0).toNat.toUInt8) then (a.fld 0).str = (a.fld 0).str ∧ (a.fld 1).int = (a.fld 1).int ∧ EqI 5 (kdL (rst a)) else (a.fld 0).str = (a.fld 0).str ∧ (a.fld 1).int = (a.fld 1).int ∧ EqI 0 (kdL (rst a)) else (!true) = false ∧ bif decide ((rst (D.t [D.s (a.fld 0).str, D.i (a.fld 1).int])).getD (Int.toNat 0) 0 = 34) then (a.fld 0).str = (a.fld 0).str ∧ (a.fld 1).int = (a.fld 1).int ∧ EqI 4 (kdL (rst a)) else bif !decide ((rst (D.t [D.s (a.fld 0).str, D.i (a.fld 1).int])).getD (Int.toNat 0) 0 = 0) && decide (0 ≤ Lib.indexByte (ByteArray.mk #[123, 125, 40, 41, 58, 44, 64, 126, 45]).data.toList ((rst (D.t [D.s (a.fld 0).str, D.i (a.fld 1).int])).getD (Int.toNat 0) 0).toNat.toUInt8) then (a.fld 0).str = (a.fld 0).str ∧ (a.fld 1).int = (a.fld 1).int ∧ EqI 5 (kdL (rst a)) else (a.fld 0).str = (a.fld 0).str ∧ (a.fld 1).int = (a.fld 1).int ∧ EqI 0 (kdL (rst a)) else (!true) = false ∧ bif dgC ((rst (D.t [D.s (a.fld 0).str, D.i (a.fld 1).int])).getD (Int.toNat 0) 0) then bif dgC ((rst (D.t [D.s (a.fld 0).str, D.i (a.fld 1).int])).getD (Int.toNat 0) 0) then (a.fld 0).str = (a.fld 0).str ∧ (a.fld 1).int = (a.fld 1).int ∧ EqI 2 (kdL (rst a)) else bif decide ((rst (D.t [D.s (a.fld 0).str, D.i (a.fld 1).int])).getD (Int.toNat 0) 0 = 34) then (a.fld 0).str = (a.fld 0).str ∧ (a.fld 1).int = (a.fld 1).int ∧ EqI 4 (kdL (rst a)) else bif !decide ((rst (D.t [D.s (a.fld 0).str, D.i (a.fld 1).int])).getD (Int.toNat 0) 0 = 0) && decide (0 ≤ Lib.indexByte (ByteArray.mk #[123, 125, 40, 41, 58, 44, 64, 126, 45]).data.toList ((rst (D.t [D.s (a.fld 0).str, D.i (a.fld 1).int])).getD (Int.toNat 0) 0).toNat.toUInt8) then (a.fld 0).str = (a.fld 0).str ∧ (a.fld 1).int = (a.fld 1).int ∧ EqI 5 (kdL (rst a)) else (a.fld 0).str = (a.fld 0).str ∧ (a.fld 1).int = (a.fld 1).int ∧ EqI 0 (kdL (rst a)) else bif eqvB true (decide ((rst (D.t [D.s (a.fld 0).str, D.i (a.fld 1).int])).getD (Int.toNat 0) 0 = 45)) then 0 ≤ (a.fld 1).int ∧ (a.fld 1).int ≤ (↑(a.fld 0).str.size : Int) ∧ (a.fld 0).str.size ≤ 1099511627776 ∧ LeI 0 1 ∧ LeI 1 1 ∧ bif true && dgC ((rst (D.t [D.s (a.fld 0).str, D.i (a.fld 1).int])).getD (Int.toNat 1) 0) then (a.fld 0).str = (a.fld 0).str ∧ (a.fld 1).int = (a.fld 1).int ∧ EqI 2 (kdL (rst a)) else bif decide ((rst (D.t [D.s (a.fld 0).str, D.i (a.fld 1).int])).getD (Int.toNat 0) 0 = 34) then (a.fld 0).str = (a.fld 0).str ∧ (a.fld 1).int = (a.fld 1).int ∧ EqI 4 (kdL (rst a)) else bif !decide ((rst (D.t [D.s (a.fld 0).str, D.i (a.fld 1).int])).getD (Int.toNat 0) 0 = 0) && decide (0 ≤ Lib.indexByte (ByteArray.mk #[123, 125, 40, 41, 58, 44, 64, 126, 45]).data.toList ((rst (D.t [D.s (a.fld 0).str, D.i (a.fld 1).int])).getD (Int.toNat 0) 0).toNat.toUInt8) then (a.fld 0).str = (a.fld 0).str ∧ (a.fld 1).int = (a.fld 1).int ∧ EqI 5 (kdL (rst a)) else (a.fld 0).str = (a.fld 0).str ∧ (a.fld 1).int = (a.fld 1).int ∧ EqI 0 (kdL (rst a)) else (!true) = false ∧ bif decide ((rst (D.t [D.s (a.fld 0).str, D.i (a.fld 1).int])).getD (Int.toNat 0) 0 = 34) then (a.fld 0).str = (a.fld 0).str ∧ (a.fld 1).int = (a.fld 1).int ∧ EqI 4 (kdL (rst a)) else bif !decide ((rst (D.t [D.s (a.fld 0).str, D.i (a.fld 1).int])).getD (Int.toNat 0) 0 = 0) && decide (0 ≤ Lib.indexByte (ByteArray.mk #[123, 125, 40, 41, 58, 44, 64, 126, 45]).data.toList ((rst (D.t [D.s (a.fld 0).str, D.i (a.fld 1).int])).getD (Int.toNat 0) 0).toNat.toUInt8) then (a.fld 0).str = (a.fld 0).str ∧ (a.fld 1).int = (a.fld 1).int ∧ EqI 5 (kdL (rst a)) else (a.fld 0).str = (a.fld 0).str ∧ (a.fld 1).int = (a.fld 1).int ∧ EqI 0 (kdL (rst a))) = conGoal Tryd.prog (addS 33 idxBC (addS 32 lxdC (addS 31 lxbC (addS 30 lxkC noS)))) lxkdC_an 200 22 lxkdC [a] := by kernel_rfl
set_option maxHeartbeats 1000000 in
theorem lxkdC_ok : ConOK Tryd.prog gl 22 lxkdC := con_of mo (addS_ok idxBC_ok (addS_ok lxdC_ok (addS_ok lxbC_ok (addS_ok lxkC_ok (noS_ok _))))) (an := lxkdC_an) 200 fun ds hl hp => by
  obtain ⟨a, rfl⟩ := len1 hl
  rw [← lxkdC_vc]
  have p0 : 0 ≤ (D.int (D.fld a 1)) := hp _ (.head _)
  have p1 : (D.int (D.fld a 1)) ≤ ((D.str (D.fld a 0))).size := hp _ (.tail _ (.head _))
  have p2 : ((D.str (D.fld a 0))).size ≤ 1099511627776 := hp _ (.tail _ (.tail _ (.head _)))
  have hR : rst (.t [.s ((D.str (D.fld a 0))), .i ((D.int (D.fld a 1)))]) = rst a := rfl
  have z0 : Int.toNat 0 = 0 := rfl
  have z1 : Int.toNat 1 = 1 := rfl
  rw [hR, z0, z1]
  obtain ⟨b0, b1⟩ := rst_byte a 0
  have hi := sg_idx b0 b1
  have tt : kdL (rst a) = (if ((rst a).getD 0 0) = 34 then 4 else if sgC ((rst a).getD 0 0) = true then 5 else 0) → (bif decide (((rst a).getD 0 0) = 34) then (a.fld 0).str = (a.fld 0).str ∧ (a.fld 1).int = (a.fld 1).int ∧ EqI 4 (kdL (rst a)) else bif !decide (((rst a).getD 0 0) = 0) && decide (0 ≤ Lib.indexByte (ByteArray.mk #[123, 125, 40, 41, 58, 44, 64, 126, 45]).data.toList (((rst a).getD 0 0)).toNat.toUInt8) then (a.fld 0).str = (a.fld 0).str ∧ (a.fld 1).int = (a.fld 1).int ∧ EqI 5 (kdL (rst a)) else (a.fld 0).str = (a.fld 0).str ∧ (a.fld 1).int = (a.fld 1).int ∧ EqI 0 (kdL (rst a))) := fun h => by
    rw [h, hi]
    refine cond_of (fun e => ⟨rfl, rfl, ?_⟩) (fun e => cond_of (fun f => ⟨rfl, rfl, ?_⟩) (fun f => ⟨rfl, rfl, ?_⟩))
    · show 4 = _; rw [if_pos (of_decide_eq_true e)]
    · show 5 = _; rw [if_neg (of_decide_eq_false e), if_pos f]
    · show 0 = _; rw [if_neg (of_decide_eq_false e), if_neg (by rw [f]; decide)]
  have dd : kdL (rst a) = (if dgC ((rst a).getD 0 0) = true ∨ ((rst a).getD 0 0) = 45 ∧ dgC ((rst a).getD 1 0) = true then 2 else if ((rst a).getD 0 0) = 34 then 4 else if sgC ((rst a).getD 0 0) = true then 5 else 0) → (bif dgC ((rst a).getD 0 0) then bif dgC ((rst a).getD 0 0) then (a.fld 0).str = (a.fld 0).str ∧ (a.fld 1).int = (a.fld 1).int ∧ EqI 2 (kdL (rst a)) else bif decide (((rst a).getD 0 0) = 34) then (a.fld 0).str = (a.fld 0).str ∧ (a.fld 1).int = (a.fld 1).int ∧ EqI 4 (kdL (rst a)) else bif !decide (((rst a).getD 0 0) = 0) && decide (0 ≤ Lib.indexByte (ByteArray.mk #[123, 125, 40, 41, 58, 44, 64, 126, 45]).data.toList (((rst a).getD 0 0)).toNat.toUInt8) then (a.fld 0).str = (a.fld 0).str ∧ (a.fld 1).int = (a.fld 1).int ∧ EqI 5 (kdL (rst a)) else (a.fld 0).str = (a.fld 0).str ∧ (a.fld 1).int = (a.fld 1).int ∧ EqI 0 (kdL (rst a)) else bif eqvB true (decide (((rst a).getD 0 0) = 45)) then 0 ≤ (a.fld 1).int ∧ (a.fld 1).int ≤ ((a.fld 0).str.size : Int) ∧ (a.fld 0).str.size ≤ 1099511627776 ∧ LeI 0 1 ∧ LeI 1 1 ∧ bif true && dgC ((rst a).getD 1 0) then (a.fld 0).str = (a.fld 0).str ∧ (a.fld 1).int = (a.fld 1).int ∧ EqI 2 (kdL (rst a)) else bif decide (((rst a).getD 0 0) = 34) then (a.fld 0).str = (a.fld 0).str ∧ (a.fld 1).int = (a.fld 1).int ∧ EqI 4 (kdL (rst a)) else bif !decide (((rst a).getD 0 0) = 0) && decide (0 ≤ Lib.indexByte (ByteArray.mk #[123, 125, 40, 41, 58, 44, 64, 126, 45]).data.toList (((rst a).getD 0 0)).toNat.toUInt8) then (a.fld 0).str = (a.fld 0).str ∧ (a.fld 1).int = (a.fld 1).int ∧ EqI 5 (kdL (rst a)) else (a.fld 0).str = (a.fld 0).str ∧ (a.fld 1).int = (a.fld 1).int ∧ EqI 0 (kdL (rst a)) else (!true) = false ∧ bif decide (((rst a).getD 0 0) = 34) then (a.fld 0).str = (a.fld 0).str ∧ (a.fld 1).int = (a.fld 1).int ∧ EqI 4 (kdL (rst a)) else bif !decide (((rst a).getD 0 0) = 0) && decide (0 ≤ Lib.indexByte (ByteArray.mk #[123, 125, 40, 41, 58, 44, 64, 126, 45]).data.toList (((rst a).getD 0 0)).toNat.toUInt8) then (a.fld 0).str = (a.fld 0).str ∧ (a.fld 1).int = (a.fld 1).int ∧ EqI 5 (kdL (rst a)) else (a.fld 0).str = (a.fld 0).str ∧ (a.fld 1).int = (a.fld 1).int ∧ EqI 0 (kdL (rst a))) := fun h => by
    refine cond_of (fun e => cond_of (fun _ => ⟨rfl, rfl, ?_⟩) (fun f => absurd e (by rw [f]; decide))) (fun e => cond_of (fun f => ⟨p0, p1, p2, by decide, by decide, cond_of (fun g => ⟨rfl, rfl, ?_⟩) (fun g => tt ?_)⟩) (fun f => ⟨rfl, tt ?_⟩))
    · show 2 = _; rw [h, if_pos (.inl e)]
    · show 2 = _; rw [h, if_pos (.inr ⟨of_decide_eq_true f, by simpa using g⟩)]
    · have g : dgC ((rst a).getD 1 0) = false := by simpa using g
      rw [h, if_neg]
      rintro (k | k)
      · rw [e] at k; cases k
      · rw [g] at k; cases k.2
    · have f := of_decide_eq_false (show decide (((rst a).getD 0 0) = 45) = false from f)
      rw [h, if_neg]
      rintro (k | k)
      · rw [e] at k; cases k
      · exact f k.1
  refine ⟨p0, p1, p2, by decide, by decide, cond_of (fun c => ⟨rfl, rfl, ?_⟩) (fun c => ?_)⟩
  · show 1 = kdL _; rw [kdL, if_pos c]
  have h1 : kdL (rst a) = (if ((rst a).getD 0 0) = 48 ∧ ((rst a).getD 1 0) = 120 then 3 else if dgC ((rst a).getD 0 0) = true ∨ ((rst a).getD 0 0) = 45 ∧ dgC ((rst a).getD 1 0) = true then 2 else if ((rst a).getD 0 0) = 34 then 4 else if sgC ((rst a).getD 0 0) = true then 5 else 0) := by rw [kdL, if_neg (by rw [c]; decide)]
  refine cond_of (fun e => ⟨p0, p1, p2, by decide, by decide, cond_of (fun f => ⟨rfl, rfl, ?_⟩) (fun f => dd ?_)⟩) (fun e => ⟨rfl, dd ?_⟩)
  · show 3 = _; rw [h1, if_pos ⟨of_decide_eq_true e, by simpa using f⟩]
  · have f : ¬ ((rst a).getD 1 0) = 120 := by simpa using f
    rw [h1, if_neg (fun h => f h.2)]
  · have e := of_decide_eq_false (show decide (((rst a).getD 0 0) = 48) = false from e)
    rw [h1, if_neg (fun h => e h.1)]
def lxeC : Con := ⟨[.box 51 [.s, (.i .i64)]], fun ds => (fun (a : D) => [0 ≤ (D.int (D.fld a 1)), (D.int (D.fld a 1)) ≤ ((D.str (D.fld a 0))).size, ((D.str (D.fld a 0))).size ≤ 1099511627776]) (nthD ds 0), [.d (.i .u8), .d .b], fun ds => (fun (a : D) => [.i (esV (rst a)), .b (esO (rst a))]) (nthD ds 0), fun ds => (fun (a : D) => [.t [.s ((D.str (D.fld a 0))), .i ((D.int (D.fld a 1)) + esK (rst a))]]) (nthD ds 0)⟩
def lxeC_an : Anns := fun _ _ => none
theorem lxeC_vc (a : D) : (0 ≤ (a.fld 1).int ∧ (a.fld 1).int ≤ (↑(a.fld 0).str.size : Int) ∧ (a.fld 0).str.size ≤ 1099511627776 ∧ LeI 0 0 ∧ LeI 0 1 ∧ bif decide ((↑(a.fld 0).str.size : Int) ≤ (a.fld 1).int) then (a.fld 0).str = (a.fld 0).str ∧ (a.fld 1).int = (a.fld 1).int + (↑(esK (rst a)) : Int) ∧ EqI 0 (esV (rst a)) ∧ false = esO (rst a) else bif decide ((rst (D.t [D.s (a.fld 0).str, D.i (a.fld 1).int])).getD (Int.toNat 0) 0 = 110) then I64 ((a.fld 1).int + 1) ∧ (a.fld 0).str = (a.fld 0).str ∧ (a.fld 1).int + 1 = (a.fld 1).int + (↑(esK (rst a)) : Int) ∧ EqI 10 (esV (rst a)) ∧ true = esO (rst a) else bif decide ((rst (D.t [D.s (a.fld 0).str, D.i (a.fld 1).int])).getD (Int.toNat 0) 0 = 92) then bif decide ((rst (D.t [D.s (a.fld 0).str, D.i (a.fld 1).int])).getD (Int.toNat 0) 0 = 92) then I64 ((a.fld 1).int + 1) ∧ (a.fld 0).str = (a.fld 0).str ∧ (a.fld 1).int + 1 = (a.fld 1).int + (↑(esK (rst a)) : Int) ∧ (rst (D.t [D.s (a.fld 0).str, D.i (a.fld 1).int])).getD (Int.toNat 0) 0 = esV (rst a) ∧ true = esO (rst a) else bif decide ((rst (D.t [D.s (a.fld 0).str, D.i (a.fld 1).int])).getD (Int.toNat 0) 0 = 120) then I64 ((a.fld 1).int + 1) ∧ 0 ≤ (a.fld 1).int + 1 ∧ (a.fld 1).int + 1 ≤ (↑(a.fld 0).str.size : Int) ∧ (a.fld 0).str.size ≤ 1099511627776 ∧ LeI 0 0 ∧ LeI 0 1 ∧ bif !hxC ((rst (D.t [D.s (a.fld 0).str, D.i ((a.fld 1).int + 1)])).getD (Int.toNat 0) 0) then (a.fld 0).str = (a.fld 0).str ∧ (a.fld 1).int + 1 = (a.fld 1).int + (↑(esK (rst a)) : Int) ∧ EqI 0 (esV (rst a)) ∧ false = esO (rst a) else I64 ((a.fld 1).int + 1 + 1) ∧ I64 (0 + 1) ∧ 0 ≤ (a.fld 1).int + 1 + 1 ∧ (a.fld 1).int + 1 + 1 ≤ (↑(a.fld 0).str.size : Int) ∧ (a.fld 0).str.size ≤ 1099511627776 ∧ LeI 0 0 ∧ LeI 0 1 ∧ bif !hxC ((rst (D.t [D.s (a.fld 0).str, D.i ((a.fld 1).int + 1 + 1)])).getD (Int.toNat 0) 0) then (a.fld 0).str = (a.fld 0).str ∧ (a.fld 1).int + 1 + 1 = (a.fld 1).int + (↑(esK (rst a)) : Int) ∧ EqI 0 (esV (rst a)) ∧ false = esO (rst a) else I64 ((a.fld 1).int + 1 + 1 + 1) ∧ I64 (0 + 1 + 1) ∧ (a.fld 0).str = (a.fld 0).str ∧ (a.fld 1).int + 1 + 1 + 1 = (a.fld 1).int + 1 + 1 + 1 ∧ I64 ((a.fld 1).int + 1 + 1 + 1 - 2) ∧ (a.fld 1).int + 1 + 1 + 1 = (a.fld 1).int + 1 + 1 + 1 ∧ 0 ≤ (a.fld 1).int + 1 + 1 + 1 - 2 ∧ (a.fld 1).int + 1 + 1 + 1 - 2 ≤ (a.fld 1).int + 1 + 1 + 1 ∧ (a.fld 1).int + 1 + 1 + 1 ≤ (↑(a.fld 0).str.size : Int) ∧ EqI 16 16 ∧ EqI 8 8 ∧ ((a.fld 0).str.extract ((a.fld 1).int + 1 + 1 + 1 - 2).toNat ((a.fld 1).int + 1 + 1 + 1).toNat).size ≤ 140737488355328 ∧ (a.fld 0).str = (a.fld 0).str ∧ (a.fld 1).int + 1 + 1 + 1 = (a.fld 1).int + (↑(esK (rst a)) : Int) ∧ IntKind.u8.wrap (puV 255 (bys ((a.fld 0).str.extract ((a.fld 1).int + 1 + 1 + 1 - 2).toNat ((a.fld 1).int + 1 + 1 + 1).toNat)) 0) = esV (rst a) ∧ true = esO (rst a) else (a.fld 0).str = (a.fld 0).str ∧ (a.fld 1).int = (a.fld 1).int + (↑(esK (rst a)) : Int) ∧ EqI 0 (esV (rst a)) ∧ false = esO (rst a) else bif decide ((rst (D.t [D.s (a.fld 0).str, D.i (a.fld 1).int])).getD (Int.toNat 0) 0 = 34) then I64 ((a.fld 1).int + 1) ∧ (a.fld 0).str = (a.fld 0).str ∧ (a.fld 1).int + 1 = (a.fld 1).int + (↑(esK (rst a)) : Int) ∧ (rst (D.t [D.s (a.fld 0).str, D.i (a.fld 1).int])).getD (Int.toNat 0) 0 = esV (rst a) ∧ true = esO (rst a) else bif decide ((rst (D.t [D.s (a.fld 0).str, D.i (a.fld 1).int])).getD (Int.toNat 0) 0 = 120) then I64 ((a.fld 1).int + 1) ∧ 0 ≤ (a.fld 1).int + 1 ∧ (a.fld 1).int + 1 ≤ (↑(a.fld 0).str.size : Int) ∧ (a.fld 0).str.size ≤ 1099511627776 ∧ LeI 0 0 ∧ LeI 0 1 ∧ bif !hxC ((rst (D.t [D.s (a.fld 0).str, D.i ((a.fld 1).int + 1)])).getD (Int.toNat 0) 0) then (a.fld 0).str = (a.fld 0).str ∧ (a.fld 1).int + 1 = (a.fld 1).int + (↑(esK (rst a)) : Int) ∧ EqI 0 (esV (rst a)) ∧ false = esO (rst a) else I64 ((a.fld 1).int + 1 + 1) ∧ I64 (0 + 1) ∧ 0 ≤ (a.fld 1).int + 1 + 1 ∧ (a.fld 1).int + 1 + 1 ≤ (↑(a.fld 0).str.size : Int) ∧ (a.fld 0).str.size ≤ 1099511627776 ∧ LeI 0 0 ∧ LeI 0 1 ∧ bif !hxC ((rst (D.t [D.s (a.fld 0).str, D.i ((a.fld 1).int + 1 + 1)])).getD (Int.toNat 0) 0) then (a.fld 0).str = (a.fld 0).str ∧ (a.fld 1).int + 1 + 1 = (a.fld 1).int + (↑(esK (rst a)) : Int) ∧ EqI 0 (esV (rst a)) ∧ false = esO (rst a) else I64 ((a.fld 1).int + 1 + 1 + 1) ∧ I64 (0 + 1 + 1) ∧ (a.fld 0).str = (a.fld 0).str ∧ (a.fld 1).int + 1 + 1 + 1 = (a.fld 1).int + 1 + 1 + 1 ∧ I64 ((a.fld 1).int + 1 + 1 + 1 - 2) ∧ (a.fld 1).int + 1 + 1 + 1 = (a.fld 1).int + 1 + 1 + 1 ∧ 0 ≤ (a.fld 1).int + 1 + 1 + 1 - 2 ∧ (a.fld 1).int + 1 + 1 + 1 - 2 ≤ (a.fld 1).int + 1 + 1 + 1 ∧ (a.fld 1).int + 1 + 1 + 1 ≤ (↑(a.fld 0).str.size : Int) ∧ EqI 16 16 ∧ EqI 8 8 ∧ ((a.fld 0).str.extract ((a.fld 1).int + 1 + 1 + 1 - 2).toNat ((a.fld 1).int + 1 + 1 + 1).toNat).size ≤ 140737488355328 ∧ (a.fld 0).str = (a.fld 0).str ∧ (a.fld 1).int + 1 + 1 + 1 = (a.fld 1).int + (↑(esK (rst a)) : Int) ∧ IntKind.u8.wrap (puV 255 (bys ((a.fld 0).str.extract ((a.fld 1).int + 1 + 1 + 1 - 2).toNat ((a.fld 1).int + 1 + 1 + 1).toNat)) 0) = esV (rst a) ∧ true = esO (rst a) else (a.fld 0).str = (a.fld 0).str ∧ (a.fld 1).int = (a.fld 1).int + (↑(esK (rst a)) : Int) ∧ EqI 0 (esV (rst a)) ∧ false = esO (rst a)) = conGoal Tryd.prog (addS 63 pu8C (addS 50 lxhC (addS 30 lxkC noS))) lxeC_an 200 54 lxeC [a] := by kernel_rfl
set_option maxHeartbeats 1000000 in
theorem lxeC_ok : ConOK Tryd.prog gl 54 lxeC := con_of mo (addS_ok pu8C_ok (addS_ok lxhC_ok (addS_ok lxkC_ok (noS_ok _)))) (an := lxeC_an) 200 fun ds hl hp => by
  obtain ⟨a, rfl⟩ := len1 hl
  rw [← lxeC_vc]
  have p0 : 0 ≤ (D.int (D.fld a 1)) := hp _ (.head _)
  have p1 : (D.int (D.fld a 1)) ≤ ((D.str (D.fld a 0))).size := hp _ (.tail _ (.head _))
  have p2 : ((D.str (D.fld a 0))).size ≤ 1099511627776 := hp _ (.tail _ (.tail _ (.head _)))
  have hR : rst (.t [.s ((D.str (D.fld a 0))), .i ((D.int (D.fld a 1)))]) = rst a := rfl
  have z0 : Int.toNat 0 = 0 := rfl
  rw [hR, z0]
  obtain ⟨p, hp⟩ := Int.eq_ofNat_of_zero_le p0
  have hL : rst a = (bys ((D.str (D.fld a 0)))).drop p := by rw [rst, hp, Int.toNat_natCast]
  have hR1 : rst (.t [.s ((D.str (D.fld a 0))), .i ((D.int (D.fld a 1)) + 1)]) = (rst a).drop 1 := by
    rw [hL, List.drop_drop]; show (bys ((D.str (D.fld a 0)))).drop ((D.int (D.fld a 1)) + 1).toNat = _; rw [hp]; rfl
  have hR2 : rst (.t [.s ((D.str (D.fld a 0))), .i ((D.int (D.fld a 1)) + 1 + 1)]) = (rst a).drop 2 := by
    rw [hL, List.drop_drop]; show (bys ((D.str (D.fld a 0)))).drop ((D.int (D.fld a 1)) + 1 + 1).toNat = _; rw [hp]; rfl
  have g0 : ∀ k : Nat, ((rst a).drop k).getD 0 0 = (rst a).getD k 0 := fun k => by simp [List.getD_eq_getElem?_getD, List.getElem?_drop]
  rw [hR1, hR2, g0, g0]
  have hlen : (rst a).length = ((D.str (D.fld a 0))).size - p := by rw [hL, List.length_drop, bys_length]
  have far : ∀ k : Nat, (((D.str (D.fld a 0))).size : Int) ≤ (D.int (D.fld a 1)) + (k : Int) → (rst a).getD k 0 = 0 := fun k h => by
    rw [List.getD_eq_getElem?_getD, List.getElem?_eq_none (by omega)]; rfl
  have h0x : hxC 0 = false := by decide
  refine ⟨p0, p1, p2, by decide, by decide, cond_of (fun c => ?_) (fun c => ?_)⟩
  · have c := of_decide_eq_true c
    have e := far 0 (by omega)
    rw [esK, esV, esO, e]
    exact ⟨rfl, by simp, rfl, rfl⟩
  have c := of_decide_eq_false c
  refine cond_of (fun c1 => ?_) (fun c1 => ?_)
  · have c1 := of_decide_eq_true c1
    rw [esK, esV, esO, if_pos (.inl c1), if_pos c1, decide_eq_true c1]
    exact ⟨⟨by omega, by omega⟩, rfl, by omega, rfl, rfl⟩
  have c1' := c1
  have c1 := of_decide_eq_false c1
  refine cond_of (fun c2 => cond_of (fun _ => ?_) (fun f => absurd c2 (by rw [f]; decide))) (fun c2 => ?_)
  · have c2 := of_decide_eq_true c2
    rw [esK, esV, esO, if_pos (.inr (.inl c2)), if_neg c1, if_pos (.inl c2), decide_eq_true c2]
    exact ⟨⟨by omega, by omega⟩, rfl, by omega, rfl, by simp⟩
  have c2' := c2
  have c2 := of_decide_eq_false c2
  refine cond_of (fun c3 => ?_) (fun c3 => ?_)
  · have c3 := of_decide_eq_true c3
    rw [esK, esV, esO, if_pos (.inr (.inr c3)), if_neg c1, if_pos (.inr c3), decide_eq_true c3]
    exact ⟨⟨by omega, by omega⟩, rfl, by omega, rfl, by simp⟩
  have c3' := c3
  have c3 := of_decide_eq_false c3
  have n1 : ¬ ((rst a).getD 0 0 = 110 ∨ (rst a).getD 0 0 = 92 ∨ (rst a).getD 0 0 = 34) := by rintro (h | h | h); exact c1 h; exact c2 h; exact c3 h
  have n2 : ¬ ((rst a).getD 0 0 = 92 ∨ (rst a).getD 0 0 = 34) := fun h => n1 (.inr h)
  rw [esK, esV, esO, if_neg n1, if_neg c1, if_neg n2, c1', c2', c3', Bool.false_or, Bool.false_or, Bool.false_or]
  refine cond_of (fun c4 => ?_) (fun c4 => ?_)
  · have c4' := of_decide_eq_true c4
    rw [if_pos c4', c4, Bool.true_and]
    refine ⟨⟨by omega, by omega⟩, by omega, by omega, p2, by decide, by decide, cond_of (fun d => ?_) (fun d => ?_)⟩
    · have d : hxC ((rst a).getD 1 0) = false := by simpa using d
      rw [if_pos d, d, if_neg (fun h => by cases h.2.1)]
      exact ⟨rfl, rfl, rfl, rfl⟩
    have d : hxC ((rst a).getD 1 0) = true := by simpa using d
    have s1 : (D.int (D.fld a 1)) + 1 < (((D.str (D.fld a 0))).size : Int) := by
      refine Int.lt_of_not_ge fun h => ?_
      rw [far 1 (by omega), h0x] at d; cases d
    rw [if_neg (by rw [d]; decide)]
    refine ⟨⟨by omega, by omega⟩, ⟨by decide, by decide⟩, by omega, by omega, p2, by decide, by decide, cond_of (fun e => ?_) (fun e => ?_)⟩
    · have e : hxC ((rst a).getD 2 0) = false := by simpa using e
      rw [if_pos e, e, if_neg (fun h => by cases h.2.2), Bool.and_false]
      exact ⟨rfl, by omega, rfl, rfl⟩
    have e : hxC ((rst a).getD 2 0) = true := by simpa using e
    have s2 : (D.int (D.fld a 1)) + 2 < (((D.str (D.fld a 0))).size : Int) := by
      refine Int.lt_of_not_ge fun h => ?_
      rw [far 2 (by omega), h0x] at e; cases e
    rw [if_neg (by rw [e]; decide), if_pos ⟨c4', d, e⟩, d, e]
    have t1 : ((D.int (D.fld a 1)) + 1 + 1 + 1 - 2).toNat = p + 1 := by omega
    have t2 : ((D.int (D.fld a 1)) + 1 + 1 + 1).toNat = p + 3 := by omega
    rw [t1, t2]
    have hx : bys (((D.str (D.fld a 0))).extract (p + 1) (p + 3)) = [(rst a).getD 1 0, (rst a).getD 2 0] := by
      rw [bys_extract, bys_drop (by omega), show p + 3 - (p + 1) = 2 by omega, List.take_succ_cons, bys_drop (by omega), List.take_succ_cons, List.take_zero, hL]
      congr 1
      · exact (getD_drop (by omega)).symm
      · congr 1
        exact (getD_drop (s := (D.str (D.fld a 0))) (k := p) (j := 2) (by omega)).symm
    rw [hx, pu_two (rst_byte a 1) (rst_byte a 2) d e]
    have w : IntKind.u8.wrap (16 * hxV' ((rst a).getD 1 0) + hxV' ((rst a).getD 2 0)) = 16 * hxV' ((rst a).getD 1 0) + hxV' ((rst a).getD 2 0) := by
      have v1 := hxV_in d
      have v2 := hxV_in e
      rw [wrap8]; omega
    rw [w]
    exact ⟨⟨by omega, by omega⟩, ⟨by decide, by decide⟩, rfl, rfl, ⟨by omega, by omega⟩, rfl, by omega, by omega, by omega, rfl, rfl, by rw [ByteArray.size_extract]; omega, rfl, by omega, rfl, rfl⟩
  · have c4' := of_decide_eq_false c4
    rw [if_neg c4', if_neg (fun h => c4' h.1), c4]
    exact ⟨rfl, by omega, rfl, rfl⟩
end Go.Proofs.YtlfafkeamppakaaDoor.XT
