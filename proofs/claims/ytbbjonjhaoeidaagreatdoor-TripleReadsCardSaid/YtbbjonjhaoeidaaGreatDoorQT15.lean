/- Contracts, by the symbolic evaluator. -/
import Derived.Test.YtbbjonjhaoeidaaGreatDoorQT14
import Derived.Test.YtbbjonjhaoeidaaGreatDoorProg
set_option linter.unusedVariables false
set_option linter.unusedSimpArgs false
namespace Go.Proofs.YtbbjonjhaoeidaaGreatDoor.XT
open Go Go.RowKit Go.Proofs.YtbbjonjhaoeidaaGreatDoor.Sv
set_option maxRecDepth 100000
def zV : D := .t [.i 0, .b false, .i 0, .s (ByteArray.mk #[]), .i 0]
/-- the value that a text might be -/
def cV (s : ByteArray) : D := if s = ByteArray.mk #[116, 114, 117, 101] ∨ s = ByteArray.mk #[102, 97, 108, 115, 101] then .t [.i 1, .b (decide (s = ByteArray.mk #[116, 114, 117, 101])), .i 0, .s (ByteArray.mk #[]), .i 0]
  else if Lib.hasPrefix s.data.toList (ByteArray.mk #[48, 120]).data.toList = true then .t [.i 4, .b false, .i 0, .s (ByteArray.mk #[]), .i (puV 18446744073709551615 ((bys s).drop 2) 0)]
  else if 2 ≤ (s.size : Int) ∧ byteAt' s 0 = 34 then .t [.i 3, .b false, .i 0, .s (sL (uq (innS s).size (bys (innS s)))), .i 0]
  else .t [.i 2, .b false, .i (piV s), .s (ByteArray.mk #[]), .i 0]
def rtB (s : ByteArray) : Bool := mayV (cV s) && decide (sL (valL (cV s)) = s)
def rtD (s : ByteArray) : D := if rtB s = true then cV s else zV
/-- the same by the document -/
def rcV (s : ByteArray) : D := if s = ByteArray.mk #[116, 114, 117, 101] ∨ s = ByteArray.mk #[102, 97, 108, 115, 101] then .t [.i 1, .b (decide (s = ByteArray.mk #[116, 114, 117, 101])), .i 0, .s (ByteArray.mk #[]), .i 0]
  else if inB s = true then .t [.i 2, .b false, .i (inV s), .s (ByteArray.mk #[]), .i 0]
  else if 0 < ruV s then .t [.i 4, .b false, .i 0, .s (ByteArray.mk #[]), .i (ruV s)]
  else if rqK s = true then .t [.i 3, .b false, .i 0, .s (rqS s), .i 0]
  else zV
def rrtD (s : ByteArray) : D := if mayV (rcV s) = true then rcV s else zV
theorem piV_in (s : ByteArray) : I64 (piV s) := by
  unfold piV
  rcases h : Lib.parseIntB 64 s.data.toList with v | _ | _
  ·
    have hb := Lib.parseIntB_bounds h
    have e : ((2 ^ (64 - 1) : Nat) : Int) = 9223372036854775808 := by decide
    rw [e] at hb
    exact ⟨hb.1, by show v ≤ _; omega⟩
  · show I64 0; exact ⟨by decide, by decide⟩
  ·
    show I64 (Lib.intSat 64 s.data.toList)
    unfold Lib.intSat
    split
    · exact ⟨by decide, by decide⟩
    · exact ⟨by decide, by decide⟩
def rtC : Con := ⟨[.d true .s], fun ds => (fun (a : D) => [a.str.size ≤ 140737488355327]) (nthD ds 0), [.d valT, .d (.i .i64)], fun ds => (fun (a : D) => [rtD a.str, .i (bif rtB a.str then 0 else 30)]) (nthD ds 0), fun ds => []⟩
def rtC_an : Anns := fun _ _ => none
theorem rtC_vc (a : D) : (bif decide (a.str = ByteArray.mk #[116, 114, 117, 101]) || decide (a.str = ByteArray.mk #[102, 97, 108, 115, 101]) then (LeI 0 1 ∧ LtI 1 256 ∧ I64 0 ∧ LeI 0 0 ∧ LtI 0 18446744073709551616) ∧ bif !decide (EqI 0 0) || !decide (sL (valL (D.t [D.i 1, D.b (decide (a.str = ByteArray.mk #[116, 114, 117, 101])), D.i 0, D.s (ByteArray.mk #[]), D.i 0])) = a.str) then EqI 0 (nthD (rtD a.str).tup 0).int ∧ false = (nthD (tailD (rtD a.str).tup) 0).bool ∧ EqI 0 (nthD (tailD (tailD (rtD a.str).tup)) 0).int ∧ (ByteArray.mk #[]) = (nthD (tailD (tailD (tailD (rtD a.str).tup))) 0).str ∧ EqI 0 (nthD (tailD (tailD (tailD (tailD (rtD a.str).tup)))) 0).int ∧ EqI 30 (condI (rtB a.str) 0 30) else EqI 1 (nthD (rtD a.str).tup 0).int ∧ decide (a.str = ByteArray.mk #[116, 114, 117, 101]) = (nthD (tailD (rtD a.str).tup) 0).bool ∧ EqI 0 (nthD (tailD (tailD (rtD a.str).tup)) 0).int ∧ (ByteArray.mk #[]) = (nthD (tailD (tailD (tailD (rtD a.str).tup))) 0).str ∧ EqI 0 (nthD (tailD (tailD (tailD (tailD (rtD a.str).tup)))) 0).int ∧ EqI 0 (condI (rtB a.str) 0 30) else bif Lib.hasPrefix a.str.data.toList (ByteArray.mk #[48, 120]).data.toList then LeI 0 2 ∧ 2 ≤ (↑a.str.size : Int) ∧ EqI 16 16 ∧ EqI 64 64 ∧ (a.str.extract (Int.toNat 2) a.str.size).size ≤ 140737488355328 ∧ (LeI 0 4 ∧ LtI 4 256 ∧ I64 0 ∧ 0 ≤ puV 18446744073709551615 (bys (a.str.extract (Int.toNat 2) a.str.size)) 0 ∧ puV 18446744073709551615 (bys (a.str.extract (Int.toNat 2) a.str.size)) 0 < 18446744073709551616) ∧ bif !decide (condI (mayV (D.t [D.i 4, D.b false, D.i 0, D.s (ByteArray.mk #[]), D.i (puV 18446744073709551615 (bys (a.str.extract (Int.toNat 2) a.str.size)) 0)])) 0 30 = 0) || !decide ((bif mayV (D.t [D.i 4, D.b false, D.i 0, D.s (ByteArray.mk #[]), D.i (puV 18446744073709551615 (bys (a.str.extract (Int.toNat 2) a.str.size)) 0)]) then sL (valL (D.t [D.i 4, D.b false, D.i 0, D.s (ByteArray.mk #[]), D.i (puV 18446744073709551615 (bys (a.str.extract (Int.toNat 2) a.str.size)) 0)])) else (ByteArray.mk #[])) = a.str) then EqI 0 (nthD (rtD a.str).tup 0).int ∧ false = (nthD (tailD (rtD a.str).tup) 0).bool ∧ EqI 0 (nthD (tailD (tailD (rtD a.str).tup)) 0).int ∧ (ByteArray.mk #[]) = (nthD (tailD (tailD (tailD (rtD a.str).tup))) 0).str ∧ EqI 0 (nthD (tailD (tailD (tailD (tailD (rtD a.str).tup)))) 0).int ∧ EqI 30 (condI (rtB a.str) 0 30) else EqI 4 (nthD (rtD a.str).tup 0).int ∧ false = (nthD (tailD (rtD a.str).tup) 0).bool ∧ EqI 0 (nthD (tailD (tailD (rtD a.str).tup)) 0).int ∧ (ByteArray.mk #[]) = (nthD (tailD (tailD (tailD (rtD a.str).tup))) 0).str ∧ puV 18446744073709551615 (bys (a.str.extract (Int.toNat 2) a.str.size)) 0 = (nthD (tailD (tailD (tailD (tailD (rtD a.str).tup)))) 0).int ∧ EqI 0 (condI (rtB a.str) 0 30) else (decide (2 ≤ (↑a.str.size : Int)) = true → Idx 0 a.str.size) ∧ bif decide (2 ≤ (↑a.str.size : Int)) && decide (byteAt' a.str (Int.toNat 0) = 34) then I64 ((↑a.str.size : Int) - 1) ∧ LeI 0 1 ∧ 1 ≤ (↑a.str.size : Int) - 1 ∧ (↑a.str.size : Int) - 1 ≤ (↑a.str.size : Int) ∧ (a.str.extract (Int.toNat 1) ((↑a.str.size : Int) - 1).toNat).size ≤ 140737488355327 ∧ (LeI 0 3 ∧ LtI 3 256 ∧ I64 0 ∧ LeI 0 0 ∧ LtI 0 18446744073709551616) ∧ bif !decide (condI (mayV (D.t [D.i 3, D.b false, D.i 0, D.s (sL (uq (a.str.extract (Int.toNat 1) ((↑a.str.size : Int) - 1).toNat).size (bys (a.str.extract (Int.toNat 1) ((↑a.str.size : Int) - 1).toNat)))), D.i 0])) 0 30 = 0) || !decide ((bif mayV (D.t [D.i 3, D.b false, D.i 0, D.s (sL (uq (a.str.extract (Int.toNat 1) ((↑a.str.size : Int) - 1).toNat).size (bys (a.str.extract (Int.toNat 1) ((↑a.str.size : Int) - 1).toNat)))), D.i 0]) then sL (valL (D.t [D.i 3, D.b false, D.i 0, D.s (sL (uq (a.str.extract (Int.toNat 1) ((↑a.str.size : Int) - 1).toNat).size (bys (a.str.extract (Int.toNat 1) ((↑a.str.size : Int) - 1).toNat)))), D.i 0])) else (ByteArray.mk #[])) = a.str) then EqI 0 (nthD (rtD a.str).tup 0).int ∧ false = (nthD (tailD (rtD a.str).tup) 0).bool ∧ EqI 0 (nthD (tailD (tailD (rtD a.str).tup)) 0).int ∧ (ByteArray.mk #[]) = (nthD (tailD (tailD (tailD (rtD a.str).tup))) 0).str ∧ EqI 0 (nthD (tailD (tailD (tailD (tailD (rtD a.str).tup)))) 0).int ∧ EqI 30 (condI (rtB a.str) 0 30) else EqI 3 (nthD (rtD a.str).tup 0).int ∧ false = (nthD (tailD (rtD a.str).tup) 0).bool ∧ EqI 0 (nthD (tailD (tailD (rtD a.str).tup)) 0).int ∧ sL (uq (a.str.extract (Int.toNat 1) ((↑a.str.size : Int) - 1).toNat).size (bys (a.str.extract (Int.toNat 1) ((↑a.str.size : Int) - 1).toNat))) = (nthD (tailD (tailD (tailD (rtD a.str).tup))) 0).str ∧ EqI 0 (nthD (tailD (tailD (tailD (tailD (rtD a.str).tup)))) 0).int ∧ EqI 0 (condI (rtB a.str) 0 30) else EqI 10 10 ∧ EqI 64 64 ∧ a.str.size ≤ 281474976710656 ∧ (LeI 0 2 ∧ LtI 2 256 ∧ I64 (piV a.str) ∧ LeI 0 0 ∧ LtI 0 18446744073709551616) ∧ bif !decide (EqI 0 0) || !decide (sL (valL (D.t [D.i 2, D.b false, D.i (piV a.str), D.s (ByteArray.mk #[]), D.i 0])) = a.str) then EqI 0 (nthD (rtD a.str).tup 0).int ∧ false = (nthD (tailD (rtD a.str).tup) 0).bool ∧ EqI 0 (nthD (tailD (tailD (rtD a.str).tup)) 0).int ∧ (ByteArray.mk #[]) = (nthD (tailD (tailD (tailD (rtD a.str).tup))) 0).str ∧ EqI 0 (nthD (tailD (tailD (tailD (tailD (rtD a.str).tup)))) 0).int ∧ EqI 30 (condI (rtB a.str) 0 30) else EqI 2 (nthD (rtD a.str).tup 0).int ∧ false = (nthD (tailD (rtD a.str).tup) 0).bool ∧ piV a.str = (nthD (tailD (tailD (rtD a.str).tup)) 0).int ∧ (ByteArray.mk #[]) = (nthD (tailD (tailD (tailD (rtD a.str).tup))) 0).str ∧ EqI 0 (nthD (tailD (tailD (tailD (tailD (rtD a.str).tup)))) 0).int ∧ EqI 0 (condI (rtB a.str) 0 30)) = conGoal Tryz.prog (addS 44 vTC (addS 43 piC (addS 42 uqC (addS 41 pu64C (addS 40 hasPC noS))))) rtC_an 200 22 rtC [a] := by kernel_rfl
set_option maxHeartbeats 2000000 in
theorem rtC_ok : ConOK Tryz.prog gl 22 rtC := con_of mo (addS_ok vTC_ok (addS_ok piC_ok (addS_ok uqC_ok (addS_ok pu64C_ok (addS_ok hasPC_ok (noS_ok _)))))) (an := rtC_an) 200 fun ds hl hp => by
  obtain ⟨a, rfl⟩ := len1 hl
  rw [← rtC_vc]
  have p0 : a.str.size ≤ 140737488355327 := hp _ (.head _)
  have z0 : Int.toNat 0 = 0 := rfl
  have e1 : ((a.str.size : Int) - 1).toNat = a.str.size - 1 := by omega
  have hi : a.str.extract (Int.toNat 1) (a.str.size - 1) = innS a.str := rfl
  have hx : bys (a.str.extract (Int.toNat 2) a.str.size) = (bys a.str).drop 2 := by
    rw [bys_extract]; exact List.take_of_length_le (by rw [List.length_drop, bys_length]; exact Nat.le_refl _)
  rw [z0, e1, hi, hx]
  have bad : rtB a.str = false → (EqI 0 (nthD (rtD a.str).tup 0).int ∧ false = (nthD (tailD (rtD a.str).tup) 0).bool ∧ EqI 0 (nthD (tailD (tailD (rtD a.str).tup)) 0).int ∧ (ByteArray.mk #[]) = (nthD (tailD (tailD (tailD (rtD a.str).tup))) 0).str ∧ EqI 0 (nthD (tailD (tailD (tailD (tailD (rtD a.str).tup)))) 0).int ∧ EqI 30 (condI (rtB a.str) 0 30)) := fun h => by
    have hD : rtD a.str = zV := if_neg (by rw [h]; decide)
    rw [hD, h]; exact ⟨rfl, rfl, rfl, rfl, rfl, rfl⟩
  have good : ∀ (k : Int) (b : Bool) (i : Int) (s : ByteArray) (u : Int), cV a.str = .t [.i k, .b b, .i i, .s s, .i u] → rtB a.str = true → (EqI k (nthD (rtD a.str).tup 0).int ∧ b = (nthD (tailD (rtD a.str).tup) 0).bool ∧ EqI i (nthD (tailD (tailD (rtD a.str).tup)) 0).int ∧ s = (nthD (tailD (tailD (tailD (rtD a.str).tup))) 0).str ∧ EqI u (nthD (tailD (tailD (tailD (tailD (rtD a.str).tup)))) 0).int ∧ EqI 0 (condI (rtB a.str) 0 30)) := fun k b i s u hV h => by
    have hD : rtD a.str = .t [.i k, .b b, .i i, .s s, .i u] := by rw [rtD, if_pos h, hV]
    rw [hD, h]; exact ⟨rfl, rfl, rfl, rfl, rfl, rfl⟩
  have br : ∀ V : D, cV a.str = V → ∀ G B : Prop, (rtB a.str = true → G) → (rtB a.str = false → B) → (bif !decide (condI (mayV V) 0 30 = 0) || !decide ((bif mayV V then sL (valL V) else (ByteArray.mk #[])) = a.str) then B else G) := by
    intro V hV G B hg hb
    have hr : rtB a.str = (mayV V && decide (sL (valL V) = a.str)) := by rw [rtB, hV]
    cases hm : mayV V with
    | false =>
      rw [hm] at hr
      exact hb hr
    | true =>
      rw [hm] at hr
      show (bif !decide (sL (valL V) = a.str) then B else G)
      by_cases h : sL (valL V) = a.str
      · rw [decide_eq_true h] at hr ⊢
        exact hg hr
      · rw [decide_eq_false h] at hr ⊢
        exact hb hr
  refine cond_of (fun c => ?_) (fun c => cond_of (fun c2 => ?_) (fun c2 => ⟨fun h => ?_, cond_of (fun c3 => ?_) (fun c3 => ?_)⟩))
  · have c : a.str = ByteArray.mk #[116, 114, 117, 101] ∨ a.str = ByteArray.mk #[102, 97, 108, 115, 101] := by simpa using c
    have hV : cV a.str = .t [.i 1, .b (decide (a.str = ByteArray.mk #[116, 114, 117, 101])), .i 0, .s (ByteArray.mk #[]), .i 0] := if_pos c
    exact ⟨⟨by decide, by decide, ⟨by decide, by decide⟩, by decide, by decide⟩, br _ hV _ _ (good _ _ _ _ _ hV) bad⟩
  all_goals have c : ¬ (a.str = ByteArray.mk #[116, 114, 117, 101] ∨ a.str = ByteArray.mk #[102, 97, 108, 115, 101]) := by simpa using c
  · have hs : 2 ≤ a.str.size := by
      rw [Lib.hasPrefix] at c2
      have := (List.isPrefixOf_iff_prefix.1 c2).length_le
      rw [Array.length_toList] at this
      exact this
    have hV : cV a.str = .t [.i 4, .b false, .i 0, .s (ByteArray.mk #[]), .i (puV 18446744073709551615 ((bys a.str).drop 2) 0)] := by rw [cV, if_neg c, if_pos c2]
    obtain ⟨v0, v1⟩ := puV_in 18446744073709551615 (by decide) ((bys a.str).drop 2) 0 (by decide) (by decide)
    exact ⟨by decide, by omega, rfl, rfl, by rw [ByteArray.size_extract]; omega, ⟨by decide, by decide, ⟨by decide, by decide⟩, v0, by omega⟩, br _ hV _ _ (good _ _ _ _ _ hV) bad⟩
  all_goals have c2' : ¬ Lib.hasPrefix a.str.data.toList (ByteArray.mk #[48, 120]).data.toList = true := by rw [c2]; decide
  · have h := of_decide_eq_true h
    exact ⟨by decide, by omega⟩
  · have c3' : 2 ≤ (a.str.size : Int) ∧ byteAt' a.str 0 = 34 := by simpa using c3
    have hV : cV a.str = .t [.i 3, .b false, .i 0, .s (sL (uq (innS a.str).size (bys (innS a.str)))), .i 0] := by rw [cV, if_neg c, if_neg c2', if_pos c3']
    have hs := c3'.1
    exact ⟨⟨by omega, by omega⟩, by decide, by omega, by omega, by rw [innS, extract_size _ _ _ (by omega)]; omega, ⟨by decide, by decide, ⟨by decide, by decide⟩, by decide, by decide⟩, br _ hV _ _ (good _ _ _ _ _ hV) bad⟩
  · have c3' : ¬ (2 ≤ (a.str.size : Int) ∧ byteAt' a.str 0 = 34) := by
      rintro ⟨u1, u2⟩
      rw [decide_eq_true u1, decide_eq_true u2] at c3; cases c3
    have hV : cV a.str = .t [.i 2, .b false, .i (piV a.str), .s (ByteArray.mk #[]), .i 0] := by rw [cV, if_neg c, if_neg c2', if_neg c3']
    exact ⟨rfl, rfl, by omega, ⟨by decide, by decide, piV_in _, by decide, by decide⟩, br _ hV _ _ (good _ _ _ _ _ hV) bad⟩
def rrtC : Con := ⟨[.d true .s], fun ds => (fun (a : D) => [a.str.size ≤ 140737488355327]) (nthD ds 0), [.d valT, .d (.i .i64)], fun ds => (fun (a : D) => [rrtD a.str, .i (bif mayV (rcV a.str) then 0 else 30)]) (nthD ds 0), fun ds => []⟩
def rrtC_an : Anns := fun _ _ => none
theorem rrtC_vc (a : D) : (a.str.size ≤ 9223372036854775807 ∧ a.str.size ≤ 9223372036854775807 ∧ a.str.size ≤ 140737488355327 ∧ bif decide (a.str = ByteArray.mk #[116, 114, 117, 101]) || decide (a.str = ByteArray.mk #[102, 97, 108, 115, 101]) then EqI 1 (nthD (rrtD a.str).tup 0).int ∧ decide (a.str = ByteArray.mk #[116, 114, 117, 101]) = (nthD (tailD (rrtD a.str).tup) 0).bool ∧ EqI 0 (nthD (tailD (tailD (rrtD a.str).tup)) 0).int ∧ (ByteArray.mk #[]) = (nthD (tailD (tailD (tailD (rrtD a.str).tup))) 0).str ∧ EqI 0 (nthD (tailD (tailD (tailD (tailD (rrtD a.str).tup)))) 0).int ∧ EqI 0 (condI (mayV (rcV a.str)) 0 30) else bif inB a.str then EqI 2 (nthD (rrtD a.str).tup 0).int ∧ false = (nthD (tailD (rrtD a.str).tup) 0).bool ∧ inV a.str = (nthD (tailD (tailD (rrtD a.str).tup)) 0).int ∧ (ByteArray.mk #[]) = (nthD (tailD (tailD (tailD (rrtD a.str).tup))) 0).str ∧ EqI 0 (nthD (tailD (tailD (tailD (tailD (rrtD a.str).tup)))) 0).int ∧ EqI 0 (condI (mayV (rcV a.str)) 0 30) else bif decide (0 < ruV a.str) then bif !mayV (D.t [D.i 4, D.b false, D.i 0, D.s (ByteArray.mk #[]), D.i (ruV a.str)]) then EqI 0 (nthD (rrtD a.str).tup 0).int ∧ false = (nthD (tailD (rrtD a.str).tup) 0).bool ∧ EqI 0 (nthD (tailD (tailD (rrtD a.str).tup)) 0).int ∧ (ByteArray.mk #[]) = (nthD (tailD (tailD (tailD (rrtD a.str).tup))) 0).str ∧ EqI 0 (nthD (tailD (tailD (tailD (tailD (rrtD a.str).tup)))) 0).int ∧ EqI 30 (condI (mayV (rcV a.str)) 0 30) else EqI 4 (nthD (rrtD a.str).tup 0).int ∧ false = (nthD (tailD (rrtD a.str).tup) 0).bool ∧ EqI 0 (nthD (tailD (tailD (rrtD a.str).tup)) 0).int ∧ (ByteArray.mk #[]) = (nthD (tailD (tailD (tailD (rrtD a.str).tup))) 0).str ∧ ruV a.str = (nthD (tailD (tailD (tailD (tailD (rrtD a.str).tup)))) 0).int ∧ EqI 0 (condI (mayV (rcV a.str)) 0 30) else bif rqK a.str then bif !mayV (D.t [D.i 3, D.b false, D.i 0, D.s (rqS a.str), D.i 0]) then EqI 0 (nthD (rrtD a.str).tup 0).int ∧ false = (nthD (tailD (rrtD a.str).tup) 0).bool ∧ EqI 0 (nthD (tailD (tailD (rrtD a.str).tup)) 0).int ∧ (ByteArray.mk #[]) = (nthD (tailD (tailD (tailD (rrtD a.str).tup))) 0).str ∧ EqI 0 (nthD (tailD (tailD (tailD (tailD (rrtD a.str).tup)))) 0).int ∧ EqI 30 (condI (mayV (rcV a.str)) 0 30) else EqI 3 (nthD (rrtD a.str).tup 0).int ∧ false = (nthD (tailD (rrtD a.str).tup) 0).bool ∧ EqI 0 (nthD (tailD (tailD (rrtD a.str).tup)) 0).int ∧ rqS a.str = (nthD (tailD (tailD (tailD (rrtD a.str).tup))) 0).str ∧ EqI 0 (nthD (tailD (tailD (tailD (tailD (rrtD a.str).tup)))) 0).int ∧ EqI 0 (condI (mayV (rcV a.str)) 0 30) else EqI 0 (nthD (rrtD a.str).tup 0).int ∧ false = (nthD (tailD (rrtD a.str).tup) 0).bool ∧ EqI 0 (nthD (tailD (tailD (rrtD a.str).tup)) 0).int ∧ (ByteArray.mk #[]) = (nthD (tailD (tailD (tailD (rrtD a.str).tup))) 0).str ∧ EqI 0 (nthD (tailD (tailD (tailD (tailD (rrtD a.str).tup)))) 0).int ∧ EqI 30 (condI (mayV (rcV a.str)) 0 30)) = conGoal Tryz.prog (addS 37 rmayVC (addS 48 runqC (addS 25 ruidC (addS 47 intgC noS)))) rrtC_an 200 24 rrtC [a] := by kernel_rfl
theorem rrtC_ok : ConOK Tryz.prog gl 24 rrtC := con_of mo (addS_ok rmayVC_ok (addS_ok runqC_ok (addS_ok ruidC_ok (addS_ok intgC_ok (noS_ok _))))) (an := rrtC_an) 200 fun ds hl hp => by
  obtain ⟨a, rfl⟩ := len1 hl
  rw [← rrtC_vc]
  have p0 : a.str.size ≤ 140737488355327 := hp _ (.head _)
  have bad : mayV (rcV a.str) = false → (EqI 0 (nthD (rrtD a.str).tup 0).int ∧ false = (nthD (tailD (rrtD a.str).tup) 0).bool ∧ EqI 0 (nthD (tailD (tailD (rrtD a.str).tup)) 0).int ∧ (ByteArray.mk #[]) = (nthD (tailD (tailD (tailD (rrtD a.str).tup))) 0).str ∧ EqI 0 (nthD (tailD (tailD (tailD (tailD (rrtD a.str).tup)))) 0).int ∧ EqI 30 (condI (mayV (rcV a.str)) 0 30)) := fun h => by
    have hD : rrtD a.str = zV := if_neg (by rw [h]; decide)
    rw [hD, h]; exact ⟨rfl, rfl, rfl, rfl, rfl, rfl⟩
  have good : ∀ (k : Int) (b : Bool) (i : Int) (s : ByteArray) (u : Int), rcV a.str = .t [.i k, .b b, .i i, .s s, .i u] → mayV (.t [.i k, .b b, .i i, .s s, .i u]) = true → (EqI k (nthD (rrtD a.str).tup 0).int ∧ b = (nthD (tailD (rrtD a.str).tup) 0).bool ∧ EqI i (nthD (tailD (tailD (rrtD a.str).tup)) 0).int ∧ s = (nthD (tailD (tailD (tailD (rrtD a.str).tup))) 0).str ∧ EqI u (nthD (tailD (tailD (tailD (tailD (rrtD a.str).tup)))) 0).int ∧ EqI 0 (condI (mayV (rcV a.str)) 0 30)) := fun k b i s u hV h => by
    have hD : rrtD a.str = .t [.i k, .b b, .i i, .s s, .i u] := by rw [rrtD, hV, if_pos h]
    rw [hD, hV, h]; exact ⟨rfl, rfl, rfl, rfl, rfl, rfl⟩
  refine ⟨by omega, by omega, p0, cond_of (fun c => ?_) (fun c => ?_)⟩
  · have c : a.str = ByteArray.mk #[116, 114, 117, 101] ∨ a.str = ByteArray.mk #[102, 97, 108, 115, 101] := by simpa using c
    exact good _ _ _ _ _ (if_pos c) rfl
  have c : ¬ (a.str = ByteArray.mk #[116, 114, 117, 101] ∨ a.str = ByteArray.mk #[102, 97, 108, 115, 101]) := by simpa using c
  refine cond_of (fun c2 => ?_) (fun c2 => ?_)
  · exact good _ _ _ _ _ (by rw [rcV, if_neg c, if_pos c2]) rfl
  have c2' : ¬ inB a.str = true := by rw [c2]; decide
  refine cond_of (fun c3 => ?_) (fun c3 => ?_)
  · have hV : rcV a.str = .t [.i 4, .b false, .i 0, .s (ByteArray.mk #[]), .i (ruV a.str)] := by rw [rcV, if_neg c, if_neg c2', if_pos (of_decide_eq_true c3)]
    refine cond_of (fun h => ?_) (fun h => ?_)
    · exact bad (by rw [hV]; simpa using h)
    · exact good _ _ _ _ _ hV (by simpa using h)
  have c3' := of_decide_eq_false c3
  refine cond_of (fun c4 => ?_) (fun c4 => ?_)
  · have hV : rcV a.str = .t [.i 3, .b false, .i 0, .s (rqS a.str), .i 0] := by rw [rcV, if_neg c, if_neg c2', if_neg c3', if_pos c4]
    refine cond_of (fun h => ?_) (fun h => ?_)
    · exact bad (by rw [hV]; simpa using h)
    · exact good _ _ _ _ _ hV (by simpa using h)
  · have c4' : ¬ rqK a.str = true := by rw [c4]; decide
    have hV : rcV a.str = zV := by rw [rcV, if_neg c, if_neg c2', if_neg c3', if_neg c4']
    exact bad (by rw [hV]; rfl)
end Go.Proofs.YtbbjonjhaoeidaaGreatDoor.XT
