/- Contracts, by the symbolic evaluator. -/
import Derived.Test.YtbbjonjhaoeidaaGreatDoorQT13
import Derived.Test.YtbbjonjhaoeidaaGreatDoorProg
set_option linter.unusedVariables false
set_option linter.unusedSimpArgs false
namespace Go.Proofs.YtbbjonjhaoeidaaGreatDoor.XT
open Go Go.RowKit Go.Proofs.YtbbjonjhaoeidaaGreatDoor.Sv
set_option maxRecDepth 100000
/-- unquoting by the document: is it well formed; what it is -/
def rqB : Nat → List Int → Bool
  | 0, _ => true
  | f + 1, L => if L.length = 0 then true else if L.getD 0 0 ≠ 92 then rqB f (L.drop 1) else if 1 < L.length ∧ (L.getD 1 0 = 92 ∨ L.getD 1 0 = 34) then rqB f (L.drop 2) else if 1 < L.length ∧ L.getD 1 0 = 110 then rqB f (L.drop 2) else if 3 < L.length ∧ L.getD 1 0 = 120 ∧ 0 ≤ digR (L.getD 2 0) ∧ 0 ≤ digR (L.getD 3 0) then rqB f (L.drop 4) else false
def rqV : Nat → List Int → List Int
  | 0, _ => []
  | f + 1, L => if L.length = 0 then [] else if L.getD 0 0 ≠ 92 then L.getD 0 0 :: rqV f (L.drop 1) else if 1 < L.length ∧ (L.getD 1 0 = 92 ∨ L.getD 1 0 = 34) then L.getD 1 0 :: rqV f (L.drop 2) else if 1 < L.length ∧ L.getD 1 0 = 110 then 10 :: rqV f (L.drop 2) else if 3 < L.length ∧ L.getD 1 0 = 120 ∧ 0 ≤ digR (L.getD 2 0) ∧ 0 ≤ digR (L.getD 3 0) then (16 * digR (L.getD 2 0) + digR (L.getD 3 0)) :: rqV f (L.drop 4) else []
def innS (s : ByteArray) : ByteArray := s.extract 1 (s.size - 1)
def rqH (s : ByteArray) : Bool := !(decide ((s.size : Int) < 2) || !(decide (byteAt' s 0 = 34)) || !(decide (byteAt' s (s.size - 1) = 34)))
def rqO (s : ByteArray) : Bool := rqH s && rqB s.size (bys (innS s))
def rqS (s : ByteArray) : ByteArray := if rqO s = true then sL (rqV s.size (bys (innS s))) else (ByteArray.mk #[])
def rqK (s : ByteArray) : Bool := rqO s && decide (sL (quoL (bys (rqS s))) = s)
theorem getD_drop {s : ByteArray} {k j : Nat} (h : k + j < s.size) : ((bys s).drop k).getD j 0 = byteAt' s (k + j) := by
  have hl : k + j < (bys s).length := by rw [bys_length]; exact h
  rw [List.getD_eq_getElem?_getD, List.getElem?_drop, List.getElem?_eq_getElem hl]
  have h' : k + j < s.data.size := h
  simp [bys, byteAt', Array.getD, h']
  rw [dif_pos h]
def runqC : Con := ⟨[.d true .s], fun ds => (fun (a : D) => [a.str.size ≤ 140737488355327]) (nthD ds 0), [.d .s, .d .b], fun ds => (fun (a : D) => [.s (rqS a.str), .b (rqK a.str)]) (nthD ds 0), fun ds => []⟩
def runqC_an : Anns := fun f i => match f, i with
  | 48, 1000005 => some fun A st => match A.get 0 with
    | some (.v (.string s)) => ⟨Unit, fun _ => [(5, .v (.string (innS s)))], fun _ => [], fun _ => True, fun _ => 0⟩
    | _ => LAnn.bad
  | 48, 2000006 => some fun A st => ⟨Unit, fun _ => [], fun _ => [(4, .q 5 (.i .u8) [])], fun _ => True, fun _ => 0⟩
  | 48, 6 => some fun A st => match A.get 5, A.get 0 with
    | some (.v (.string s)), some (.v (.string z)) => ⟨Nat × Nat × List Int, fun g => [(6, .v (.int .i64 g.1)), (4, .ow st.nx g.2.2.length)], fun g => [(st.nx, .q 5 (.i .u8) (dI g.2.2))], fun g => g.1 ≤ s.size ∧ g.2.2.length ≤ g.1 ∧ s.size - g.1 ≤ g.2.1 ∧ rqB z.size (bys s) = rqB g.2.1 ((bys s).drop g.1) ∧ rqV z.size (bys s) = g.2.2 ++ rqV g.2.1 ((bys s).drop g.1), fun g => s.size - g.1⟩
    | _, _ => LAnn.bad
  | _, _ => none
theorem runqC_vc (a : D) : ((decide ((↑a.str.size : Int) < 2) = false → Idx 0 a.str.size) ∧ ((decide ((↑a.str.size : Int) < 2) || !decide (byteAt' a.str (Int.toNat 0) = 34)) = false → I64 ((↑a.str.size : Int) - 1) ∧ Idx ((↑a.str.size : Int) - 1) a.str.size) ∧ bif decide ((↑a.str.size : Int) < 2) || !decide (byteAt' a.str (Int.toNat 0) = 34) || !decide (byteAt' a.str ((↑a.str.size : Int) - 1).toNat = 34) then (ByteArray.mk #[]) = rqS a.str ∧ false = rqK a.str else (I64 ((↑a.str.size : Int) - 1) ∧ LeI 0 1 ∧ 1 ≤ (↑a.str.size : Int) - 1 ∧ (↑a.str.size : Int) - 1 ≤ (↑a.str.size : Int) ∧ ∃ (g : Unit), a.str.extract (Int.toNat 1) ((↑a.str.size : Int) - 1).toNat = innS a.str ∧ True) ∧ ∀ (g : Unit), True → ∃ (g : Unit), ∃ (g : Nat × Nat × List Int), EqI 0 (↑g.fst : Int) ∧ 0 = g.snd.snd.length ∧ [] = dI g.snd.snd ∧ (g.fst ≤ (innS a.str).size ∧ g.snd.snd.length ≤ g.fst ∧ (innS a.str).size - g.fst ≤ g.snd.fst ∧ rqB a.str.size (bys (innS a.str)) = rqB g.snd.fst (List.drop g.fst (bys (innS a.str))) ∧ rqV a.str.size (bys (innS a.str)) = g.snd.snd ++ rqV g.snd.fst (List.drop g.fst (bys (innS a.str)))) ∧ ∀ (g : Nat × Nat × List Int), g.fst ≤ (innS a.str).size ∧ g.snd.snd.length ≤ g.fst ∧ (innS a.str).size - g.fst ≤ g.snd.fst ∧ rqB a.str.size (bys (innS a.str)) = rqB g.snd.fst (List.drop g.fst (bys (innS a.str))) ∧ rqV a.str.size (bys (innS a.str)) = g.snd.snd ++ rqV g.snd.fst (List.drop g.fst (bys (innS a.str))) → bif decide ((↑g.fst : Int) < (↑(innS a.str).size : Int)) then Idx (↑g.fst : Int) (innS a.str).size ∧ bif !decide (byteAt' (innS a.str) g.fst = 92) then Idx (↑g.fst : Int) (innS a.str).size ∧ (g.snd.snd.length + [D.i (byteAt' (innS a.str) g.fst)].length) * 1 ≤ 140737488355328 ∧ g.snd.snd.length + [D.i (byteAt' (innS a.str) g.fst)].length ≤ 9223372036854775807 ∧ I64 ((↑g.fst : Int) + 1) ∧ ∃ (g_1 : Nat × Nat × List Int), (↑g.fst : Int) + 1 = (↑g_1.fst : Int) ∧ g.snd.snd.length + [D.i (byteAt' (innS a.str) g.fst)].length = g_1.snd.snd.length ∧ List.take g.snd.snd.length (dI g.snd.snd) ++ [D.i (byteAt' (innS a.str) g.fst)] = dI g_1.snd.snd ∧ (g_1.fst ≤ (innS a.str).size ∧ g_1.snd.snd.length ≤ g_1.fst ∧ (innS a.str).size - g_1.fst ≤ g_1.snd.fst ∧ rqB a.str.size (bys (innS a.str)) = rqB g_1.snd.fst (List.drop g_1.fst (bys (innS a.str))) ∧ rqV a.str.size (bys (innS a.str)) = g_1.snd.snd ++ rqV g_1.snd.fst (List.drop g_1.fst (bys (innS a.str)))) ∧ (innS a.str).size - g_1.fst < (innS a.str).size - g.fst else I64 ((↑g.fst : Int) + 1) ∧ (decide ((↑g.fst : Int) + 1 < (↑(innS a.str).size : Int)) = true → Idx ((↑g.fst : Int) + 1) (innS a.str).size ∧ (decide (byteAt' (innS a.str) ((↑g.fst : Int) + 1).toNat = 92) = false → Idx ((↑g.fst : Int) + 1) (innS a.str).size)) ∧ bif decide ((↑g.fst : Int) + 1 < (↑(innS a.str).size : Int)) && (decide (byteAt' (innS a.str) ((↑g.fst : Int) + 1).toNat = 92) || decide (byteAt' (innS a.str) ((↑g.fst : Int) + 1).toNat = 34)) then Idx ((↑g.fst : Int) + 1) (innS a.str).size ∧ (g.snd.snd.length + [D.i (byteAt' (innS a.str) ((↑g.fst : Int) + 1).toNat)].length) * 1 ≤ 140737488355328 ∧ g.snd.snd.length + [D.i (byteAt' (innS a.str) ((↑g.fst : Int) + 1).toNat)].length ≤ 9223372036854775807 ∧ I64 ((↑g.fst : Int) + 1 + 1) ∧ ∃ (g_1 : Nat × Nat × List Int), (↑g.fst : Int) + 1 + 1 = (↑g_1.fst : Int) ∧ g.snd.snd.length + [D.i (byteAt' (innS a.str) ((↑g.fst : Int) + 1).toNat)].length = g_1.snd.snd.length ∧ List.take g.snd.snd.length (dI g.snd.snd) ++ [D.i (byteAt' (innS a.str) ((↑g.fst : Int) + 1).toNat)] = dI g_1.snd.snd ∧ (g_1.fst ≤ (innS a.str).size ∧ g_1.snd.snd.length ≤ g_1.fst ∧ (innS a.str).size - g_1.fst ≤ g_1.snd.fst ∧ rqB a.str.size (bys (innS a.str)) = rqB g_1.snd.fst (List.drop g_1.fst (bys (innS a.str))) ∧ rqV a.str.size (bys (innS a.str)) = g_1.snd.snd ++ rqV g_1.snd.fst (List.drop g_1.fst (bys (innS a.str)))) ∧ (innS a.str).size - g_1.fst < (innS a.str).size - g.fst else (decide ((↑g.fst : Int) + 1 < (↑(innS a.str).size : Int)) = true → Idx ((↑g.fst : Int) + 1) (innS a.str).size) ∧ bif decide ((↑g.fst : Int) + 1 < (↑(innS a.str).size : Int)) && decide (byteAt' (innS a.str) ((↑g.fst : Int) + 1).toNat = 110) then (g.snd.snd.length + [D.i 10].length) * 1 ≤ 140737488355328 ∧ g.snd.snd.length + [D.i 10].length ≤ 9223372036854775807 ∧ I64 ((↑g.fst : Int) + 1 + 1) ∧ ∃ (g_1 : Nat × Nat × List Int), (↑g.fst : Int) + 1 + 1 = (↑g_1.fst : Int) ∧ g.snd.snd.length + [D.i 10].length = g_1.snd.snd.length ∧ List.take g.snd.snd.length (dI g.snd.snd) ++ [D.i 10] = dI g_1.snd.snd ∧ (g_1.fst ≤ (innS a.str).size ∧ g_1.snd.snd.length ≤ g_1.fst ∧ (innS a.str).size - g_1.fst ≤ g_1.snd.fst ∧ rqB a.str.size (bys (innS a.str)) = rqB g_1.snd.fst (List.drop g_1.fst (bys (innS a.str))) ∧ rqV a.str.size (bys (innS a.str)) = g_1.snd.snd ++ rqV g_1.snd.fst (List.drop g_1.fst (bys (innS a.str)))) ∧ (innS a.str).size - g_1.fst < (innS a.str).size - g.fst else I64 ((↑g.fst : Int) + 1 + 2) ∧ (decide ((↑g.fst : Int) + 1 + 2 < (↑(innS a.str).size : Int)) = true → Idx ((↑g.fst : Int) + 1) (innS a.str).size) ∧ ((decide ((↑g.fst : Int) + 1 + 2 < (↑(innS a.str).size : Int)) && decide (byteAt' (innS a.str) ((↑g.fst : Int) + 1).toNat = 120)) = true → I64 ((↑g.fst : Int) + 1 + 1) ∧ Idx ((↑g.fst : Int) + 1 + 1) (innS a.str).size ∧ 0 ≤ byteAt' (innS a.str) ((↑g.fst : Int) + 1 + 1).toNat ∧ byteAt' (innS a.str) ((↑g.fst : Int) + 1 + 1).toNat < 256) ∧ ((decide ((↑g.fst : Int) + 1 + 2 < (↑(innS a.str).size : Int)) && decide (byteAt' (innS a.str) ((↑g.fst : Int) + 1).toNat = 120) && decide (0 ≤ digR (byteAt' (innS a.str) ((↑g.fst : Int) + 1 + 1).toNat))) = true → I64 ((↑g.fst : Int) + 1 + 2) ∧ Idx ((↑g.fst : Int) + 1 + 2) (innS a.str).size ∧ 0 ≤ byteAt' (innS a.str) ((↑g.fst : Int) + 1 + 2).toNat ∧ byteAt' (innS a.str) ((↑g.fst : Int) + 1 + 2).toNat < 256) ∧ bif decide ((↑g.fst : Int) + 1 + 2 < (↑(innS a.str).size : Int)) && decide (byteAt' (innS a.str) ((↑g.fst : Int) + 1).toNat = 120) && decide (0 ≤ digR (byteAt' (innS a.str) ((↑g.fst : Int) + 1 + 1).toNat)) && decide (0 ≤ digR (byteAt' (innS a.str) ((↑g.fst : Int) + 1 + 2).toNat)) then I64 ((↑g.fst : Int) + 1 + 1) ∧ Idx ((↑g.fst : Int) + 1 + 1) (innS a.str).size ∧ 0 ≤ byteAt' (innS a.str) ((↑g.fst : Int) + 1 + 1).toNat ∧ byteAt' (innS a.str) ((↑g.fst : Int) + 1 + 1).toNat < 256 ∧ 0 ≤ byteAt' (innS a.str) ((↑g.fst : Int) + 1 + 1).toNat ∧ byteAt' (innS a.str) ((↑g.fst : Int) + 1 + 1).toNat < 256 ∧ digR (byteAt' (innS a.str) ((↑g.fst : Int) + 1 + 1).toNat) = digR (byteAt' (innS a.str) ((↑g.fst : Int) + 1 + 1).toNat) ∧ 0 ≤ byteAt' (innS a.str) ((↑g.fst : Int) + 1 + 1).toNat ∧ byteAt' (innS a.str) ((↑g.fst : Int) + 1 + 1).toNat < 256 ∧ digR (byteAt' (innS a.str) ((↑g.fst : Int) + 1 + 1).toNat) = digR (byteAt' (innS a.str) ((↑g.fst : Int) + 1 + 1).toNat) ∧ I64 (16 * digR (byteAt' (innS a.str) ((↑g.fst : Int) + 1 + 1).toNat)) ∧ I64 ((↑g.fst : Int) + 1 + 2) ∧ Idx ((↑g.fst : Int) + 1 + 2) (innS a.str).size ∧ 0 ≤ byteAt' (innS a.str) ((↑g.fst : Int) + 1 + 2).toNat ∧ byteAt' (innS a.str) ((↑g.fst : Int) + 1 + 2).toNat < 256 ∧ 0 ≤ byteAt' (innS a.str) ((↑g.fst : Int) + 1 + 2).toNat ∧ byteAt' (innS a.str) ((↑g.fst : Int) + 1 + 2).toNat < 256 ∧ digR (byteAt' (innS a.str) ((↑g.fst : Int) + 1 + 2).toNat) = digR (byteAt' (innS a.str) ((↑g.fst : Int) + 1 + 2).toNat) ∧ I64 (16 * digR (byteAt' (innS a.str) ((↑g.fst : Int) + 1 + 1).toNat) + digR (byteAt' (innS a.str) ((↑g.fst : Int) + 1 + 2).toNat)) ∧ (g.snd.snd.length + [D.i (IntKind.u8.wrap (16 * digR (byteAt' (innS a.str) ((↑g.fst : Int) + 1 + 1).toNat) + digR (byteAt' (innS a.str) ((↑g.fst : Int) + 1 + 2).toNat)))].length) * 1 ≤ 140737488355328 ∧ g.snd.snd.length + [D.i (IntKind.u8.wrap (16 * digR (byteAt' (innS a.str) ((↑g.fst : Int) + 1 + 1).toNat) + digR (byteAt' (innS a.str) ((↑g.fst : Int) + 1 + 2).toNat)))].length ≤ 9223372036854775807 ∧ I64 ((↑g.fst : Int) + 1 + 2) ∧ I64 ((↑g.fst : Int) + 1 + 2 + 1) ∧ ∃ (g_1 : Nat × Nat × List Int), (↑g.fst : Int) + 1 + 2 + 1 = (↑g_1.fst : Int) ∧ g.snd.snd.length + [D.i (IntKind.u8.wrap (16 * digR (byteAt' (innS a.str) ((↑g.fst : Int) + 1 + 1).toNat) + digR (byteAt' (innS a.str) ((↑g.fst : Int) + 1 + 2).toNat)))].length = g_1.snd.snd.length ∧ List.take g.snd.snd.length (dI g.snd.snd) ++ [D.i (IntKind.u8.wrap (16 * digR (byteAt' (innS a.str) ((↑g.fst : Int) + 1 + 1).toNat) + digR (byteAt' (innS a.str) ((↑g.fst : Int) + 1 + 2).toNat)))] = dI g_1.snd.snd ∧ (g_1.fst ≤ (innS a.str).size ∧ g_1.snd.snd.length ≤ g_1.fst ∧ (innS a.str).size - g_1.fst ≤ g_1.snd.fst ∧ rqB a.str.size (bys (innS a.str)) = rqB g_1.snd.fst (List.drop g_1.fst (bys (innS a.str))) ∧ rqV a.str.size (bys (innS a.str)) = g_1.snd.snd ++ rqV g_1.snd.fst (List.drop g_1.fst (bys (innS a.str)))) ∧ (innS a.str).size - g_1.fst < (innS a.str).size - g.fst else (ByteArray.mk #[]) = rqS a.str ∧ false = rqK a.str else (strOfD (List.take g.snd.snd.length (dI g.snd.snd))).size ≤ 1152921504606846976 ∧ strOfD (List.take g.snd.snd.length (dI g.snd.snd)) = rqS a.str ∧ decide (sL (quoL (bys (strOfD (List.take g.snd.snd.length (dI g.snd.snd))))) = a.str) = rqK a.str) = conGoal Tryz.prog (addS 72 rquoC (addS 49 digC noS)) runqC_an 200 48 runqC [a] := by kernel_rfl
set_option maxHeartbeats 4000000 in
theorem runqC_ok : ConOK Tryz.prog gl 48 runqC := con_of mo (addS_ok rquoC_ok (addS_ok digC_ok (noS_ok _))) (an := runqC_an) 200 fun ds hl hp => by
  obtain ⟨a, rfl⟩ := len1 hl
  rw [← runqC_vc]
  have p0 : a.str.size ≤ 140737488355327 := hp _ (.head _)
  have z0 : Int.toNat 0 = 0 := rfl
  have z1 : Int.toNat 1 = 1 := rfl
  rw [z0, z1]
  have e1 : ((a.str.size : Int) - 1).toNat = a.str.size - 1 := by omega
  rw [e1]
  have hH : (decide ((a.str.size : Int) < 2) || !decide (byteAt' a.str 0 = 34) || !decide (byteAt' a.str (a.str.size - 1) = 34)) = !rqH a.str := by rw [rqH, Bool.not_not]
  rw [hH]
  have fail : rqO a.str = false → (ByteArray.mk #[]) = rqS a.str ∧ false = rqK a.str := fun h => ⟨by rw [rqS, if_neg (by rw [h]; decide)], by rw [rqK, h]; rfl⟩
  refine ⟨fun h => ⟨by decide, by have := of_decide_eq_false h; omega⟩, fun h => ?_, cond_of (fun c => ?_) (fun c => ?_)⟩
  · simp only [Bool.or_eq_false_iff, decide_eq_false_iff_not] at h
    have h1 := h.1
    exact ⟨⟨by omega, by omega⟩, ⟨by omega, by omega⟩⟩
  · have c : rqH a.str = false := by simpa using c
    exact fail (by rw [rqO, c]; rfl)
  have c : rqH a.str = true := by simpa using c
  have c2 : 2 ≤ a.str.size := by
    simp only [rqH, Bool.not_eq_true', Bool.or_eq_false_iff, decide_eq_false_iff_not] at c
    have := c.1.1
    omega
  refine ⟨⟨⟨by omega, by omega⟩, by decide, by omega, by omega, (), rfl, trivial⟩, fun _ _ => ?_⟩
  have hsz : (innS a.str).size = a.str.size - 2 := by rw [innS, extract_size _ _ _ (by omega)]; omega
  refine ⟨(), (0, a.str.size, []), rfl, rfl, rfl, ⟨Nat.zero_le _, Nat.le_refl _, by show (innS a.str).size - 0 ≤ a.str.size; omega, rfl, rfl⟩, ?_⟩
  rintro ⟨k, f, l⟩ ⟨h1, h2, h3, h4, h5⟩
  dsimp only at h1 h2 h3 h4 h5 ⊢
  have hl : (dI l).length = l.length := dI_length l
  rw [take_all hl]
  refine cond_of (fun d => ?_) (fun d => ?_)
  · have d := of_decide_eq_true d
    have hk : k < (innS a.str).size := by omega
    obtain ⟨m, rfl⟩ : ∃ m, f = m + 1 := ⟨f - 1, by omega⟩
    have n1 : ((k : Int) + 1).toNat = k + 1 := by omega
    have n2 : ((k : Int) + 1 + 1).toNat = k + 2 := by omega
    have n3 : ((k : Int) + 1 + 2).toNat = k + 3 := by omega
    rw [n1, n2, n3]
    have hL : ((bys (innS a.str)).drop k).length = (innS a.str).size - k := by rw [List.length_drop, bys_length]
    have g0 : ((bys (innS a.str)).drop k).getD 0 0 = byteAt' (innS a.str) k := getD_drop (j := 0) hk
    have hne : ¬ ((bys (innS a.str)).drop k).length = 0 := by omega
    have next : ∀ (j : Nat) (v x : Int), x = (k : Int) + j → 1 ≤ j → k + j ≤ (innS a.str).size → rqB (m + 1) ((bys (innS a.str)).drop k) = rqB m (((bys (innS a.str)).drop k).drop j) → rqV (m + 1) ((bys (innS a.str)).drop k) = v :: rqV m (((bys (innS a.str)).drop k).drop j) →
        ∃ g_1 : Nat × Nat × List Int, x = (g_1.fst : Int) ∧ l.length + [D.i v].length = g_1.snd.snd.length ∧ dI l ++ [D.i v] = dI g_1.snd.snd ∧ (g_1.fst ≤ (innS a.str).size ∧ g_1.snd.snd.length ≤ g_1.fst ∧ (innS a.str).size - g_1.fst ≤ g_1.snd.fst ∧ rqB a.str.size (bys (innS a.str)) = rqB g_1.snd.fst (List.drop g_1.fst (bys (innS a.str))) ∧ rqV a.str.size (bys (innS a.str)) = g_1.snd.snd ++ rqV g_1.snd.fst (List.drop g_1.fst (bys (innS a.str)))) ∧ (innS a.str).size - g_1.fst < (innS a.str).size - k := by
      intro j v x hx hj hkj hB hV
      rw [List.drop_drop] at hB hV
      exact ⟨(k + j, m, l ++ [v]), by rw [hx]; simp, by simp, by rw [← dI_append]; rfl, ⟨hkj, by simp; omega, by show (innS a.str).size - (k + j) ≤ m; omega, by rw [h4, hB], by rw [h5, hV, List.append_assoc]; rfl⟩, by show (innS a.str).size - (k + j) < _; omega⟩
    refine ⟨⟨by omega, by omega⟩, cond_of (fun e => ?_) (fun e => ?_)⟩
    · have e : ¬ byteAt' (innS a.str) k = 92 := by simpa using e
      have e' : ((bys (innS a.str)).drop k).getD 0 0 ≠ 92 := by rw [g0]; exact e
      exact ⟨⟨by omega, by omega⟩, by simp; omega, by simp; omega, ⟨by omega, by omega⟩, next 1 _ _ rfl (Nat.le_refl _) (by omega) (by rw [rqB, if_neg hne, if_pos e']) (by rw [rqV, if_neg hne, if_pos e', g0])⟩
    have e : byteAt' (innS a.str) k = 92 := by simpa using e
    have e' : ¬ ((bys (innS a.str)).drop k).getD 0 0 ≠ 92 := fun h => h (by rw [g0]; exact e)
    refine ⟨⟨by omega, by omega⟩, fun h => ?_, cond_of (fun e2 => ?_) (fun e2 => ?_)⟩
    · have h := of_decide_eq_true h
      exact ⟨⟨by omega, by omega⟩, fun _ => ⟨by omega, by omega⟩⟩
    · simp only [Bool.and_eq_true, Bool.or_eq_true, decide_eq_true_eq] at e2
      have g1 : ((bys (innS a.str)).drop k).getD 1 0 = byteAt' (innS a.str) (k + 1) := getD_drop (by omega)
      have e2' : 1 < ((bys (innS a.str)).drop k).length ∧ (((bys (innS a.str)).drop k).getD 1 0 = 92 ∨ ((bys (innS a.str)).drop k).getD 1 0 = 34) := ⟨by omega, by rw [g1]; exact e2.2⟩
      exact ⟨⟨by omega, by omega⟩, by simp; omega, by simp; omega, ⟨by omega, by omega⟩, next 2 _ _ (by omega) (by decide) (by omega) (by rw [rqB, if_neg hne, if_neg e', if_pos e2']) (by rw [rqV, if_neg hne, if_neg e', if_pos e2', g1])⟩
    have e2' : ¬ (1 < ((bys (innS a.str)).drop k).length ∧ (((bys (innS a.str)).drop k).getD 1 0 = 92 ∨ ((bys (innS a.str)).drop k).getD 1 0 = 34)) := by
      rintro ⟨h, h'⟩
      rw [getD_drop (by omega)] at h'
      have : (decide ((k : Int) + 1 < ((innS a.str).size : Int)) && (decide (byteAt' (innS a.str) (k + 1) = 92) || decide (byteAt' (innS a.str) (k + 1) = 34))) = true := by
        simp only [Bool.and_eq_true, Bool.or_eq_true, decide_eq_true_eq]
        exact ⟨by omega, h'⟩
      rw [this] at e2; cases e2
    refine ⟨fun h => ?_, cond_of (fun e3 => ?_) (fun e3 => ?_)⟩
    · have h := of_decide_eq_true h
      exact ⟨by omega, by omega⟩
    · simp only [Bool.and_eq_true, decide_eq_true_eq] at e3
      have g1 : ((bys (innS a.str)).drop k).getD 1 0 = byteAt' (innS a.str) (k + 1) := getD_drop (by omega)
      have e3' : 1 < ((bys (innS a.str)).drop k).length ∧ ((bys (innS a.str)).drop k).getD 1 0 = 110 := ⟨by omega, by rw [g1]; exact e3.2⟩
      exact ⟨by simp; omega, by simp; omega, ⟨by omega, by omega⟩, next 2 _ _ (by omega) (by decide) (by omega) (by rw [rqB, if_neg hne, if_neg e', if_neg e2', if_pos e3']) (by rw [rqV, if_neg hne, if_neg e', if_neg e2', if_pos e3'])⟩
    have e3' : ¬ (1 < ((bys (innS a.str)).drop k).length ∧ ((bys (innS a.str)).drop k).getD 1 0 = 110) := by
      rintro ⟨h, h'⟩
      rw [getD_drop (by omega)] at h'
      have : (decide ((k : Int) + 1 < ((innS a.str).size : Int)) && decide (byteAt' (innS a.str) (k + 1) = 110)) = true := by
        simp only [Bool.and_eq_true, decide_eq_true_eq]
        exact ⟨by omega, h'⟩
      rw [this] at e3; cases e3
    obtain ⟨b20, b21⟩ := byte_in (innS a.str) (k + 2)
    obtain ⟨b30, b31⟩ := byte_in (innS a.str) (k + 3)
    refine ⟨⟨by omega, by omega⟩, fun h => ?_, fun h => ?_, fun h => ?_, cond_of (fun e4 => ?_) (fun e4 => ?_)⟩
    · have h := of_decide_eq_true h
      exact ⟨by omega, by omega⟩
    · simp only [Bool.and_eq_true, decide_eq_true_eq] at h
      have h1 := h.1
      exact ⟨⟨by omega, by omega⟩, ⟨by omega, by omega⟩, b20, b21⟩
    · simp only [Bool.and_eq_true, decide_eq_true_eq] at h
      have h1 := h.1.1
      exact ⟨⟨by omega, by omega⟩, ⟨by omega, by omega⟩, b30, b31⟩
    · simp only [Bool.and_eq_true, decide_eq_true_eq] at e4
      obtain ⟨⟨⟨q1, q2⟩, q3⟩, q4⟩ := e4
      have g1 : ((bys (innS a.str)).drop k).getD 1 0 = byteAt' (innS a.str) (k + 1) := getD_drop (by omega)
      have g2 : ((bys (innS a.str)).drop k).getD 2 0 = byteAt' (innS a.str) (k + 2) := getD_drop (by omega)
      have g3 : ((bys (innS a.str)).drop k).getD 3 0 = byteAt' (innS a.str) (k + 3) := getD_drop (by omega)
      have e4' : 3 < ((bys (innS a.str)).drop k).length ∧ ((bys (innS a.str)).drop k).getD 1 0 = 120 ∧ 0 ≤ digR (((bys (innS a.str)).drop k).getD 2 0) ∧ 0 ≤ digR (((bys (innS a.str)).drop k).getD 3 0) := ⟨by omega, by rw [g1]; exact q2, by rw [g2]; exact q3, by rw [g3]; exact q4⟩
      have r2 := digR_le (byteAt' (innS a.str) (k + 2))
      have r3 := digR_le (byteAt' (innS a.str) (k + 3))
      have w : IntKind.u8.wrap (16 * digR (byteAt' (innS a.str) (k + 2)) + digR (byteAt' (innS a.str) (k + 3))) = 16 * digR (byteAt' (innS a.str) (k + 2)) + digR (byteAt' (innS a.str) (k + 3)) := by rw [wrap8]; omega
      rw [w]
      exact ⟨⟨by omega, by omega⟩, ⟨by omega, by omega⟩, b20, b21, b20, b21, rfl, b20, b21, rfl, ⟨by omega, by omega⟩, ⟨by omega, by omega⟩, ⟨by omega, by omega⟩, b30, b31, b30, b31, rfl, ⟨by omega, by omega⟩, by simp; omega, by simp; omega, ⟨by omega, by omega⟩, ⟨by omega, by omega⟩, next 4 _ _ (by omega) (by decide) (by omega) (by rw [rqB, if_neg hne, if_neg e', if_neg e2', if_neg e3', if_pos e4']) (by rw [rqV, if_neg hne, if_neg e', if_neg e2', if_neg e3', if_pos e4', g2, g3])⟩
    · have e4' : ¬ (3 < ((bys (innS a.str)).drop k).length ∧ ((bys (innS a.str)).drop k).getD 1 0 = 120 ∧ 0 ≤ digR (((bys (innS a.str)).drop k).getD 2 0) ∧ 0 ≤ digR (((bys (innS a.str)).drop k).getD 3 0)) := by
        rintro ⟨h, u1, u2, u3⟩
        rw [getD_drop (by omega)] at u1 u2 u3
        have : (decide ((k : Int) + 1 + 2 < ((innS a.str).size : Int)) && decide (byteAt' (innS a.str) (k + 1) = 120) && decide (0 ≤ digR (byteAt' (innS a.str) (k + 2))) && decide (0 ≤ digR (byteAt' (innS a.str) (k + 3)))) = true := by
          simp only [Bool.and_eq_true, decide_eq_true_eq]
          exact ⟨⟨⟨by omega, u1⟩, u2⟩, u3⟩
        rw [this] at e4; cases e4
      have hB : rqB a.str.size (bys (innS a.str)) = false := by rw [h4, rqB, if_neg hne, if_neg e', if_neg e2', if_neg e3', if_neg e4']
      exact fail (by rw [rqO, hB, Bool.and_false])
  · have d := of_decide_eq_false d
    have hB : rqB a.str.size (bys (innS a.str)) = true := by
      rw [h4, bys_end (by omega)]
      cases f <;> rfl
    have hV : rqV a.str.size (bys (innS a.str)) = l := by
      rw [h5, bys_end (by omega)]
      cases f with
      | zero => exact List.append_nil l
      | succ f => exact List.append_nil l
    have hO : rqO a.str = true := by rw [rqO, c, hB]; rfl
    have hS : rqS a.str = sL l := by rw [rqS, if_pos hO, hV]
    rw [strOfD_dI, ← hS]
    refine ⟨by rw [hS, sL_size]; omega, rfl, by rw [rqK, hO]; rfl⟩
end Go.Proofs.YtbbjonjhaoeidaaGreatDoor.XT
