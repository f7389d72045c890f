/- Contracts, by the symbolic evaluator. -/
import Derived.Test.YtbbjonjhaoeidaaGreatDoorQT20
import Derived.Test.YtbbjonjhaoeidaaGreatDoorProg
set_option linter.unusedVariables false
set_option linter.unusedSimpArgs false
namespace Go.Proofs.YtbbjonjhaoeidaaGreatDoor.XT
open Go Go.RowKit Go.Proofs.YtbbjonjhaoeidaaGreatDoor.Sv
set_option maxRecDepth 100000
/-- how far the first blank is -/
def bi : List Int → Nat
  | [] => 0
  | c :: r => if c = 32 then 0 else bi r + 1
def rlH (s : ByteArray) : Bool := !(decide ((s.size : Int) < 2) || !(decide (byteAt' s 1 = 32)) || (!(decide (byteAt' s 0 = 43)) && !(decide (byteAt' s 0 = 45))))
def rlR (s : ByteArray) : ByteArray := s.extract 2 s.size
def rlI (s : ByteArray) : Nat := bi (bys (rlR s))
def rlK (s : ByteArray) : Nat := rlI s + 1 + bi ((bys (rlR s)).drop (rlI s + 1))
def rlW (s : ByteArray) : D := .t [.b (decide (byteAt' s 0 = 45)), .t [.i (ruV ((rlR s).extract 0 (rlI s))), .s ((rlR s).extract (rlI s + 1) (rlK s)), rrtD ((rlR s).extract (rlK s + 1) (rlR s).size)]]
def rlB (s : ByteArray) : Bool := rlH s && decide (rlK s < (rlR s).size) && decide (mayT ((D.fld (rlW s) 1)) = 0) && decide (sL (triL (rlW s)) = s)
def rlD (s : ByteArray) : D := if rlB s = true then rlW s else zW
theorem hxV_ge : ∀ (l : List Int) (n : Int), 0 ≤ n → -1 ≤ hxV l n
  | [], n, h => by rw [hxV]; omega
  | c :: r, n, h => by
    rw [hxV]
    split
    · exact Int.le_refl _
    · exact hxV_ge r _ (by omega)
theorem hxS_in (s : ByteArray) : -1 ≤ hxS s := by
  unfold hxS
  split
  · exact Int.le_refl _
  · exact hxV_ge _ 0 (Int.le_refl _)
theorem ruV_inU (s : ByteArray) : inU (ruV s) := by
  by_cases c : 0 < ruV s
  · exact (ruV_in c).1
  · have : ruV s = 0 := by
      unfold ruV at c ⊢
      split
      · rfl
      · rename_i h1
        rw [if_neg h1] at c
        split
        · rename_i h2
          rw [if_pos h2] at c
          have := hxS_in s
          omega
        · rfl
    rw [this]; exact u0
theorem bi_le : ∀ l : List Int, bi l ≤ l.length
  | [] => Nat.le_refl _
  | c :: r => by
    have := bi_le r
    unfold bi; split
    · exact Nat.zero_le _
    · simp only [List.length_cons]; omega
def rtxC : Con := ⟨[.d true .s], fun ds => (fun (a : D) => [a.str.size ≤ 9223372036854775807]) (nthD ds 0), [.d .s, .d .s, .d (.i .i64)], fun ds => (fun (a : D) => [.s (txV a.str), .s (txR a.str), .i (txE a.str)]) (nthD ds 0), fun ds => []⟩
def rtxC_an : Anns := fun _ _ => none
theorem rtxC_vc (a : D) : (a.str.size ≤ 9223372036854775807 ∧ bif !decide (rnE a.str = 0) then (ByteArray.mk #[]) = txV a.str ∧ (ByteArray.mk #[]) = txR a.str ∧ rnE a.str = txE a.str else bif decide (IntKind.u64.wrap (↑(rnS a.str).size : Int) < rnV a.str) then (ByteArray.mk #[]) = txV a.str ∧ (ByteArray.mk #[]) = txR a.str ∧ EqI 20 (txE a.str) else 0 ≤ rnV a.str ∧ rnV a.str ≤ (↑(rnS a.str).size : Int) ∧ 0 ≤ rnV a.str ∧ rnV a.str ≤ (↑(rnS a.str).size : Int) ∧ (rnS a.str).extract (Int.toNat 0) (rnV a.str).toNat = txV a.str ∧ (rnS a.str).extract (rnV a.str).toNat (rnS a.str).size = txR a.str ∧ EqI 0 (txE a.str)) = conGoal Tryz.prog (addS 17 rrnC noS) rtxC_an 200 18 rtxC [a] := by kernel_rfl
theorem rtxC_ok : ConOK Tryz.prog gl 18 rtxC := con_of mo (addS_ok rrnC_ok (noS_ok _)) (an := rtxC_an) 200 fun ds hl hp => by
  obtain ⟨a, rfl⟩ := len1 hl
  rw [← rtxC_vc]
  have p0 : a.str.size ≤ 9223372036854775807 := hp _ (.head _)
  obtain ⟨w0, w1⟩ := rnV_in64 a.str
  have hs := rn_size a.str
  have z0 : Int.toNat 0 = 0 := rfl
  have hw : IntKind.u64.wrap ((rnS a.str).size : Int) = ((rnS a.str).size : Int) := wrap64 (by omega) (by omega)
  rw [hw, z0]
  have bad : ∀ e : Int, txE a.str = e → e ≠ 0 → ((ByteArray.mk #[]) = txV a.str ∧ (ByteArray.mk #[]) = txR a.str ∧ e = txE a.str) := fun e h h0 => ⟨(if_neg (by rw [h]; exact h0)).symm, (if_neg (by rw [h]; exact h0)).symm, h.symm⟩
  refine ⟨p0, cond_of (fun d => ?_) (fun d => cond_of (fun c => ?_) (fun c => ?_))⟩
  · have d : rnE a.str ≠ 0 := by simpa using d
    exact bad _ (by rw [txE, if_pos d]) d
  · have d : rnE a.str = 0 := by simpa using d
    exact bad 20 (by rw [txE, if_neg (fun h => h d), if_pos (of_decide_eq_true c)]) (by decide)
  · have d : rnE a.str = 0 := by simpa using d
    have c := of_decide_eq_false c
    have hE : txE a.str = 0 := by rw [txE, if_neg (fun h => h d), if_neg c]
    rw [txV, if_pos hE, txR, if_pos hE, hE]
    exact ⟨w0, by omega, w0, by omega, rfl, rfl, rfl⟩
def rtRdC : Con := ⟨[.d true .s], fun ds => (fun (a : D) => [a.str.size ≤ 140737488355327]) (nthD ds 0), [.d wrT, .d .s, .d (.i .i64)], fun ds => (fun (a : D) => [tRdV a.str, .s (tRdR a.str), .i (tRdE a.str)]) (nthD ds 0), fun ds => []⟩
def rtRdC_an : Anns := fun _ _ => none
theorem rtRdC_vc (a : D) : (bif decide (a.str = (ByteArray.mk #[])) then false = (nthD (tRdV a.str).tup 0).bool ∧ EqI 0 (nthD (nthD (tailD (tRdV a.str).tup) 0).tup 0).int ∧ (ByteArray.mk #[]) = (nthD (tailD (nthD (tailD (tRdV a.str).tup) 0).tup) 0).str ∧ EqI 0 (nthD (nthD (tailD (tailD (nthD (tailD (tRdV a.str).tup) 0).tup)) 0).tup 0).int ∧ false = (nthD (tailD (nthD (tailD (tailD (nthD (tailD (tRdV a.str).tup) 0).tup)) 0).tup) 0).bool ∧ EqI 0 (nthD (tailD (tailD (nthD (tailD (tailD (nthD (tailD (tRdV a.str).tup) 0).tup)) 0).tup)) 0).int ∧ (ByteArray.mk #[]) = (nthD (tailD (tailD (tailD (nthD (tailD (tailD (nthD (tailD (tRdV a.str).tup) 0).tup)) 0).tup))) 0).str ∧ EqI 0 (nthD (tailD (tailD (tailD (tailD (nthD (tailD (tailD (nthD (tailD (tRdV a.str).tup) 0).tup)) 0).tup)))) 0).int ∧ (ByteArray.mk #[]) = tRdR a.str ∧ EqI 20 (tRdE a.str) else Idx 0 a.str.size ∧ bif decide (1 < byteAt' a.str (Int.toNat 0)) then false = (nthD (tRdV a.str).tup 0).bool ∧ EqI 0 (nthD (nthD (tailD (tRdV a.str).tup) 0).tup 0).int ∧ (ByteArray.mk #[]) = (nthD (tailD (nthD (tailD (tRdV a.str).tup) 0).tup) 0).str ∧ EqI 0 (nthD (nthD (tailD (tailD (nthD (tailD (tRdV a.str).tup) 0).tup)) 0).tup 0).int ∧ false = (nthD (tailD (nthD (tailD (tailD (nthD (tailD (tRdV a.str).tup) 0).tup)) 0).tup) 0).bool ∧ EqI 0 (nthD (tailD (tailD (nthD (tailD (tailD (nthD (tailD (tRdV a.str).tup) 0).tup)) 0).tup)) 0).int ∧ (ByteArray.mk #[]) = (nthD (tailD (tailD (tailD (nthD (tailD (tailD (nthD (tailD (tRdV a.str).tup) 0).tup)) 0).tup))) 0).str ∧ EqI 0 (nthD (tailD (tailD (tailD (tailD (nthD (tailD (tailD (nthD (tailD (tRdV a.str).tup) 0).tup)) 0).tup)))) 0).int ∧ (ByteArray.mk #[]) = tRdR a.str ∧ EqI 21 (tRdE a.str) else LeI 0 1 ∧ 1 ≤ (↑a.str.size : Int) ∧ (a.str.extract (Int.toNat 1) a.str.size).size ≤ 9223372036854775807 ∧ bif !decide (rnE (a.str.extract (Int.toNat 1) a.str.size) = 0) then false = (nthD (tRdV a.str).tup 0).bool ∧ EqI 0 (nthD (nthD (tailD (tRdV a.str).tup) 0).tup 0).int ∧ (ByteArray.mk #[]) = (nthD (tailD (nthD (tailD (tRdV a.str).tup) 0).tup) 0).str ∧ EqI 0 (nthD (nthD (tailD (tailD (nthD (tailD (tRdV a.str).tup) 0).tup)) 0).tup 0).int ∧ false = (nthD (tailD (nthD (tailD (tailD (nthD (tailD (tRdV a.str).tup) 0).tup)) 0).tup) 0).bool ∧ EqI 0 (nthD (tailD (tailD (nthD (tailD (tailD (nthD (tailD (tRdV a.str).tup) 0).tup)) 0).tup)) 0).int ∧ (ByteArray.mk #[]) = (nthD (tailD (tailD (tailD (nthD (tailD (tailD (nthD (tailD (tRdV a.str).tup) 0).tup)) 0).tup))) 0).str ∧ EqI 0 (nthD (tailD (tailD (tailD (tailD (nthD (tailD (tailD (nthD (tailD (tRdV a.str).tup) 0).tup)) 0).tup)))) 0).int ∧ (ByteArray.mk #[]) = tRdR a.str ∧ rnE (a.str.extract (Int.toNat 1) a.str.size) = tRdE a.str else (rnS (a.str.extract (Int.toNat 1) a.str.size)).size ≤ 9223372036854775807 ∧ bif !decide (txE (rnS (a.str.extract (Int.toNat 1) a.str.size)) = 0) then false = (nthD (tRdV a.str).tup 0).bool ∧ EqI 0 (nthD (nthD (tailD (tRdV a.str).tup) 0).tup 0).int ∧ (ByteArray.mk #[]) = (nthD (tailD (nthD (tailD (tRdV a.str).tup) 0).tup) 0).str ∧ EqI 0 (nthD (nthD (tailD (tailD (nthD (tailD (tRdV a.str).tup) 0).tup)) 0).tup 0).int ∧ false = (nthD (tailD (nthD (tailD (tailD (nthD (tailD (tRdV a.str).tup) 0).tup)) 0).tup) 0).bool ∧ EqI 0 (nthD (tailD (tailD (nthD (tailD (tailD (nthD (tailD (tRdV a.str).tup) 0).tup)) 0).tup)) 0).int ∧ (ByteArray.mk #[]) = (nthD (tailD (tailD (tailD (nthD (tailD (tailD (nthD (tailD (tRdV a.str).tup) 0).tup)) 0).tup))) 0).str ∧ EqI 0 (nthD (tailD (tailD (tailD (tailD (nthD (tailD (tailD (nthD (tailD (tRdV a.str).tup) 0).tup)) 0).tup)))) 0).int ∧ (ByteArray.mk #[]) = tRdR a.str ∧ txE (rnS (a.str.extract (Int.toNat 1) a.str.size)) = tRdE a.str else (txR (rnS (a.str.extract (Int.toNat 1) a.str.size))).size ≤ 140737488355327 ∧ bif !decide (rdE (txR (rnS (a.str.extract (Int.toNat 1) a.str.size))) = 0) then false = (nthD (tRdV a.str).tup 0).bool ∧ EqI 0 (nthD (nthD (tailD (tRdV a.str).tup) 0).tup 0).int ∧ (ByteArray.mk #[]) = (nthD (tailD (nthD (tailD (tRdV a.str).tup) 0).tup) 0).str ∧ EqI 0 (nthD (nthD (tailD (tailD (nthD (tailD (tRdV a.str).tup) 0).tup)) 0).tup 0).int ∧ false = (nthD (tailD (nthD (tailD (tailD (nthD (tailD (tRdV a.str).tup) 0).tup)) 0).tup) 0).bool ∧ EqI 0 (nthD (tailD (tailD (nthD (tailD (tailD (nthD (tailD (tRdV a.str).tup) 0).tup)) 0).tup)) 0).int ∧ (ByteArray.mk #[]) = (nthD (tailD (tailD (tailD (nthD (tailD (tailD (nthD (tailD (tRdV a.str).tup) 0).tup)) 0).tup))) 0).str ∧ EqI 0 (nthD (tailD (tailD (tailD (tailD (nthD (tailD (tailD (nthD (tailD (tRdV a.str).tup) 0).tup)) 0).tup)))) 0).int ∧ (ByteArray.mk #[]) = tRdR a.str ∧ rdE (txR (rnS (a.str.extract (Int.toNat 1) a.str.size))) = tRdE a.str else Idx 0 a.str.size ∧ ((rdV (txR (rnS (a.str.extract (Int.toNat 1) a.str.size)))).fld 0).int = ((rdV (txR (rnS (a.str.extract (Int.toNat 1) a.str.size)))).fld 0).int ∧ ((D.fld (rdV (txR (rnS (a.str.extract (Int.toNat 1) a.str.size)))) 1)).bool = ((D.fld (rdV (txR (rnS (a.str.extract (Int.toNat 1) a.str.size)))) 1)).bool ∧ ((D.fld (rdV (txR (rnS (a.str.extract (Int.toNat 1) a.str.size)))) 2)).int = ((D.fld (rdV (txR (rnS (a.str.extract (Int.toNat 1) a.str.size)))) 2)).int ∧ ((rdV (txR (rnS (a.str.extract (Int.toNat 1) a.str.size)))).fld 3).str = ((rdV (txR (rnS (a.str.extract (Int.toNat 1) a.str.size)))).fld 3).str ∧ ((rdV (txR (rnS (a.str.extract (Int.toNat 1) a.str.size)))).fld 4).int = ((rdV (txR (rnS (a.str.extract (Int.toNat 1) a.str.size)))).fld 4).int ∧ (txV (rnS (a.str.extract (Int.toNat 1) a.str.size))).size ≤ 9223372036854775807 ∧ bif !decide (mayT (D.t [D.i (rnV (a.str.extract (Int.toNat 1) a.str.size)), D.s (txV (rnS (a.str.extract (Int.toNat 1) a.str.size))), putF valT (rdV (txR (rnS (a.str.extract (Int.toNat 1) a.str.size)))) []]) = 0) then false = (nthD (tRdV a.str).tup 0).bool ∧ EqI 0 (nthD (nthD (tailD (tRdV a.str).tup) 0).tup 0).int ∧ (ByteArray.mk #[]) = (nthD (tailD (nthD (tailD (tRdV a.str).tup) 0).tup) 0).str ∧ EqI 0 (nthD (nthD (tailD (tailD (nthD (tailD (tRdV a.str).tup) 0).tup)) 0).tup 0).int ∧ false = (nthD (tailD (nthD (tailD (tailD (nthD (tailD (tRdV a.str).tup) 0).tup)) 0).tup) 0).bool ∧ EqI 0 (nthD (tailD (tailD (nthD (tailD (tailD (nthD (tailD (tRdV a.str).tup) 0).tup)) 0).tup)) 0).int ∧ (ByteArray.mk #[]) = (nthD (tailD (tailD (tailD (nthD (tailD (tailD (nthD (tailD (tRdV a.str).tup) 0).tup)) 0).tup))) 0).str ∧ EqI 0 (nthD (tailD (tailD (tailD (tailD (nthD (tailD (tailD (nthD (tailD (tRdV a.str).tup) 0).tup)) 0).tup)))) 0).int ∧ (ByteArray.mk #[]) = tRdR a.str ∧ mayT (D.t [D.i (rnV (a.str.extract (Int.toNat 1) a.str.size)), D.s (txV (rnS (a.str.extract (Int.toNat 1) a.str.size))), putF valT (rdV (txR (rnS (a.str.extract (Int.toNat 1) a.str.size)))) []]) = tRdE a.str else decide (byteAt' a.str (Int.toNat 0) = 1) = (nthD (tRdV a.str).tup 0).bool ∧ rnV (a.str.extract (Int.toNat 1) a.str.size) = (nthD (nthD (tailD (tRdV a.str).tup) 0).tup 0).int ∧ txV (rnS (a.str.extract (Int.toNat 1) a.str.size)) = (nthD (tailD (nthD (tailD (tRdV a.str).tup) 0).tup) 0).str ∧ ((rdV (txR (rnS (a.str.extract (Int.toNat 1) a.str.size)))).fld 0).int = (nthD (nthD (tailD (tailD (nthD (tailD (tRdV a.str).tup) 0).tup)) 0).tup 0).int ∧ ((D.fld (rdV (txR (rnS (a.str.extract (Int.toNat 1) a.str.size)))) 1)).bool = (nthD (tailD (nthD (tailD (tailD (nthD (tailD (tRdV a.str).tup) 0).tup)) 0).tup) 0).bool ∧ ((D.fld (rdV (txR (rnS (a.str.extract (Int.toNat 1) a.str.size)))) 2)).int = (nthD (tailD (tailD (nthD (tailD (tailD (nthD (tailD (tRdV a.str).tup) 0).tup)) 0).tup)) 0).int ∧ ((rdV (txR (rnS (a.str.extract (Int.toNat 1) a.str.size)))).fld 3).str = (nthD (tailD (tailD (tailD (nthD (tailD (tailD (nthD (tailD (tRdV a.str).tup) 0).tup)) 0).tup))) 0).str ∧ ((rdV (txR (rnS (a.str.extract (Int.toNat 1) a.str.size)))).fld 4).int = (nthD (tailD (tailD (tailD (tailD (nthD (tailD (tailD (nthD (tailD (tRdV a.str).tup) 0).tup)) 0).tup)))) 0).int ∧ rdR (txR (rnS (a.str.extract (Int.toNat 1) a.str.size))) = tRdR a.str ∧ EqI 0 (tRdE a.str)) = conGoal Tryz.prog (addS 20 rmayTC (addS 19 rreadC (addS 18 rtxC (addS 17 rrnC noS)))) rtRdC_an 200 5 rtRdC [a] := by kernel_rfl
set_option maxHeartbeats 4000000 in
theorem rtRdC_ok : ConOK Tryz.prog gl 5 rtRdC := con_of mo (addS_ok rmayTC_ok (addS_ok rreadC_ok (addS_ok rtxC_ok (addS_ok rrnC_ok (noS_ok _))))) (an := rtRdC_an) 200 fun ds hl hp => by
  obtain ⟨a, rfl⟩ := len1 hl
  rw [← rtRdC_vc]
  have p0 : a.str.size ≤ 140737488355327 := hp _ (.head _)
  have z0 : Int.toNat 0 = 0 := rfl
  have z1 : Int.toNat 1 = 1 := rfl
  rw [z0, z1]
  have ht : a.str.extract 1 a.str.size = tlS a.str := rfl
  rw [ht]
  have e1 : rnS (tlS a.str) = tE1 a.str := rfl
  rw [e1]
  have e2 : txR (tE1 a.str) = tE2 a.str := rfl
  rw [e2]
  have bad : ∀ e : Int, tRdE a.str = e → e ≠ 0 → (false = (nthD (tRdV a.str).tup 0).bool ∧ EqI 0 (nthD (nthD (tailD (tRdV a.str).tup) 0).tup 0).int ∧ (ByteArray.mk #[]) = (nthD (tailD (nthD (tailD (tRdV a.str).tup) 0).tup) 0).str ∧ EqI 0 (nthD (nthD (tailD (tailD (nthD (tailD (tRdV a.str).tup) 0).tup)) 0).tup 0).int ∧ false = (nthD (tailD (nthD (tailD (tailD (nthD (tailD (tRdV a.str).tup) 0).tup)) 0).tup) 0).bool ∧ EqI 0 (nthD (tailD (tailD (nthD (tailD (tailD (nthD (tailD (tRdV a.str).tup) 0).tup)) 0).tup)) 0).int ∧ (ByteArray.mk #[]) = (nthD (tailD (tailD (tailD (nthD (tailD (tailD (nthD (tailD (tRdV a.str).tup) 0).tup)) 0).tup))) 0).str ∧ EqI 0 (nthD (tailD (tailD (tailD (tailD (nthD (tailD (tailD (nthD (tailD (tRdV a.str).tup) 0).tup)) 0).tup)))) 0).int ∧ (ByteArray.mk #[]) = tRdR a.str ∧ e = tRdE a.str) := fun e h h0 => by
    have hV : tRdV a.str = zW := if_neg (by rw [h]; exact h0)
    have hR : tRdR a.str = (ByteArray.mk #[]) := if_neg (by rw [h]; exact h0)
    rw [hV, hR, h]; exact ⟨rfl, rfl, rfl, rfl, rfl, rfl, rfl, rfl, rfl, rfl⟩
  refine cond_of (fun c => ?_) (fun c => ?_)
  · exact bad 20 (if_pos (of_decide_eq_true c)) (by decide)
  have c := of_decide_eq_false c
  have hs : 0 < a.str.size := by rw [emS_size] at c; omega
  refine ⟨⟨by decide, by omega⟩, cond_of (fun c1 => ?_) (fun c1 => ?_)⟩
  · exact bad 21 (by rw [tRdE, if_neg c, if_pos (of_decide_eq_true c1)]) (by decide)
  have c1 := of_decide_eq_false c1
  refine ⟨by decide, by omega, Nat.le_trans (tl_size _) (by omega), cond_of (fun d => ?_) (fun d => ?_)⟩
  · have d : rnE (tlS a.str) ≠ 0 := by simpa using d
    exact bad _ (by rw [tRdE, if_neg c, if_neg c1, if_pos d]) d
  have d : ¬ rnE (tlS a.str) ≠ 0 := by simpa using d
  refine ⟨Nat.le_trans (e1_size _) (by omega), cond_of (fun f => ?_) (fun f => ?_)⟩
  · have f : txE (tE1 a.str) ≠ 0 := by simpa using f
    exact bad _ (by rw [tRdE, if_neg c, if_neg c1, if_neg d, if_pos f]) f
  have f : ¬ txE (tE1 a.str) ≠ 0 := by simpa using f
  refine ⟨Nat.le_trans (e2_size _) p0, cond_of (fun g => ?_) (fun g => ?_)⟩
  · have g : rdE (tE2 a.str) ≠ 0 := by simpa using g
    exact bad _ (by rw [tRdE, if_neg c, if_neg c1, if_neg d, if_neg f, if_pos g]) g
  have g : ¬ rdE (tE2 a.str) ≠ 0 := by simpa using g
  have hk := (rd_back (s := tE2 a.str) (by simpa using g)).2.1
  rw [mayT_put]
  have hT : tRdT a.str = .t [.i (rnV (tlS a.str)), .s (txV (tE1 a.str)), rdV (tE2 a.str)] := by with_reducible rw [tRdT]
  have hE : tRdE a.str = mayT (tRdT a.str) := by rw [tRdE, if_neg c, if_neg c1, if_neg d, if_neg f, if_neg g]
  rw [hT] at hE
  refine ⟨⟨by decide, by omega⟩, rfl, rfl, rfl, rfl, rfl, Nat.le_trans (txV_size _) (Nat.le_trans (e1_size _) (by omega)), cond_of (fun m => ?_) (fun m => ?_)⟩
  · exact bad _ hE (by simpa using m)
  have m : mayT (.t [.i (rnV (tlS a.str)), .s (txV (tE1 a.str)), rdV (tE2 a.str)]) = 0 := by simpa using m
  have hV : tRdV a.str = .t [.b (decide (byteAt' a.str 0 = 1)), tRdT a.str] := if_pos (hE.trans m)
  have hR : tRdR a.str = rdR (tE2 a.str) := if_pos (hE.trans m)
  rw [hT] at hV
  rw [hV, hR, hE, m]
  generalize rdV (tE2 a.str) = V
  generalize rnV (tlS a.str) = u
  generalize txV (tE1 a.str) = t
  generalize rdR (tE2 a.str) = R
  exact ⟨rfl, rfl, rfl, rfl, (congrArg D.bool (nth_t1 V.tup)).symm, (congrArg D.int (nth_t2 V.tup)).symm, (congrArg D.str (nth_t3 V.tup)).symm, (congrArg D.int (nth_t4 V.tup)).symm, rfl, rfl⟩
def rtRtC : Con := ⟨[.d true .s], fun ds => (fun (a : D) => [a.str.size ≤ 140737488355327]) (nthD ds 0), [.d wrT, .d (.i .i64)], fun ds => (fun (a : D) => [rlD a.str, .i (bif rlB a.str then 0 else 41)]) (nthD ds 0), fun ds => []⟩
def rtRtC_an : Anns := fun f i => match f, i with
  | 7, 5 => some fun A st => match A.get 4 with
    | some (.v (.string r)) => ⟨Nat, fun g => [(5, .v (.int .i64 g))], fun _ => [], fun g => g ≤ r.size ∧ bi (bys r) = g + bi ((bys r).drop g), fun g => r.size - g⟩
    | _ => LAnn.bad
  | 7, 8 => some fun A st => match A.get 4, A.get 5 with
    | some (.v (.string r)), some (.v (.int .i64 i)) => ⟨Nat, fun g => [(6, .v (.int .i64 g))], fun _ => [], fun g => g ≤ r.size + 1 ∧ i.toNat + 1 ≤ g ∧ i.toNat + 1 + bi ((bys r).drop (i.toNat + 1)) = g + bi ((bys r).drop g), fun g => r.size + 1 - g⟩
    | _, _ => LAnn.bad
  | _, _ => none
theorem rtRtC_vc (a : D) : ((decide ((↑a.str.size : Int) < 2) = false → Idx 1 a.str.size) ∧ ((decide ((↑a.str.size : Int) < 2) || !decide (byteAt' a.str (Int.toNat 1) = 32)) = false → Idx 0 a.str.size ∧ ((!decide (byteAt' a.str (Int.toNat 0) = 43)) = true → Idx 0 a.str.size)) ∧ bif decide ((↑a.str.size : Int) < 2) || !decide (byteAt' a.str (Int.toNat 1) = 32) || !decide (byteAt' a.str (Int.toNat 0) = 43) && !decide (byteAt' a.str (Int.toNat 0) = 45) then false = (nthD (rlD a.str).tup 0).bool ∧ EqI 0 (nthD (nthD (tailD (rlD a.str).tup) 0).tup 0).int ∧ (ByteArray.mk #[]) = (nthD (tailD (nthD (tailD (rlD a.str).tup) 0).tup) 0).str ∧ EqI 0 (nthD (nthD (tailD (tailD (nthD (tailD (rlD a.str).tup) 0).tup)) 0).tup 0).int ∧ false = (nthD (tailD (nthD (tailD (tailD (nthD (tailD (rlD a.str).tup) 0).tup)) 0).tup) 0).bool ∧ EqI 0 (nthD (tailD (tailD (nthD (tailD (tailD (nthD (tailD (rlD a.str).tup) 0).tup)) 0).tup)) 0).int ∧ (ByteArray.mk #[]) = (nthD (tailD (tailD (tailD (nthD (tailD (tailD (nthD (tailD (rlD a.str).tup) 0).tup)) 0).tup))) 0).str ∧ EqI 0 (nthD (tailD (tailD (tailD (tailD (nthD (tailD (tailD (nthD (tailD (rlD a.str).tup) 0).tup)) 0).tup)))) 0).int ∧ EqI 41 (condI (rlB a.str) 0 41) else LeI 0 2 ∧ 2 ≤ (↑a.str.size : Int) ∧ ∃ (g : Nat), EqI 0 (↑g : Int) ∧ (g ≤ (a.str.extract (Int.toNat 2) a.str.size).size ∧ bi (bys (a.str.extract (Int.toNat 2) a.str.size)) = g + bi (List.drop g (bys (a.str.extract (Int.toNat 2) a.str.size)))) ∧ ∀ (g : Nat), g ≤ (a.str.extract (Int.toNat 2) a.str.size).size ∧ bi (bys (a.str.extract (Int.toNat 2) a.str.size)) = g + bi (List.drop g (bys (a.str.extract (Int.toNat 2) a.str.size))) → (decide ((↑g : Int) < (↑(a.str.extract (Int.toNat 2) a.str.size).size : Int)) = true → Idx (↑g : Int) (a.str.extract (Int.toNat 2) a.str.size).size) ∧ bif decide ((↑g : Int) < (↑(a.str.extract (Int.toNat 2) a.str.size).size : Int)) && !decide (byteAt' (a.str.extract (Int.toNat 2) a.str.size) g = 32) then I64 ((↑g : Int) + 1) ∧ ∃ (g_1 : Nat), (↑g : Int) + 1 = (↑g_1 : Int) ∧ (g_1 ≤ (a.str.extract (Int.toNat 2) a.str.size).size ∧ bi (bys (a.str.extract (Int.toNat 2) a.str.size)) = g_1 + bi (List.drop g_1 (bys (a.str.extract (Int.toNat 2) a.str.size)))) ∧ (a.str.extract (Int.toNat 2) a.str.size).size - g_1 < (a.str.extract (Int.toNat 2) a.str.size).size - g else I64 ((↑g : Int) + 1) ∧ ∃ (g_1 : Nat), (↑g : Int) + 1 = (↑g_1 : Int) ∧ (g_1 ≤ (a.str.extract (Int.toNat 2) a.str.size).size + 1 ∧ g + 1 ≤ g_1 ∧ g + 1 + bi (List.drop (g + 1) (bys (a.str.extract (Int.toNat 2) a.str.size))) = g_1 + bi (List.drop g_1 (bys (a.str.extract (Int.toNat 2) a.str.size)))) ∧ ∀ (g_2 : Nat), g_2 ≤ (a.str.extract (Int.toNat 2) a.str.size).size + 1 ∧ g + 1 ≤ g_2 ∧ g + 1 + bi (List.drop (g + 1) (bys (a.str.extract (Int.toNat 2) a.str.size))) = g_2 + bi (List.drop g_2 (bys (a.str.extract (Int.toNat 2) a.str.size))) → (decide ((↑g_2 : Int) < (↑(a.str.extract (Int.toNat 2) a.str.size).size : Int)) = true → Idx (↑g_2 : Int) (a.str.extract (Int.toNat 2) a.str.size).size) ∧ bif decide ((↑g_2 : Int) < (↑(a.str.extract (Int.toNat 2) a.str.size).size : Int)) && !decide (byteAt' (a.str.extract (Int.toNat 2) a.str.size) g_2 = 32) then I64 ((↑g_2 : Int) + 1) ∧ ∃ (g_3 : Nat), (↑g_2 : Int) + 1 = (↑g_3 : Int) ∧ (g_3 ≤ (a.str.extract (Int.toNat 2) a.str.size).size + 1 ∧ g + 1 ≤ g_3 ∧ g + 1 + bi (List.drop (g + 1) (bys (a.str.extract (Int.toNat 2) a.str.size))) = g_3 + bi (List.drop g_3 (bys (a.str.extract (Int.toNat 2) a.str.size)))) ∧ (a.str.extract (Int.toNat 2) a.str.size).size + 1 - g_3 < (a.str.extract (Int.toNat 2) a.str.size).size + 1 - g_2 else bif decide ((↑(a.str.extract (Int.toNat 2) a.str.size).size : Int) ≤ (↑g_2 : Int)) then false = (nthD (rlD a.str).tup 0).bool ∧ EqI 0 (nthD (nthD (tailD (rlD a.str).tup) 0).tup 0).int ∧ (ByteArray.mk #[]) = (nthD (tailD (nthD (tailD (rlD a.str).tup) 0).tup) 0).str ∧ EqI 0 (nthD (nthD (tailD (tailD (nthD (tailD (rlD a.str).tup) 0).tup)) 0).tup 0).int ∧ false = (nthD (tailD (nthD (tailD (tailD (nthD (tailD (rlD a.str).tup) 0).tup)) 0).tup) 0).bool ∧ EqI 0 (nthD (tailD (tailD (nthD (tailD (tailD (nthD (tailD (rlD a.str).tup) 0).tup)) 0).tup)) 0).int ∧ (ByteArray.mk #[]) = (nthD (tailD (tailD (tailD (nthD (tailD (tailD (nthD (tailD (rlD a.str).tup) 0).tup)) 0).tup))) 0).str ∧ EqI 0 (nthD (tailD (tailD (tailD (tailD (nthD (tailD (tailD (nthD (tailD (rlD a.str).tup) 0).tup)) 0).tup)))) 0).int ∧ EqI 41 (condI (rlB a.str) 0 41) else I64 ((↑g_2 : Int) + 1) ∧ 0 ≤ (↑g_2 : Int) + 1 ∧ (↑g_2 : Int) + 1 ≤ (↑(a.str.extract (Int.toNat 2) a.str.size).size : Int) ∧ ((a.str.extract (Int.toNat 2) a.str.size).extract ((↑g_2 : Int) + 1).toNat (a.str.extract (Int.toNat 2) a.str.size).size).size ≤ 140737488355327 ∧ Idx 0 a.str.size ∧ 0 ≤ (↑g : Int) ∧ (↑g : Int) ≤ (↑(a.str.extract (Int.toNat 2) a.str.size).size : Int) ∧ 0 ≤ (↑g : Int) ∧ (↑g : Int) ≤ (↑(a.str.extract (Int.toNat 2) a.str.size).size : Int) ∧ (a.str.extract (Int.toNat 2) a.str.size).extract (Int.toNat 0) g = (a.str.extract (Int.toNat 2) a.str.size).extract (Int.toNat 0) g ∧ ((a.str.extract (Int.toNat 2) a.str.size).extract (Int.toNat 0) g).size ≤ 9223372036854775807 ∧ ((a.str.extract (Int.toNat 2) a.str.size).extract (Int.toNat 0) g).size ≤ 9223372036854775807 ∧ ruV ((a.str.extract (Int.toNat 2) a.str.size).extract (Int.toNat 0) g) = ruV ((a.str.extract (Int.toNat 2) a.str.size).extract (Int.toNat 0) g) ∧ I64 ((↑g : Int) + 1) ∧ 0 ≤ (↑g : Int) + 1 ∧ (↑g : Int) + 1 ≤ (↑g_2 : Int) ∧ (↑g_2 : Int) ≤ (↑(a.str.extract (Int.toNat 2) a.str.size).size : Int) ∧ 0 ≤ (↑g : Int) + 1 ∧ (↑g : Int) + 1 ≤ (↑g_2 : Int) ∧ (↑g_2 : Int) ≤ (↑(a.str.extract (Int.toNat 2) a.str.size).size : Int) ∧ (a.str.extract (Int.toNat 2) a.str.size).extract ((↑g : Int) + 1).toNat g_2 = (a.str.extract (Int.toNat 2) a.str.size).extract ((↑g : Int) + 1).toNat g_2 ∧ ((rrtD ((a.str.extract (Int.toNat 2) a.str.size).extract ((↑g_2 : Int) + 1).toNat (a.str.extract (Int.toNat 2) a.str.size).size)).fld 0).int = ((rrtD ((a.str.extract (Int.toNat 2) a.str.size).extract ((↑g_2 : Int) + 1).toNat (a.str.extract (Int.toNat 2) a.str.size).size)).fld 0).int ∧ ((D.fld (rrtD ((a.str.extract (Int.toNat 2) a.str.size).extract ((↑g_2 : Int) + 1).toNat (a.str.extract (Int.toNat 2) a.str.size).size)) 1)).bool = ((D.fld (rrtD ((a.str.extract (Int.toNat 2) a.str.size).extract ((↑g_2 : Int) + 1).toNat (a.str.extract (Int.toNat 2) a.str.size).size)) 1)).bool ∧ ((D.fld (rrtD ((a.str.extract (Int.toNat 2) a.str.size).extract ((↑g_2 : Int) + 1).toNat (a.str.extract (Int.toNat 2) a.str.size).size)) 2)).int = ((D.fld (rrtD ((a.str.extract (Int.toNat 2) a.str.size).extract ((↑g_2 : Int) + 1).toNat (a.str.extract (Int.toNat 2) a.str.size).size)) 2)).int ∧ ((rrtD ((a.str.extract (Int.toNat 2) a.str.size).extract ((↑g_2 : Int) + 1).toNat (a.str.extract (Int.toNat 2) a.str.size).size)).fld 3).str = ((rrtD ((a.str.extract (Int.toNat 2) a.str.size).extract ((↑g_2 : Int) + 1).toNat (a.str.extract (Int.toNat 2) a.str.size).size)).fld 3).str ∧ ((rrtD ((a.str.extract (Int.toNat 2) a.str.size).extract ((↑g_2 : Int) + 1).toNat (a.str.extract (Int.toNat 2) a.str.size).size)).fld 4).int = ((rrtD ((a.str.extract (Int.toNat 2) a.str.size).extract ((↑g_2 : Int) + 1).toNat (a.str.extract (Int.toNat 2) a.str.size).size)).fld 4).int ∧ ((a.str.extract (Int.toNat 2) a.str.size).extract ((↑g : Int) + 1).toNat g_2).size ≤ 9223372036854775807 ∧ ((!decide (mayT (D.t [D.i (ruV ((a.str.extract (Int.toNat 2) a.str.size).extract (Int.toNat 0) g)), D.s ((a.str.extract (Int.toNat 2) a.str.size).extract ((↑g : Int) + 1).toNat g_2), putF valT (rrtD ((a.str.extract (Int.toNat 2) a.str.size).extract ((↑g_2 : Int) + 1).toNat (a.str.extract (Int.toNat 2) a.str.size).size)) []]) = 0)) = false → ((0 ≤ ruV ((a.str.extract (Int.toNat 2) a.str.size).extract (Int.toNat 0) g) ∧ ruV ((a.str.extract (Int.toNat 2) a.str.size).extract (Int.toNat 0) g) < 18446744073709551616) ∧ ((a.str.extract (Int.toNat 2) a.str.size).extract ((↑g : Int) + 1).toNat g_2).size ≤ 9223372036854775807 ∧ 0 ≤ ((rrtD ((a.str.extract (Int.toNat 2) a.str.size).extract ((↑g_2 : Int) + 1).toNat (a.str.extract (Int.toNat 2) a.str.size).size)).fld 0).int ∧ ((rrtD ((a.str.extract (Int.toNat 2) a.str.size).extract ((↑g_2 : Int) + 1).toNat (a.str.extract (Int.toNat 2) a.str.size).size)).fld 0).int < 256 ∧ I64 ((D.fld (rrtD ((a.str.extract (Int.toNat 2) a.str.size).extract ((↑g_2 : Int) + 1).toNat (a.str.extract (Int.toNat 2) a.str.size).size)) 2)).int ∧ 0 ≤ ((rrtD ((a.str.extract (Int.toNat 2) a.str.size).extract ((↑g_2 : Int) + 1).toNat (a.str.extract (Int.toNat 2) a.str.size).size)).fld 4).int ∧ ((rrtD ((a.str.extract (Int.toNat 2) a.str.size).extract ((↑g_2 : Int) + 1).toNat (a.str.extract (Int.toNat 2) a.str.size).size)).fld 4).int < 18446744073709551616) ∧ mayT (D.t [D.i (ruV ((a.str.extract (Int.toNat 2) a.str.size).extract (Int.toNat 0) g)), D.s ((a.str.extract (Int.toNat 2) a.str.size).extract ((↑g : Int) + 1).toNat g_2), putF valT (rrtD ((a.str.extract (Int.toNat 2) a.str.size).extract ((↑g_2 : Int) + 1).toNat (a.str.extract (Int.toNat 2) a.str.size).size)) []]) = 0) ∧ bif !decide (mayT (D.t [D.i (ruV ((a.str.extract (Int.toNat 2) a.str.size).extract (Int.toNat 0) g)), D.s ((a.str.extract (Int.toNat 2) a.str.size).extract ((↑g : Int) + 1).toNat g_2), putF valT (rrtD ((a.str.extract (Int.toNat 2) a.str.size).extract ((↑g_2 : Int) + 1).toNat (a.str.extract (Int.toNat 2) a.str.size).size)) []]) = 0) || !decide (sL (triL (D.t [D.b (decide (byteAt' a.str (Int.toNat 0) = 45)), D.t [D.i (ruV ((a.str.extract (Int.toNat 2) a.str.size).extract (Int.toNat 0) g)), D.s ((a.str.extract (Int.toNat 2) a.str.size).extract ((↑g : Int) + 1).toNat g_2), putF valT (rrtD ((a.str.extract (Int.toNat 2) a.str.size).extract ((↑g_2 : Int) + 1).toNat (a.str.extract (Int.toNat 2) a.str.size).size)) []]])) = a.str) then false = (nthD (rlD a.str).tup 0).bool ∧ EqI 0 (nthD (nthD (tailD (rlD a.str).tup) 0).tup 0).int ∧ (ByteArray.mk #[]) = (nthD (tailD (nthD (tailD (rlD a.str).tup) 0).tup) 0).str ∧ EqI 0 (nthD (nthD (tailD (tailD (nthD (tailD (rlD a.str).tup) 0).tup)) 0).tup 0).int ∧ false = (nthD (tailD (nthD (tailD (tailD (nthD (tailD (rlD a.str).tup) 0).tup)) 0).tup) 0).bool ∧ EqI 0 (nthD (tailD (tailD (nthD (tailD (tailD (nthD (tailD (rlD a.str).tup) 0).tup)) 0).tup)) 0).int ∧ (ByteArray.mk #[]) = (nthD (tailD (tailD (tailD (nthD (tailD (tailD (nthD (tailD (rlD a.str).tup) 0).tup)) 0).tup))) 0).str ∧ EqI 0 (nthD (tailD (tailD (tailD (tailD (nthD (tailD (tailD (nthD (tailD (rlD a.str).tup) 0).tup)) 0).tup)))) 0).int ∧ EqI 41 (condI (rlB a.str) 0 41) else decide (byteAt' a.str (Int.toNat 0) = 45) = (nthD (rlD a.str).tup 0).bool ∧ ruV ((a.str.extract (Int.toNat 2) a.str.size).extract (Int.toNat 0) g) = (nthD (nthD (tailD (rlD a.str).tup) 0).tup 0).int ∧ (a.str.extract (Int.toNat 2) a.str.size).extract ((↑g : Int) + 1).toNat g_2 = (nthD (tailD (nthD (tailD (rlD a.str).tup) 0).tup) 0).str ∧ ((rrtD ((a.str.extract (Int.toNat 2) a.str.size).extract ((↑g_2 : Int) + 1).toNat (a.str.extract (Int.toNat 2) a.str.size).size)).fld 0).int = (nthD (nthD (tailD (tailD (nthD (tailD (rlD a.str).tup) 0).tup)) 0).tup 0).int ∧ ((D.fld (rrtD ((a.str.extract (Int.toNat 2) a.str.size).extract ((↑g_2 : Int) + 1).toNat (a.str.extract (Int.toNat 2) a.str.size).size)) 1)).bool = (nthD (tailD (nthD (tailD (tailD (nthD (tailD (rlD a.str).tup) 0).tup)) 0).tup) 0).bool ∧ ((D.fld (rrtD ((a.str.extract (Int.toNat 2) a.str.size).extract ((↑g_2 : Int) + 1).toNat (a.str.extract (Int.toNat 2) a.str.size).size)) 2)).int = (nthD (tailD (tailD (nthD (tailD (tailD (nthD (tailD (rlD a.str).tup) 0).tup)) 0).tup)) 0).int ∧ ((rrtD ((a.str.extract (Int.toNat 2) a.str.size).extract ((↑g_2 : Int) + 1).toNat (a.str.extract (Int.toNat 2) a.str.size).size)).fld 3).str = (nthD (tailD (tailD (tailD (nthD (tailD (tailD (nthD (tailD (rlD a.str).tup) 0).tup)) 0).tup))) 0).str ∧ ((rrtD ((a.str.extract (Int.toNat 2) a.str.size).extract ((↑g_2 : Int) + 1).toNat (a.str.extract (Int.toNat 2) a.str.size).size)).fld 4).int = (nthD (tailD (tailD (tailD (tailD (nthD (tailD (tailD (nthD (tailD (rlD a.str).tup) 0).tup)) 0).tup)))) 0).int ∧ EqI 0 (condI (rlB a.str) 0 41)) = conGoal Tryz.prog (addS 26 rtTC (addS 20 rmayTC (addS 25 ruidC (addS 24 rrtC noS)))) rtRtC_an 200 7 rtRtC [a] := by kernel_rfl
set_option maxHeartbeats 4000000 in
theorem rtRtC_ok : ConOK Tryz.prog gl 7 rtRtC := con_of mo (addS_ok rtTC_ok (addS_ok rmayTC_ok (addS_ok ruidC_ok (addS_ok rrtC_ok (noS_ok _))))) (an := rtRtC_an) 200 fun ds hl hp => by
  obtain ⟨a, rfl⟩ := len1 hl
  rw [← rtRtC_vc]
  have p0 : a.str.size ≤ 140737488355327 := hp _ (.head _)
  have z0 : Int.toNat 0 = 0 := rfl
  have z1 : Int.toNat 1 = 1 := rfl
  have z2 : Int.toNat 2 = 2 := rfl
  rw [z0, z1, z2]
  have hR : a.str.extract 2 a.str.size = rlR a.str := rfl
  rw [hR]
  have hRs : (rlR a.str).size ≤ a.str.size := by rw [rlR, ByteArray.size_extract]; omega
  have bad : rlB a.str = false → (false = (nthD (rlD a.str).tup 0).bool ∧ EqI 0 (nthD (nthD (tailD (rlD a.str).tup) 0).tup 0).int ∧ (ByteArray.mk #[]) = (nthD (tailD (nthD (tailD (rlD a.str).tup) 0).tup) 0).str ∧ EqI 0 (nthD (nthD (tailD (tailD (nthD (tailD (rlD a.str).tup) 0).tup)) 0).tup 0).int ∧ false = (nthD (tailD (nthD (tailD (tailD (nthD (tailD (rlD a.str).tup) 0).tup)) 0).tup) 0).bool ∧ EqI 0 (nthD (tailD (tailD (nthD (tailD (tailD (nthD (tailD (rlD a.str).tup) 0).tup)) 0).tup)) 0).int ∧ (ByteArray.mk #[]) = (nthD (tailD (tailD (tailD (nthD (tailD (tailD (nthD (tailD (rlD a.str).tup) 0).tup)) 0).tup))) 0).str ∧ EqI 0 (nthD (tailD (tailD (tailD (tailD (nthD (tailD (tailD (nthD (tailD (rlD a.str).tup) 0).tup)) 0).tup)))) 0).int ∧ EqI 41 (condI (rlB a.str) 0 41)) := fun h => by
    have hV : rlD a.str = zW := if_neg (by rw [h]; decide)
    rw [hV, h]; exact ⟨rfl, rfl, rfl, rfl, rfl, rfl, rfl, rfl, rfl⟩
  have hH : (decide ((a.str.size : Int) < 2) || !decide (byteAt' a.str 1 = 32) || !decide (byteAt' a.str 0 = 43) && !decide (byteAt' a.str 0 = 45)) = !rlH a.str := by rw [rlH, Bool.not_not]
  rw [hH]
  have sz : decide ((a.str.size : Int) < 2) = false → 2 ≤ a.str.size := fun h => by have := of_decide_eq_false h; omega
  refine ⟨fun h => ⟨by decide, by have := sz h; omega⟩, fun h => ?_, cond_of (fun c => ?_) (fun c => ?_)⟩
  · rw [Bool.or_eq_false_iff] at h
    have := sz h.1
    exact ⟨⟨by decide, by omega⟩, fun _ => ⟨by decide, by omega⟩⟩
  · have c : rlH a.str = false := by simpa using c
    exact bad (by rw [rlB, c]; rfl)
  have c : rlH a.str = true := by simpa using c
  have s2 : 2 ≤ a.str.size := by
    have h := c
    simp only [rlH, Bool.not_eq_true', Bool.or_eq_false_iff] at h
    exact sz h.1.1
  generalize hr : rlR a.str = r at hRs ⊢
  have hl : ∀ k, ((bys r).drop k).length = r.size - k := fun k => by rw [List.length_drop, bys_length]
  have stop : ∀ g : Nat, (decide ((g : Int) < (r.size : Int)) && !decide (byteAt' r g = 32)) = false → bi ((bys r).drop g) = 0 := fun g h => by
    by_cases hg : g < r.size
    · rw [decide_eq_true (show (g : Int) < (r.size : Int) by omega), Bool.true_and] at h
      have h : byteAt' r g = 32 := by simpa using h
      rw [bys_drop hg, h, bi, if_pos rfl]
    · rw [bys_end (by omega)]; rfl
  have go : ∀ g : Nat, (decide ((g : Int) < (r.size : Int)) && !decide (byteAt' r g = 32)) = true → g < r.size ∧ bi ((bys r).drop g) = bi ((bys r).drop (g + 1)) + 1 := fun g h => by
    simp only [Bool.and_eq_true, decide_eq_true_eq, Bool.not_eq_true', decide_eq_false_iff_not] at h
    have hg : g < r.size := by omega
    exact ⟨hg, by rw [bys_drop hg, bi, if_neg h.2]⟩
  refine ⟨by decide, by omega, 0, rfl, ⟨Nat.zero_le _, by rw [List.drop_zero, Nat.zero_add]⟩, ?_⟩
  rintro g ⟨g1, g2⟩
  refine ⟨fun h => ⟨by omega, by have := of_decide_eq_true h; omega⟩, cond_of (fun d => ?_) (fun d => ?_)⟩
  · obtain ⟨d1, d2⟩ := go g d
    exact ⟨⟨by omega, by omega⟩, g + 1, by omega, ⟨by omega, by rw [g2, d2]; omega⟩, by omega⟩
  have hI : rlI a.str = g := by rw [rlI, hr, g2, stop g d]; rfl
  refine ⟨⟨by omega, by omega⟩, g + 1, by omega, ⟨by omega, Nat.le_refl _, rfl⟩, ?_⟩
  rintro k ⟨k1, k2, k3⟩
  refine ⟨fun h => ⟨by omega, by have := of_decide_eq_true h; omega⟩, cond_of (fun f => ?_) (fun f => ?_)⟩
  · obtain ⟨d1, d2⟩ := go k f
    exact ⟨⟨by omega, by omega⟩, k + 1, by omega, ⟨by omega, by omega, by rw [k3, d2]; omega⟩, by omega⟩
  have hK : rlK a.str = k := by rw [rlK, hI, hr, k3, stop k f]; rfl
  refine cond_of (fun q => ?_) (fun q => ?_)
  · have q := of_decide_eq_true q
    exact bad (by rw [rlB, hK, hr, decide_eq_false (show ¬ k < r.size by omega), Bool.and_false]; rfl)
  have q := of_decide_eq_false q
  have tk : ((k : Int) + 1).toNat = k + 1 := by omega
  have tg : ((g : Int) + 1).toNat = g + 1 := by omega
  rw [tk, tg, mayT_put, triL_put]
  have hW : rlW a.str = .t [.b (decide (byteAt' a.str 0 = 45)), .t [.i (ruV (r.extract 0 g)), .s (r.extract (g + 1) k), rrtD (r.extract (k + 1) r.size)]] := by
    rw [rlW, hI, hK, hr]
  have hB : rlB a.str = (rlH a.str && decide (rlK a.str < (rlR a.str).size) && decide (mayT ((D.fld (rlW a.str) 1)) = 0) && decide (sL (triL (rlW a.str)) = a.str)) := by with_reducible rw [rlB]
  have hD : rlB a.str = true → rlD a.str = rlW a.str := fun h => if_pos h
  rw [c, hK, hr, decide_eq_true (show k < r.size by omega), Bool.true_and, Bool.true_and] at hB
  rw [hW] at hB hD
  have ok3 : okV (rrtD (r.extract (k + 1) r.size)) := by rw [← (rt_same _).2]; exact rtD_okv _
  have ok1 := ruV_inU (r.extract 0 g)
  have x1 : (r.extract (k + 1) r.size).size ≤ 140737488355327 := by rw [ByteArray.size_extract]; omega
  have x2 : (r.extract 0 g).size ≤ 9223372036854775807 := by rw [ByteArray.size_extract]; omega
  have x3 : (r.extract (g + 1) k).size ≤ 9223372036854775807 := by rw [ByteArray.size_extract]; omega
  generalize rrtD (r.extract (k + 1) r.size) = V at hB hD ok3 ⊢
  generalize ruV (r.extract 0 g) = U at hB hD ok1 ⊢
  have hwT : ∀ b : Bool, ∀ t : D, D.fld (.t [.b b, t]) 1 = t := fun _ _ => rfl
  rw [hwT] at hB
  generalize hm : mayT (.t [.i U, .s (r.extract (g + 1) k), V]) = m at hB ⊢
  generalize ht : triL (.t [.b (decide (byteAt' a.str 0 = 45)), .t [.i U, .s (r.extract (g + 1) k), V]]) = t at hB ⊢
  refine ⟨⟨by omega, by omega⟩, by omega, by omega, x1, ⟨by decide, by omega⟩, by omega, by omega, by omega, by omega, rfl, x2, x2, rfl, ⟨by omega, by omega⟩, by omega, by omega, by omega, by omega, by omega, by omega, rfl, rfl, rfl, rfl, rfl, rfl, x3, fun h => ⟨⟨ok1, x3, ok3⟩, by simpa using h⟩, cond_of (fun d => ?_) (fun d => ?_)⟩
  · refine bad ?_
    rw [hB]
    cases hmm : decide (m = 0) with
    | false => rfl
    | true =>
      rw [hmm] at d
      simpa using d
  · have hmm : decide (m = 0) = true := by
      cases h : decide (m = 0) with
      | true => rfl
      | false => rw [h] at d; cases d
    rw [hmm] at d hB
    have d : sL t = a.str := by simpa using d
    rw [d, decide_eq_true rfl] at hB
    have hB : rlB a.str = true := hB
    rw [hD hB, hB]
    exact ⟨rfl, rfl, rfl, rfl, (congrArg D.bool (nth_t1 V.tup)).symm, (congrArg D.int (nth_t2 V.tup)).symm, (congrArg D.str (nth_t3 V.tup)).symm, (congrArg D.int (nth_t4 V.tup)).symm, rfl⟩
end Go.Proofs.YtbbjonjhaoeidaaGreatDoor.XT
