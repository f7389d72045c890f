/- Contracts, by the symbolic evaluator. -/
import Derived.Test.YtbbjonjhaoeidaaGreatDoorQT15
import Derived.Test.YtbbjonjhaoeidaaGreatDoorProg
import Derived.Test.YtbbjonjhaoeidaaGreatDoorQTR
set_option linter.unusedVariables false
set_option linter.unusedSimpArgs false
namespace Go.Proofs.YtbbjonjhaoeidaaGreatDoor.XT
open Go Go.RowKit Go.Proofs.YtbbjonjhaoeidaaGreatDoor.Sv
set_option maxRecDepth 100000
/-- reading a value -/
def tlS (s : ByteArray) : ByteArray := s.extract 1 s.size
def rdE0 (s : ByteArray) : Int := if s = (ByteArray.mk #[]) then 20 else if byteAt' s 0 = 1 then (if tlS s = (ByteArray.mk #[]) then 20 else if 1 < byteAt' (tlS s) 0 then 21 else 0) else if byteAt' s 0 = 2 then riE (tlS s) else if byteAt' s 0 = 3 then rkE (bys (tlS s)) else if byteAt' s 0 = 4 then rnE (tlS s) else 30
def rdV0 (s : ByteArray) : D := if byteAt' s 0 = 1 then .t [.i (byteAt' s 0), .b (decide (byteAt' (tlS s) 0 = 1)), .i 0, .s (ByteArray.mk #[]), .i 0] else if byteAt' s 0 = 2 then .t [.i (byteAt' s 0), .b false, .i (riV (tlS s)), .s (ByteArray.mk #[]), .i 0] else if byteAt' s 0 = 3 then .t [.i (byteAt' s 0), .b false, .i 0, .s (rkVs (tlS s)), .i 0] else .t [.i (byteAt' s 0), .b false, .i 0, .s (ByteArray.mk #[]), .i (rnV (tlS s))]
def rdR0 (s : ByteArray) : ByteArray := if byteAt' s 0 = 1 then (tlS s).extract 1 (tlS s).size else if byteAt' s 0 = 2 then riS (tlS s) else if byteAt' s 0 = 3 then rkRs (tlS s) else rnS (tlS s)
def rdE (s : ByteArray) : Int := if rdE0 s ≠ 0 then rdE0 s else if mayV (rdV0 s) = true then 0 else 30
def rdV (s : ByteArray) : D := if rdE s = 0 then rdV0 s else zV
def rdR (s : ByteArray) : ByteArray := if rdE s = 0 then rdR0 s else (ByteArray.mk #[])
theorem mayOf0 : ∀ b : Bool, (!decide (condI b 0 30 = 0)) = true → b = false := by decide
theorem mayOf1 : ∀ b : Bool, (!decide (condI b 0 30 = 0)) = false → b = true := by decide
theorem rnV_in (s : ByteArray) : 0 ≤ rnV s := by
  unfold rnV
  split
  · refine (deB_in _ 0 (fun c hc => ?_) (by decide)).1
    have hc : c ∈ bys s := List.mem_of_mem_drop (List.mem_of_mem_take hc)
    simp only [bys, List.mem_map] at hc
    obtain ⟨b, _, rfl⟩ := hc
    have := UInt8.toNat_lt b
    omega
  · decide
def readC : Con := ⟨[.d true .s], fun ds => (fun (a : D) => [a.str.size ≤ 9223372036854775807, (rkV (bys (tlS a.str))).length ≤ 140737488355326]) (nthD ds 0), [.d valT, .d .s, .d (.i .i64)], fun ds => (fun (a : D) => [rdV a.str, .s (rdR a.str), .i (rdE a.str)]) (nthD ds 0), fun ds => []⟩
def readC_an : Anns := fun _ _ => none
theorem readC_vc (a : D) : (bif decide (a.str = (ByteArray.mk #[])) then EqI 0 (nthD (rdV a.str).tup 0).int ∧ false = (nthD (tailD (rdV a.str).tup) 0).bool ∧ EqI 0 (nthD (tailD (tailD (rdV a.str).tup)) 0).int ∧ (ByteArray.mk #[]) = (nthD (tailD (tailD (tailD (rdV a.str).tup))) 0).str ∧ EqI 0 (nthD (tailD (tailD (tailD (tailD (rdV a.str).tup)))) 0).int ∧ (ByteArray.mk #[]) = rdR a.str ∧ EqI 20 (rdE a.str) else Idx 0 a.str.size ∧ LeI 0 1 ∧ 1 ≤ (↑a.str.size : Int) ∧ LeI 0 1 ∧ 1 ≤ (↑a.str.size : Int) ∧ a.str.extract (Int.toNat 1) a.str.size = a.str.extract (Int.toNat 1) a.str.size ∧ bif decide (byteAt' a.str (Int.toNat 0) = 1) then bif decide (a.str.extract (Int.toNat 1) a.str.size = (ByteArray.mk #[])) then EqI 0 (nthD (rdV a.str).tup 0).int ∧ false = (nthD (tailD (rdV a.str).tup) 0).bool ∧ EqI 0 (nthD (tailD (tailD (rdV a.str).tup)) 0).int ∧ (ByteArray.mk #[]) = (nthD (tailD (tailD (tailD (rdV a.str).tup))) 0).str ∧ EqI 0 (nthD (tailD (tailD (tailD (tailD (rdV a.str).tup)))) 0).int ∧ (ByteArray.mk #[]) = rdR a.str ∧ EqI 20 (rdE a.str) else Idx 0 (a.str.extract (Int.toNat 1) a.str.size).size ∧ bif decide (1 < byteAt' (a.str.extract (Int.toNat 1) a.str.size) (Int.toNat 0)) then EqI 0 (nthD (rdV a.str).tup 0).int ∧ false = (nthD (tailD (rdV a.str).tup) 0).bool ∧ EqI 0 (nthD (tailD (tailD (rdV a.str).tup)) 0).int ∧ (ByteArray.mk #[]) = (nthD (tailD (tailD (tailD (rdV a.str).tup))) 0).str ∧ EqI 0 (nthD (tailD (tailD (tailD (tailD (rdV a.str).tup)))) 0).int ∧ (ByteArray.mk #[]) = rdR a.str ∧ EqI 21 (rdE a.str) else Idx 0 (a.str.extract (Int.toNat 1) a.str.size).size ∧ LeI 0 1 ∧ 1 ≤ (↑(a.str.extract (Int.toNat 1) a.str.size).size : Int) ∧ LeI 0 1 ∧ 1 ≤ (↑(a.str.extract (Int.toNat 1) a.str.size).size : Int) ∧ (a.str.extract (Int.toNat 1) a.str.size).extract (Int.toNat 1) (a.str.extract (Int.toNat 1) a.str.size).size = (a.str.extract (Int.toNat 1) a.str.size).extract (Int.toNat 1) (a.str.extract (Int.toNat 1) a.str.size).size ∧ LeI 0 0 ∧ bif !decide (condI (mayV (D.t [D.i (byteAt' a.str (Int.toNat 0)), D.b (decide (byteAt' (a.str.extract (Int.toNat 1) a.str.size) (Int.toNat 0) = 1)), D.i 0, D.s (ByteArray.mk #[]), D.i 0])) 0 30 = 0) then EqI 0 (nthD (rdV a.str).tup 0).int ∧ false = (nthD (tailD (rdV a.str).tup) 0).bool ∧ EqI 0 (nthD (tailD (tailD (rdV a.str).tup)) 0).int ∧ (ByteArray.mk #[]) = (nthD (tailD (tailD (tailD (rdV a.str).tup))) 0).str ∧ EqI 0 (nthD (tailD (tailD (tailD (tailD (rdV a.str).tup)))) 0).int ∧ (ByteArray.mk #[]) = rdR a.str ∧ condI (mayV (D.t [D.i (byteAt' a.str (Int.toNat 0)), D.b (decide (byteAt' (a.str.extract (Int.toNat 1) a.str.size) (Int.toNat 0) = 1)), D.i 0, D.s (ByteArray.mk #[]), D.i 0])) 0 30 = rdE a.str else byteAt' a.str (Int.toNat 0) = (nthD (rdV a.str).tup 0).int ∧ decide (byteAt' (a.str.extract (Int.toNat 1) a.str.size) (Int.toNat 0) = 1) = (nthD (tailD (rdV a.str).tup) 0).bool ∧ EqI 0 (nthD (tailD (tailD (rdV a.str).tup)) 0).int ∧ (ByteArray.mk #[]) = (nthD (tailD (tailD (tailD (rdV a.str).tup))) 0).str ∧ EqI 0 (nthD (tailD (tailD (tailD (tailD (rdV a.str).tup)))) 0).int ∧ (a.str.extract (Int.toNat 1) a.str.size).extract (Int.toNat 1) (a.str.extract (Int.toNat 1) a.str.size).size = rdR a.str ∧ EqI 0 (rdE a.str) else bif decide (byteAt' a.str (Int.toNat 0) = 2) then (a.str.extract (Int.toNat 1) a.str.size).size ≤ 9223372036854775807 ∧ bif decide (riE (a.str.extract (Int.toNat 1) a.str.size) = 0) then LeI 0 0 ∧ bif !decide (condI (mayV (D.t [D.i (byteAt' a.str (Int.toNat 0)), D.b false, D.i (riV (a.str.extract (Int.toNat 1) a.str.size)), D.s (ByteArray.mk #[]), D.i 0])) 0 30 = 0) then EqI 0 (nthD (rdV a.str).tup 0).int ∧ false = (nthD (tailD (rdV a.str).tup) 0).bool ∧ EqI 0 (nthD (tailD (tailD (rdV a.str).tup)) 0).int ∧ (ByteArray.mk #[]) = (nthD (tailD (tailD (tailD (rdV a.str).tup))) 0).str ∧ EqI 0 (nthD (tailD (tailD (tailD (tailD (rdV a.str).tup)))) 0).int ∧ (ByteArray.mk #[]) = rdR a.str ∧ condI (mayV (D.t [D.i (byteAt' a.str (Int.toNat 0)), D.b false, D.i (riV (a.str.extract (Int.toNat 1) a.str.size)), D.s (ByteArray.mk #[]), D.i 0])) 0 30 = rdE a.str else byteAt' a.str (Int.toNat 0) = (nthD (rdV a.str).tup 0).int ∧ false = (nthD (tailD (rdV a.str).tup) 0).bool ∧ riV (a.str.extract (Int.toNat 1) a.str.size) = (nthD (tailD (tailD (rdV a.str).tup)) 0).int ∧ (ByteArray.mk #[]) = (nthD (tailD (tailD (tailD (rdV a.str).tup))) 0).str ∧ EqI 0 (nthD (tailD (tailD (tailD (tailD (rdV a.str).tup)))) 0).int ∧ riS (a.str.extract (Int.toNat 1) a.str.size) = rdR a.str ∧ EqI 0 (rdE a.str) else bif !decide (riE (a.str.extract (Int.toNat 1) a.str.size) = 0) then EqI 0 (nthD (rdV a.str).tup 0).int ∧ false = (nthD (tailD (rdV a.str).tup) 0).bool ∧ EqI 0 (nthD (tailD (tailD (rdV a.str).tup)) 0).int ∧ (ByteArray.mk #[]) = (nthD (tailD (tailD (tailD (rdV a.str).tup))) 0).str ∧ EqI 0 (nthD (tailD (tailD (tailD (tailD (rdV a.str).tup)))) 0).int ∧ (ByteArray.mk #[]) = rdR a.str ∧ riE (a.str.extract (Int.toNat 1) a.str.size) = rdE a.str else byteAt' a.str (Int.toNat 0) = (nthD (rdV a.str).tup 0).int ∧ false = (nthD (tailD (rdV a.str).tup) 0).bool ∧ riV (a.str.extract (Int.toNat 1) a.str.size) = (nthD (tailD (tailD (rdV a.str).tup)) 0).int ∧ (ByteArray.mk #[]) = (nthD (tailD (tailD (tailD (rdV a.str).tup))) 0).str ∧ EqI 0 (nthD (tailD (tailD (tailD (tailD (rdV a.str).tup)))) 0).int ∧ riS (a.str.extract (Int.toNat 1) a.str.size) = rdR a.str ∧ EqI 0 (rdE a.str) else bif decide (byteAt' a.str (Int.toNat 0) = 3) then (a.str.extract (Int.toNat 1) a.str.size).size ≤ 9223372036854775807 ∧ (rkV (bys (a.str.extract (Int.toNat 1) a.str.size))).length ≤ 140737488355326 ∧ bif decide (rkE (bys (a.str.extract (Int.toNat 1) a.str.size)) = 0) then LeI 0 0 ∧ bif !decide (condI (mayV (D.t [D.i (byteAt' a.str (Int.toNat 0)), D.b false, D.i 0, D.s (rkVs (a.str.extract (Int.toNat 1) a.str.size)), D.i 0])) 0 30 = 0) then EqI 0 (nthD (rdV a.str).tup 0).int ∧ false = (nthD (tailD (rdV a.str).tup) 0).bool ∧ EqI 0 (nthD (tailD (tailD (rdV a.str).tup)) 0).int ∧ (ByteArray.mk #[]) = (nthD (tailD (tailD (tailD (rdV a.str).tup))) 0).str ∧ EqI 0 (nthD (tailD (tailD (tailD (tailD (rdV a.str).tup)))) 0).int ∧ (ByteArray.mk #[]) = rdR a.str ∧ condI (mayV (D.t [D.i (byteAt' a.str (Int.toNat 0)), D.b false, D.i 0, D.s (rkVs (a.str.extract (Int.toNat 1) a.str.size)), D.i 0])) 0 30 = rdE a.str else byteAt' a.str (Int.toNat 0) = (nthD (rdV a.str).tup 0).int ∧ false = (nthD (tailD (rdV a.str).tup) 0).bool ∧ EqI 0 (nthD (tailD (tailD (rdV a.str).tup)) 0).int ∧ rkVs (a.str.extract (Int.toNat 1) a.str.size) = (nthD (tailD (tailD (tailD (rdV a.str).tup))) 0).str ∧ EqI 0 (nthD (tailD (tailD (tailD (tailD (rdV a.str).tup)))) 0).int ∧ rkRs (a.str.extract (Int.toNat 1) a.str.size) = rdR a.str ∧ EqI 0 (rdE a.str) else bif !decide (rkE (bys (a.str.extract (Int.toNat 1) a.str.size)) = 0) then EqI 0 (nthD (rdV a.str).tup 0).int ∧ false = (nthD (tailD (rdV a.str).tup) 0).bool ∧ EqI 0 (nthD (tailD (tailD (rdV a.str).tup)) 0).int ∧ (ByteArray.mk #[]) = (nthD (tailD (tailD (tailD (rdV a.str).tup))) 0).str ∧ EqI 0 (nthD (tailD (tailD (tailD (tailD (rdV a.str).tup)))) 0).int ∧ (ByteArray.mk #[]) = rdR a.str ∧ rkE (bys (a.str.extract (Int.toNat 1) a.str.size)) = rdE a.str else byteAt' a.str (Int.toNat 0) = (nthD (rdV a.str).tup 0).int ∧ false = (nthD (tailD (rdV a.str).tup) 0).bool ∧ EqI 0 (nthD (tailD (tailD (rdV a.str).tup)) 0).int ∧ rkVs (a.str.extract (Int.toNat 1) a.str.size) = (nthD (tailD (tailD (tailD (rdV a.str).tup))) 0).str ∧ EqI 0 (nthD (tailD (tailD (tailD (tailD (rdV a.str).tup)))) 0).int ∧ rkRs (a.str.extract (Int.toNat 1) a.str.size) = rdR a.str ∧ EqI 0 (rdE a.str) else bif decide (byteAt' a.str (Int.toNat 0) = 4) then (a.str.extract (Int.toNat 1) a.str.size).size ≤ 9223372036854775807 ∧ bif decide (rnE (a.str.extract (Int.toNat 1) a.str.size) = 0) then 0 ≤ rnV (a.str.extract (Int.toNat 1) a.str.size) ∧ bif !decide (condI (mayV (D.t [D.i (byteAt' a.str (Int.toNat 0)), D.b false, D.i 0, D.s (ByteArray.mk #[]), D.i (rnV (a.str.extract (Int.toNat 1) a.str.size))])) 0 30 = 0) then EqI 0 (nthD (rdV a.str).tup 0).int ∧ false = (nthD (tailD (rdV a.str).tup) 0).bool ∧ EqI 0 (nthD (tailD (tailD (rdV a.str).tup)) 0).int ∧ (ByteArray.mk #[]) = (nthD (tailD (tailD (tailD (rdV a.str).tup))) 0).str ∧ EqI 0 (nthD (tailD (tailD (tailD (tailD (rdV a.str).tup)))) 0).int ∧ (ByteArray.mk #[]) = rdR a.str ∧ condI (mayV (D.t [D.i (byteAt' a.str (Int.toNat 0)), D.b false, D.i 0, D.s (ByteArray.mk #[]), D.i (rnV (a.str.extract (Int.toNat 1) a.str.size))])) 0 30 = rdE a.str else byteAt' a.str (Int.toNat 0) = (nthD (rdV a.str).tup 0).int ∧ false = (nthD (tailD (rdV a.str).tup) 0).bool ∧ EqI 0 (nthD (tailD (tailD (rdV a.str).tup)) 0).int ∧ (ByteArray.mk #[]) = (nthD (tailD (tailD (tailD (rdV a.str).tup))) 0).str ∧ rnV (a.str.extract (Int.toNat 1) a.str.size) = (nthD (tailD (tailD (tailD (tailD (rdV a.str).tup)))) 0).int ∧ rnS (a.str.extract (Int.toNat 1) a.str.size) = rdR a.str ∧ EqI 0 (rdE a.str) else bif !decide (rnE (a.str.extract (Int.toNat 1) a.str.size) = 0) then EqI 0 (nthD (rdV a.str).tup 0).int ∧ false = (nthD (tailD (rdV a.str).tup) 0).bool ∧ EqI 0 (nthD (tailD (tailD (rdV a.str).tup)) 0).int ∧ (ByteArray.mk #[]) = (nthD (tailD (tailD (tailD (rdV a.str).tup))) 0).str ∧ EqI 0 (nthD (tailD (tailD (tailD (tailD (rdV a.str).tup)))) 0).int ∧ (ByteArray.mk #[]) = rdR a.str ∧ rnE (a.str.extract (Int.toNat 1) a.str.size) = rdE a.str else byteAt' a.str (Int.toNat 0) = (nthD (rdV a.str).tup 0).int ∧ false = (nthD (tailD (rdV a.str).tup) 0).bool ∧ EqI 0 (nthD (tailD (tailD (rdV a.str).tup)) 0).int ∧ (ByteArray.mk #[]) = (nthD (tailD (tailD (tailD (rdV a.str).tup))) 0).str ∧ rnV (a.str.extract (Int.toNat 1) a.str.size) = (nthD (tailD (tailD (tailD (tailD (rdV a.str).tup)))) 0).int ∧ rnS (a.str.extract (Int.toNat 1) a.str.size) = rdR a.str ∧ EqI 0 (rdE a.str) else LeI 0 0 ∧ bif !decide (condI (mayV (D.t [D.i (byteAt' a.str (Int.toNat 0)), D.b false, D.i 0, D.s (ByteArray.mk #[]), D.i 0])) 0 30 = 0) then EqI 0 (nthD (rdV a.str).tup 0).int ∧ false = (nthD (tailD (rdV a.str).tup) 0).bool ∧ EqI 0 (nthD (tailD (tailD (rdV a.str).tup)) 0).int ∧ (ByteArray.mk #[]) = (nthD (tailD (tailD (tailD (rdV a.str).tup))) 0).str ∧ EqI 0 (nthD (tailD (tailD (tailD (tailD (rdV a.str).tup)))) 0).int ∧ (ByteArray.mk #[]) = rdR a.str ∧ condI (mayV (D.t [D.i (byteAt' a.str (Int.toNat 0)), D.b false, D.i 0, D.s (ByteArray.mk #[]), D.i 0])) 0 30 = rdE a.str else byteAt' a.str (Int.toNat 0) = (nthD (rdV a.str).tup 0).int ∧ false = (nthD (tailD (rdV a.str).tup) 0).bool ∧ EqI 0 (nthD (tailD (tailD (rdV a.str).tup)) 0).int ∧ (ByteArray.mk #[]) = (nthD (tailD (tailD (tailD (rdV a.str).tup))) 0).str ∧ EqI 0 (nthD (tailD (tailD (tailD (tailD (rdV a.str).tup)))) 0).int ∧ a.str.extract (Int.toNat 1) a.str.size = rdR a.str ∧ EqI 0 (rdE a.str)) = conGoal Tryz.prog (addS 32 mayVC (addS 10 rnC (addS 31 rkC (addS 30 riC noS)))) readC_an 200 14 readC [a] := by kernel_rfl
set_option maxHeartbeats 2000000 in
theorem readC_ok : ConOK Tryz.prog gl 14 readC := con_of mo (addS_ok mayVC_ok (addS_ok rnC_ok (addS_ok rkC_ok (addS_ok riC_ok (noS_ok _))))) (an := readC_an) 200 fun ds hl hp => by
  obtain ⟨a, rfl⟩ := len1 hl
  rw [← readC_vc]
  have p0 : a.str.size ≤ 9223372036854775807 := hp _ (.head _)
  have p1 : (rkV (bys (tlS a.str))).length ≤ 140737488355326 := hp _ (.tail _ (.head _))
  have z0 : Int.toNat 0 = 0 := rfl
  have z1 : Int.toNat 1 = 1 := rfl
  rw [z0, z1]
  have ht : a.str.extract 1 a.str.size = tlS a.str := rfl
  rw [ht]
  have hts : (tlS a.str).size ≤ 9223372036854775807 := by rw [tlS, ByteArray.size_extract]; omega
  have bad : ∀ e : Int, rdE a.str = e → e ≠ 0 → (EqI 0 (nthD (rdV a.str).tup 0).int ∧ false = (nthD (tailD (rdV a.str).tup) 0).bool ∧ EqI 0 (nthD (tailD (tailD (rdV a.str).tup)) 0).int ∧ (ByteArray.mk #[]) = (nthD (tailD (tailD (tailD (rdV a.str).tup))) 0).str ∧ EqI 0 (nthD (tailD (tailD (tailD (tailD (rdV a.str).tup)))) 0).int ∧ (ByteArray.mk #[]) = rdR a.str ∧ EqI e (rdE a.str)) := fun e he h0 => by
    have hV : rdV a.str = zV := if_neg (by rw [he]; exact h0)
    have hR : rdR a.str = (ByteArray.mk #[]) := if_neg (by rw [he]; exact h0)
    rw [hV, hR, he]; exact ⟨rfl, rfl, rfl, rfl, rfl, rfl, rfl⟩
  have bad0 : ∀ e : Int, rdE0 a.str = e → e ≠ 0 → rdE a.str = e := fun e he h0 => by rw [rdE, if_pos (by rw [he]; exact h0), he]
  have badm : rdE0 a.str = 0 → mayV (rdV0 a.str) = false → rdE a.str = 30 := fun he hm => by rw [rdE, if_neg (by rw [he]; exact fun h => h rfl), if_neg (by rw [hm]; decide)]
  have good : ∀ (k : Int) (b : Bool) (i : Int) (s : ByteArray) (u : Int) (r : ByteArray), rdE0 a.str = 0 → rdV0 a.str = .t [.i k, .b b, .i i, .s s, .i u] → rdR0 a.str = r → mayV (.t [.i k, .b b, .i i, .s s, .i u]) = true → (EqI k (nthD (rdV a.str).tup 0).int ∧ b = (nthD (tailD (rdV a.str).tup) 0).bool ∧ EqI i (nthD (tailD (tailD (rdV a.str).tup)) 0).int ∧ s = (nthD (tailD (tailD (tailD (rdV a.str).tup))) 0).str ∧ EqI u (nthD (tailD (tailD (tailD (tailD (rdV a.str).tup)))) 0).int ∧ r = rdR a.str ∧ EqI 0 (rdE a.str)) := fun k b i s u r he hV hR hm => by
    have hE : rdE a.str = 0 := by rw [rdE, if_neg (by rw [he]; exact fun h => h rfl), hV, if_pos hm]
    have hV' : rdV a.str = .t [.i k, .b b, .i i, .s s, .i u] := by rw [rdV, if_pos hE, hV]
    have hR' : rdR a.str = r := by rw [rdR, if_pos hE, hR]
    rw [hV', hR', hE]; exact ⟨rfl, rfl, rfl, rfl, rfl, rfl, rfl⟩
  refine cond_of (fun c => ?_) (fun c => ?_)
  · have c := of_decide_eq_true c
    exact bad 20 (bad0 20 (by rw [rdE0, if_pos c]) (by decide)) (by decide)
  have c := of_decide_eq_false c
  have hs : 0 < a.str.size := by
    refine Nat.pos_of_ne_zero fun h => c ?_
    exact ByteArray.ext (Array.eq_empty_of_size_eq_zero h)
  
  refine ⟨⟨by decide, by omega⟩, by decide, by omega, by decide, by omega, rfl, cond_of (fun c1 => ?_) (fun c1 => ?_)⟩
  · have c1 := of_decide_eq_true c1
    refine cond_of (fun d => ?_) (fun d => ?_)
    · exact bad 20 (bad0 20 (by rw [rdE0, if_neg c, if_pos c1, if_pos (of_decide_eq_true d)]) (by decide)) (by decide)
    have d := of_decide_eq_false d
    have hs2 : 0 < (tlS a.str).size := by
      refine Nat.pos_of_ne_zero fun h => d ?_
      exact ByteArray.ext (Array.eq_empty_of_size_eq_zero h)
    refine ⟨⟨by decide, by omega⟩, cond_of (fun d2 => ?_) (fun d2 => ?_)⟩
    · exact bad 21 (bad0 21 (by rw [rdE0, if_neg c, if_pos c1, if_neg d, if_pos (of_decide_eq_true d2)]) (by decide)) (by decide)
    have h0 : rdE0 a.str = 0 := by rw [rdE0, if_neg c, if_pos c1, if_neg d, if_neg (of_decide_eq_false d2)]
    have hV : rdV0 a.str = .t [.i (byteAt' a.str 0), .b (decide (byteAt' (tlS a.str) 0 = 1)), .i 0, .s (ByteArray.mk #[]), .i 0] := if_pos c1
    have hR : rdR0 a.str = (tlS a.str).extract 1 (tlS a.str).size := if_pos c1
    refine ⟨⟨by decide, by omega⟩, by decide, by omega, by decide, by omega, rfl, by decide, cond_of (fun m => ?_) (fun m => ?_)⟩
    · have hm := mayOf0 _ m
      rw [hm]
      exact bad 30 (badm h0 (by rw [hV]; exact hm)) (by decide)
    · exact good _ _ _ _ _ _ h0 hV hR (mayOf1 _ m)
  have c1 := of_decide_eq_false c1
  refine cond_of (fun c2 => ?_) (fun c2 => ?_)
  · have c2 := of_decide_eq_true c2
    have hE0 : rdE0 a.str = riE (tlS a.str) := by rw [rdE0, if_neg c, if_neg c1, if_pos c2]
    have hV : rdV0 a.str = .t [.i (byteAt' a.str 0), .b false, .i (riV (tlS a.str)), .s (ByteArray.mk #[]), .i 0] := by rw [rdV0, if_neg c1, if_pos c2]
    have hR : rdR0 a.str = riS (tlS a.str) := by rw [rdR0, if_neg c1, if_pos c2]
    refine ⟨by omega, cond_of (fun d => ⟨by decide, ?_⟩) (fun d => ?_)⟩
    · have d := of_decide_eq_true d
      refine cond_of (fun m => ?_) (fun m => ?_)
      · have hm := mayOf0 _ m
        rw [hm]
        exact bad 30 (badm (hE0.trans d) (by rw [hV]; exact hm)) (by decide)
      · exact good _ _ _ _ _ _ (hE0.trans d) hV hR (mayOf1 _ m)
    · have d := of_decide_eq_false d
      rw [decide_eq_false d]
      exact bad _ (bad0 _ hE0 d) d
  have c2 := of_decide_eq_false c2
  refine cond_of (fun c3 => ?_) (fun c3 => ?_)
  · have c3 := of_decide_eq_true c3
    have hE0 : rdE0 a.str = rkE (bys (tlS a.str)) := by rw [rdE0, if_neg c, if_neg c1, if_neg c2, if_pos c3]
    have hV : rdV0 a.str = .t [.i (byteAt' a.str 0), .b false, .i 0, .s (rkVs (tlS a.str)), .i 0] := by rw [rdV0, if_neg c1, if_neg c2, if_pos c3]
    have hR : rdR0 a.str = rkRs (tlS a.str) := by rw [rdR0, if_neg c1, if_neg c2, if_pos c3]
    refine ⟨by omega, p1, cond_of (fun d => ⟨by decide, ?_⟩) (fun d => ?_)⟩
    · have d := of_decide_eq_true d
      refine cond_of (fun m => ?_) (fun m => ?_)
      · have hm := mayOf0 _ m
        rw [hm]
        exact bad 30 (badm (hE0.trans d) (by rw [hV]; exact hm)) (by decide)
      · exact good _ _ _ _ _ _ (hE0.trans d) hV hR (mayOf1 _ m)
    · have d := of_decide_eq_false d
      rw [decide_eq_false d]
      exact bad _ (bad0 _ hE0 d) d
  have c3 := of_decide_eq_false c3
  refine cond_of (fun c4 => ?_) (fun c4 => ?_)
  · have c4 := of_decide_eq_true c4
    have hE0 : rdE0 a.str = rnE (tlS a.str) := by rw [rdE0, if_neg c, if_neg c1, if_neg c2, if_neg c3, if_pos c4]
    have hV : rdV0 a.str = .t [.i (byteAt' a.str 0), .b false, .i 0, .s (ByteArray.mk #[]), .i (rnV (tlS a.str))] := by rw [rdV0, if_neg c1, if_neg c2, if_neg c3]
    have hR : rdR0 a.str = rnS (tlS a.str) := by rw [rdR0, if_neg c1, if_neg c2, if_neg c3]
    refine ⟨by omega, cond_of (fun d => ⟨rnV_in _, ?_⟩) (fun d => ?_)⟩
    · have d := of_decide_eq_true d
      refine cond_of (fun m => ?_) (fun m => ?_)
      · have hm := mayOf0 _ m
        rw [hm]
        exact bad 30 (badm (hE0.trans d) (by rw [hV]; exact hm)) (by decide)
      · exact good _ _ _ _ _ _ (hE0.trans d) hV hR (mayOf1 _ m)
    · have d := of_decide_eq_false d
      rw [decide_eq_false d]
      exact bad _ (bad0 _ hE0 d) d
  have c4 := of_decide_eq_false c4
  have hm : mayV (.t [.i (byteAt' a.str 0), .b false, .i 0, .s (ByteArray.mk #[]), .i 0]) = false := (if_neg c1).trans ((if_neg c2).trans ((if_neg c3).trans (if_neg c4)))
  rw [hm]
  exact ⟨by decide, bad 30 (bad0 30 (by rw [rdE0, if_neg c, if_neg c1, if_neg c2, if_neg c3, if_neg c4]) (by decide)) (by decide)⟩
def rreadC : Con := ⟨[.d true .s], fun ds => (fun (a : D) => [a.str.size ≤ 140737488355327]) (nthD ds 0), [.d valT, .d .s, .d (.i .i64)], fun ds => (fun (a : D) => [rdV a.str, .s (rdR a.str), .i (rdE a.str)]) (nthD ds 0), fun ds => []⟩
def rreadC_an : Anns := fun _ _ => none
theorem rreadC_vc (a : D) : (bif decide (a.str = (ByteArray.mk #[])) then EqI 0 (nthD (rdV a.str).tup 0).int ∧ false = (nthD (tailD (rdV a.str).tup) 0).bool ∧ EqI 0 (nthD (tailD (tailD (rdV a.str).tup)) 0).int ∧ (ByteArray.mk #[]) = (nthD (tailD (tailD (tailD (rdV a.str).tup))) 0).str ∧ EqI 0 (nthD (tailD (tailD (tailD (tailD (rdV a.str).tup)))) 0).int ∧ (ByteArray.mk #[]) = rdR a.str ∧ EqI 20 (rdE a.str) else Idx 0 a.str.size ∧ LeI 0 1 ∧ 1 ≤ (↑a.str.size : Int) ∧ bif decide (byteAt' a.str (Int.toNat 0) = 1) then bif decide (a.str.extract (Int.toNat 1) a.str.size = (ByteArray.mk #[])) then EqI 0 (nthD (rdV a.str).tup 0).int ∧ false = (nthD (tailD (rdV a.str).tup) 0).bool ∧ EqI 0 (nthD (tailD (tailD (rdV a.str).tup)) 0).int ∧ (ByteArray.mk #[]) = (nthD (tailD (tailD (tailD (rdV a.str).tup))) 0).str ∧ EqI 0 (nthD (tailD (tailD (tailD (tailD (rdV a.str).tup)))) 0).int ∧ (ByteArray.mk #[]) = rdR a.str ∧ EqI 20 (rdE a.str) else Idx 0 (a.str.extract (Int.toNat 1) a.str.size).size ∧ bif decide (1 < byteAt' (a.str.extract (Int.toNat 1) a.str.size) (Int.toNat 0)) then EqI 0 (nthD (rdV a.str).tup 0).int ∧ false = (nthD (tailD (rdV a.str).tup) 0).bool ∧ EqI 0 (nthD (tailD (tailD (rdV a.str).tup)) 0).int ∧ (ByteArray.mk #[]) = (nthD (tailD (tailD (tailD (rdV a.str).tup))) 0).str ∧ EqI 0 (nthD (tailD (tailD (tailD (tailD (rdV a.str).tup)))) 0).int ∧ (ByteArray.mk #[]) = rdR a.str ∧ EqI 21 (rdE a.str) else Idx 0 (a.str.extract (Int.toNat 1) a.str.size).size ∧ LeI 0 1 ∧ 1 ≤ (↑(a.str.extract (Int.toNat 1) a.str.size).size : Int) ∧ bif !mayV (D.t [D.i (byteAt' a.str (Int.toNat 0)), D.b (decide (byteAt' (a.str.extract (Int.toNat 1) a.str.size) (Int.toNat 0) = 1)), D.i 0, D.s (ByteArray.mk #[]), D.i 0]) then EqI 0 (nthD (rdV a.str).tup 0).int ∧ false = (nthD (tailD (rdV a.str).tup) 0).bool ∧ EqI 0 (nthD (tailD (tailD (rdV a.str).tup)) 0).int ∧ (ByteArray.mk #[]) = (nthD (tailD (tailD (tailD (rdV a.str).tup))) 0).str ∧ EqI 0 (nthD (tailD (tailD (tailD (tailD (rdV a.str).tup)))) 0).int ∧ (ByteArray.mk #[]) = rdR a.str ∧ EqI 30 (rdE a.str) else byteAt' a.str (Int.toNat 0) = (nthD (rdV a.str).tup 0).int ∧ decide (byteAt' (a.str.extract (Int.toNat 1) a.str.size) (Int.toNat 0) = 1) = (nthD (tailD (rdV a.str).tup) 0).bool ∧ EqI 0 (nthD (tailD (tailD (rdV a.str).tup)) 0).int ∧ (ByteArray.mk #[]) = (nthD (tailD (tailD (tailD (rdV a.str).tup))) 0).str ∧ EqI 0 (nthD (tailD (tailD (tailD (tailD (rdV a.str).tup)))) 0).int ∧ (a.str.extract (Int.toNat 1) a.str.size).extract (Int.toNat 1) (a.str.extract (Int.toNat 1) a.str.size).size = rdR a.str ∧ EqI 0 (rdE a.str) else bif decide (byteAt' a.str (Int.toNat 0) = 2) then (a.str.extract (Int.toNat 1) a.str.size).size ≤ 9223372036854775807 ∧ bif !decide (riE (a.str.extract (Int.toNat 1) a.str.size) = 0) then EqI 0 (nthD (rdV a.str).tup 0).int ∧ false = (nthD (tailD (rdV a.str).tup) 0).bool ∧ EqI 0 (nthD (tailD (tailD (rdV a.str).tup)) 0).int ∧ (ByteArray.mk #[]) = (nthD (tailD (tailD (tailD (rdV a.str).tup))) 0).str ∧ EqI 0 (nthD (tailD (tailD (tailD (tailD (rdV a.str).tup)))) 0).int ∧ (ByteArray.mk #[]) = rdR a.str ∧ riE (a.str.extract (Int.toNat 1) a.str.size) = rdE a.str else bif !mayV (D.t [D.i (byteAt' a.str (Int.toNat 0)), D.b false, D.i (riV (a.str.extract (Int.toNat 1) a.str.size)), D.s (ByteArray.mk #[]), D.i 0]) then EqI 0 (nthD (rdV a.str).tup 0).int ∧ false = (nthD (tailD (rdV a.str).tup) 0).bool ∧ EqI 0 (nthD (tailD (tailD (rdV a.str).tup)) 0).int ∧ (ByteArray.mk #[]) = (nthD (tailD (tailD (tailD (rdV a.str).tup))) 0).str ∧ EqI 0 (nthD (tailD (tailD (tailD (tailD (rdV a.str).tup)))) 0).int ∧ (ByteArray.mk #[]) = rdR a.str ∧ EqI 30 (rdE a.str) else byteAt' a.str (Int.toNat 0) = (nthD (rdV a.str).tup 0).int ∧ false = (nthD (tailD (rdV a.str).tup) 0).bool ∧ riV (a.str.extract (Int.toNat 1) a.str.size) = (nthD (tailD (tailD (rdV a.str).tup)) 0).int ∧ (ByteArray.mk #[]) = (nthD (tailD (tailD (tailD (rdV a.str).tup))) 0).str ∧ EqI 0 (nthD (tailD (tailD (tailD (tailD (rdV a.str).tup)))) 0).int ∧ riS (a.str.extract (Int.toNat 1) a.str.size) = rdR a.str ∧ EqI 0 (rdE a.str) else bif decide (byteAt' a.str (Int.toNat 0) = 3) then (a.str.extract (Int.toNat 1) a.str.size).size ≤ 140737488355327 ∧ bif !decide (rkE (bys (a.str.extract (Int.toNat 1) a.str.size)) = 0) then EqI 0 (nthD (rdV a.str).tup 0).int ∧ false = (nthD (tailD (rdV a.str).tup) 0).bool ∧ EqI 0 (nthD (tailD (tailD (rdV a.str).tup)) 0).int ∧ (ByteArray.mk #[]) = (nthD (tailD (tailD (tailD (rdV a.str).tup))) 0).str ∧ EqI 0 (nthD (tailD (tailD (tailD (tailD (rdV a.str).tup)))) 0).int ∧ (ByteArray.mk #[]) = rdR a.str ∧ rkE (bys (a.str.extract (Int.toNat 1) a.str.size)) = rdE a.str else bif !mayV (D.t [D.i (byteAt' a.str (Int.toNat 0)), D.b false, D.i 0, D.s (rkVs (a.str.extract (Int.toNat 1) a.str.size)), D.i 0]) then EqI 0 (nthD (rdV a.str).tup 0).int ∧ false = (nthD (tailD (rdV a.str).tup) 0).bool ∧ EqI 0 (nthD (tailD (tailD (rdV a.str).tup)) 0).int ∧ (ByteArray.mk #[]) = (nthD (tailD (tailD (tailD (rdV a.str).tup))) 0).str ∧ EqI 0 (nthD (tailD (tailD (tailD (tailD (rdV a.str).tup)))) 0).int ∧ (ByteArray.mk #[]) = rdR a.str ∧ EqI 30 (rdE a.str) else byteAt' a.str (Int.toNat 0) = (nthD (rdV a.str).tup 0).int ∧ false = (nthD (tailD (rdV a.str).tup) 0).bool ∧ EqI 0 (nthD (tailD (tailD (rdV a.str).tup)) 0).int ∧ rkVs (a.str.extract (Int.toNat 1) a.str.size) = (nthD (tailD (tailD (tailD (rdV a.str).tup))) 0).str ∧ EqI 0 (nthD (tailD (tailD (tailD (tailD (rdV a.str).tup)))) 0).int ∧ rkRs (a.str.extract (Int.toNat 1) a.str.size) = rdR a.str ∧ EqI 0 (rdE a.str) else bif decide (byteAt' a.str (Int.toNat 0) = 4) then (a.str.extract (Int.toNat 1) a.str.size).size ≤ 9223372036854775807 ∧ bif !decide (rnE (a.str.extract (Int.toNat 1) a.str.size) = 0) then EqI 0 (nthD (rdV a.str).tup 0).int ∧ false = (nthD (tailD (rdV a.str).tup) 0).bool ∧ EqI 0 (nthD (tailD (tailD (rdV a.str).tup)) 0).int ∧ (ByteArray.mk #[]) = (nthD (tailD (tailD (tailD (rdV a.str).tup))) 0).str ∧ EqI 0 (nthD (tailD (tailD (tailD (tailD (rdV a.str).tup)))) 0).int ∧ (ByteArray.mk #[]) = rdR a.str ∧ rnE (a.str.extract (Int.toNat 1) a.str.size) = rdE a.str else bif !mayV (D.t [D.i (byteAt' a.str (Int.toNat 0)), D.b false, D.i 0, D.s (ByteArray.mk #[]), D.i (rnV (a.str.extract (Int.toNat 1) a.str.size))]) then EqI 0 (nthD (rdV a.str).tup 0).int ∧ false = (nthD (tailD (rdV a.str).tup) 0).bool ∧ EqI 0 (nthD (tailD (tailD (rdV a.str).tup)) 0).int ∧ (ByteArray.mk #[]) = (nthD (tailD (tailD (tailD (rdV a.str).tup))) 0).str ∧ EqI 0 (nthD (tailD (tailD (tailD (tailD (rdV a.str).tup)))) 0).int ∧ (ByteArray.mk #[]) = rdR a.str ∧ EqI 30 (rdE a.str) else byteAt' a.str (Int.toNat 0) = (nthD (rdV a.str).tup 0).int ∧ false = (nthD (tailD (rdV a.str).tup) 0).bool ∧ EqI 0 (nthD (tailD (tailD (rdV a.str).tup)) 0).int ∧ (ByteArray.mk #[]) = (nthD (tailD (tailD (tailD (rdV a.str).tup))) 0).str ∧ rnV (a.str.extract (Int.toNat 1) a.str.size) = (nthD (tailD (tailD (tailD (tailD (rdV a.str).tup)))) 0).int ∧ rnS (a.str.extract (Int.toNat 1) a.str.size) = rdR a.str ∧ EqI 0 (rdE a.str) else EqI 0 (nthD (rdV a.str).tup 0).int ∧ false = (nthD (tailD (rdV a.str).tup) 0).bool ∧ EqI 0 (nthD (tailD (tailD (rdV a.str).tup)) 0).int ∧ (ByteArray.mk #[]) = (nthD (tailD (tailD (tailD (rdV a.str).tup))) 0).str ∧ EqI 0 (nthD (tailD (tailD (tailD (tailD (rdV a.str).tup)))) 0).int ∧ (ByteArray.mk #[]) = rdR a.str ∧ EqI 30 (rdE a.str)) = conGoal Tryz.prog (addS 37 rmayVC (addS 17 rrnC (addS 36 rrkC (addS 35 rriC noS)))) rreadC_an 200 19 rreadC [a] := by kernel_rfl
set_option maxHeartbeats 2000000 in
theorem rreadC_ok : ConOK Tryz.prog gl 19 rreadC := con_of mo (addS_ok rmayVC_ok (addS_ok rrnC_ok (addS_ok rrkC_ok (addS_ok rriC_ok (noS_ok _))))) (an := rreadC_an) 200 fun ds hl hp => by
  obtain ⟨a, rfl⟩ := len1 hl
  rw [← rreadC_vc]
  have p0 : a.str.size ≤ 140737488355327 := hp _ (.head _)
  have z0 : Int.toNat 0 = 0 := rfl
  have z1 : Int.toNat 1 = 1 := rfl
  rw [z0, z1]
  have ht : a.str.extract 1 a.str.size = tlS a.str := rfl
  rw [ht]
  have hts : (tlS a.str).size ≤ 140737488355327 := by rw [tlS, ByteArray.size_extract]; omega
  have bad : ∀ e : Int, rdE a.str = e → e ≠ 0 → (EqI 0 (nthD (rdV a.str).tup 0).int ∧ false = (nthD (tailD (rdV a.str).tup) 0).bool ∧ EqI 0 (nthD (tailD (tailD (rdV a.str).tup)) 0).int ∧ (ByteArray.mk #[]) = (nthD (tailD (tailD (tailD (rdV a.str).tup))) 0).str ∧ EqI 0 (nthD (tailD (tailD (tailD (tailD (rdV a.str).tup)))) 0).int ∧ (ByteArray.mk #[]) = rdR a.str ∧ EqI e (rdE a.str)) := fun e he h0 => by
    have hV : rdV a.str = zV := if_neg (by rw [he]; exact h0)
    have hR : rdR a.str = (ByteArray.mk #[]) := if_neg (by rw [he]; exact h0)
    rw [hV, hR, he]; exact ⟨rfl, rfl, rfl, rfl, rfl, rfl, rfl⟩
  have bad0 : ∀ e : Int, rdE0 a.str = e → e ≠ 0 → rdE a.str = e := fun e he h0 => by rw [rdE, if_pos (by rw [he]; exact h0), he]
  have badm : rdE0 a.str = 0 → mayV (rdV0 a.str) = false → rdE a.str = 30 := fun he hm => by rw [rdE, if_neg (by rw [he]; exact fun h => h rfl), if_neg (by rw [hm]; decide)]
  have good : ∀ (k : Int) (b : Bool) (i : Int) (s : ByteArray) (u : Int) (r : ByteArray), rdE0 a.str = 0 → rdV0 a.str = .t [.i k, .b b, .i i, .s s, .i u] → rdR0 a.str = r → mayV (.t [.i k, .b b, .i i, .s s, .i u]) = true → (EqI k (nthD (rdV a.str).tup 0).int ∧ b = (nthD (tailD (rdV a.str).tup) 0).bool ∧ EqI i (nthD (tailD (tailD (rdV a.str).tup)) 0).int ∧ s = (nthD (tailD (tailD (tailD (rdV a.str).tup))) 0).str ∧ EqI u (nthD (tailD (tailD (tailD (tailD (rdV a.str).tup)))) 0).int ∧ r = rdR a.str ∧ EqI 0 (rdE a.str)) := fun k b i s u r he hV hR hm => by
    have hE : rdE a.str = 0 := by rw [rdE, if_neg (by rw [he]; exact fun h => h rfl), hV, if_pos hm]
    have hV' : rdV a.str = .t [.i k, .b b, .i i, .s s, .i u] := by rw [rdV, if_pos hE, hV]
    have hR' : rdR a.str = r := by rw [rdR, if_pos hE, hR]
    rw [hV', hR', hE]; exact ⟨rfl, rfl, rfl, rfl, rfl, rfl, rfl⟩
  refine cond_of (fun c => ?_) (fun c => ?_)
  · have c := of_decide_eq_true c
    exact bad 20 (bad0 20 (by rw [rdE0, if_pos c]) (by decide)) (by decide)
  have c := of_decide_eq_false c
  have hs : 0 < a.str.size := by
    refine Nat.pos_of_ne_zero fun h => c ?_
    exact ByteArray.ext (Array.eq_empty_of_size_eq_zero h)
  
  refine ⟨⟨by decide, by omega⟩, by decide, by omega, cond_of (fun c1 => ?_) (fun c1 => ?_)⟩
  · have c1 := of_decide_eq_true c1
    refine cond_of (fun d => ?_) (fun d => ?_)
    · exact bad 20 (bad0 20 (by rw [rdE0, if_neg c, if_pos c1, if_pos (of_decide_eq_true d)]) (by decide)) (by decide)
    have d := of_decide_eq_false d
    have hs2 : 0 < (tlS a.str).size := by
      refine Nat.pos_of_ne_zero fun h => d ?_
      exact ByteArray.ext (Array.eq_empty_of_size_eq_zero h)
    refine ⟨⟨by decide, by omega⟩, cond_of (fun d2 => ?_) (fun d2 => ?_)⟩
    · exact bad 21 (bad0 21 (by rw [rdE0, if_neg c, if_pos c1, if_neg d, if_pos (of_decide_eq_true d2)]) (by decide)) (by decide)
    have h0 : rdE0 a.str = 0 := by rw [rdE0, if_neg c, if_pos c1, if_neg d, if_neg (of_decide_eq_false d2)]
    have hV : rdV0 a.str = .t [.i (byteAt' a.str 0), .b (decide (byteAt' (tlS a.str) 0 = 1)), .i 0, .s (ByteArray.mk #[]), .i 0] := if_pos c1
    have hR : rdR0 a.str = (tlS a.str).extract 1 (tlS a.str).size := if_pos c1
    refine ⟨⟨by decide, by omega⟩, by decide, by omega, cond_of (fun m => ?_) (fun m => ?_)⟩
    · exact bad 30 (badm h0 (by rw [hV]; simpa using m)) (by decide)
    · exact good _ _ _ _ _ _ h0 hV hR (by simpa using m)
  have c1 := of_decide_eq_false c1
  refine cond_of (fun c2 => ?_) (fun c2 => ?_)
  · have c2 := of_decide_eq_true c2
    have hE0 : rdE0 a.str = riE (tlS a.str) := by rw [rdE0, if_neg c, if_neg c1, if_pos c2]
    have hV : rdV0 a.str = .t [.i (byteAt' a.str 0), .b false, .i (riV (tlS a.str)), .s (ByteArray.mk #[]), .i 0] := by rw [rdV0, if_neg c1, if_pos c2]
    have hR : rdR0 a.str = riS (tlS a.str) := by rw [rdR0, if_neg c1, if_pos c2]
    refine ⟨by omega, cond_of (fun d => ?_) (fun d => ?_)⟩
    · have d : ¬ riE (tlS a.str) = 0 := by simpa using d
      exact bad _ (bad0 _ hE0 d) d
    have d : riE (tlS a.str) = 0 := by simpa using d
    refine cond_of (fun m => ?_) (fun m => ?_)
    · exact bad 30 (badm (hE0.trans d) (by rw [hV]; simpa using m)) (by decide)
    · exact good _ _ _ _ _ _ (hE0.trans d) hV hR (by simpa using m)
  have c2 := of_decide_eq_false c2
  refine cond_of (fun c3 => ?_) (fun c3 => ?_)
  · have c3 := of_decide_eq_true c3
    have hE0 : rdE0 a.str = rkE (bys (tlS a.str)) := by rw [rdE0, if_neg c, if_neg c1, if_neg c2, if_pos c3]
    have hV : rdV0 a.str = .t [.i (byteAt' a.str 0), .b false, .i 0, .s (rkVs (tlS a.str)), .i 0] := by rw [rdV0, if_neg c1, if_neg c2, if_pos c3]
    have hR : rdR0 a.str = rkRs (tlS a.str) := by rw [rdR0, if_neg c1, if_neg c2, if_pos c3]
    refine ⟨by omega, cond_of (fun d => ?_) (fun d => ?_)⟩
    · have d : ¬ rkE (bys (tlS a.str)) = 0 := by simpa using d
      exact bad _ (bad0 _ hE0 d) d
    have d : rkE (bys (tlS a.str)) = 0 := by simpa using d
    refine cond_of (fun m => ?_) (fun m => ?_)
    · exact bad 30 (badm (hE0.trans d) (by rw [hV]; simpa using m)) (by decide)
    · exact good _ _ _ _ _ _ (hE0.trans d) hV hR (by simpa using m)
  have c3 := of_decide_eq_false c3
  refine cond_of (fun c4 => ?_) (fun c4 => ?_)
  · have c4 := of_decide_eq_true c4
    have hE0 : rdE0 a.str = rnE (tlS a.str) := by rw [rdE0, if_neg c, if_neg c1, if_neg c2, if_neg c3, if_pos c4]
    have hV : rdV0 a.str = .t [.i (byteAt' a.str 0), .b false, .i 0, .s (ByteArray.mk #[]), .i (rnV (tlS a.str))] := by rw [rdV0, if_neg c1, if_neg c2, if_neg c3]
    have hR : rdR0 a.str = rnS (tlS a.str) := by rw [rdR0, if_neg c1, if_neg c2, if_neg c3]
    refine ⟨by omega, cond_of (fun d => ?_) (fun d => ?_)⟩
    · have d : ¬ rnE (tlS a.str) = 0 := by simpa using d
      exact bad _ (bad0 _ hE0 d) d
    have d : rnE (tlS a.str) = 0 := by simpa using d
    refine cond_of (fun m => ?_) (fun m => ?_)
    · exact bad 30 (badm (hE0.trans d) (by rw [hV]; simpa using m)) (by decide)
    · exact good _ _ _ _ _ _ (hE0.trans d) hV hR (by simpa using m)
  · have c4 := of_decide_eq_false c4
    exact bad 30 (bad0 30 (by rw [rdE0, if_neg c, if_neg c1, if_neg c2, if_neg c3, if_neg c4]) (by decide)) (by decide)
end Go.Proofs.YtbbjonjhaoeidaaGreatDoor.XT
