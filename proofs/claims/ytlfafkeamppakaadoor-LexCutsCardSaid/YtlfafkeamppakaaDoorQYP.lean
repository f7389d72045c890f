/- Contracts, by the symbolic evaluator. -/
import Derived.Test.YtlfafkeamppakaaDoorQY8
import Derived.Test.YtlfafkeamppakaaDoorProg
set_option linter.unusedVariables false
set_option linter.unusedSimpArgs false
namespace Go.Proofs.YtlfafkeamppakaaDoor.XT
open Go Go.RowKit Go.Proofs.YtlfafkeamppakaaDoor.Sv
set_option maxRecDepth 100000
def lxkpC : Con := ⟨[.p (.t [.s, (.i .i64)]), .d true (.i .i64)], fun ds => (fun (a : D) (b : D) => [0 ≤ (D.int (D.fld a 1)), (D.int (D.fld a 1)) ≤ ((D.str (D.fld a 0))).size, ((D.str (D.fld a 0))).size ≤ 1099511627776, 0 ≤ b.int, b.int ≤ 1]) (nthD ds 0) (nthD ds 1), [.d (.i .u8)], fun ds => (fun (a : D) (b : D) => [.i ((rst a).getD b.int.toNat 0)]) (nthD ds 0) (nthD ds 1), fun ds => []⟩
def lxkpC_an : Anns := fun _ _ => none
theorem lxkpC_vc (a b : D) : (I64 ((a.fld 1).int + b.int) ∧ bif decide ((↑(a.fld 0).str.size : Int) ≤ (a.fld 1).int + b.int) then EqI 0 ((rst a).getD b.int.toNat 0) else I64 ((a.fld 1).int + b.int) ∧ Idx ((a.fld 1).int + b.int) (a.fld 0).str.size ∧ byteAt' (a.fld 0).str ((a.fld 1).int + b.int).toNat = (rst a).getD b.int.toNat 0) = conGoal Tryd.prog noS lxkpC_an 200 30 lxkpC [a, b] := by kernel_rfl
theorem lxkpC_ok : ConOK Tryd.prog gl 30 lxkpC := con_of mo (noS_ok _) (an := lxkpC_an) 200 fun ds hl hp => by
  obtain ⟨a, b, rfl⟩ := len2 hl
  rw [← lxkpC_vc]
  have p0 : 0 ≤ (D.int (D.fld a 1)) := hp _ (.head _)
  have p1 : (D.int (D.fld a 1)) ≤ ((D.str (D.fld a 0))).size := hp _ (.tail _ (.head _))
  have p2 : ((D.str (D.fld a 0))).size ≤ 1099511627776 := hp _ (.tail _ (.tail _ (.head _)))
  have p3 : 0 ≤ b.int := hp _ (.tail _ (.tail _ (.tail _ (.head _))))
  have p4 : b.int ≤ 1 := hp _ (.tail _ (.tail _ (.tail _ (.tail _ (.head _)))))
  obtain ⟨p, hp⟩ := Int.eq_ofNat_of_zero_le p0
  obtain ⟨k, hk⟩ := Int.eq_ofNat_of_zero_le p3
  rw [hp] at p1
  rw [hk] at p4
  have hL : rst a = (bys ((D.str (D.fld a 0)))).drop p := by rw [rst, hp, Int.toNat_natCast]
  rw [hL, hp, hk, Int.toNat_natCast]
  have t : ((p : Int) + (k : Int)).toNat = p + k := by omega
  rw [t]
  refine ⟨⟨by omega, by omega⟩, cond_of (fun c => ?_) (fun c => ?_)⟩
  · have c := of_decide_eq_true c
    have hl : ((bys ((D.str (D.fld a 0)))).drop p).length ≤ k := by rw [List.length_drop, bys_length]; omega
    rw [List.getD_eq_getElem?_getD, List.getElem?_eq_none hl]; rfl
  · have c := of_decide_eq_false c
    exact ⟨⟨by omega, by omega⟩, ⟨by omega, by omega⟩, (getD_drop (by omega)).symm⟩
def lxkdpC : Con := ⟨[.p (.t [.s, (.i .i64)])], fun ds => (fun (a : D) => [0 ≤ (D.int (D.fld a 1)), (D.int (D.fld a 1)) ≤ ((D.str (D.fld a 0))).size, ((D.str (D.fld a 0))).size ≤ 1099511627776]) (nthD ds 0), [.d (.i .u8)], fun ds => (fun (a : D) => [.i (kdL (rst a))]) (nthD ds 0), fun ds => []⟩
def lxkdpC_an : Anns := fun _ _ => none
theorem lxkdpC_vc (a : D) : (0 ≤ (a.fld 1).int ∧ (a.fld 1).int ≤ (↑(a.fld 0).str.size : Int) ∧ (a.fld 0).str.size ≤ 1099511627776 ∧ LeI 0 0 ∧ LeI 0 1 ∧ bif bgC ((rst a).getD (Int.toNat 0) 0) then EqI 1 (kdL (rst a)) else (decide ((rst a).getD (Int.toNat 0) 0 = 48) = true → 0 ≤ (a.fld 1).int ∧ (a.fld 1).int ≤ (↑(a.fld 0).str.size : Int) ∧ (a.fld 0).str.size ≤ 1099511627776 ∧ LeI 0 1 ∧ LeI 1 1) ∧ bif decide ((rst a).getD (Int.toNat 0) 0 = 48) && decide ((rst a).getD (Int.toNat 1) 0 = 120) then EqI 3 (kdL (rst a)) else bif dgC ((rst a).getD (Int.toNat 0) 0) then bif dgC ((rst a).getD (Int.toNat 0) 0) then EqI 2 (kdL (rst a)) else bif decide ((rst a).getD (Int.toNat 0) 0 = 34) then EqI 4 (kdL (rst a)) else bif !decide ((rst a).getD (Int.toNat 0) 0 = 0) && decide (0 ≤ Lib.indexByte (ByteArray.mk #[123, 125, 40, 41, 58, 44, 64, 126, 45]).data.toList ((rst a).getD (Int.toNat 0) 0).toNat.toUInt8) then EqI 5 (kdL (rst a)) else EqI 0 (kdL (rst a)) else (decide ((rst a).getD (Int.toNat 0) 0 = 45) = true → 0 ≤ (a.fld 1).int ∧ (a.fld 1).int ≤ (↑(a.fld 0).str.size : Int) ∧ (a.fld 0).str.size ≤ 1099511627776 ∧ LeI 0 1 ∧ LeI 1 1) ∧ bif decide ((rst a).getD (Int.toNat 0) 0 = 45) && dgC ((rst a).getD (Int.toNat 1) 0) then EqI 2 (kdL (rst a)) else bif decide ((rst a).getD (Int.toNat 0) 0 = 34) then EqI 4 (kdL (rst a)) else bif !decide ((rst a).getD (Int.toNat 0) 0 = 0) && decide (0 ≤ Lib.indexByte (ByteArray.mk #[123, 125, 40, 41, 58, 44, 64, 126, 45]).data.toList ((rst a).getD (Int.toNat 0) 0).toNat.toUInt8) then EqI 5 (kdL (rst a)) else EqI 0 (kdL (rst a))) = conGoal Tryd.prog (addS 33 idxBC (addS 32 lxdC (addS 31 lxbC (addS 30 lxkpC noS)))) lxkdpC_an 200 22 lxkdpC [a] := by kernel_rfl
set_option maxHeartbeats 1000000 in
theorem lxkdpC_ok : ConOK Tryd.prog gl 22 lxkdpC := con_of mo (addS_ok idxBC_ok (addS_ok lxdC_ok (addS_ok lxbC_ok (addS_ok lxkpC_ok (noS_ok _))))) (an := lxkdpC_an) 200 fun ds hl hp => by
  obtain ⟨a, rfl⟩ := len1 hl
  rw [← lxkdpC_vc]
  have p0 : 0 ≤ (D.int (D.fld a 1)) := hp _ (.head _)
  have p1 : (D.int (D.fld a 1)) ≤ ((D.str (D.fld a 0))).size := hp _ (.tail _ (.head _))
  have p2 : ((D.str (D.fld a 0))).size ≤ 1099511627776 := hp _ (.tail _ (.tail _ (.head _)))
  have z0 : Int.toNat 0 = 0 := rfl
  have z1 : Int.toNat 1 = 1 := rfl
  rw [z0, z1]
  obtain ⟨b0, b1⟩ := rst_byte a 0
  have hi := sg_idx b0 b1
  rw [hi]
  have hk : kdL (rst a) = if bgC ((rst a).getD 0 0) = true then 1 else if (rst a).getD 0 0 = 48 ∧ (rst a).getD 1 0 = 120 then 3 else if dgC ((rst a).getD 0 0) = true ∨ (rst a).getD 0 0 = 45 ∧ dgC ((rst a).getD 1 0) = true then 2 else if (rst a).getD 0 0 = 34 then 4 else if sgC ((rst a).getD 0 0) = true then 5 else 0 := rfl
  generalize kdL (rst a) = K at hk ⊢
  generalize (rst a).getD 0 0 = c0 at *
  generalize (rst a).getD 1 0 = c1 at *
  have tt : K = (if c0 = 34 then 4 else if sgC c0 = true then 5 else 0) → (bif decide (c0 = 34) then EqI 4 K else bif sgC c0 then EqI 5 K else EqI 0 K) := fun h => by
    rw [h]
    refine cond_of (fun e => ?_) (fun e => cond_of (fun f => ?_) (fun f => ?_))
    · show 4 = _; rw [if_pos (of_decide_eq_true e)]
    · show 5 = _; rw [if_neg (of_decide_eq_false e), if_pos f]
    · show 0 = _; rw [if_neg (of_decide_eq_false e), if_neg (by rw [f]; decide)]
  refine ⟨p0, p1, p2, by decide, by decide, cond_of (fun c => ?_) (fun c => ?_)⟩
  · show 1 = K; rw [hk, if_pos c]
  rw [if_neg (by rw [c]; decide)] at hk
  refine ⟨fun _ => ⟨p0, p1, p2, by decide, by decide⟩, cond_of (fun e => ?_) (fun e => ?_)⟩
  · simp only [Bool.and_eq_true, decide_eq_true_eq] at e
    show 3 = K; rw [hk, if_pos e]
  rw [if_neg (fun h => by rw [decide_eq_true h.1, decide_eq_true h.2] at e; cases e)] at hk
  refine cond_of (fun d => cond_of (fun _ => ?_) (fun f => absurd d (by rw [f]; decide))) (fun d => ⟨fun _ => ⟨p0, p1, p2, by decide, by decide⟩, cond_of (fun f => ?_) (fun f => tt ?_)⟩)
  · show 2 = K; rw [hk, if_pos (.inl d)]
  · simp only [Bool.and_eq_true, decide_eq_true_eq] at f
    show 2 = K; rw [hk, if_pos (.inr f)]
  · rw [hk, if_neg]
    rintro (k | k)
    · rw [d] at k; cases k
    · rw [decide_eq_true k.1, k.2] at f; cases f
end Go.Proofs.YtlfafkeamppakaaDoor.XT
