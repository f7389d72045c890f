/- Contracts, by the symbolic evaluator. -/
import Derived.Test.YtnhfkdgambncfaaGreatDoorQTO4
import Derived.Test.YtnhfkdgambncfaaGreatDoorProg
set_option linter.unusedVariables false
set_option linter.unusedSimpArgs false
set_option linter.unusedSectionVars false
namespace Go.Proofs.YtnhfkdgambncfaaGreatDoor.XT
open Go Go.RowKit Go.Proofs.YtnhfkdgambncfaaGreatDoor.Sv
set_option maxRecDepth 100000
theorem prD_len (w : List D) : (prD w).length ≤ w.length := by
  unfold prD
  rw [List.length_map]
  have := ris_len ((List.range w.length).map (prB w))
  rwa [List.length_map, List.length_range] at this
theorem clm_len (l w : List D) : (nthD (clm l w) 0).list.length ≤ w.length := by
  unfold clm
  split
  · exact Nat.zero_le _
  · split
    · exact Nat.zero_le _
    · split
      · exact Nat.zero_le _
      · show (srtD (ksM (setK l w w.length))).length ≤ _
        rw [srtD_len]
        unfold ksM
        rw [List.length_map]
        exact setK_len l w _
noncomputable def claimsLC : Con := ⟨[.d true (.l schT), .d true (.l wrT), .d true (.l .s), .d true (.l .s)], fun ds => (fun (a : D) (b : D) (c : D) (d : D) => [a.list.length < 4611686018427387904, b.list.length < 4611686018427387904, c.list.length < 4611686018427387904, d.list.length < 4611686018427387904, ∀ s ∈ a.list, okS s, ∀ x ∈ b.list, okT ((D.fld x 1))]) (nthD ds 0) (nthD ds 1) (nthD ds 2) (nthD ds 3), [.d .b], fun ds => (fun (a : D) (b : D) (c : D) (d : D) => [.b true]) (nthD ds 0) (nthD ds 1) (nthD ds 2) (nthD ds 3), fun ds => []⟩
noncomputable def claimsLC_an : Anns := fun f i => match f, i with
  | 3, 12 => some fun A st => match A.get 1 with
    | some (.dl _ _ ws) => ⟨Nat, fun k => [(19, .v (.int .i64 k))], fun _ => [], fun k => k ≤ ws.length, fun k => ws.length - k⟩
    | _ => LAnn.bad
  | _, _ => none
theorem claimsLC_vc (a b c d : D) : (bif decide (300 < (↑a.list.length : Int)) || decide (300 < (↑b.list.length : Int)) || decide (300 < (↑c.list.length : Int)) || decide (300 < (↑d.list.length : Int)) then true = true else a.list.length * 24 ≤ 140737488355328 ∧ a.list.length ≤ 9223372036854775807 ∧ b.list.length * 72 ≤ 140737488355328 ∧ b.list.length ≤ 9223372036854775807 ∧ (List.take a.list.length a.list).length < 4611686018427387904 ∧ (List.take b.list.length b.list).length < 4611686018427387904 ∧ (∀ (s : D), s ∈ List.take a.list.length a.list → okS s) ∧ (∀ (x : D), x ∈ List.take b.list.length b.list → (0 ≤ (((D.fld x 1)).fld 0).int ∧ (((D.fld x 1)).fld 0).int < 18446744073709551616) ∧ ((D.fld (D.fld x 1) 1)).str.size ≤ 9223372036854775807 ∧ 0 ≤ (((D.fld (D.fld x 1) 2)).fld 0).int ∧ (((D.fld (D.fld x 1) 2)).fld 0).int < 256 ∧ I64 ((D.fld (D.fld (D.fld x 1) 2) 2)).int ∧ 0 ≤ (((D.fld (D.fld x 1) 2)).fld 4).int ∧ (((D.fld (D.fld x 1) 2)).fld 4).int < 18446744073709551616) ∧ a.list.length < 4611686018427387904 ∧ b.list.length < 4611686018427387904 ∧ (∀ (s : D), s ∈ a.list → okS s) ∧ (∀ (x : D), x ∈ b.list → (0 ≤ (((D.fld x 1)).fld 0).int ∧ (((D.fld x 1)).fld 0).int < 18446744073709551616) ∧ ((D.fld (D.fld x 1) 1)).str.size ≤ 9223372036854775807 ∧ 0 ≤ (((D.fld (D.fld x 1) 2)).fld 0).int ∧ (((D.fld (D.fld x 1) 2)).fld 0).int < 256 ∧ I64 ((D.fld (D.fld (D.fld x 1) 2) 2)).int ∧ 0 ≤ (((D.fld (D.fld x 1) 2)).fld 4).int ∧ (((D.fld (D.fld x 1) 2)).fld 4).int < 18446744073709551616) ∧ (List.take b.list.length b.list).length ≤ 300 ∧ b.list.length ≤ 300 ∧ (nthD (clm (List.take a.list.length a.list) (List.take b.list.length b.list)) 0).list.length < 4611686018427387904 ∧ ((!sameB (nthD (clm (List.take a.list.length a.list) (List.take b.list.length b.list)) 0).list (nthD (clm a.list b.list) 0).list || !decide ((nthD (clm (List.take a.list.length a.list) (List.take b.list.length b.list)) 1).int = (nthD (clm a.list b.list) 1).int) || !decide ((nthD (clm (List.take a.list.length a.list) (List.take b.list.length b.list)) 2).int = (nthD (clm a.list b.list) 2).int)) = false → (prD (List.take b.list.length b.list)).length < 4611686018427387904) ∧ ((!sameB (nthD (clm (List.take a.list.length a.list) (List.take b.list.length b.list)) 0).list (nthD (clm a.list b.list) 0).list || !decide ((nthD (clm (List.take a.list.length a.list) (List.take b.list.length b.list)) 1).int = (nthD (clm a.list b.list) 1).int) || !decide ((nthD (clm (List.take a.list.length a.list) (List.take b.list.length b.list)) 2).int = (nthD (clm a.list b.list) 2).int) || !sameB (prD (List.take b.list.length b.list)) (prD b.list)) = false → c.list.length < 4611686018427387904 ∧ d.list.length < 4611686018427387904 ∧ c.list.length < 4611686018427387904 ∧ d.list.length < 4611686018427387904) ∧ bif !sameB (nthD (clm (List.take a.list.length a.list) (List.take b.list.length b.list)) 0).list (nthD (clm a.list b.list) 0).list || !decide ((nthD (clm (List.take a.list.length a.list) (List.take b.list.length b.list)) 1).int = (nthD (clm a.list b.list) 1).int) || !decide ((nthD (clm (List.take a.list.length a.list) (List.take b.list.length b.list)) 2).int = (nthD (clm a.list b.list) 2).int) || !sameB (prD (List.take b.list.length b.list)) (prD b.list) || !clB c.list d.list == clB c.list d.list then false = true else ∃ (g : Nat), EqI 0 (↑g : Int) ∧ g ≤ b.list.length ∧ ∀ (g : Nat), g ≤ b.list.length → bif decide ((↑g : Int) < (↑b.list.length : Int)) then Idx (↑g : Int) b.list.length ∧ Idx (↑g : Int) b.list.length ∧ bif !(((nthD b.list g).fld 0).bool == ((nthD b.list g).fld 0).bool && (decide ((((D.fld (nthD b.list g) 1)).fld 0).int = (((D.fld (nthD b.list g) 1)).fld 0).int) && (decide (((D.fld (D.fld (nthD b.list g) 1) 1)).str = ((D.fld (D.fld (nthD b.list g) 1) 1)).str) && (decide ((((D.fld (D.fld (nthD b.list g) 1) 2)).fld 0).int = (((D.fld (D.fld (nthD b.list g) 1) 2)).fld 0).int) && (((D.fld (D.fld (D.fld (nthD b.list g) 1) 2) 1)).bool == ((D.fld (D.fld (D.fld (nthD b.list g) 1) 2) 1)).bool && (decide (((D.fld (D.fld (D.fld (nthD b.list g) 1) 2) 2)).int = ((D.fld (D.fld (D.fld (nthD b.list g) 1) 2) 2)).int) && (decide ((((D.fld (D.fld (nthD b.list g) 1) 2)).fld 3).str = (((D.fld (D.fld (nthD b.list g) 1) 2)).fld 3).str) && (decide ((((D.fld (D.fld (nthD b.list g) 1) 2)).fld 4).int = (((D.fld (D.fld (nthD b.list g) 1) 2)).fld 4).int) && true)))) && true)) && true)) then false = true else I64 ((↑g : Int) + 1) ∧ ∃ (g_1 : Nat), (↑g : Int) + 1 = (↑g_1 : Int) ∧ g_1 ≤ b.list.length ∧ b.list.length - g_1 < b.list.length - g else true = true) = conGoal Tryz.prog (addS 11 rclashC (addS 10 clashC (addS 9 sameC (addS 8 rpredsC (addS 7 predsC (addS 6 rclaimsC (addS 5 claimsC (addS 4 aliveC noS)))))))) claimsLC_an 200 3 claimsLC [a, b, c, d] := by kernel_rfl
theorem claimsLC_ok : ConOK Tryz.prog gl 3 claimsLC := con_of mo (addS_ok rclashC_ok (addS_ok clashC_ok (addS_ok sameC_ok (addS_ok rpredsC_ok (addS_ok predsC_ok (addS_ok rclaimsC_ok (addS_ok claimsC_ok (addS_ok aliveC_ok (noS_ok _))))))))) (an := claimsLC_an) 200 fun ds hl hp => by
  obtain ⟨a, b, c, d, rfl⟩ := len4 hl
  rw [← claimsLC_vc]
  have p0 : a.list.length < 4611686018427387904 := hp _ (.head _)
  have p1 : b.list.length < 4611686018427387904 := hp _ (.tail _ (.head _))
  have p2 : c.list.length < 4611686018427387904 := hp _ (.tail _ (.tail _ (.head _)))
  have p3 : d.list.length < 4611686018427387904 := hp _ (.tail _ (.tail _ (.tail _ (.head _))))
  have p4 : ∀ s ∈ a.list, okS s := hp _ (.tail _ (.tail _ (.tail _ (.tail _ (.head _)))))
  have p5 : ∀ x ∈ b.list, okT ((D.fld x 1)) := hp _ (.tail _ (.tail _ (.tail _ (.tail _ (.tail _ (.head _))))))
  refine cond_of (fun _ => rfl) (fun hc => ?_)
  rw [Bool.or_eq_false_iff, Bool.or_eq_false_iff, Bool.or_eq_false_iff] at hc
  have hA := of_decide_eq_false hc.1.1.1
  have hB := of_decide_eq_false hc.1.1.2
  rw [List.take_length, List.take_length]
  have hl := clm_len a.list b.list
  have hq := prD_len b.list
  refine ⟨by omega, by omega, by omega, by omega, p0, p1, p4, p5, p0, p1, p4, p5, by omega, by omega, by omega, fun _ => by omega, fun _ => ⟨p2, p3, p2, p3⟩, ?_⟩
  rw [sameB_self, sameB_self, decide_eq_true rfl, decide_eq_true rfl, beq_self_eq_true]
  refine cond_of (fun q => by simp at q) (fun _ => ⟨0, rfl, Nat.zero_le _, fun g hg => cond_of (fun q => ?_) (fun _ => rfl)⟩)
  have q' := of_decide_eq_true q
  refine ⟨⟨by omega, by omega⟩, ⟨by omega, by omega⟩, ?_⟩
  rw [beq_self_eq_true, beq_self_eq_true]
  refine cond_of (fun q => by simp at q) (fun _ => ⟨⟨by omega, by omega⟩, g + 1, by omega, by omega, by omega⟩)
end Go.Proofs.YtnhfkdgambncfaaGreatDoor.XT
