/- Contracts, by the symbolic evaluator. -/
import Derived.Test.YtplflgclomiihaaQVTV
import Derived.Test.YtplflgclomiihaaProg
import Derived.Test.YtplflgclomiihaaQLGA
set_option linter.unusedVariables false
set_option linter.unusedSimpArgs false
namespace Go.Proofs.Ytplflgclomiihaa.XT
open Go Go.RowKit Go.Proofs.Ytplflgclomiihaa.Sv
set_option maxRecDepth 100000
def trueK : Con := trueC
theorem trueK_ok : ConOK Try.prog Gl.none 12 trueK := true_ok fun w _ => Go.Proofs.Ytplflgclomiihaa.T.law_alive
theorem nthD_ge : ∀ {xs : List D} {k : Nat}, xs.length ≤ k → nthD xs k = .i 0
  | [], k, _ => by cases k <;> rfl
  | _ :: r, 0, h => by simp at h
  | _ :: r, k + 1, h => nthD_ge (xs := r) (by simpa using h)
theorem outAt_mem {a : D} (p : FitP a) (i : Int) : ((outAt a i).fld 3).list.length ≤ 17592186044416 := by
  unfold outAt
  cases mayB a && atB a i with
  | false => exact Nat.zero_le _
  | true =>
    rw [cond_true]
    rcases Nat.lt_or_ge (i - (a.fld 6).int - 1).toNat (a.fld 10).list.length with h | h
    · exact (p.log _ (List.mem_of_getElem? (get_nthD h))).mem
    · rw [nthD_ge h]; exact Nat.zero_le _
theorem doneL_fit {a : D} (p : FitP a) (f : Int) : (doneL a f).length ≤ 1000000 ∧ ∀ e ∈ doneL a f, FitE e := by
  have h10 := p.l10
  unfold doneL
  cases mayB a && !decide ((a.fld 11).int < f) with
  | false => exact ⟨Nat.zero_le _, fun e he => by cases he⟩
  | true =>
    rw [cond_true]
    exact ⟨by rw [List.length_drop, List.length_take]; omega, fun e he => p.log e (List.mem_of_mem_take (List.mem_of_mem_drop he))⟩
theorem outSend_fit {a : D} (p : FitP a) (to : Int) : ((outSend a to).fld 9).list.length ≤ 1000000 ∧ (∀ e ∈ ((outSend a to).fld 9).list, FitE e) ∧ ((outSend a to).fld 10).list.length ≤ 17592186044416 := by
  have h10 := p.l10
  unfold outSend
  cases mayB a && decide ((a.fld 4).int = 2) && decide (fndI (a.fld 15).list to < (a.fld 15).list.length) with
  | false => exact ⟨Nat.zero_le _, fun e he => absurd (show e ∈ ([] : List D) from he) List.not_mem_nil, Nat.zero_le _⟩
  | true =>
    rw [cond_true]
    unfold sendM
    cases termB a (u64 (((nthD (a.fld 15).list (fndI (a.fld 15).list to)).fld 1).int - 1)) with
    | false => exact ⟨Nat.zero_le _, fun e he => absurd (show e ∈ ([] : List D) from he) List.not_mem_nil, p.l8⟩
    | true => exact ⟨len_td h10, fitE_td p, Nat.zero_le _⟩
def smalC : Con := ⟨[.d false peerT], fun ds => [], [.d .b], fun ds => (fun (a : D) => [.b (decide (((a.fld 10).list.length : Int) ≤ 60) && decide (((a.fld 15).list.length : Int) ≤ 64) && decide (((a.fld 17).list.length : Int) ≤ 60))]) (nthD ds 0), fun ds => []⟩
def smalC_an : Anns := fun _ _ => none
theorem smalC_vc (a : D) : ((decide ((↑(a.fld 10).list.length : Int) ≤ 60) && decide ((↑(a.fld 15).list.length : Int) ≤ 64) && decide ((↑(a.fld 17).list.length : Int) ≤ 60)) = (decide ((↑(a.fld 10).list.length : Int) ≤ 60) && decide ((↑(a.fld 15).list.length : Int) ≤ 64) && decide ((↑(a.fld 17).list.length : Int) ≤ 60))) = conGoal Try.prog noS smalC_an 200 11 smalC [a] := by kernel_rfl
theorem smalC_ok : ConOK Try.prog Gl.none 11 smalC := con_of mo (noS_ok _) (an := smalC_an) 200 fun ds hl hp => by
  obtain ⟨a, rfl⟩ := len1 hl
  rw [← smalC_vc]
  all_goals rfl
def asksC : Con := ⟨[.d true peerT, .d true (.i .u64), .d true (.i .i64)], fun ds => (fun (a : D) (b : D) (c : D) => [((a.fld 10).list.length : Int) ≤ 60 → ((a.fld 15).list.length : Int) ≤ 64 → ((a.fld 17).list.length : Int) ≤ 60 → FitP a, U64 b.int]) (nthD ds 0) (nthD ds 1) (nthD ds 2), [.d .b], fun ds => (fun (a : D) (b : D) (c : D) => [.b true]) (nthD ds 0) (nthD ds 1) (nthD ds 2), fun ds => []⟩
def asksC_an : Anns := fun _ _ => none
theorem asksC_vc (a b c : D) : (bif !(decide ((↑(a.fld 10).list.length : Int) ≤ 60) && decide ((↑(a.fld 15).list.length : Int) ≤ 64) && decide ((↑(a.fld 17).list.length : Int) ≤ 60)) then true = true else FitP (putF peerT a []) ∧ FitP (putF peerT a []) ∧ (0 ≤ b.int ∧ b.int ≤ 18446744073709551615) ∧ FitP (putF peerT a []) ∧ (0 ≤ b.int ∧ b.int ≤ 18446744073709551615) ∧ (!eqL eqE [putF entT (outAt a b.int) []] [putF entT (outAt a b.int) []]) = false ∧ (!eqL eqE [putF entT (outAt a b.int) []] [putF entT (outAt a b.int) []]) = false ∧ (!eqL eqE [putF entT (outAt a b.int) []] [putF entT (outAt a b.int) []]) = false ∧ (!eqL eqE [putF entT (outAt a b.int) []] [putF entT (outAt a b.int) []] || !decide (atN a b.int = atN a b.int)) = false ∧ (!eqL eqE [putF entT (outAt a b.int) []] [putF entT (outAt a b.int) []] || !decide (atN a b.int = atN a b.int)) = false ∧ (!eqL eqE [putF entT (outAt a b.int) []] [putF entT (outAt a b.int) []] || !decide (atN a b.int = atN a b.int)) = false ∧ (!eqL eqE [putF entT (outAt a b.int) []] [putF entT (outAt a b.int) []] || !decide (atN a b.int = atN a b.int)) = false ∧ (!eqL eqE [putF entT (outAt a b.int) []] [putF entT (outAt a b.int) []] || !decide (atN a b.int = atN a b.int)) = false ∧ (!eqL eqE [putF entT (outAt a b.int) []] [putF entT (outAt a b.int) []] || !decide (atN a b.int = atN a b.int)) = false ∧ (!eqL eqE [putF entT (outAt a b.int) []] [putF entT (outAt a b.int) []] || !decide (atN a b.int = atN a b.int)) = false ∧ (!eqL eqE [putF entT (outAt a b.int) []] [putF entT (outAt a b.int) []] || !decide (atN a b.int = atN a b.int)) = false ∧ [putF entT (outAt a b.int) []].length < 4611686018427387904 ∧ (∀ (e : D), e ∈ [putF entT (outAt a b.int) []] → (e.fld 3).list.length < 4611686018427387904) ∧ FitP (putF peerT a []) ∧ (0 ≤ b.int ∧ b.int ≤ 18446744073709551615) ∧ FitP (putF peerT a []) ∧ (0 ≤ b.int ∧ b.int ≤ 18446744073709551615) ∧ (doneL a b.int).length < 4611686018427387904 ∧ (∀ (e : D), e ∈ doneL a b.int → (e.fld 3).list.length < 4611686018427387904) ∧ bif !eqL eqE [putF entT (outAt a b.int) []] [putF entT (outAt a b.int) []] || !decide (atN a b.int = atN a b.int) || !eqL eqE (doneL a b.int) (doneL a b.int) then false = true else FitP (putF peerT a []) ∧ (a.fld 10).list.length < 4611686018427387904 ∧ (0 ≤ (a.fld 6).int ∧ (a.fld 6).int ≤ 18446744073709551615) ∧ (a.fld 8).list.length ≤ 17592186044416 ∧ (∀ (e : D), e ∈ (a.fld 10).list → (e.fld 3).list.length ≤ 17592186044416) ∧ (a.fld 1).list.length ≤ 17592186044416 ∧ (a.fld 14).list.length ≤ 17592186044416 ∧ (a.fld 15).list.length ≤ 17592186044416 ∧ (a.fld 17).list.length ≤ 17592186044416 ∧ (∀ (r : D), r ∈ (a.fld 17).list → (r.fld 2).list.length ≤ 17592186044416) ∧ 0 ≤ (a.fld 7).int ∧ (∀ (e : D), e ∈ (a.fld 10).list → 0 ≤ (e.fld 0).int ∧ 0 ≤ (e.fld 1).int) ∧ 0 ≤ (a.fld 4).int ∧ bif !mayB a then ((outSend a c.int).fld 9).list.length < 4611686018427387904 ∧ (∀ (e : D), e ∈ ((outSend a c.int).fld 9).list → (e.fld 3).list.length < 4611686018427387904) ∧ ((outSend a c.int).fld 10).list.length < 4611686018427387904 ∧ (eqM (outSend a c.int) (D.t [D.i 0, D.i 0, D.i 0, D.i 0, D.i 0, D.i 0, D.i 0, D.i 0, D.b false, D.l [], D.l [], D.s (ByteArray.mk #[])]) && decide (sendN a c.int = 2) && true) = true else bif !decide ((a.fld 4).int = 2) then ((outSend a c.int).fld 9).list.length < 4611686018427387904 ∧ (∀ (e : D), e ∈ ((outSend a c.int).fld 9).list → (e.fld 3).list.length < 4611686018427387904) ∧ ((outSend a c.int).fld 10).list.length < 4611686018427387904 ∧ (eqM (outSend a c.int) (D.t [D.i 0, D.i 0, D.i 0, D.i 0, D.i 0, D.i 0, D.i 0, D.i 0, D.b false, D.l [], D.l [], D.s (ByteArray.mk #[])]) && decide (sendN a c.int = 140) && true) = true else FitP (putF peerT a []) ∧ mayB a = true ∧ (a.fld 4).int = 2 ∧ ((outSend a c.int).fld 9).list.length < 4611686018427387904 ∧ (∀ (e : D), e ∈ ((outSend a c.int).fld 9).list → (e.fld 3).list.length < 4611686018427387904) ∧ ((outSend a c.int).fld 10).list.length < 4611686018427387904 ∧ ((eqM (outSend a c.int) (outSend a c.int) && decide (sendN a c.int = sendN a c.int)) = true → FitP (putF peerT a [])) ∧ (eqM (outSend a c.int) (outSend a c.int) && decide (sendN a c.int = sendN a c.int) && eqP a a && true) = true) = conGoal Try.prog (addS 10 sameC (addS 33 sendrC (addS 32 smC (addS 17 mayrC (addS 31 SendC (addS 30 donerC (addS 29 DoneC (addS 28 sesC (addS 27 atrC (addS 26 AtC (addS 13 ownrdC (addS 12 trueK (addS 11 smalC noS))))))))))))) asksC_an 200 6 asksC [a, b, c] := by kernel_rfl
theorem asksC_ok : ConOK Try.prog Gl.none 6 asksC := con_of mo (addS_ok sameC_ok (addS_ok sendrC_ok (addS_ok smC_ok (addS_ok mayrC_ok (addS_ok SendC_ok (addS_ok donerC_ok (addS_ok DoneC_ok (addS_ok sesC_ok (addS_ok atrC_ok (addS_ok AtC_ok (addS_ok ownrdC_ok (addS_ok trueK_ok (addS_ok smalC_ok (noS_ok _)))))))))))))) (an := asksC_an) 200 fun ds hl hp => by
  obtain ⟨a, b, c, rfl⟩ := len3 hl
  rw [← asksC_vc]
  have p0 : ((a.fld 10).list.length : Int) ≤ 60 → ((a.fld 15).list.length : Int) ≤ 64 → ((a.fld 17).list.length : Int) ≤ 60 → FitP a := hp _ (.head _)
  have p1 : U64 b.int := hp _ (.tail _ (.head _))
  refine cond_of (fun k => rfl) (fun k => ?_)
  simp only [Bool.not_eq_false', Bool.and_eq_true, decide_eq_true_iff] at k
  have F : FitP a := p0 k.1.1 k.1.2 k.2
  have FA := FitP.eta F
  have h10 := F.l10
  have e1 : eqL eqE [putF entT (outAt a b.int) []] [putF entT (outAt a b.int) []] = true := eqL_self eqE_self _
  have e2 : decide (atN a b.int = atN a b.int) = true := decide_eq_true rfl
  have e3 : eqL eqE (doneL a b.int) (doneL a b.int) = true := eqL_self eqE_self _
  have e4 : eqM (outSend a c.int) (outSend a c.int) = true := eqM_self _
  have e5 : decide (sendN a c.int = sendN a c.int) = true := decide_eq_true rfl
  have e6 : eqP a a = true := eqP_self _
  rw [e1, e2, e3, e4, e5, e6]
  have hA := outAt_mem F b.int
  obtain ⟨d1, d2⟩ := doneL_fit F b.int
  obtain ⟨s1, s2, s3⟩ := outSend_fit F c.int
  have m0 : ∀ e ∈ [putF entT (outAt a b.int) []], (e.fld 3).list.length < 4611686018427387904 := by
    intro e he
    rw [List.mem_singleton.1 he]
    show ((outAt a b.int).fld 3).list.length < 4611686018427387904
    omega
  have md : ∀ e ∈ doneL a b.int, (e.fld 3).list.length < 4611686018427387904 := fun e he => by have := (d2 e he).mem; omega
  have ms : ∀ e ∈ ((outSend a c.int).fld 9).list, (e.fld 3).list.length < 4611686018427387904 := fun e he => by have := (s2 e he).mem; omega
  have hz : (mayB a && decide ((a.fld 4).int = 2)) = false → outSend a c.int = DT.zero msgT := fun h => by unfold outSend; rw [h]; rfl
  refine ⟨FA, FA, p1, FA, p1, rfl, rfl, rfl, rfl, rfl, rfl, rfl, rfl, rfl, rfl, rfl, (by rw [List.length_singleton]; decide), m0, FA, p1, FA, p1, by omega, md, ?_⟩
  refine ⟨FA, FitP.pre F (cond_of (fun m => ?_) (fun m => cond_of (fun r => ?_) (fun r => ?_)))⟩
  · have hm : mayB a = false := (Bool.not_eq_true' _).mp m
    refine ⟨by omega, ms, by omega, ?_⟩
    have hN : sendN a c.int = 2 := by unfold sendN; rw [hm]; rfl
    rw [hz (by rw [hm]; rfl), hN]
    exact (congrArg (fun x => (x && decide ((2 : Int) = 2)) && true) (eqM_self (DT.zero msgT))).trans rfl
  · have hm : mayB a = true := (Bool.not_eq_false' _).mp m
    have r := (Bool.not_eq_true' _).mp r
    refine ⟨by omega, ms, by omega, ?_⟩
    have hN : sendN a c.int = 140 := by unfold sendN; rw [hm, r]; rfl
    rw [hz (by rw [hm, r]; rfl), hN]
    exact (congrArg (fun x => (x && decide ((140 : Int) = 140)) && true) (eqM_self (DT.zero msgT))).trans rfl
  · have hm : mayB a = true := (Bool.not_eq_false' _).mp m
    have r := of_decide_eq_true ((Bool.not_eq_false' _).mp r)
    exact ⟨FA, hm, r, by omega, ms, by omega, fun _ => FA, rfl⟩
end Go.Proofs.Ytplflgclomiihaa.XT
