/- Contracts. -/
import Derived.Test.YtplflgclomiihaaQVTY
import Derived.Test.YtplflgclomiihaaProg
import Derived.Test.YtplflgclomiihaaQLTA
set_option linter.unusedVariables false
set_option linter.unusedSimpArgs false
namespace Go.Proofs.Ytplflgclomiihaa.XT
open Go Go.RowKit Go.Proofs.Ytplflgclomiihaa.Sv
set_option maxRecDepth 100000
def trueK : Con := trueC
theorem trueK_ok : ConOK Try.prog Gl.none 23 trueK := true_ok fun w _ => Go.Proofs.Ytplflgclomiihaa.T.law_alive13
def smal3C : Con := ⟨[.d false peerT], fun ds => [], [.d .b], fun ds => (fun (a : D) => [.b (decide (((a.fld 10).list.length : Int) ≤ 60) && decide (((a.fld 15).list.length : Int) ≤ 64) && decide (((a.fld 17).list.length : Int) ≤ 60) && decide (((a.fld 9).str.size : Int) < 4096))]) (nthD ds 0), fun ds => []⟩
def smal3C_an : Anns := fun _ _ => none
theorem smal3C_vc (a : D) : ((decide ((↑(a.fld 10).list.length : Int) ≤ 60) && decide ((↑(a.fld 15).list.length : Int) ≤ 64) && decide ((↑(a.fld 17).list.length : Int) ≤ 60) && decide ((↑(a.fld 9).str.size : Int) < 4096)) = (decide ((↑(a.fld 10).list.length : Int) ≤ 60) && decide ((↑(a.fld 15).list.length : Int) ≤ 64) && decide ((↑(a.fld 17).list.length : Int) ≤ 60) && decide ((↑(a.fld 9).str.size : Int) < 4096))) = conGoal Try.prog noS smal3C_an 200 22 smal3C [a] := by kernel_rfl
theorem smal3C_ok : ConOK Try.prog Gl.none 22 smal3C := con_of mo (noS_ok _) (an := smal3C_an) 200 fun ds hl hp => by
  obtain ⟨a, rfl⟩ := len1 hl
  rw [← smal3C_vc]
  all_goals rfl
theorem nthD_ge : ∀ {xs : List D} {k : Nat}, xs.length ≤ k → nthD xs k = .i 0
  | [], k, _ => by cases k <;> rfl
  | _ :: r, 0, h => by simp at h
  | _ :: r, k + 1, h => nthD_ge (xs := r) (by simpa using h)
theorem memL_P {Q : List D → Prop} {base es : List D} (hb : Q base) (he : ∀ e ∈ es, Q (e.fld 3).list) : ∀ m, m ≤ es.length → Q (memL base es m)
  | 0, _ => hb
  | m + 1, h => by
    rw [memL]
    split
    · exact he _ (List.mem_of_getElem? (get_nthD (by omega)))
    · exact memL_P hb he m (by omega)
theorem mems_P {Q : List D → Prop} {a : D} (h0 : Q []) (hb : Q (a.fld 8).list) (he : ∀ e ∈ (a.fld 10).list, Q (e.fld 3).list) (i : Int) : Q (mems a i) := by
  unfold mems
  cases termB a i with
  | false => exact h0
  | true => rw [cond_true]; exact memL_P hb (fun e h => he e (List.mem_of_mem_take h)) _ (Nat.le_refl _)
theorem termI_U {a : D} (p : FitP a) (i : Int) : U64 (termI a i) := by
  have z : U64 0 := ⟨by omega, by omega⟩
  unfold termI
  cases termB a i with
  | false => exact z
  | true =>
    rw [cond_true]
    split
    · exact p.bt
    · show U64 ((nthD (a.fld 10).list _).fld 0).int
      rcases Nat.lt_or_ge (i - (a.fld 6).int - 1).toNat (a.fld 10).list.length with h | h
      · exact (p.log _ (List.mem_of_getElem? (get_nthD h))).term
      · rw [nthD_ge h]; exact z
theorem outCmp_fit {a : D} (p : FitP a) {t : Int} (ht : U64 t) (s : ByteArray) : FitP (outCmp a t s) := by
  unfold outCmp
  cases cmpB a t && !decide (1044480 < (s.size : Int)) with
  | false =>
    have z : U64 0 := ⟨by omega, by omega⟩
    exact ⟨Nat.zero_le _, Nat.zero_le _, Nat.zero_le _, Nat.zero_le _, Nat.zero_le _, Nat.zero_le _, (fun _ h => absurd h List.not_mem_nil), (fun _ h => absurd h List.not_mem_nil), (fun _ h => absurd h List.not_mem_nil), (fun _ h => absurd h List.not_mem_nil), (fun _ h => absurd h List.not_mem_nil), z, z, z, z, z, Int.le_refl 0⟩
  | true =>
    rw [cond_true]
    have h10 : ((a.fld 10).list.drop (t - (a.fld 6).int).toNat).length ≤ 1000000 := by have := p.l10; rw [List.length_drop]; omega
    have h8 : (mems a t).length ≤ 17592186044416 := mems_P (Q := fun l => l.length ≤ 17592186044416) (Nat.zero_le _) p.l8 (fun e he => (p.log e he).mem) t
    exact ⟨p.l1, h8, p.l14, h10, p.l15, p.l17, (fun e he => p.log e (List.mem_of_mem_drop he)), p.rd, p.fol, p.i1, p.i14, ht, termI_U p t, p.term, p.round, p.com, p.role⟩
def cutsC : Con := ⟨[.d true peerT, .d true (.i .u64), .d true .s], fun ds => (fun (a : D) (b : D) (c : D) => [((a.fld 10).list.length : Int) ≤ 60 → ((a.fld 15).list.length : Int) ≤ 64 → ((a.fld 17).list.length : Int) ≤ 60 → FitP a ∧ ∀ f ∈ (a.fld 15).list, U64 (f.fld 2).int, U64 b.int]) (nthD ds 0) (nthD ds 1) (nthD ds 2), [.d .b], fun ds => (fun (a : D) (b : D) (c : D) => [.b true]) (nthD ds 0) (nthD ds 1) (nthD ds 2), fun ds => []⟩
def cutsC_an : Anns := fun _ _ => none
theorem cutsC_vc (a b c : D) : (bif !(decide ((↑(a.fld 10).list.length : Int) ≤ 60) && decide ((↑(a.fld 15).list.length : Int) ≤ 64) && decide ((↑(a.fld 17).list.length : Int) ≤ 60) && decide ((↑(a.fld 9).str.size : Int) < 4096)) then true = true else FitP (putF peerT a []) ∧ FitP (putF peerT a []) ∧ (∀ (f : D), f ∈ (a.fld 15).list → 0 ≤ (f.fld 2).int ∧ (f.fld 2).int ≤ 18446744073709551615) ∧ (0 ≤ b.int ∧ b.int ≤ 18446744073709551615) ∧ FitP (putF peerT a []) ∧ (0 ≤ b.int ∧ b.int ≤ 18446744073709551615) ∧ FitP (putF peerT (outCmp a b.int c.str) []) ∧ ((eqP (outCmp a b.int c.str) (outCmp a b.int c.str) && decide (cmpN a b.int c.str = cmpN a b.int c.str)) = true → FitP (putF peerT a [])) ∧ (eqP (outCmp a b.int c.str) (outCmp a b.int c.str) && decide (cmpN a b.int c.str = cmpN a b.int c.str) && eqP a a && true) = true) = conGoal Try.prog (addS 10 sameC (addS 25 cmprC (addS 24 CmpC (addS 13 ownrdC (addS 23 trueK (addS 22 smal3C noS)))))) cutsC_an 200 5 cutsC [a, b, c] := by kernel_rfl
theorem cutsC_ok : ConOK Try.prog Gl.none 5 cutsC := con_of mo (addS_ok sameC_ok (addS_ok cmprC_ok (addS_ok CmpC_ok (addS_ok ownrdC_ok (addS_ok trueK_ok (addS_ok smal3C_ok (noS_ok _))))))) (an := cutsC_an) 200 fun ds hl hp => by
  obtain ⟨a, b, c, rfl⟩ := len3 hl
  rw [← cutsC_vc]
  have p0 : ((a.fld 10).list.length : Int) ≤ 60 → ((a.fld 15).list.length : Int) ≤ 64 → ((a.fld 17).list.length : Int) ≤ 60 → FitP a ∧ ∀ f ∈ (a.fld 15).list, U64 (f.fld 2).int := hp _ (.head _)
  have p1 : U64 b.int := hp _ (.tail _ (.head _))
  refine cond_of (fun k => rfl) (fun k => ?_)
  simp only [Bool.not_eq_false', Bool.and_eq_true, decide_eq_true_iff] at k
  obtain ⟨F, U⟩ := p0 k.1.1.1 k.1.1.2 k.1.2
  have FA := FitP.eta F
  have e1 : eqP (outCmp a b.int c.str) (outCmp a b.int c.str) = true := eqP_self _
  have e2 : decide (cmpN a b.int c.str = cmpN a b.int c.str) = true := decide_eq_true rfl
  have e3 : eqP a a = true := eqP_self _
  rw [e1, e2, e3]
  exact ⟨FA, FA, U, p1, FA, p1, FitP.eta (outCmp_fit F p1 c.str), fun _ => FA, rfl⟩
end Go.Proofs.Ytplflgclomiihaa.XT
