/- Contracts, by the symbolic evaluator. -/
import Derived.Test.YtbbjonjhaoeidaaDoorQT16
import Derived.Test.YtbbjonjhaoeidaaDoorProg
import Derived.Test.YtbbjonjhaoeidaaDoorQTY
set_option linter.unusedVariables false
set_option linter.unusedSimpArgs false
namespace Go.Proofs.YtbbjonjhaoeidaaDoor.XT
open Go Go.RowKit Go.Proofs.YtbbjonjhaoeidaaDoor.Sv
set_option maxRecDepth 100000
theorem rkV_len : ∀ l : List Int, (rkV l).length ≤ l.length
  | [] => Nat.le_refl _
  | [c] => by unfold rkV; split <;> simp
  | c :: d :: r => by
    have h1 := rkV_len (d :: r)
    have h2 := rkV_len r
    simp only [List.length_cons] at h1 ⊢
    unfold rkV
    split
    · simp only [List.length_cons]; omega
    · split
      · simp
      · split
        · simp
        · simp only [List.length_cons]; omega
theorem rkT_len {s : ByteArray} {n : Nat} (h : s.size ≤ n + 1) : (rkV (bys (tlS s))).length ≤ n := by
  have h1 := rkV_len (bys (tlS s))
  have h2 : (bys (tlS s)).length = s.size - 1 := by rw [bys_length, tlS, ByteArray.size_extract]; omega
  omega
def vrdLC : Con := ⟨[.d true .s, .d true .s], fun ds => (fun (a : D) (b : D) => [a.str.size ≤ 140737488355327, b.str.size ≤ 140737488355327]) (nthD ds 0) (nthD ds 1), [.d .b], fun ds => (fun (a : D) (b : D) => [.b true]) (nthD ds 0) (nthD ds 1), fun ds => []⟩
def vrdLC_an : Anns := fun _ _ => none
theorem vrdLC_vc (a b : D) : (a.str.size ≤ 9223372036854775807 ∧ (rkV (bys (tlS a.str))).length ≤ 140737488355326 ∧ a.str.size ≤ 140737488355327 ∧ b.str.size ≤ 140737488355327 ∧ b.str.size ≤ 140737488355327 ∧ (decide (((rdV a.str).fld 0).int = ((rdV a.str).fld 0).int) && (((D.fld (rdV a.str) 1)).bool == ((D.fld (rdV a.str) 1)).bool && (decide (((D.fld (rdV a.str) 2)).int = ((D.fld (rdV a.str) 2)).int) && (decide (((rdV a.str).fld 3).str = ((rdV a.str).fld 3).str) && (decide (((rdV a.str).fld 4).int = ((rdV a.str).fld 4).int) && true)))) && decide (rdR a.str = rdR a.str) && decide (rdE a.str = rdE a.str) && (decide (((rtD b.str).fld 0).int = ((rrtD b.str).fld 0).int) && (((D.fld (rtD b.str) 1)).bool == ((D.fld (rrtD b.str) 1)).bool && (decide (((D.fld (rtD b.str) 2)).int = ((D.fld (rrtD b.str) 2)).int) && (decide (((rtD b.str).fld 3).str = ((rrtD b.str).fld 3).str) && (decide (((rtD b.str).fld 4).int = ((rrtD b.str).fld 4).int) && true))))) && decide (condI (rtB b.str) 0 30 = condI (mayV (rcV b.str)) 0 30) && true) = true) = conGoal Tryd.prog (addS 29 alive3C (addS 35 rrtC (addS 34 rtC (addS 33 rreadC (addS 32 readC noS))))) vrdLC_an 200 7 vrdLC [a, b] := by kernel_rfl
theorem vrdLC_ok : ConOK Tryd.prog gl 7 vrdLC := con_of mo (addS_ok alive3C_ok (addS_ok rrtC_ok (addS_ok rtC_ok (addS_ok rreadC_ok (addS_ok readC_ok (noS_ok _)))))) (an := vrdLC_an) 200 fun ds hl hp => by
  obtain ⟨a, b, rfl⟩ := len2 hl
  rw [← vrdLC_vc]
  have p0 : a.str.size ≤ 140737488355327 := hp _ (.head _)
  have p1 : b.str.size ≤ 140737488355327 := hp _ (.tail _ (.head _))
  obtain ⟨h1, h2⟩ := rt_same b.str
  rw [h1, h2]
  exact ⟨by omega, rkT_len p0, p0, p1, p1, by simp⟩
end Go.Proofs.YtbbjonjhaoeidaaDoor.XT
