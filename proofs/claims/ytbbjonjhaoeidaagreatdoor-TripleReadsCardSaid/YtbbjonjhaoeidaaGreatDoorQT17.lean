/- Contracts, by the symbolic evaluator. -/
import Derived.Test.YtbbjonjhaoeidaaGreatDoorQT16
import Derived.Test.YtbbjonjhaoeidaaGreatDoorProg
import Derived.Test.YtbbjonjhaoeidaaGreatDoorQTY
set_option linter.unusedVariables false
set_option linter.unusedSimpArgs false
namespace Go.Proofs.YtbbjonjhaoeidaaGreatDoor.XT
open Go Go.RowKit Go.Proofs.YtbbjonjhaoeidaaGreatDoor.Sv
set_option maxRecDepth 100000
theorem rkV_len : ∀ l : List Int, (rkV l).length ≤ l.length
  | [] => Nat.le_refl _
  | [c] => by unfold rkV; split <;> simp
  | c :: d :: r => by
    have h1 := rkV_len (d :: r)
    have h2 := rkV_len r
    simp only [List.length_cons] at h1 ⊢
    unfold rkV
    split
    · simp only [List.length_cons]; omega
    · split
      · simp
      · split
        · simp
        · simp only [List.length_cons]; omega
theorem rkT_len {s : ByteArray} {n : Nat} (h : s.size ≤ n + 1) : (rkV (bys (tlS s))).length ≤ n := by
  have h1 := rkV_len (bys (tlS s))
  have h2 : (bys (tlS s)).length = s.size - 1 := by rw [bys_length, tlS, ByteArray.size_extract]; omega
  omega
end Go.Proofs.YtbbjonjhaoeidaaGreatDoor.XT
