/-
  No cell of these rows narrows 'for every input' (looked for: loops, veiled, ifaces, maps, wideKeys, modest, calm, conditions, laid).
  DERIVED. THE GIVEN ROWS OF THIS SEAT. 4 by the template 'for every input the law returns true; each argument reads behind the call as it read before'; 0 by the template 'total and deterministic' (their statements: YtplflgclomiihaaTotals.lean).
  GIVEN WITH THE SEED: the statements are not yours to turn. If you find one false, say at which input.
  Laid BY PROGRAM, IN A SANDBOX (cutbox-rows.mjs): the forced cells as the released guide's own fill.sh prints them over the translation f971dc786d1ab390… (all of the seat's roots in one cut). By AI agents, Wed Nov 11 2026. No macro, syntax, notation, axiom, sorry.
-/
import Derived.Test.YtplflgclomiihaaChecked
import GoSem.Claim
import GoSem.ClaimJoined
import GoSem.ClaimMapViews
import Derived.JoinedTies
import Derived.KernelRfl
namespace Go.Proofs.Ytplflgclomiihaa
/- THE CELL 'sum', in the pinned program and in every row, IS THE sha256 OF THE DUMP (.gsa) THAT YtplflgclomiihaaProg.lean LOADS. Nothing in Lean hashes anything: it is a label: what it is worth is what the hold of that sum in a sandbox is worth. -/
noncomputable def Try.pinned : Pinned := { name := "ytplflgclomiihaa", sum := "f971dc786d1ab390adc6f0acbd7b62c34554c2fd8f3d3b689876883c9129d28f", checked := Try.checked }
namespace Rows
def none {H : Type} : Left H := { results := [], args := [] }

/-- 'tesseralaw12.KeepFolds': WHATEVER THE INPUT: true; the input reads as it did. -/
def keepFoldsSpec : ChangeSpec := { name := "keepFolds", fn := fun _ => fun
  | [d1, d2, d3, d4] => { results := [.lit (.bool true)], args := [d1, d2, d3, d4] }
  | _ => none }
def keepFoldsRow : OpenClaim := { program := "ytplflgclomiihaa", sum := "f971dc786d1ab390adc6f0acbd7b62c34554c2fd8f3d3b689876883c9129d28f", func := "tessera/tesseralaw12.KeepFolds", spec := "keepFolds", unfollowed := true, recurses := true, apart := false }
def KeepFoldsSaid : Prop := keepFoldsRow.holds Try.pinned (OpenSpec.ofChange keepFoldsSpec)

/-- ITS FALSE NEIGHBOUR: 'it returns false'. Refute it at one input. -/
def keepFoldsWrong : ChangeSpec := { name := "keepFolds", fn := fun _ => fun
  | [d1, d2, d3, d4] => { results := [.lit (.bool false)], args := [d1, d2, d3, d4] }
  | _ => none }
def KeepFoldsWrongFalsely : Prop := keepFoldsRow.holds Try.pinned (OpenSpec.ofChange keepFoldsWrong)

/-- 'tesseralaw11.LogsProposes': WHATEVER THE INPUT: true; the input reads as it did. -/
def logsProposesSpec : ChangeSpec := { name := "logsProposes", fn := fun _ => fun
  | [d1, d2, d3] => { results := [.lit (.bool true)], args := [d1, d2, d3] }
  | _ => none }
def logsProposesRow : OpenClaim := { program := "ytplflgclomiihaa", sum := "f971dc786d1ab390adc6f0acbd7b62c34554c2fd8f3d3b689876883c9129d28f", func := "tessera/tesseralaw11.LogsProposes", spec := "logsProposes", unfollowed := true, recurses := true, apart := false }
def LogsProposesSaid : Prop := logsProposesRow.holds Try.pinned (OpenSpec.ofChange logsProposesSpec)

/-- ITS FALSE NEIGHBOUR: 'it returns false'. Refute it at one input. -/
def logsProposesWrong : ChangeSpec := { name := "logsProposes", fn := fun _ => fun
  | [d1, d2, d3] => { results := [.lit (.bool false)], args := [d1, d2, d3] }
  | _ => none }
def LogsProposesWrongFalsely : Prop := logsProposesRow.holds Try.pinned (OpenSpec.ofChange logsProposesWrong)

/-- 'tesseralaw13.TrimCuts': WHATEVER THE INPUT: true; the input reads as it did. -/
def trimCutsSpec : ChangeSpec := { name := "trimCuts", fn := fun _ => fun
  | [d1, d2, d3] => { results := [.lit (.bool true)], args := [d1, d2, d3] }
  | _ => none }
def trimCutsRow : OpenClaim := { program := "ytplflgclomiihaa", sum := "f971dc786d1ab390adc6f0acbd7b62c34554c2fd8f3d3b689876883c9129d28f", func := "tessera/tesseralaw13.TrimCuts", spec := "trimCuts", unfollowed := true, recurses := true, apart := false }
def TrimCutsSaid : Prop := trimCutsRow.holds Try.pinned (OpenSpec.ofChange trimCutsSpec)

/-- ITS FALSE NEIGHBOUR: 'it returns false'. Refute it at one input. -/
def trimCutsWrong : ChangeSpec := { name := "trimCuts", fn := fun _ => fun
  | [d1, d2, d3] => { results := [.lit (.bool false)], args := [d1, d2, d3] }
  | _ => none }
def TrimCutsWrongFalsely : Prop := trimCutsRow.holds Try.pinned (OpenSpec.ofChange trimCutsWrong)

/-- 'tesseralaw11.LogsAsks': WHATEVER THE INPUT: true; the input reads as it did. -/
def logsAsksSpec : ChangeSpec := { name := "logsAsks", fn := fun _ => fun
  | [d1, d2, d3] => { results := [.lit (.bool true)], args := [d1, d2, d3] }
  | _ => none }
def logsAsksRow : OpenClaim := { program := "ytplflgclomiihaa", sum := "f971dc786d1ab390adc6f0acbd7b62c34554c2fd8f3d3b689876883c9129d28f", func := "tessera/tesseralaw11.LogsAsks", spec := "logsAsks", unfollowed := true, recurses := true, apart := false }
def LogsAsksSaid : Prop := logsAsksRow.holds Try.pinned (OpenSpec.ofChange logsAsksSpec)

/-- ITS FALSE NEIGHBOUR: 'it returns false'. Refute it at one input. -/
def logsAsksWrong : ChangeSpec := { name := "logsAsks", fn := fun _ => fun
  | [d1, d2, d3] => { results := [.lit (.bool false)], args := [d1, d2, d3] }
  | _ => none }
def LogsAsksWrongFalsely : Prop := logsAsksRow.holds Try.pinned (OpenSpec.ofChange logsAsksWrong)

/- THE SECOND FORM. 'bulk': how many values and letters a reading holds, each counted each time it is reached (what is shared counts as often as it is met; a slice's spare places count too). A statement '..UptoSaid' is the law's where the arguments, and the package variables that the reading takes, are together of bulk at most 1048576: NARROWER than '..Said'. Prove '..Said' where nothing that the law and all that it calls make is longer than what came in: it says more and counts as full. Else prove '..UptoSaid'. A law counts once. -/
mutual
def uptoBulk {H : Type} : DataW H → Nat
  | .lit (.string bytes) => bytes.length + 1
  | .lit _ => 1
  | .nil => 1
  | .ptr d => uptoBulk d + 1
  | .slice elems spare => uptoBulkAll elems + uptoBulkAll spare + 1
  | .agg parts => uptoBulkAll parts + 1
  | .iface _ d => uptoBulk d + 1
  | .map entries => uptoBulkEntries entries + 1
  | .held _ => 1
def uptoBulkAll {H : Type} : List (DataW H) → Nat
  | [] => 0
  | d :: r => uptoBulk d + uptoBulkAll r
def uptoBulkEntries {H : Type} : List (Lit × DataW H) → Nat
  | [] => 0
  | x :: r => uptoBulkEntry x + uptoBulkEntries r
def uptoBulkEntry {H : Type} : Lit × DataW H → Nat
  | (.string bytes, d) => bytes.length + uptoBulk d + 1
  | (_, d) => uptoBulk d + 1
 end
def uptoSmall : (H : Type) → List (DataW H) → Bool := fun _ ds => decide (uptoBulkAll ds ≤ 1048576)
def OpenSpec.upto (s : _root_.Go.ChangeSpec) : _root_.Go.OpenSpec := { _root_.Go.OpenSpec.ofChange s with cond := some uptoSmall }

/-- 'tesseralaw12.KeepFolds', WHERE WHAT IT READS IS OF BULK AT MOST 1048576: true; the input reads as it did. -/
def keepFoldsUptoRow : OpenClaim := { program := "ytplflgclomiihaa", sum := "f971dc786d1ab390adc6f0acbd7b62c34554c2fd8f3d3b689876883c9129d28f", func := "tessera/tesseralaw12.KeepFolds", spec := "keepFolds", unfollowed := true, recurses := true, apart := false, narrowed := true }
def KeepFoldsUptoSaid : Prop := keepFoldsUptoRow.holds Try.pinned (OpenSpec.upto keepFoldsSpec)

/-- 'tesseralaw11.LogsProposes', WHERE WHAT IT READS IS OF BULK AT MOST 1048576: true; the input reads as it did. -/
def logsProposesUptoRow : OpenClaim := { program := "ytplflgclomiihaa", sum := "f971dc786d1ab390adc6f0acbd7b62c34554c2fd8f3d3b689876883c9129d28f", func := "tessera/tesseralaw11.LogsProposes", spec := "logsProposes", unfollowed := true, recurses := true, apart := false, narrowed := true }
def LogsProposesUptoSaid : Prop := logsProposesUptoRow.holds Try.pinned (OpenSpec.upto logsProposesSpec)

/-- 'tesseralaw13.TrimCuts', WHERE WHAT IT READS IS OF BULK AT MOST 1048576: true; the input reads as it did. -/
def trimCutsUptoRow : OpenClaim := { program := "ytplflgclomiihaa", sum := "f971dc786d1ab390adc6f0acbd7b62c34554c2fd8f3d3b689876883c9129d28f", func := "tessera/tesseralaw13.TrimCuts", spec := "trimCuts", unfollowed := true, recurses := true, apart := false, narrowed := true }
def TrimCutsUptoSaid : Prop := trimCutsUptoRow.holds Try.pinned (OpenSpec.upto trimCutsSpec)

/-- 'tesseralaw11.LogsAsks', WHERE WHAT IT READS IS OF BULK AT MOST 1048576: true; the input reads as it did. -/
def logsAsksUptoRow : OpenClaim := { program := "ytplflgclomiihaa", sum := "f971dc786d1ab390adc6f0acbd7b62c34554c2fd8f3d3b689876883c9129d28f", func := "tessera/tesseralaw11.LogsAsks", spec := "logsAsks", unfollowed := true, recurses := true, apart := false, narrowed := true }
def LogsAsksUptoSaid : Prop := logsAsksUptoRow.holds Try.pinned (OpenSpec.upto logsAsksSpec)

end Rows
end Go.Proofs.Ytplflgclomiihaa
