/-
  No cell of these rows narrows 'for every input' (looked for: loops, veiled, ifaces, maps, wideKeys, modest, calm, conditions, laid).
  DERIVED. THE GIVEN ROWS OF THIS SEAT. 4 by the template 'for every input the law returns true; each argument reads behind the call as it read before'; 0 by the template 'total and deterministic' (their statements: YtbpamkbegggeoaaTotals.lean).
  GIVEN WITH THE SEED: the statements are not yours to turn. If you find one false, say at which input.
  Laid BY PROGRAM, IN A SANDBOX (cutbox-rows.mjs): the forced cells as the released guide's own fill.sh prints them over the translation bb730d91bd926f16… (all of the seat's roots in one cut). By AI agents, Wed Nov 11 2026. No macro, syntax, notation, axiom, sorry.
-/
import Derived.Test.YtbpamkbegggeoaaChecked
import GoSem.Claim
import GoSem.ClaimJoined
import GoSem.ClaimMapViews
import Derived.JoinedTies
import Derived.KernelRfl
namespace Go.Proofs.Ytbpamkbegggeoaa
/- THE CELL 'sum', in the pinned program and in every row, IS THE sha256 OF THE DUMP (.gsa) THAT YtbpamkbegggeoaaProg.lean LOADS. Nothing in Lean hashes anything: it is a label: what it is worth is what the hold of that sum in a sandbox is worth. -/
noncomputable def Try.pinned : Pinned := { name := "ytbpamkbegggeoaa", sum := "bb730d91bd926f16381fbe8abdca9998549013f26b1b45cb765f1909aa34584d", checked := Try.checked }
namespace Rows
def none {H : Type} : Left H := { results := [], args := [] }

/-- 'tesseralaw10.VoteForms': WHATEVER THE INPUT: true; the input reads as it did. -/
def voteFormsSpec : ChangeSpec := { name := "voteForms", fn := fun _ => fun
  | [d1, d2, d3] => { results := [.lit (.bool true)], args := [d1, d2, d3] }
  | _ => none }
def voteFormsRow : OpenClaim := { program := "ytbpamkbegggeoaa", sum := "bb730d91bd926f16381fbe8abdca9998549013f26b1b45cb765f1909aa34584d", func := "tessera/tesseralaw10.VoteForms", spec := "voteForms", unfollowed := true, recurses := true, apart := false }
def VoteFormsSaid : Prop := voteFormsRow.holds Try.pinned (OpenSpec.ofChange voteFormsSpec)

/-- ITS FALSE NEIGHBOUR: 'it returns false'. Refute it at one input. -/
def voteFormsWrong : ChangeSpec := { name := "voteForms", fn := fun _ => fun
  | [d1, d2, d3] => { results := [.lit (.bool false)], args := [d1, d2, d3] }
  | _ => none }
def VoteFormsWrongFalsely : Prop := voteFormsRow.holds Try.pinned (OpenSpec.ofChange voteFormsWrong)

/-- 'tesseralaw10.VoteBytes': WHATEVER THE INPUT: true; the input reads as it did. -/
def voteBytesSpec : ChangeSpec := { name := "voteBytes", fn := fun _ => fun
  | [d1, d2] => { results := [.lit (.bool true)], args := [d1, d2] }
  | _ => none }
def voteBytesRow : OpenClaim := { program := "ytbpamkbegggeoaa", sum := "bb730d91bd926f16381fbe8abdca9998549013f26b1b45cb765f1909aa34584d", func := "tessera/tesseralaw10.VoteBytes", spec := "voteBytes", inPlace := ["internal/abi.NoEscape"], unfollowed := true, recurses := true, apart := false }
def VoteBytesSaid : Prop := voteBytesRow.holds Try.pinned (OpenSpec.ofChange voteBytesSpec)

/-- ITS FALSE NEIGHBOUR: 'it returns false'. Refute it at one input. -/
def voteBytesWrong : ChangeSpec := { name := "voteBytes", fn := fun _ => fun
  | [d1, d2] => { results := [.lit (.bool false)], args := [d1, d2] }
  | _ => none }
def VoteBytesWrongFalsely : Prop := voteBytesRow.holds Try.pinned (OpenSpec.ofChange voteBytesWrong)

/-- 'tesseralaw10.VoteSteps': WHATEVER THE INPUT: true; the input reads as it did. -/
def voteStepsSpec : ChangeSpec := { name := "voteSteps", fn := fun _ => fun
  | [d1, d2, d3, d4] => { results := [.lit (.bool true)], args := [d1, d2, d3, d4] }
  | _ => none }
def voteStepsRow : OpenClaim := { program := "ytbpamkbegggeoaa", sum := "bb730d91bd926f16381fbe8abdca9998549013f26b1b45cb765f1909aa34584d", func := "tessera/tesseralaw10.VoteSteps", spec := "voteSteps", inPlace := ["slices.overlaps[int]"], unfollowed := true, recurses := true, apart := false }
def VoteStepsSaid : Prop := voteStepsRow.holds Try.pinned (OpenSpec.ofChange voteStepsSpec)

/-- ITS FALSE NEIGHBOUR: 'it returns false'. Refute it at one input. -/
def voteStepsWrong : ChangeSpec := { name := "voteSteps", fn := fun _ => fun
  | [d1, d2, d3, d4] => { results := [.lit (.bool false)], args := [d1, d2, d3, d4] }
  | _ => none }
def VoteStepsWrongFalsely : Prop := voteStepsRow.holds Try.pinned (OpenSpec.ofChange voteStepsWrong)

/-- 'tesseralaw10.VoteOneLeader': WHATEVER THE INPUT: true; the input reads as it did. -/
def voteOneLeaderSpec : ChangeSpec := { name := "voteOneLeader", fn := fun _ => fun
  | [d1, d2] => { results := [.lit (.bool true)], args := [d1, d2] }
  | _ => none }
def voteOneLeaderRow : OpenClaim := { program := "ytbpamkbegggeoaa", sum := "bb730d91bd926f16381fbe8abdca9998549013f26b1b45cb765f1909aa34584d", func := "tessera/tesseralaw10.VoteOneLeader", spec := "voteOneLeader", inPlace := ["slices.overlaps[int]"], unfollowed := true, recurses := true, apart := false }
def VoteOneLeaderSaid : Prop := voteOneLeaderRow.holds Try.pinned (OpenSpec.ofChange voteOneLeaderSpec)

/-- ITS FALSE NEIGHBOUR: 'it returns false'. Refute it at one input. -/
def voteOneLeaderWrong : ChangeSpec := { name := "voteOneLeader", fn := fun _ => fun
  | [d1, d2] => { results := [.lit (.bool false)], args := [d1, d2] }
  | _ => none }
def VoteOneLeaderWrongFalsely : Prop := voteOneLeaderRow.holds Try.pinned (OpenSpec.ofChange voteOneLeaderWrong)

/- THE SECOND FORM. 'bulk': how many values and letters a reading holds, each counted each time it is reached (what is shared counts as often as it is met; a slice's spare places count too). A statement '..UptoSaid' is the law's where the arguments, and the package variables that the reading takes, are together of bulk at most 1048576: NARROWER than '..Said'. Prove '..Said' where nothing that the law and all that it calls make is longer than what came in: it says more and counts as full. Else prove '..UptoSaid'. A law counts once. -/
mutual
def uptoBulk {H : Type} : DataW H → Nat
  | .lit (.string bytes) => bytes.length + 1
  | .lit _ => 1
  | .nil => 1
  | .ptr d => uptoBulk d + 1
  | .slice elems spare => uptoBulkAll elems + uptoBulkAll spare + 1
  | .agg parts => uptoBulkAll parts + 1
  | .iface _ d => uptoBulk d + 1
  | .map entries => uptoBulkEntries entries + 1
  | .held _ => 1
def uptoBulkAll {H : Type} : List (DataW H) → Nat
  | [] => 0
  | d :: r => uptoBulk d + uptoBulkAll r
def uptoBulkEntries {H : Type} : List (Lit × DataW H) → Nat
  | [] => 0
  | x :: r => uptoBulkEntry x + uptoBulkEntries r
def uptoBulkEntry {H : Type} : Lit × DataW H → Nat
  | (.string bytes, d) => bytes.length + uptoBulk d + 1
  | (_, d) => uptoBulk d + 1
 end
def uptoSmall : (H : Type) → List (DataW H) → Bool := fun _ ds => decide (uptoBulkAll ds ≤ 1048576)
def OpenSpec.upto (s : _root_.Go.ChangeSpec) : _root_.Go.OpenSpec := { _root_.Go.OpenSpec.ofChange s with cond := some uptoSmall }

/-- 'tesseralaw10.VoteForms', WHERE WHAT IT READS IS OF BULK AT MOST 1048576: true; the input reads as it did. -/
def voteFormsUptoRow : OpenClaim := { program := "ytbpamkbegggeoaa", sum := "bb730d91bd926f16381fbe8abdca9998549013f26b1b45cb765f1909aa34584d", func := "tessera/tesseralaw10.VoteForms", spec := "voteForms", unfollowed := true, recurses := true, apart := false, narrowed := true }
def VoteFormsUptoSaid : Prop := voteFormsUptoRow.holds Try.pinned (OpenSpec.upto voteFormsSpec)

/-- 'tesseralaw10.VoteBytes', WHERE WHAT IT READS IS OF BULK AT MOST 1048576: true; the input reads as it did. -/
def voteBytesUptoRow : OpenClaim := { program := "ytbpamkbegggeoaa", sum := "bb730d91bd926f16381fbe8abdca9998549013f26b1b45cb765f1909aa34584d", func := "tessera/tesseralaw10.VoteBytes", spec := "voteBytes", inPlace := ["internal/abi.NoEscape"], unfollowed := true, recurses := true, apart := false, narrowed := true }
def VoteBytesUptoSaid : Prop := voteBytesUptoRow.holds Try.pinned (OpenSpec.upto voteBytesSpec)

/-- 'tesseralaw10.VoteSteps', WHERE WHAT IT READS IS OF BULK AT MOST 1048576: true; the input reads as it did. -/
def voteStepsUptoRow : OpenClaim := { program := "ytbpamkbegggeoaa", sum := "bb730d91bd926f16381fbe8abdca9998549013f26b1b45cb765f1909aa34584d", func := "tessera/tesseralaw10.VoteSteps", spec := "voteSteps", inPlace := ["slices.overlaps[int]"], unfollowed := true, recurses := true, apart := false, narrowed := true }
def VoteStepsUptoSaid : Prop := voteStepsUptoRow.holds Try.pinned (OpenSpec.upto voteStepsSpec)

/-- 'tesseralaw10.VoteOneLeader', WHERE WHAT IT READS IS OF BULK AT MOST 1048576: true; the input reads as it did. -/
def voteOneLeaderUptoRow : OpenClaim := { program := "ytbpamkbegggeoaa", sum := "bb730d91bd926f16381fbe8abdca9998549013f26b1b45cb765f1909aa34584d", func := "tessera/tesseralaw10.VoteOneLeader", spec := "voteOneLeader", inPlace := ["slices.overlaps[int]"], unfollowed := true, recurses := true, apart := false, narrowed := true }
def VoteOneLeaderUptoSaid : Prop := voteOneLeaderUptoRow.holds Try.pinned (OpenSpec.upto voteOneLeaderSpec)

end Rows
end Go.Proofs.Ytbpamkbegggeoaa
