/-
  DERIVED. GIVEN WITH THE SEED: THE CARDS: each row of YtbbjonjhaoeidaaGreatDoorRows.lean that lists a variable, with what it lists TIED to the program's text (the seventh form; the later family's looks); each row that meets fmt, with fmt's text TOLD by the authors' own Lean function (tested against real Go, not proved from fmt's source: count such statements apart). THE CARD IS WHAT COUNTS. Prove the row's statement (the work); the ties are given (YtbbjonjhaoeidaaGreatDoorTie.lean); close each card by the builder's one call (the guide's Derived/Test/ToyasCard.lean, 'card_holds'). Laid BY PROGRAM, IN A SANDBOX (cutbox-door.mjs). By AI agents, Wed Nov 11 2026. No macro, syntax, notation, axiom, sorry.
-/
import Derived.Test.YtbbjonjhaoeidaaGreatDoorRows
import GoSem.ClaimSeven
namespace Go.Proofs.YtbbjonjhaoeidaaGreatDoor
namespace Rows

/-- THE TIED CARD OF 'tesseralaw04.TripleReads'. -/
def tripleReadsCard : Claim7 := { stood := { row := tripleReadsRow, standIns := [], harness := (true, "6aab2d673b018afabff79bb889d56bae1ef12800fdaa25e48a48031924d6a57c"), looks := true }, kinds := [], alts := [], laidByText := true, laidKinds := [.data, .data, .data, .data, .sentinel, .sentinel, .pinned], laidTests := true, laidLooks := .later }
def TripleReadsCardSaid : Prop := Claim7.holds Tryz.pinned (.plain (OpenSpec.ofChange tripleReadsSpec)) tripleReadsCard

/-- THE SECOND FORM's CARD OF 'tesseralaw04.TripleReads'. -/
def tripleReadsUptoCard : Claim7 := { stood := { row := tripleReadsUptoRow, standIns := [], harness := (true, "6aab2d673b018afabff79bb889d56bae1ef12800fdaa25e48a48031924d6a57c"), looks := true }, kinds := [], alts := [], laidByText := true, laidKinds := [.data, .data, .data, .data, .sentinel, .sentinel, .pinned], laidTests := true, laidLooks := .later }
def TripleReadsUptoCardSaid : Prop := Claim7.holds Tryz.pinned (.plain (OpenSpec.upto tripleReadsSpec)) tripleReadsUptoCard
end Rows
end Go.Proofs.YtbbjonjhaoeidaaGreatDoor
