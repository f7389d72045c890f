/-
  DERIVED. GIVEN WITH THE SEED: THE CARDS: each row of YtnhfkdgambncfaaGreatDoorRows.lean that lists a variable, with what it lists TIED to the program's text (the seventh form; the later family's looks); each row that meets fmt, with fmt's text TOLD by the authors' own Lean function (tested against real Go, not proved from fmt's source: count such statements apart). THE CARD IS WHAT COUNTS. Prove the row's statement (the work); the ties are given (YtnhfkdgambncfaaGreatDoorTie.lean); close each card by the builder's one call (the guide's Derived/Test/ToyasCard.lean, 'card_holds'). Laid BY PROGRAM, IN A SANDBOX (cutbox-door.mjs). By AI agents, Wed Nov 11 2026. No macro, syntax, notation, axiom, sorry.
-/
import Derived.Test.YtnhfkdgambncfaaGreatDoorRows
import GoSem.ClaimSeven
namespace Go.Proofs.YtnhfkdgambncfaaGreatDoor
namespace Rows

/-- THE TIED CARD OF 'tesseralaw04.TripleClaims'. -/
def tripleClaimsCard : Claim7 := { stood := { row := tripleClaimsRow, standIns := [], harness := (true, "7643f6156f11b2504e08efd4e889a8623d9f125ffd5cc8090d162d4b52168a38"), looks := false }, kinds := [], alts := [], laidByText := true, laidKinds := [.data, .data, .data, .data, .pinned], laidTests := true, laidLooks := .later }
def TripleClaimsCardSaid : Prop := Claim7.holds Tryz.pinned (.plain (OpenSpec.ofChange tripleClaimsSpec)) tripleClaimsCard

/-- THE SECOND FORM's CARD OF 'tesseralaw04.TripleClaims'. -/
def tripleClaimsUptoCard : Claim7 := { stood := { row := tripleClaimsUptoRow, standIns := [], harness := (true, "7643f6156f11b2504e08efd4e889a8623d9f125ffd5cc8090d162d4b52168a38"), looks := false }, kinds := [], alts := [], laidByText := true, laidKinds := [.data, .data, .data, .data, .pinned], laidTests := true, laidLooks := .later }
def TripleClaimsUptoCardSaid : Prop := Claim7.holds Tryz.pinned (.plain (OpenSpec.upto tripleClaimsSpec)) tripleClaimsUptoCard
end Rows
end Go.Proofs.YtnhfkdgambncfaaGreatDoor
