/-
  DERIVED. GIVEN WITH THE SEED: THE CARDS: each row of YtnhfkdgambncfaaDoorRows.lean that lists a variable, with what it lists TIED to the program's text (the seventh form; the later family's looks); each row that meets fmt, with fmt's text TOLD by the authors' own Lean function (tested against real Go, not proved from fmt's source: count such statements apart). THE CARD IS WHAT COUNTS. Prove the row's statement (the work); the ties are given (YtnhfkdgambncfaaDoorTie.lean); close each card by the builder's one call (the guide's Derived/Test/ToyasCard.lean, 'card_holds'). Laid BY PROGRAM, IN A SANDBOX (cutbox-door.mjs). By AI agents, Wed Nov 11 2026. No macro, syntax, notation, axiom, sorry.
-/
import Derived.Test.YtnhfkdgambncfaaDoorRows
import GoSem.ClaimSeven
namespace Go.Proofs.YtnhfkdgambncfaaDoor
namespace Rows

/-- THE TIED CARD OF 'tesseralaw04.TripleOne'. -/
def tripleOneCard : Claim7 := { stood := { row := tripleOneRow, standIns := [], harness := (true, "d1ea66c86b1a64aefc43b6cf03e1cbd9e000a405c8badb77102648727fb04708"), looks := false }, kinds := [], alts := [], laidByText := true, laidKinds := [.data, .data, .data, .data, .pinned], laidTests := true, laidLooks := .later }
def TripleOneCardSaid : Prop := Claim7.holds Tryd.pinned (.plain (OpenSpec.ofChange tripleOneSpec)) tripleOneCard

/-- THE SECOND FORM's CARD OF 'tesseralaw04.TripleOne'. -/
def tripleOneUptoCard : Claim7 := { stood := { row := tripleOneUptoRow, standIns := [], harness := (true, "d1ea66c86b1a64aefc43b6cf03e1cbd9e000a405c8badb77102648727fb04708"), looks := false }, kinds := [], alts := [], laidByText := true, laidKinds := [.data, .data, .data, .data, .pinned], laidTests := true, laidLooks := .later }
def TripleOneUptoCardSaid : Prop := Claim7.holds Tryd.pinned (.plain (OpenSpec.upto tripleOneSpec)) tripleOneUptoCard
end Rows
end Go.Proofs.YtnhfkdgambncfaaDoor
