/-
  DERIVED. GIVEN WITH THE SEED: THE CARDS: each row of YtdjniofefijokaaDoorRows.lean that lists a variable, with what it lists TIED to the program's text (the seventh form; the later family's looks); each row that meets fmt, with fmt's text TOLD by the authors' own Lean function (tested against real Go, not proved from fmt's source: count such statements apart). THE CARD IS WHAT COUNTS. Prove the row's statement (the work); the ties are given (YtdjniofefijokaaDoorTie.lean); close each card by the builder's one call (the guide's Derived/Test/ToyasCard.lean, 'card_holds'). Laid BY PROGRAM, IN A SANDBOX (cutbox-door.mjs). By AI agents, Wed Nov 11 2026. No macro, syntax, notation, axiom, sorry.
-/
import Derived.Test.YtdjniofefijokaaDoorRows
import GoSem.ClaimSeven
namespace Go.Proofs.YtdjniofefijokaaDoor
namespace Rows

/-- THE TIED CARD OF 'tesseralaw03.ValueTerms'. -/
def valueTermsCard : Claim7 := { stood := { row := valueTermsRow, standIns := [], harness := (true, "3884ddc650871ea019dc1a529fd612d34777c8a83579ab98c8bb756f85bf3eca"), looks := true }, kinds := [], alts := [], laidByText := true, laidKinds := [.data, .data, .data, .data, .sentinel, .sentinel, .pinned], laidTests := true, laidLooks := .later }
def ValueTermsCardSaid : Prop := Claim7.holds Tryd.pinned (.plain (OpenSpec.ofChange valueTermsSpec)) valueTermsCard

/-- THE SECOND FORM's CARD OF 'tesseralaw03.ValueTerms'. -/
def valueTermsUptoCard : Claim7 := { stood := { row := valueTermsUptoRow, standIns := [], harness := (true, "3884ddc650871ea019dc1a529fd612d34777c8a83579ab98c8bb756f85bf3eca"), looks := true }, kinds := [], alts := [], laidByText := true, laidKinds := [.data, .data, .data, .data, .sentinel, .sentinel, .pinned], laidTests := true, laidLooks := .later }
def ValueTermsUptoCardSaid : Prop := Claim7.holds Tryd.pinned (.plain (OpenSpec.upto valueTermsSpec)) valueTermsUptoCard
end Rows
end Go.Proofs.YtdjniofefijokaaDoor
