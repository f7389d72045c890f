/-
  DERIVED. GIVEN WITH THE SEED: THE CARDS: each row of YtidejjhbiinhaaaGreatDoorRows.lean that lists a variable, with what it lists TIED to the program's text (the seventh form; the later family's looks); each row that meets fmt, with fmt's text TOLD by the authors' own Lean function (tested against real Go, not proved from fmt's source: count such statements apart). THE CARD IS WHAT COUNTS. Prove the row's statement (the work); the ties are given (YtidejjhbiinhaaaGreatDoorTie.lean); close each card by the builder's one call (the guide's Derived/Test/ToyasCard.lean, 'card_holds'). Laid BY PROGRAM, IN A SANDBOX (cutbox-door.mjs). By AI agents, Wed Nov 11 2026. No macro, syntax, notation, axiom, sorry.
-/
import Derived.Test.YtidejjhbiinhaaaGreatDoorRows
import GoSem.ClaimSeven
namespace Go.Proofs.YtidejjhbiinhaaaGreatDoor
namespace Rows

/-- THE TIED CARD OF 'tesseralaw17.GraphNil'. -/
def graphNilCard : Claim7 := { stood := { row := graphNilRow, standIns := [], harness := (true, "d8f251d78b3278b011c292cb5bafb918ae1fce8cef10e3de6326cd4dcf28ddc3"), looks := true }, kinds := [], alts := [], laidByText := true, laidKinds := [.data, .pinned], laidTests := true, laidLooks := .later }
def GraphNilCardSaid : Prop := Claim7.holds Tryz.pinned (.plain (OpenSpec.ofChange graphNilSpec)) graphNilCard

/-- THE SECOND FORM's CARD OF 'tesseralaw17.GraphNil'. -/
def graphNilUptoCard : Claim7 := { stood := { row := graphNilUptoRow, standIns := [], harness := (true, "d8f251d78b3278b011c292cb5bafb918ae1fce8cef10e3de6326cd4dcf28ddc3"), looks := true }, kinds := [], alts := [], laidByText := true, laidKinds := [.data, .pinned], laidTests := true, laidLooks := .later }
def GraphNilUptoCardSaid : Prop := Claim7.holds Tryz.pinned (.plain (OpenSpec.upto graphNilSpec)) graphNilUptoCard
end Rows
end Go.Proofs.YtidejjhbiinhaaaGreatDoor
