/-
  DERIVED. GIVEN WITH THE SEED: THE CARDS: each row of YtllpjlpmjoopmaaGreatDoorRows.lean that lists a variable, with what it lists TIED to the program's text (the seventh form; the later family's looks); each row that meets fmt, with fmt's text TOLD by the authors' own Lean function (tested against real Go, not proved from fmt's source: count such statements apart). THE CARD IS WHAT COUNTS. Prove the row's statement (the work); the ties are given (YtllpjlpmjoopmaaGreatDoorTie.lean); close each card by the builder's one call (the guide's Derived/Test/ToyasCard.lean, 'card_holds'). Laid BY PROGRAM, IN A SANDBOX (cutbox-door.mjs). By AI agents, Wed Nov 11 2026. No macro, syntax, notation, axiom, sorry.
-/
import Derived.Test.YtllpjlpmjoopmaaGreatDoorRows
import GoSem.ClaimSeven
namespace Go.Proofs.YtllpjlpmjoopmaaGreatDoor
namespace Rows

/-- THE TIED CARD OF 'tesseralaw18.PostNone'. -/
def postNoneCard : Claim7 := { stood := { row := postNoneRow, standIns := [], harness := (true, "f9d932eda0ac5e69d6157fd55c965fd12e4834d8c3ff02c10e63a6299441f120"), looks := false }, kinds := [], alts := [], laidByText := true, laidKinds := [.data, .pinned], laidTests := true, laidLooks := .later }
def PostNoneCardSaid : Prop := Claim7.holds Tryz.pinned (.plain (OpenSpec.ofChange postNoneSpec)) postNoneCard

/-- THE SECOND FORM's CARD OF 'tesseralaw18.PostNone'. -/
def postNoneUptoCard : Claim7 := { stood := { row := postNoneUptoRow, standIns := [], harness := (true, "f9d932eda0ac5e69d6157fd55c965fd12e4834d8c3ff02c10e63a6299441f120"), looks := false }, kinds := [], alts := [], laidByText := true, laidKinds := [.data, .pinned], laidTests := true, laidLooks := .later }
def PostNoneUptoCardSaid : Prop := Claim7.holds Tryz.pinned (.plain (OpenSpec.upto postNoneSpec)) postNoneUptoCard
end Rows
end Go.Proofs.YtllpjlpmjoopmaaGreatDoor
