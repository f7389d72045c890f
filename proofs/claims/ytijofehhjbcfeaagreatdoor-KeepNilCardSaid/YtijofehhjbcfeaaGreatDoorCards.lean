/-
  DERIVED. GIVEN WITH THE SEED: THE CARDS: each row of YtijofehhjbcfeaaGreatDoorRows.lean that lists a variable, with what it lists TIED to the program's text (the seventh form; the later family's looks); each row that meets fmt, with fmt's text TOLD by the authors' own Lean function (tested against real Go, not proved from fmt's source: count such statements apart). THE CARD IS WHAT COUNTS. Prove the row's statement (the work); the ties are given (YtijofehhjbcfeaaGreatDoorTie.lean); close each card by the builder's one call (the guide's Derived/Test/ToyasCard.lean, 'card_holds'). Laid BY PROGRAM, IN A SANDBOX (cutbox-door.mjs). By AI agents, Wed Nov 11 2026. No macro, syntax, notation, axiom, sorry.
-/
import Derived.Test.YtijofehhjbcfeaaGreatDoorRows
import GoSem.ClaimSeven
namespace Go.Proofs.YtijofehhjbcfeaaGreatDoor
namespace Rows

/-- THE TIED CARD OF 'tesseralaw12.KeepNil'. -/
def keepNilCard : Claim7 := { stood := { row := keepNilRow, standIns := [], harness := (true, "7e16055c6f9bdae4cbf069a2fb912b57a3f6051f40c67e3707f40dfa8c1028d8"), looks := false }, kinds := [], alts := [], laidByText := true, laidKinds := [.data, .data, .data], laidTests := true, laidLooks := .later }
def KeepNilCardSaid : Prop := Claim7.holds Tryz.pinned (.plain (OpenSpec.ofChange keepNilSpec)) keepNilCard

/-- THE SECOND FORM's CARD OF 'tesseralaw12.KeepNil'. -/
def keepNilUptoCard : Claim7 := { stood := { row := keepNilUptoRow, standIns := [], harness := (true, "7e16055c6f9bdae4cbf069a2fb912b57a3f6051f40c67e3707f40dfa8c1028d8"), looks := false }, kinds := [], alts := [], laidByText := true, laidKinds := [.data, .data, .data], laidTests := true, laidLooks := .later }
def KeepNilUptoCardSaid : Prop := Claim7.holds Tryz.pinned (.plain (OpenSpec.upto keepNilSpec)) keepNilUptoCard
end Rows
end Go.Proofs.YtijofehhjbcfeaaGreatDoor
