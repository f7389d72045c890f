/-
  DERIVED. GIVEN WITH THE SEED: THE CARDS: each row of YtbbjonjhaoeidaaDoorRows.lean that lists a variable, with what it lists TIED to the program's text (the seventh form; the later family's looks); each row that meets fmt, with fmt's text TOLD by the authors' own Lean function (tested against real Go, not proved from fmt's source: count such statements apart). THE CARD IS WHAT COUNTS. Prove the row's statement (the work); the ties are given (YtbbjonjhaoeidaaDoorTie.lean); close each card by the builder's one call (the guide's Derived/Test/ToyasCard.lean, 'card_holds'). Laid BY PROGRAM, IN A SANDBOX (cutbox-door.mjs). By AI agents, Wed Nov 11 2026. No macro, syntax, notation, axiom, sorry.
-/
import Derived.Test.YtbbjonjhaoeidaaDoorRows
import GoSem.ClaimSeven
namespace Go.Proofs.YtbbjonjhaoeidaaDoor
namespace Rows

/-- THE TIED CARD OF 'tesseralaw04.TripleForms'. -/
def tripleFormsCard : Claim7 := { stood := { row := tripleFormsRow, standIns := [], harness := (true, "e74c73f5d0226618c1f4235de2cccf605ac11a4e6ebfe19276cb4a30d2682a04"), looks := true }, kinds := [], alts := [], laidByText := true, laidKinds := [.data, .data, .data, .data, .pinned], laidTests := true, laidLooks := .later }
def TripleFormsCardSaid : Prop := Claim7.holds Tryd.pinned (.plain (OpenSpec.ofChange tripleFormsSpec)) tripleFormsCard

/-- THE TIED CARD OF 'tesseralaw04.TripleSchemas'. -/
def tripleSchemasCard : Claim7 := { stood := { row := tripleSchemasRow, standIns := [], harness := (true, "e74c73f5d0226618c1f4235de2cccf605ac11a4e6ebfe19276cb4a30d2682a04"), looks := true }, kinds := [], alts := [], laidByText := true, laidKinds := [.data, .data, .data, .data, .pinned], laidTests := true, laidLooks := .later }
def TripleSchemasCardSaid : Prop := Claim7.holds Tryd.pinned (.plain (OpenSpec.ofChange tripleSchemasSpec)) tripleSchemasCard

/-- THE TIED CARD OF 'tesseralaw04.TripleOrders'. -/
def tripleOrdersCard : Claim7 := { stood := { row := tripleOrdersRow, standIns := [], harness := (true, "e74c73f5d0226618c1f4235de2cccf605ac11a4e6ebfe19276cb4a30d2682a04"), looks := true }, kinds := [], alts := [], laidByText := true, laidKinds := [.data, .data, .data, .data, .pinned], laidTests := true, laidLooks := .later }
def TripleOrdersCardSaid : Prop := Claim7.holds Tryd.pinned (.plain (OpenSpec.ofChange tripleOrdersSpec)) tripleOrdersCard

/-- THE TIED CARD OF 'tesseralaw03.ValueForms'. -/
def valueFormsCard : Claim7 := { stood := { row := valueFormsRow, standIns := [], harness := (true, "e74c73f5d0226618c1f4235de2cccf605ac11a4e6ebfe19276cb4a30d2682a04"), looks := true }, kinds := [], alts := [], laidByText := true, laidKinds := [.data, .data, .data, .data, .sentinel, .sentinel, .pinned], laidTests := true, laidLooks := .later }
def ValueFormsCardSaid : Prop := Claim7.holds Tryd.pinned (.plain (OpenSpec.ofChange valueFormsSpec)) valueFormsCard

/-- THE TIED CARD OF 'tesseralaw03.ValueReads'. -/
def valueReadsCard : Claim7 := { stood := { row := valueReadsRow, standIns := [], harness := (true, "e74c73f5d0226618c1f4235de2cccf605ac11a4e6ebfe19276cb4a30d2682a04"), looks := true }, kinds := [], alts := [], laidByText := true, laidKinds := [.data, .data, .data, .data, .sentinel, .sentinel, .pinned], laidTests := true, laidLooks := .later }
def ValueReadsCardSaid : Prop := Claim7.holds Tryd.pinned (.plain (OpenSpec.ofChange valueReadsSpec)) valueReadsCard

/-- THE TIED CARD OF 'tesseralaw03.ValueBack'. -/
def valueBackCard : Claim7 := { stood := { row := valueBackRow, standIns := [], harness := (true, "e74c73f5d0226618c1f4235de2cccf605ac11a4e6ebfe19276cb4a30d2682a04"), looks := true }, kinds := [], alts := [], laidByText := true, laidKinds := [.data, .data, .data, .data, .sentinel, .sentinel, .pinned], laidTests := true, laidLooks := .later }
def ValueBackCardSaid : Prop := Claim7.holds Tryd.pinned (.plain (OpenSpec.ofChange valueBackSpec)) valueBackCard

/-- THE TIED CARD OF 'tesseralaw04.TripleBack'. -/
def tripleBackCard : Claim7 := { stood := { row := tripleBackRow, standIns := [], harness := (true, "e74c73f5d0226618c1f4235de2cccf605ac11a4e6ebfe19276cb4a30d2682a04"), looks := true }, kinds := [], alts := [], laidByText := true, laidKinds := [.data, .data, .data, .data, .sentinel, .sentinel, .pinned], laidTests := true, laidLooks := .later }
def TripleBackCardSaid : Prop := Claim7.holds Tryd.pinned (.plain (OpenSpec.ofChange tripleBackSpec)) tripleBackCard

/-- THE SECOND FORM's CARD OF 'tesseralaw04.TripleForms'. -/
def tripleFormsUptoCard : Claim7 := { stood := { row := tripleFormsUptoRow, standIns := [], harness := (true, "e74c73f5d0226618c1f4235de2cccf605ac11a4e6ebfe19276cb4a30d2682a04"), looks := true }, kinds := [], alts := [], laidByText := true, laidKinds := [.data, .data, .data, .data, .pinned], laidTests := true, laidLooks := .later }
def TripleFormsUptoCardSaid : Prop := Claim7.holds Tryd.pinned (.plain (OpenSpec.upto tripleFormsSpec)) tripleFormsUptoCard

/-- THE SECOND FORM's CARD OF 'tesseralaw04.TripleSchemas'. -/
def tripleSchemasUptoCard : Claim7 := { stood := { row := tripleSchemasUptoRow, standIns := [], harness := (true, "e74c73f5d0226618c1f4235de2cccf605ac11a4e6ebfe19276cb4a30d2682a04"), looks := true }, kinds := [], alts := [], laidByText := true, laidKinds := [.data, .data, .data, .data, .pinned], laidTests := true, laidLooks := .later }
def TripleSchemasUptoCardSaid : Prop := Claim7.holds Tryd.pinned (.plain (OpenSpec.upto tripleSchemasSpec)) tripleSchemasUptoCard

/-- THE SECOND FORM's CARD OF 'tesseralaw04.TripleOrders'. -/
def tripleOrdersUptoCard : Claim7 := { stood := { row := tripleOrdersUptoRow, standIns := [], harness := (true, "e74c73f5d0226618c1f4235de2cccf605ac11a4e6ebfe19276cb4a30d2682a04"), looks := true }, kinds := [], alts := [], laidByText := true, laidKinds := [.data, .data, .data, .data, .pinned], laidTests := true, laidLooks := .later }
def TripleOrdersUptoCardSaid : Prop := Claim7.holds Tryd.pinned (.plain (OpenSpec.upto tripleOrdersSpec)) tripleOrdersUptoCard

/-- THE SECOND FORM's CARD OF 'tesseralaw03.ValueForms'. -/
def valueFormsUptoCard : Claim7 := { stood := { row := valueFormsUptoRow, standIns := [], harness := (true, "e74c73f5d0226618c1f4235de2cccf605ac11a4e6ebfe19276cb4a30d2682a04"), looks := true }, kinds := [], alts := [], laidByText := true, laidKinds := [.data, .data, .data, .data, .sentinel, .sentinel, .pinned], laidTests := true, laidLooks := .later }
def ValueFormsUptoCardSaid : Prop := Claim7.holds Tryd.pinned (.plain (OpenSpec.upto valueFormsSpec)) valueFormsUptoCard

/-- THE SECOND FORM's CARD OF 'tesseralaw03.ValueReads'. -/
def valueReadsUptoCard : Claim7 := { stood := { row := valueReadsUptoRow, standIns := [], harness := (true, "e74c73f5d0226618c1f4235de2cccf605ac11a4e6ebfe19276cb4a30d2682a04"), looks := true }, kinds := [], alts := [], laidByText := true, laidKinds := [.data, .data, .data, .data, .sentinel, .sentinel, .pinned], laidTests := true, laidLooks := .later }
def ValueReadsUptoCardSaid : Prop := Claim7.holds Tryd.pinned (.plain (OpenSpec.upto valueReadsSpec)) valueReadsUptoCard

/-- THE SECOND FORM's CARD OF 'tesseralaw03.ValueBack'. -/
def valueBackUptoCard : Claim7 := { stood := { row := valueBackUptoRow, standIns := [], harness := (true, "e74c73f5d0226618c1f4235de2cccf605ac11a4e6ebfe19276cb4a30d2682a04"), looks := true }, kinds := [], alts := [], laidByText := true, laidKinds := [.data, .data, .data, .data, .sentinel, .sentinel, .pinned], laidTests := true, laidLooks := .later }
def ValueBackUptoCardSaid : Prop := Claim7.holds Tryd.pinned (.plain (OpenSpec.upto valueBackSpec)) valueBackUptoCard

/-- THE SECOND FORM's CARD OF 'tesseralaw04.TripleBack'. -/
def tripleBackUptoCard : Claim7 := { stood := { row := tripleBackUptoRow, standIns := [], harness := (true, "e74c73f5d0226618c1f4235de2cccf605ac11a4e6ebfe19276cb4a30d2682a04"), looks := true }, kinds := [], alts := [], laidByText := true, laidKinds := [.data, .data, .data, .data, .sentinel, .sentinel, .pinned], laidTests := true, laidLooks := .later }
def TripleBackUptoCardSaid : Prop := Claim7.holds Tryd.pinned (.plain (OpenSpec.upto tripleBackSpec)) tripleBackUptoCard
end Rows
end Go.Proofs.YtbbjonjhaoeidaaDoor
