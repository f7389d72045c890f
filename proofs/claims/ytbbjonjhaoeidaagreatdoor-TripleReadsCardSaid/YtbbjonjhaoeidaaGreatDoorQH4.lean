/- strings.Index of a blank, out of the shelf. -/
import Derived.Test.YtbbjonjhaoeidaaGreatDoorQH3
import Derived.Shelf.Strings.Search3
set_option linter.unusedVariables false
set_option linter.unusedSimpArgs false
namespace Go.Proofs
open Go.Shelf Go.RowKit
theorem Tryz.idx_one (s : ByteArray) (c : UInt8) (w : World) : Calls Tryz.prog 62 #[.string s, .string ⟨#[c]⟩] w fun e w' => e = .returned (.int .i64 (Lib.indexByte s.data.toList c)) ∧ w' = w :=
  Any.strings_Index_one { Tryz.lays147 with } s c w
end Go.Proofs
namespace Go.Proofs.YtbbjonjhaoeidaaGreatDoor.XT
open Go Go.RowKit Go.Proofs.YtbbjonjhaoeidaaGreatDoor.Sv Go.Proofs.YtbbjonjhaoeidaaGreatDoor.W
/-- the first blank's place -/
def idxB (s : ByteArray) : Int := Lib.indexByte s.data.toList 32
def idxC : Con := ⟨[.d true .s, .d true .s], fun ds => [(nthD ds 1).str = ByteArray.mk #[32]], [.d (.i .i64)], fun ds => [.i (idxB (nthD ds 0).str)], fun _ => []⟩
theorem idxC_ok : ConOK Tryz.prog gl 62 idxC := scal_ok rfl (fun ds => ⟨_, rfl⟩) fun w ds vs e hg hp => by
  cases e
  have h1 : (nthD ds 1).str = ByteArray.mk #[32] := hp _ (by simp [idxC])
  have e1 : (nthD (tailD ds) 0).str = ByteArray.mk #[32] := by rw [nthD_tail]; exact h1
  rw [e1]
  refine fnc_of (Tryz.idx_one (nthD ds 0).str 32 w) ?_
  rintro e w' ⟨rfl, rfl⟩
  exact ⟨_, rfl, rfl, Ext.refl _ _⟩
end Go.Proofs.YtbbjonjhaoeidaaGreatDoor.XT
