/-
  'tesseralaw14.SeatsReads' returns true, whatever its arguments; each argument reads behind the call as it read before.
  No conditions.
-/
import Derived.Test.YtplflgclomiihaaGreatRows
import Derived.Test.YtplflgclomiihaaGreatQLSB
set_option linter.unusedVariables false
set_option linter.unusedSimpArgs false
namespace Go.Proofs.YtplflgclomiihaaGreat.seatsReads
open Go.ChangeShapes Go.WideShapes Go.ChangeAt Go.RowKit Go.Proofs.YtplflgclomiihaaGreat.W Go.Proofs.YtplflgclomiihaaGreat.Sv Go.Proofs.YtplflgclomiihaaGreat.XT
theorem own : ownKnob Tryz.prog.godebug = none := by kernel_rfl
theorem laid : laidOutB Tryz.prog = true := by kernel_rfl
set_option maxRecDepth 100000 in
theorem contract (H : Type) (enc : TypeId × Value → H) (W : World) (base : Nat) (args : Array Value) (ds gs : List (DataW H)) (before : List MemPlace) (vts : List TypeId)
    (hval : ∀ (j : Nat) t v, Tryz.f3.params[j]? = some t → args[j]? = some v → Value.okWide Tryz.prog W .any base t v)
    (hW : DataW.Whole enc Tryz.prog Tryz.f3.params.toList Rows.seatsReadsSpec.vars false W args.toList ds gs before)
    (hwt : (DataW.weightsEach Tryz.prog (Tryz.f3.params.toList ++ vts) (ds ++ gs)).all (· ≤ reachBytes) = true) :
    Calls Tryz.prog 3 args W fun e W' => ∃ v, e = .returned v ∧ Rows.seatsReadsSpec.post enc Tryz.prog Tryz.f3 false true false false W args v W' :=
  law_frame2 (tb := 4) (Bd2.sized H Tryz.prog) Tryz.f3.params.toList [(.t [(.i .i64), (.l (.i .i64)), (.i .u64), (.i .i64), (.i .u8), (.i .i64), (.i .u64), (.i .u64), (.l (.i .i64)), .s, (.l (.t [(.i .u64), (.i .u8), .s, (.l (.i .i64))])), (.i .u64), (.i .i64), (.i .i64), (.l (.i .i64)), (.l (.t [(.i .i64), (.i .u64), (.i .u64)])), (.i .u64), (.l (.t [(.i .u64), (.i .u64), (.l (.i .i64))]))])] laid rfl (by kernel_rfl) rfl (fun dws h => by match dws, h with | [x0], _ => rfl) (by kernel_rfl) (by kernel_rfl) seatsC_ok rfl rfl (fun _ => rfl) (seats_pre) hval hW (sized_args hwt) trivial
set_option maxRecDepth 100000 in
theorem lifted (os : Os) (started : os.Started) (H : Type) (enc : TypeId × Value → H) :
    ReturnsInHanded {} Tryz.checked os 3 .any (Rows.seatsReadsSpec.pre6 enc Tryz.prog Tryz.f3 Rows.seatsReadsRow.domain false) (Rows.seatsReadsSpec.post enc Tryz.prog Tryz.f3 false true false false) := by
  refine returnsInHanded_of_change_sized (C := Tryz.checked) own started (by kernel_rfl) Tryz.func3
    (ChangeSpec.witness6 (enc := enc) (C := Tryz.checked) false ⟨#[], #[.agg #[.int .i64 0, .slice none 0 0, .int .u64 0, .int .i64 0, .int .u8 0, .int .i64 0, .int .u64 0, .int .u64 0, .slice none 0 0, .string (ByteArray.mk #[]), .slice none 0 0, .int .u64 0, .int .i64 0, .int .i64 0, .slice none 0 0, .slice none 0 0, .int .u64 0, .slice none 0 0]], []⟩ 8 (by kernel_rfl) (by kernel_rfl) (by kernel_rfl) (by kernel_rfl)) ?_
  intro W base args ds gs before hval hW _ hwt _
  exact contract H enc W base args ds gs before _ hval hW hwt
theorem proved : Rows.SeatsReadsSaid :=
  OpenClaim.holds_of_wide 3 Tryz.f3 rfl rfl rfl rfl rfl rfl rfl ⟨rfl, rfl, rfl, rfl, rfl⟩ rfl rfl rfl rfl rfl (by kernel_rfl) Tryz.func3 (by kernel_rfl)
    (of_decide_eq_true (by kernel_rfl)) (by unfold Func.isWrapper; first | (rw [if_pos (by decide +kernel)]; kernel_rfl) | (rw [if_neg (by decide +kernel)]; exact ⟨rfl, rfl⟩))
    (fun os started H enc _ => lifted os started H enc)
end Go.Proofs.YtplflgclomiihaaGreat.seatsReads
