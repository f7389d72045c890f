/-
  'tesseralaw04.TripleOne' returns true, whatever its arguments; each argument reads behind the call as it read before.
  The package-level variables that its row lists hold what the program's text lays in them: the card ties them.
-/
import Derived.Test.YtnhfkdgambncfaaDoorCards
import Derived.Test.YtnhfkdgambncfaaDoorTie
import Derived.Deep.DeepWitnessRowRef
import Derived.Lay
import Derived.Test.YtnhfkdgambncfaaDoorQTG
import Derived.Test.YtnhfkdgambncfaaDoorQTOK
set_option linter.unusedVariables false
set_option linter.unusedSimpArgs false
set_option linter.unusedSectionVars false
namespace Go.Proofs.YtnhfkdgambncfaaDoor.tripleOne
open Go.ChangeShapes Go.WideShapes Go.ChangeAt Go.RowKit Go.Proofs.YtnhfkdgambncfaaDoor.W Go.Proofs.YtnhfkdgambncfaaDoor.Sv Go.Proofs.YtnhfkdgambncfaaDoor.XT
theorem own : ownKnob Tryd.prog.godebug = none := by kernel_rfl
theorem laid : laidOutB Tryd.prog = true := by kernel_rfl
set_option maxRecDepth 100000 in
theorem contract (H : Type) (enc : TypeId × Value → H) (W : World) (base : Nat) (args : Array Value) (ds gs : List (DataW H)) (before : List MemPlace) (vts : List TypeId)
    (hval : ∀ (j : Nat) t v, Tryd.f3.params[j]? = some t → args[j]? = some v → Value.okWide Tryd.prog W .any base t v)
    (hW : DataW.Whole enc Tryd.prog Tryd.f3.params.toList Rows.tripleOneSpec.vars false W args.toList ds gs before)
    (hwt : (DataW.weightsEach Tryd.prog (Tryd.f3.params.toList ++ vts) (ds ++ gs)).all (· ≤ reachBytes) = true) (hg : gl.ok W) :
    Calls Tryd.prog 3 args W fun e W' => ∃ v, e = .returned v ∧ Rows.tripleOneSpec.post enc Tryd.prog Tryd.f3 false true false false W args v W' :=
  law_frame (tb := 4) (Bd.sized H Tryd.prog) Tryd.f3.params.toList [(.t [.s, (.i .u8), .b, .b, .b, .b, .b, .b]), (.t [.b, (.t [(.i .u64), .s, (.t [(.i .u8), .b, (.i .i64), .s, (.i .u64)])])]), (.t [.b, (.t [(.i .u64), .s, (.t [(.i .u8), .b, (.i .i64), .s, (.i .u64)])])])] laid rfl (by kernel_rfl) rfl (fun dws h => by match dws, h with | [x0, x1, x2], _ => rfl) (by kernel_rfl) (by kernel_rfl) oneLC_ok rfl rfl (fun _ => rfl) (one_pre) hval hW (sized_args hwt) hg
/-- A world for the witness: the settled one, each listed variable holding what its text lays. -/
noncomputable def laidWorld (os : Os) : World := World.laidAll Tryd.prog os Rows.tripleOneRow.laid
noncomputable def zargs : Array Value := #[.agg #[.string (ByteArray.mk #[]), .int .u8 0, .bool false, .bool false, .bool false, .bool false, .bool false, .bool false], .agg #[.bool false, .int .u64 0, .string (ByteArray.mk #[]), .int .u8 0, .bool false, .int .i64 0, .string (ByteArray.mk #[]), .int .u64 0], .agg #[.bool false, .int .u64 0, .string (ByteArray.mk #[]), .int .u8 0, .bool false, .int .i64 0, .string (ByteArray.mk #[]), .int .u64 0]]
theorem laid_met (os : Os) : laidMet Tryd.prog Rows.tripleOneRow.laid ((laidWorld os).forCall (fun _ _ => 0) ⟨#[], zargs, []⟩).memory :=
  laidMet_laidAll _ (by kernel_rfl) (by kernel_rfl)
theorem reads (os : Os) {H : Type} (enc : TypeId × Value → H) : ∃ places, DataW.whole enc Tryd.prog ((laidWorld os).forCall (fun _ _ => 0) ⟨#[], zargs, []⟩).memory Tryd.f3.params.toList Rows.tripleOneSpec.vars false zargs.toList 8 = some ([.agg [.lit (.string []), .lit (.int .u8 0), .lit (.bool false), .lit (.bool false), .lit (.bool false), .lit (.bool false), .lit (.bool false), .lit (.bool false)], .agg [.lit (.bool false), .agg [.lit (.int .u64 0), .lit (.string []), .agg [.lit (.int .u8 0), .lit (.bool false), .lit (.int .i64 0), .lit (.string []), .lit (.int .u64 0)]]], .agg [.lit (.bool false), .agg [.lit (.int .u64 0), .lit (.string []), .agg [.lit (.int .u8 0), .lit (.bool false), .lit (.int .i64 0), .lit (.string []), .lit (.int .u64 0)]]]], [], places) :=
  ⟨[], by kernel_rfl⟩
set_option maxRecDepth 100000 in
theorem lifted (os : Os) (started : os.Started) (H : Type) (enc : TypeId × Value → H) (F : Stop.Interp) :
    ReturnsInHanded {} Tryd.checked os 3 .any ((OpenSpec.ofChange Rows.tripleOneSpec).preRow enc Tryd.prog Tryd.f3 Rows.tripleOneRow.domain false Rows.tripleOneRow.laid) (((OpenSpec.ofChange Rows.tripleOneSpec).at F).post enc Tryd.prog Tryd.f3 false true false false) := by
  obtain ⟨places, hx⟩ := reads os enc
  refine returnsInHanded_of_row (C := Tryd.checked) (s := OpenSpec.ofChange Rows.tripleOneSpec) own started (by kernel_rfl) Tryd.func3
    (witness_row_atRef (enc := enc) (C := Tryd.checked) false (laidWorld os) zargs (World.laidAll_os _ _ _) (by kernel_rfl) (by kernel_rfl) (by kernel_rfl)
      (OpenSpec.preRow_of_cond 8 hx (by kernel_rfl) (fun k hk => by cases hk) (by kernel_rfl) (laid_met os))) ?_
  intro W base args ds gs before hval hW _ _ hwt hL hsh _
  exact contract H enc W base args ds gs before _ hval hW hwt (gl_of (laid_plain (by kernel_rfl) hL) hsh)
theorem said : Rows.TripleOneSaid :=
  OpenClaim.holds_of_cond 3 Tryd.f3 rfl rfl rfl rfl rfl rfl rfl ⟨rfl, rfl, rfl, rfl, rfl⟩ rfl rfl rfl rfl rfl (by kernel_rfl) Tryd.func3 (by kernel_rfl)
    (of_decide_eq_true (by kernel_rfl)) (by unfold Func.isWrapper; first | (rw [if_pos (by decide +kernel)]; kernel_rfl) | (rw [if_neg (by decide +kernel)]; exact ⟨rfl, rfl⟩))
    (fun os started H enc _ F => by rw [OpenClaim.pre_eq_preRow]; exact lifted os started H enc F)
theorem plain (f : FuncId) (fn : Func) (hf : Tryd.pinned.checked.prog.funcNamed "tessera/tesseralaw04.TripleOne" = some f) (hfn : Tryd.pinned.checked.prog.funcs[f]? = some fn) :
    false = Tryd.pinned.checked.prog.looks [] ∧ ∀ (j : Nat) t, fn.params[j]? = some t → Tryd.pinned.checked.prog.wantsStandIn t = false := by
  obtain rfl : f = 3 := Option.some.inj ((show Tryd.prog.funcNamed "tessera/tesseralaw04.TripleOne" = some 3 by kernel_rfl).symm.trans hf) |>.symm
  obtain rfl : fn = Tryd.f3 := (Option.some.inj (Tryd.func3.symm.trans hfn)).symm
  refine ⟨by kernel_rfl, fun j t ht => ?_⟩
  rw [Tryd.params3] at ht
  have hm := Array.mem_of_getElem? ht
  simp only [List.mem_toArray, List.mem_cons, List.not_mem_nil, or_false] at hm
  rcases hm with rfl | rfl | rfl
  · exact (show Tryd.prog.wantsStandIn 24 = false by kernel_rfl)
  · exact (show Tryd.prog.wantsStandIn 31 = false by kernel_rfl)
  · exact (show Tryd.prog.wantsStandIn 31 = false by kernel_rfl)
theorem card : Rows.TripleOneCardSaid :=
  Claim7.holds_tied_plain_at .later [] _ _ _ _ said (fun _ h => by cases h) (by kernel_rfl) (fun _ h => by cases h) tripleOne_row_tie rfl ⟨rfl, rfl⟩ (by kernel_rfl) rfl plain (by kernel_rfl)
end Go.Proofs.YtnhfkdgambncfaaDoor.tripleOne
