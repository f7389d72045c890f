/-
  'tesseralaw18.PostNone' returns true, whatever its arguments; each argument reads behind the call as it read before.
  The package-level variables that its row lists hold what the program's text lays in them: the card ties them.
-/
import Derived.Test.YtllpjlpmjoopmaaGreatDoorCards
import Derived.Test.YtllpjlpmjoopmaaGreatDoorTie
import Derived.Deep.DeepWitnessRowRef
import Derived.Lay
import Derived.Test.YtllpjlpmjoopmaaGreatDoorP2
import Derived.WalkKit
namespace Go.Proofs.YtllpjlpmjoopmaaGreatDoor.postNone
open Go.ChangeShapes Go.WideShapes Go.ChangeAt Go.RowKit Go.Proofs.YtllpjlpmjoopmaaGreatDoor.W Go.Proofs.YtllpjlpmjoopmaaGreatDoor.Ev
theorem own : ownKnob Tryz.prog.godebug = none := by kernel_rfl
theorem laid : laidOutB Tryz.prog = true := by kernel_rfl
theorem u22 : Tryz.prog.underlying 22 = some (.int .u64) := by kernel_rfl
theorem u25 : Tryz.prog.underlying 25 = some (.struct (structFields Tryz.prog 25)) := by kernel_rfl
theorem c25 : Tryz.prog.cellsOf 25 = 2 := by kernel_rfl
theorem u28 : Tryz.prog.underlying 28 = some (.struct (structFields Tryz.prog 28)) := by kernel_rfl
theorem c28 : Tryz.prog.cellsOf 28 = 5 := by kernel_rfl
theorem rd22 : Tryz.prog.readableRec 22 = true ∧ 22 < Tryz.prog.types.size := ⟨by kernel_rfl, of_decide_eq_true (by kernel_rfl)⟩
theorem rd25 : Tryz.prog.readableRec 25 = true ∧ 25 < Tryz.prog.types.size := ⟨by kernel_rfl, of_decide_eq_true (by kernel_rfl)⟩
theorem rd28 : Tryz.prog.readableRec 28 = true ∧ 28 < Tryz.prog.types.size := ⟨by kernel_rfl, of_decide_eq_true (by kernel_rfl)⟩
theorem eval : answers (evFn Tryz.prog (fun _ _ _ => none) 400 3 [.opq 0, .opq 1, .agg (opqs 2 2), .agg (opqs 4 5)] ⟨.nil, 0⟩) (fun x => match x with | .bool true => true | _ => false) = true := by kernel_rfl
set_option maxRecDepth 100000 in
theorem contract (H : Type) (enc : TypeId × Value → H) (W : World) (base : Nat) (args : Array Value) (ds gs : List (DataW H)) (before : List MemPlace)
    (hval : ∀ (j : Nat) t v, Tryz.f3.params[j]? = some t → args[j]? = some v → Value.okWide Tryz.prog W .any base t v)
    (hW : DataW.Whole enc Tryz.prog Tryz.f3.params.toList Rows.postNoneSpec.vars false W args.toList ds gs before) :
    Calls Tryz.prog 3 args W fun e W' => ∃ v, e = .returned v ∧ Rows.postNoneSpec.post enc Tryz.prog Tryz.f3 false true false false W args v W' := by
  have hW' := hW
  obtain ⟨p, q, hA0, hV, hpq, hfz, hnd⟩ := hW
  have hA : DataW.TrodAll enc Tryz.prog W 0 (fun _ => true) true Tryz.f3.params.toList args.toList ds p := hA0
  rw [Tryz.params3] at hA hval
  obtain ⟨v0, vs0, d0, ds0, p0, q0, hargs, rfl, rfl, h0, r0⟩ := trodAll_cons hA
  obtain ⟨v1, vs1, d1, ds1, p1, q1, rfl, rfl, rfl, h1, r1⟩ := trodAll_cons r0
  obtain ⟨v2, vs2, d2, ds2, p2, q2, rfl, rfl, rfl, h2, r2⟩ := trodAll_cons r1
  obtain ⟨v3, vs3, d3, ds3, p3, q3, rfl, rfl, rfl, h3, r3⟩ := trodAll_cons r2
  obtain ⟨rfl, rfl, rfl⟩ := trodAll_nil r3
  obtain rfl : args = #[v0, v1, v2, v3] := Array.ext' (by simpa using hargs)
  obtain ⟨rfl, rfl⟩ := trodVars_none hV
  have o0 := arg_one u22 rfl (hval 0 22 v0 rfl rfl)
  have o1 := arg_one u22 rfl (hval 1 22 v1 rfl rfl)
  obtain ⟨c2_, e2, l2, o2⟩ := arg_cells u25 (hval 2 25 v2 rfl rfl)
  rw [c25] at l2
  obtain ⟨c3_, e3, l3, o3⟩ := arg_cells u28 (hval 3 28 v3 rfl rfl)
  rw [c28] at l3
  obtain ⟨ω, hω⟩ : ∃ ω : Nat → Value, ω = fun i => if i < 1 then v0 else if i < 2 then v1 else if i < 4 then c2_.getD (i - 2) (.bool true) else c3_.getD (i - 4) (.bool true) := ⟨_, rfl⟩
  have hone : OneW ω := by
    intro i; subst hω; simp only []
    repeat' split
    · exact o0
    · exact o1
    · exact getD_one o2 _
    · exact getD_one o3 _
  have hr : ∀ s, RelL ω s [.opq 0, .opq 1, .agg (opqs 2 2), .agg (opqs 4 5)] [v0, v1, v2, v3] := fun s => RelL.cons (by simp only [Rel]; subst hω; rfl) (RelL.cons (by simp only [Rel]; subst hω; rfl) (RelL.cons (by rw [e2]; simp only [Rel]; exact ⟨c2_, opqs_at 2 2 c2_ (fun i hi => by subst hω; simp only []; rw [if_neg (by omega), if_neg (by omega), if_pos (by omega)]; exact (Nat.add_sub_cancel_left 2 i).symm ▸ getD_some (by omega) _) l2, rfl⟩) (RelL.cons (by rw [e3]; simp only [Rel]; exact ⟨c3_, opqs_at 5 4 c3_ (fun i hi => by subst hω; simp only []; rw [if_neg (by omega), if_neg (by omega), if_neg (by omega)]; exact (Nat.add_sub_cancel_left 4 i).symm ▸ getD_some (by omega) _) l3, rfl⟩) (RelL.nil))))
  refine Calls.mono (call_true (by kernel_rfl) 400 hone hr eval W) fun e W' ⟨v, he, hv, hx⟩ => ?_
  subst he; subst hv
  refine ⟨_, rfl, law_post (tb := 4) laid hW' rfl (fun t ht => ?_) (fun _ => rfl) (by kernel_rfl) (by kernel_rfl) hx⟩
  rw [Tryz.params3] at ht
  simp only [List.mem_cons, List.not_mem_nil, or_false] at ht
  rcases ht with rfl | rfl | rfl | rfl
  · exact rd22
  · exact rd22
  · exact rd25
  · exact rd28
/-- A world for the witness: the settled one, each listed variable holding what its text lays. -/
noncomputable def laidWorld (os : Os) : World := World.laidAll Tryz.prog os Rows.postNoneRow.laid
noncomputable def zargs : Array Value := #[.int .u64 0, .int .u64 0, .agg #[.int .u64 0, .slice none 0 0], .agg #[.int .u8 0, .bool false, .int .i64 0, .string (ByteArray.mk #[]), .int .u64 0]]
theorem laid_met (os : Os) : laidMet Tryz.prog Rows.postNoneRow.laid ((laidWorld os).forCall (fun _ _ => 0) ⟨#[], zargs, []⟩).memory :=
  laidMet_laidAll _ (by kernel_rfl) (by kernel_rfl)
theorem reads (os : Os) {H : Type} (enc : TypeId × Value → H) : ∃ places, DataW.whole enc Tryz.prog ((laidWorld os).forCall (fun _ _ => 0) ⟨#[], zargs, []⟩).memory Tryz.f3.params.toList Rows.postNoneSpec.vars false zargs.toList 8 = some ([.lit (.int .u64 0), .lit (.int .u64 0), .agg [.lit (.int .u64 0), .nil], .agg [.lit (.int .u8 0), .lit (.bool false), .lit (.int .i64 0), .lit (.string []), .lit (.int .u64 0)]], [], places) :=
  ⟨[], by kernel_rfl⟩
set_option maxRecDepth 100000 in
theorem lifted (os : Os) (started : os.Started) (H : Type) (enc : TypeId × Value → H) (F : Stop.Interp) :
    ReturnsInHanded {} Tryz.checked os 3 .any ((OpenSpec.ofChange Rows.postNoneSpec).preRow enc Tryz.prog Tryz.f3 Rows.postNoneRow.domain false Rows.postNoneRow.laid) (((OpenSpec.ofChange Rows.postNoneSpec).at F).post enc Tryz.prog Tryz.f3 false true false false) := by
  obtain ⟨places, hx⟩ := reads os enc
  refine returnsInHanded_of_row (C := Tryz.checked) (s := OpenSpec.ofChange Rows.postNoneSpec) own started (by kernel_rfl) Tryz.func3
    (witness_row_atRef (enc := enc) (C := Tryz.checked) false (laidWorld os) zargs (World.laidAll_os _ _ _) (by kernel_rfl) (by kernel_rfl) (by kernel_rfl)
      (OpenSpec.preRow_of_cond 8 hx (by kernel_rfl) (fun k hk => by cases hk) (by kernel_rfl) (laid_met os))) ?_
  intro W base args ds gs before hval hW _ _ _ hL _ _
  exact contract H enc W base args ds gs before hval hW
theorem said : Rows.PostNoneSaid :=
  OpenClaim.holds_of_cond 3 Tryz.f3 rfl rfl rfl rfl rfl rfl rfl ⟨rfl, rfl, rfl, rfl, rfl⟩ rfl rfl rfl rfl rfl (by kernel_rfl) Tryz.func3 (by kernel_rfl)
    (of_decide_eq_true (by kernel_rfl)) (by unfold Func.isWrapper; first | (rw [if_pos (by decide +kernel)]; kernel_rfl) | (rw [if_neg (by decide +kernel)]; exact ⟨rfl, rfl⟩))
    (fun os started H enc _ F => by rw [OpenClaim.pre_eq_preRow]; exact lifted os started H enc F)
theorem plain (f : FuncId) (fn : Func) (hf : Tryz.pinned.checked.prog.funcNamed "tessera/tesseralaw18.PostNone" = some f) (hfn : Tryz.pinned.checked.prog.funcs[f]? = some fn) :
    false = Tryz.pinned.checked.prog.looks [] ∧ ∀ (j : Nat) t, fn.params[j]? = some t → Tryz.pinned.checked.prog.wantsStandIn t = false := by
  obtain rfl : f = 3 := Option.some.inj ((show Tryz.prog.funcNamed "tessera/tesseralaw18.PostNone" = some 3 by kernel_rfl).symm.trans hf) |>.symm
  obtain rfl : fn = Tryz.f3 := (Option.some.inj (Tryz.func3.symm.trans hfn)).symm
  refine ⟨by kernel_rfl, fun j t ht => ?_⟩
  rw [Tryz.params3] at ht
  have hm := Array.mem_of_getElem? ht
  simp only [List.mem_toArray, List.mem_cons, List.not_mem_nil, or_false] at hm
  rcases hm with rfl | rfl | rfl | rfl
  · exact (show Tryz.prog.wantsStandIn 22 = false by kernel_rfl)
  · exact (show Tryz.prog.wantsStandIn 22 = false by kernel_rfl)
  · exact (show Tryz.prog.wantsStandIn 25 = false by kernel_rfl)
  · exact (show Tryz.prog.wantsStandIn 28 = false by kernel_rfl)
theorem card : Rows.PostNoneCardSaid :=
  Claim7.holds_tied_plain_at .later [] _ _ _ _ said (fun _ h => by cases h) (by kernel_rfl) (fun _ h => by cases h) postNone_row_tie rfl ⟨rfl, rfl⟩ (by kernel_rfl) rfl plain (by kernel_rfl)
end Go.Proofs.YtllpjlpmjoopmaaGreatDoor.postNone
