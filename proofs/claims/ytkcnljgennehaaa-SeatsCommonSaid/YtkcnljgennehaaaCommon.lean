/-
  'tesseralaw14.SeatsCommon' returns true, whatever its arguments; each argument reads behind the call as it read before.
  No conditions.
-/
import Derived.Test.YtkcnljgennehaaaRows
import Derived.Test.YtkcnljgennehaaaV27
import Derived.Test.YtkcnljgennehaaaP2
namespace Go.Proofs.Ytkcnljgennehaaa.seatsCommon
open Go.ChangeShapes Go.WideShapes Go.ChangeAt Go.RowKit Go.Proofs.Ytkcnljgennehaaa.W Go.Proofs.Ytkcnljgennehaaa.T
theorem own : ownKnob Try.prog.godebug = none := by kernel_rfl
theorem laid : laidOutB Try.prog = true := by kernel_rfl
theorem rdr22 : Try.prog.readableRec 22 = true ∧ 22 < Try.prog.types.size := ⟨by kernel_rfl, of_decide_eq_true (by kernel_rfl)⟩
theorem rdr3 : Try.prog.readableRec 3 = true ∧ 3 < Try.prog.types.size := ⟨by kernel_rfl, of_decide_eq_true (by kernel_rfl)⟩
theorem call (W : World) {v0 : Value} {ms : List Int} (h0 : Sl (intR .i64) [] W v0 ms) (_ : ms.length * 8 ≤ reachBytes ∧ ∀ (i : Nat) (x : Int), ms[i]? = some x → True) {id : Int} (_ : inK .i64 id) {v2 : Value} {a : List Int} (h2 : Sl (intR .i64) [] W v2 a) (_ : a.length * 8 ≤ reachBytes ∧ ∀ (i : Nat) (x : Int), a[i]? = some x → True) {v3 : Value} {b : List Int} (h3 : Sl (intR .i64) [] W v3 b) (_ : b.length * 8 ≤ reachBytes ∧ ∀ (i : Nat) (x : Int), b[i]? = some x → True) :
    Fnc Try.prog 3 #[v0, .int .i64 id, v2, v3] W fun v w' => v = .bool true ∧ Ext [] W w' :=
  law_SeatsCommon h0 id h2 h3 (by simp)
set_option maxRecDepth 100000 in
theorem contract (H : Type) (enc : TypeId × Value → H) (W : World) (base : Nat) (args : Array Value) (ds gs : List (DataW H)) (before : List MemPlace)
    (hval : ∀ (j : Nat) t v, Try.f3.params[j]? = some t → args[j]? = some v → Value.okWide Try.prog W .any base t v)
    (hW : DataW.Whole enc Try.prog Try.f3.params.toList Rows.seatsCommonSpec.vars false W args.toList ds gs before)
    (hwt : (DataW.weightsEach Try.prog (Try.f3.params.toList ++ Rows.seatsCommonSpec.plain.varTypes Try.prog) (ds ++ gs)).all (· ≤ reachBytes) = true) :
    Calls Try.prog 3 args W fun e W' => ∃ v, e = .returned v ∧ Rows.seatsCommonSpec.post enc Try.prog Try.f3 false true false false W args v W' := by
  have hW' := hW
  obtain ⟨p, q, hA0, hV, hpq, hfz, hnd⟩ := hW
  have hA : DataW.TrodAll enc Try.prog W 0 (fun _ => true) true Try.f3.params.toList args.toList ds p := hA0
  rw [Try.params3] at hA hval hwt
  obtain ⟨v0, vs0, d0, ds0, p0, q0, hargs, rfl, rfl, h0, r0⟩ := trodAll_cons hA
  obtain ⟨v1, vs1, d1, ds1, p1, q1, rfl, rfl, rfl, h1, r1⟩ := trodAll_cons r0
  obtain ⟨v2, vs2, d2, ds2, p2, q2, rfl, rfl, rfl, h2, r2⟩ := trodAll_cons r1
  obtain ⟨v3, vs3, d3, ds3, p3, q3, rfl, rfl, rfl, h3, r3⟩ := trodAll_cons r2
  obtain ⟨rfl, rfl, rfl⟩ := trodAll_nil r3
  obtain rfl : args = #[v0, v1, v2, v3] := Array.ext' (by simpa using hargs)
  obtain ⟨rfl, rfl⟩ := trodVars_none hV
  obtain ⟨fu0, t0⟩ := h0
  have o0 := arg_one Try.underlying22 rfl (hval 0 22 v0 rfl rfl)
  obtain ⟨x0, ⟨y0, hy0, hx0⟩, hg0⟩ := rd22 W fu0 _ _ t0 (weights_at hwt 0 rfl rfl)
  rw [cells_one o0] at hy0
  cases hy0
  obtain ⟨x1, rfl, rfl, rfl, wf1⟩ := open_int Try.underlying3 (hval 1 3 v1 rfl rfl) h1
  have hg1 : inK .i64 x1 := by simpa [Lit.wf, inK] using wf1
  obtain ⟨fu2, t2⟩ := h2
  have o2 := arg_one Try.underlying22 rfl (hval 2 22 v2 rfl rfl)
  obtain ⟨x2, ⟨y2, hy2, hx2⟩, hg2⟩ := rd22 W fu2 _ _ t2 (weights_at hwt 2 rfl rfl)
  rw [cells_one o2] at hy2
  cases hy2
  obtain ⟨fu3, t3⟩ := h3
  have o3 := arg_one Try.underlying22 rfl (hval 3 22 v3 rfl rfl)
  obtain ⟨x3, ⟨y3, hy3, hx3⟩, hg3⟩ := rd22 W fu3 _ _ t3 (weights_at hwt 3 rfl rfl)
  rw [cells_one o3] at hy3
  cases hy3
  refine Calls.mono (call W hx0 hg0 hg1 hx2 hg2 hx3 hg3) fun e W' ⟨v, he, hv, hx⟩ => ?_
  subst he; subst hv
  refine ⟨_, rfl, law_post (tb := 4) laid hW' rfl (fun t ht => ?_) (fun _ => rfl) (by kernel_rfl) (by kernel_rfl) hx⟩
  rw [Try.params3] at ht
  simp only [List.mem_cons, List.not_mem_nil, or_false] at ht
  rcases ht with rfl | rfl | rfl | rfl
  · exact rdr22
  · exact rdr3
  · exact rdr22
  · exact rdr22
set_option maxRecDepth 100000 in
theorem lifted (os : Os) (started : os.Started) (H : Type) (enc : TypeId × Value → H) :
    ReturnsInHanded {} Try.checked os 3 .any (Rows.seatsCommonSpec.pre6 enc Try.prog Try.f3 Rows.seatsCommonRow.domain false) (Rows.seatsCommonSpec.post enc Try.prog Try.f3 false true false false) := by
  refine returnsInHanded_of_change_sized (C := Try.checked) own started (by kernel_rfl) Try.func3
    (ChangeSpec.witness6 (enc := enc) (C := Try.checked) false ⟨#[], #[.slice none 0 0, .int .i64 0, .slice none 0 0, .slice none 0 0], []⟩ 8 (by kernel_rfl) (by kernel_rfl) (by kernel_rfl) (by kernel_rfl)) ?_
  intro W base args ds gs before hval hW _ hwt _
  exact contract H enc W base args ds gs before hval hW hwt
theorem proved : Rows.SeatsCommonSaid :=
  OpenClaim.holds_of_wide 3 Try.f3 rfl rfl rfl rfl rfl rfl rfl ⟨rfl, rfl, rfl, rfl, rfl⟩ rfl rfl rfl rfl rfl (by kernel_rfl) Try.func3 (by kernel_rfl)
    (of_decide_eq_true (by kernel_rfl)) (by unfold Func.isWrapper; first | (rw [if_pos (by decide +kernel)]; kernel_rfl) | (rw [if_neg (by decide +kernel)]; exact ⟨rfl, rfl⟩))
    (fun os started H enc _ => lifted os started H enc)
end Go.Proofs.Ytkcnljgennehaaa.seatsCommon
