/-
  'tesseralaw10.VoteForms' returns true, whatever its arguments; each argument reads behind the call as it read before.
  No conditions.
-/
import Derived.Test.YtbpamkbegggeoaaRows
import Derived.Test.YtbpamkbegggeoaaV25
import Derived.Test.YtbpamkbegggeoaaP2
namespace Go.Proofs.Ytbpamkbegggeoaa.voteForms
open Go.ChangeShapes Go.WideShapes Go.ChangeAt Go.RowKit Go.Proofs.Ytbpamkbegggeoaa.W Go.Proofs.Ytbpamkbegggeoaa.T
theorem own : ownKnob Try.prog.godebug = none := by kernel_rfl
theorem laid : laidOutB Try.prog = true := by kernel_rfl
theorem rdr29 : Try.prog.readableRec 29 = true ∧ 29 < Try.prog.types.size := ⟨by kernel_rfl, of_decide_eq_true (by kernel_rfl)⟩
theorem rdr32 : Try.prog.readableRec 32 = true ∧ 32 < Try.prog.types.size := ⟨by kernel_rfl, of_decide_eq_true (by kernel_rfl)⟩
theorem rdr23 : Try.prog.readableRec 23 = true ∧ 23 < Try.prog.types.size := ⟨by kernel_rfl, of_decide_eq_true (by kernel_rfl)⟩
theorem ust29 : ∃ fs, Try.prog.underlying 29 = some (.struct fs) := ⟨structFields Try.prog 29, by kernel_rfl⟩
theorem ust32 : ∃ fs, Try.prog.underlying 32 = some (.struct fs) := ⟨structFields Try.prog 32, by kernel_rfl⟩
theorem call (W : World) {p : PeerD} {cp : List Value} (hp : peerR.rd [] W cp p) (gp : p.Good) {m : MsgD} {cm : List Value} (hm : msgR.rd [] W cm m) (_ : m.Good) {i : Int} (hi : inK .u64 i) :
    Fnc Try.prog 3 #[.agg cp.toArray, .agg cm.toArray, .int .u64 i] W fun v w' => v = .bool true ∧ Ext [] W w' := by
  have hi' := inK_u64 hi
  cases hs : smallB p with
  | false => exact law_big hp hm i (by simp) hs
  | true => exact law_VoteForms hp hm i (by simp) (fits_of hs gp) ⟨hi'.1, by omega⟩
set_option maxRecDepth 100000 in
theorem contract (H : Type) (enc : TypeId × Value → H) (W : World) (base : Nat) (args : Array Value) (ds gs : List (DataW H)) (before : List MemPlace)
    (hval : ∀ (j : Nat) t v, Try.f3.params[j]? = some t → args[j]? = some v → Value.okWide Try.prog W .any base t v)
    (hW : DataW.Whole enc Try.prog Try.f3.params.toList Rows.voteFormsSpec.vars false W args.toList ds gs before)
    (hwt : (DataW.weightsEach Try.prog (Try.f3.params.toList ++ Rows.voteFormsSpec.plain.varTypes Try.prog) (ds ++ gs)).all (· ≤ reachBytes) = true) :
    Calls Try.prog 3 args W fun e W' => ∃ v, e = .returned v ∧ Rows.voteFormsSpec.post enc Try.prog Try.f3 false true false false W args v W' := by
  have hW' := hW
  obtain ⟨p, q, hA0, hV, hpq, hfz, hnd⟩ := hW
  have hA : DataW.TrodAll enc Try.prog W 0 (fun _ => true) true Try.f3.params.toList args.toList ds p := hA0
  rw [Try.params3] at hA hval hwt
  obtain ⟨v0, vs0, d0, ds0, p0, q0, hargs, rfl, rfl, h0, r0⟩ := trodAll_cons hA
  obtain ⟨v1, vs1, d1, ds1, p1, q1, rfl, rfl, rfl, h1, r1⟩ := trodAll_cons r0
  obtain ⟨v2, vs2, d2, ds2, p2, q2, rfl, rfl, rfl, h2, r2⟩ := trodAll_cons r1
  obtain ⟨rfl, rfl, rfl⟩ := trodAll_nil r2
  obtain rfl : args = #[v0, v1, v2] := Array.ext' (by simpa using hargs)
  obtain ⟨rfl, rfl⟩ := trodVars_none hV
  obtain ⟨fu0, t0⟩ := h0
  obtain ⟨fs0, hu0⟩ := ust29
  obtain ⟨c0, rfl, _, _⟩ := arg_cells hu0 (hval 0 29 v0 rfl rfl)
  obtain ⟨x0, hx0, hg0⟩ := rd29 W fu0 c0 _ t0 (weights_at hwt 0 rfl rfl)
  obtain ⟨fu1, t1⟩ := h1
  obtain ⟨fs1, hu1⟩ := ust32
  obtain ⟨c1, rfl, _, _⟩ := arg_cells hu1 (hval 1 32 v1 rfl rfl)
  obtain ⟨x1, hx1, hg1⟩ := rd32 W fu1 c1 _ t1 (weights_at hwt 1 rfl rfl)
  obtain ⟨x2, rfl, rfl, rfl, wf2⟩ := open_int Try.underlying23 (hval 2 23 v2 rfl rfl) h2
  have hg2 : inK .u64 x2 := by simpa [Lit.wf, inK] using wf2
  refine Calls.mono (call W hx0 hg0 hx1 hg1 hg2) fun e W' ⟨v, he, hv, hx⟩ => ?_
  subst he; subst hv
  refine ⟨_, rfl, law_post (tb := 4) laid hW' rfl (fun t ht => ?_) (fun _ => rfl) (by kernel_rfl) (by kernel_rfl) hx⟩
  rw [Try.params3] at ht
  simp only [List.mem_cons, List.not_mem_nil, or_false] at ht
  rcases ht with rfl | rfl | rfl
  · exact rdr29
  · exact rdr32
  · exact rdr23
set_option maxRecDepth 100000 in
theorem lifted (os : Os) (started : os.Started) (H : Type) (enc : TypeId × Value → H) :
    ReturnsInHanded {} Try.checked os 3 .any (Rows.voteFormsSpec.pre6 enc Try.prog Try.f3 Rows.voteFormsRow.domain false) (Rows.voteFormsSpec.post enc Try.prog Try.f3 false true false false) := by
  refine returnsInHanded_of_change_sized (C := Try.checked) own started (by kernel_rfl) Try.func3
    (ChangeSpec.witness6 (enc := enc) (C := Try.checked) false ⟨#[], #[.agg #[.int .i64 0, .slice none 0 0, .int .u64 0, .int .i64 0, .int .u8 0, .int .i64 0, .int .u64 0, .int .u64 0, .slice none 0 0, .string (ByteArray.mk #[]), .slice none 0 0, .int .u64 0, .int .i64 0, .int .i64 0, .slice none 0 0, .slice none 0 0, .int .u64 0, .slice none 0 0], .agg #[.int .u8 0, .int .i64 0, .int .i64 0, .int .u64 0, .int .u64 0, .int .u64 0, .int .u64 0, .int .u64 0, .bool false, .slice none 0 0, .slice none 0 0, .string (ByteArray.mk #[])], .int .u64 0], []⟩ 8 (by kernel_rfl) (by kernel_rfl) (by kernel_rfl) (by kernel_rfl)) ?_
  intro W base args ds gs before hval hW _ hwt _
  exact contract H enc W base args ds gs before hval hW hwt
theorem proved : Rows.VoteFormsSaid :=
  OpenClaim.holds_of_wide 3 Try.f3 rfl rfl rfl rfl rfl rfl rfl ⟨rfl, rfl, rfl, rfl, rfl⟩ rfl rfl rfl rfl rfl (by kernel_rfl) Try.func3 (by kernel_rfl)
    (of_decide_eq_true (by kernel_rfl)) (by unfold Func.isWrapper; first | (rw [if_pos (by decide +kernel)]; kernel_rfl) | (rw [if_neg (by decide +kernel)]; exact ⟨rfl, rfl⟩))
    (fun os started H enc _ => lifted os started H enc)
end Go.Proofs.Ytbpamkbegggeoaa.voteForms
