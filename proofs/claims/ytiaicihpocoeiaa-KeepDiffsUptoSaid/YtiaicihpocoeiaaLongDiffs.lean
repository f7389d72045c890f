/-
  'tesseralaw12.KeepDiffs' returns true, whatever its arguments of bulk at most 1048576; each argument reads behind the call as it read before.
  No other conditions.
-/
import Derived.Test.YtiaicihpocoeiaaRows
import Derived.Test.YtiaicihpocoeiaaB11
import Derived.Test.YtiaicihpocoeiaaB4
import Derived.JoinedCond
namespace Go.Proofs.Ytiaicihpocoeiaa.keepDiffs
open Go.ChangeShapes Go.WideShapes Go.ChangeAt Go.RowKit Go.Proofs.Ytiaicihpocoeiaa.W Go.Proofs.Ytiaicihpocoeiaa.T
theorem own : ownKnob Try.prog.godebug = none := by kernel_rfl
theorem laid : laidOutB Try.prog = true := by kernel_rfl
theorem rdr29 : Try.prog.readableRec 29 = true ∧ 29 < Try.prog.types.size := ⟨by kernel_rfl, of_decide_eq_true (by kernel_rfl)⟩
theorem ust29 : ∃ fs, Try.prog.underlying 29 = some (.struct fs) := ⟨structFields Try.prog 29, by kernel_rfl⟩
open X1 in
theorem call (W : World) {p q : PeerD} {c d : List Value} (hp : peerR.rd [] W c p) (gp : PeerD.Few p) (hq : peerR.rd [] W d q) (gq : PeerD.Few q) :
    Fnc Try.prog 3 #[.agg c.toArray, .agg d.toArray] W fun v w' => v = .bool true ∧ Ext [] W w' := call_KeepDiffs hp hq gp gq
set_option maxRecDepth 100000 in
theorem contract (H : Type) (enc : TypeId × Value → H) (W : World) (base : Nat) (args : Array Value) (ds gs : List (DataW H)) (before : List MemPlace)
    (hval : ∀ (j : Nat) t v, Try.f3.params[j]? = some t → args[j]? = some v → Value.okWide Try.prog W .any base t v)
    (hW : DataW.Whole enc Try.prog Try.f3.params.toList Rows.keepDiffsSpec.vars false W args.toList ds gs before)
    (hk : Rows.uptoSmall H (ds ++ gs) = true) :
    Calls Try.prog 3 args W fun e W' => ∃ v, e = .returned v ∧ Rows.keepDiffsSpec.post enc Try.prog Try.f3 false true false false W args v W' := by
  have hW' := hW
  obtain ⟨p, q, hA0, hV, hpq, hfz, hnd⟩ := hW
  have hA : DataW.TrodAll enc Try.prog W 0 (fun _ => true) true Try.f3.params.toList args.toList ds p := hA0
  rw [Try.params3] at hA hval
  obtain ⟨v0, vs0, d0, ds0, p0, q0, hargs, rfl, rfl, h0, r0⟩ := trodAll_cons hA
  obtain ⟨v1, vs1, d1, ds1, p1, q1, rfl, rfl, rfl, h1, r1⟩ := trodAll_cons r0
  obtain ⟨rfl, rfl, rfl⟩ := trodAll_nil r1
  obtain rfl : args = #[v0, v1] := Array.ext' (by simpa using hargs)
  obtain ⟨rfl, rfl⟩ := trodVars_none hV
  have hkk : Rows.uptoBulkAll [d0, d1] ≤ 1048576 := by simpa [Rows.uptoSmall] using hk
  have hb0 : Rows.uptoBulk d0 ≤ 1048576 := Nat.le_trans (bulk_part (by simp)) hkk
  have hb1 : Rows.uptoBulk d1 ≤ 1048576 := Nat.le_trans (bulk_part (by simp)) hkk
  obtain ⟨fu0, t0⟩ := h0
  obtain ⟨fs0, hu0⟩ := ust29
  obtain ⟨c0, rfl, _, _⟩ := arg_cells hu0 (hval 0 29 v0 rfl rfl)
  obtain ⟨x0, hx0, hg0⟩ := X1.ru29 W fu0 c0 _ t0 hb0
  obtain ⟨fu1, t1⟩ := h1
  obtain ⟨fs1, hu1⟩ := ust29
  obtain ⟨c1, rfl, _, _⟩ := arg_cells hu1 (hval 1 29 v1 rfl rfl)
  obtain ⟨x1, hx1, hg1⟩ := X1.ru29 W fu1 c1 _ t1 hb1
  refine Calls.mono (call W hx0 hg0 hx1 hg1) fun e W' ⟨v, he, hv, hx⟩ => ?_
  subst he; subst hv
  refine ⟨_, rfl, law_post (tb := 4) laid hW' rfl (fun t ht => ?_) (fun _ => rfl) (by kernel_rfl) (by kernel_rfl) hx⟩
  rw [Try.params3] at ht
  simp only [List.mem_cons, List.not_mem_nil, or_false] at ht
  rcases ht with rfl | rfl
  · exact rdr29
  · exact rdr29
set_option maxRecDepth 100000 in
theorem lifted (os : Os) (started : os.Started) (H : Type) (enc : TypeId × Value → H) (F : Stop.Interp) :
    ReturnsInHanded {} Try.checked os 3 .any ((Rows.OpenSpec.upto Rows.keepDiffsSpec).pre6 enc Try.prog Try.f3 Rows.keepDiffsUptoRow.domain false) (((Rows.OpenSpec.upto Rows.keepDiffsSpec).at F).post enc Try.prog Try.f3 false true false false) := by
  refine returnsInHanded_of_cond (C := Try.checked) (s := Rows.OpenSpec.upto Rows.keepDiffsSpec) (k := Rows.uptoSmall) rfl own started (by kernel_rfl) Try.func3
    (OpenSpec.witness (enc := enc) (C := Try.checked) (s := Rows.OpenSpec.upto Rows.keepDiffsSpec) (k := Rows.uptoSmall) rfl false ⟨#[], #[.agg #[.int .i64 0, .slice none 0 0, .int .u64 0, .int .i64 0, .int .u8 0, .int .i64 0, .int .u64 0, .int .u64 0, .slice none 0 0, .string (ByteArray.mk #[]), .slice none 0 0, .int .u64 0, .int .i64 0, .int .i64 0, .slice none 0 0, .slice none 0 0, .int .u64 0, .slice none 0 0], .agg #[.int .i64 0, .slice none 0 0, .int .u64 0, .int .i64 0, .int .u8 0, .int .i64 0, .int .u64 0, .int .u64 0, .slice none 0 0, .string (ByteArray.mk #[]), .slice none 0 0, .int .u64 0, .int .i64 0, .int .i64 0, .slice none 0 0, .slice none 0 0, .int .u64 0, .slice none 0 0]], []⟩ 8 (by kernel_rfl) (by kernel_rfl) (by kernel_rfl)
      (x := ([.agg [.lit (.int .i64 0), .nil, .lit (.int .u64 0), .lit (.int .i64 0), .lit (.int .u8 0), .lit (.int .i64 0), .lit (.int .u64 0), .lit (.int .u64 0), .nil, .lit (.string []), .nil, .lit (.int .u64 0), .lit (.int .i64 0), .lit (.int .i64 0), .nil, .nil, .lit (.int .u64 0), .nil], .agg [.lit (.int .i64 0), .nil, .lit (.int .u64 0), .lit (.int .i64 0), .lit (.int .u8 0), .lit (.int .i64 0), .lit (.int .u64 0), .lit (.int .u64 0), .nil, .lit (.string []), .nil, .lit (.int .u64 0), .lit (.int .i64 0), .lit (.int .i64 0), .nil, .nil, .lit (.int .u64 0), .nil]], [], [])) (by kernel_rfl) rfl (by kernel_rfl)) ?_
  intro W base args ds gs before hval hW _ hk _
  exact contract H enc W base args ds gs before hval hW hk
theorem proved : Rows.KeepDiffsUptoSaid :=
  OpenClaim.holds_of_cond 3 Try.f3 rfl rfl rfl rfl rfl rfl rfl ⟨rfl, rfl, rfl, rfl, rfl⟩ rfl rfl rfl rfl rfl (by kernel_rfl) Try.func3 (by kernel_rfl)
    (of_decide_eq_true (by kernel_rfl)) (by unfold Func.isWrapper; first | (rw [if_pos (by decide +kernel)]; kernel_rfl) | (rw [if_neg (by decide +kernel)]; exact ⟨rfl, rfl⟩))
    (fun os started H enc _ F => lifted os started H enc F)
end Go.Proofs.Ytiaicihpocoeiaa.keepDiffs
