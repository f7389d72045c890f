/-
  'tesseralaw13.TrimLong' returns true, whatever its argument; the argument reads behind the call as it read before.
  No conditions.
-/
import Derived.Test.YtmcellggjlpnoaaRows
import Derived.Test.YtmcellggjlpnoaaE12
import Derived.Test.YtmcellggjlpnoaaP1
import Derived.WalkKit
namespace Go.Proofs.Ytmcellggjlpnoaa.trimLong
open Go.ChangeShapes Go.WideShapes Go.ChangeAt Go.RowKit Go.Proofs.Ytmcellggjlpnoaa.W Go.Proofs.Ytmcellggjlpnoaa.Ev

theorem own : ownKnob Try.prog.godebug = none := by kernel_rfl

/-! ### The walk -/
noncomputable def body : Code := Try.f3.body.getD .skip
theorem fbody : Try.f3.body = some body := by kernel_rfl
theorem low2 (a : Int) : ∃ r : Nat, r < 4 ∧ (IntKind.i64.wrap ((BitVec.ofInt 64 a &&& BitVec.ofInt 64 3).toNat : Int)) = (r : Int) := by
  have h : (BitVec.ofInt 64 a &&& BitVec.ofInt 64 3).toNat ≤ 3 := by
    rw [BitVec.toNat_and]
    exact Nat.le_trans Nat.and_le_right (by decide)
  refine ⟨(BitVec.ofInt 64 a &&& BitVec.ofInt 64 3).toNat, by omega, ?_⟩
  exact wrap_i64 (by omega) (by omega)
theorem cut : ((cutOp Try.prog 400 Try.f3 body 3 1 [.opq 0]).map fun x => (x.1.op, x.2.get 22)) = some (.binOp .and 3 (.tmp 22) (.const (.int .i64 3)) 3, some (.opq 0)) := by kernel_rfl
theorem c0 : isTrueA (cutEval Try.prog 400 Try.f3 body 3 1 (.v (.int .i64 0)) [.opq 0]) = true := by kernel_rfl
theorem c1 : isTrueA (cutEval Try.prog 400 Try.f3 body 3 1 (.v (.int .i64 1)) [.opq 0]) = true := by kernel_rfl
theorem c2 : isTrueA (cutEval Try.prog 400 Try.f3 body 3 1 (.v (.int .i64 2)) [.opq 0]) = true := by kernel_rfl
theorem c3 : isTrueA (cutEval Try.prog 400 Try.f3 body 3 1 (.v (.int .i64 3)) [.opq 0]) = true := by kernel_rfl
theorem call (a0 : Int) (w : World) : Fnc Try.prog 3 #[.int .i64 a0] w fun v w' => v = .bool true ∧ Ext [] w w' := by
  obtain ⟨r, hr, hv⟩ := low2 a0
  have hc : isTrueA (cutEval Try.prog 400 Try.f3 body 3 1 (.v (.int .i64 (r : Int))) [.opq 0]) = true := by
    match r, hr with
    | 0, _ => exact c0
    | 1, _ => exact c1
    | 2, _ => exact c2
    | 3, _ => exact c3
  obtain ⟨st, hst⟩ := isTrueA_ok hc
  have hcut := cut
  cases ho : cutOp Try.prog 400 Try.f3 body 3 1 [.opq 0] with
  | none => rw [ho] at hcut; cases hcut
  | some x =>
    obtain ⟨o, A⟩ := x
    rw [ho] at hcut
    simp only [Option.map_some, Option.some.injEq, Prod.mk.injEq] at hcut
    obtain ⟨hop, hA⟩ := hcut
    have := cut_ok (ω := fun _ => .int .i64 a0) (fun _ => rfl) (P := Try.prog) (by kernel_rfl) Try.func3 fbody 400 3 1 (vs := [.int .i64 a0]) (fun s => RelL.cons (by simp only [Rel]) RelL.nil) (by rw [Try.ntmps3]; show (1 : Nat) ≤ 66; decide) hst ho (fun s E w hE => by
      refine ⟨.int .i64 (r : Int), ?_, Rel.mkv _⟩
      have h23 : E 22 = .int .i64 a0 := by have := hE 22 _ hA; simpa only [Rel] using this
      simp [OpV, execOp, hop, ev, h23, go_sem, eqGuard, binOp, Op.intBits]
      exact hv) w
    refine Fnc.mono this ?_
    rintro v w' ⟨s', hH, hrel⟩
    exact ⟨hrel.v_of, hH.ext⟩
/-! ### The row -/
set_option maxRecDepth 100000 in
theorem lifted (os : Os) (started : os.Started) (H : Type) (enc : TypeId × Value → H) :
    ReturnsInHanded {} Try.checked os 3 .any (Rows.trimLongSpec.pre6 enc Try.prog Try.f3 Rows.trimLongRow.domain false) (Rows.trimLongSpec.post enc Try.prog Try.f3 false true false false) := by
  refine returnsInHanded_of_change (C := Try.checked) own started (by kernel_rfl) Try.func3
    (ChangeSpec.witness6 (enc := enc) (C := Try.checked) false ⟨#[], #[.int .i64 0], []⟩ 8 (by kernel_rfl) (by kernel_rfl) (by kernel_rfl) (by kernel_rfl)) ?_
  intro W base args ds gs before hval0 hW hcnd _
  have hval : ∀ (j : Nat) t v, Try.f3.params[j]? = some t → args[j]? = some v → Value.okWide Try.prog W .any base t v := hval0
  have hW' := hW
  obtain ⟨p, q, hA0, hV, rfl, hfz, hnd⟩ := hW
  have hA : DataW.TrodAll enc Try.prog W 0 (fun _ => true) true Try.f3.params.toList args.toList ds p := hA0
  rw [Try.params3] at hA hval
  obtain ⟨v0, vs0, d0, ds0, p0, q0, hargs, rfl, rfl, h0, r0⟩ := trodAll_cons hA
  obtain ⟨rfl, rfl, rfl⟩ := trodAll_nil r0
  obtain rfl : args = #[v0] := by cases args; simp_all
  obtain ⟨rfl, rfl⟩ := trodVars_none hV
  obtain ⟨a0, rfl, rfl, rfl, w0⟩ := open_int Try.underlying3 (hval 0 3 v0 rfl rfl) h0
  clear hA0 hval0
  simp only [List.append_nil] at hW'
  refine Calls.mono (call a0 W) fun e W' ⟨v, he, hv, hg⟩ => ?_
  subst he; subst hv
  exact ⟨_, rfl, post_of_ext (pa := []) (pv := []) hW' (fun _ _ _ => (trodAll_cons_mk (shut_bool Try.underlying4 _) trodAll_mk0)) (fun sp _ => (trodAll_cons_mk (shut_int Try.underlying3 w0) trodAll_mk0)) (fun _ _ => rfl) rfl hg (ok_one (by kernel_rfl) rfl (okWide_bool_mk Try.underlying4 _))⟩

theorem over : Rows.trimLongRow.holds Try.pinned (OpenSpec.ofChange Rows.trimLongSpec) :=
  OpenClaim.holds_of_wide 3 Try.f3 rfl rfl rfl rfl rfl rfl rfl ⟨rfl, rfl, rfl, rfl, rfl⟩ rfl rfl rfl rfl rfl (by kernel_rfl) Try.func3 (by kernel_rfl)
    (of_decide_eq_true (by kernel_rfl)) (by unfold Func.isWrapper; first | (rw [if_pos (by decide +kernel)]; kernel_rfl) | (rw [if_neg (by decide +kernel)]; exact ⟨rfl, rfl⟩))
    (fun os started H enc _ => lifted os started H enc)

theorem proved : Rows.TrimLongSaid :=
  over
end Go.Proofs.Ytmcellggjlpnoaa.trimLong
