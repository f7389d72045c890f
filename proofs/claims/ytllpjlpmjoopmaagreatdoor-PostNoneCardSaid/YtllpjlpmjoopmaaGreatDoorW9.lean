/- Equality of Bools and of structs of numbers; calls of function values. Program-agnostic. -/
import Derived.Test.YtllpjlpmjoopmaaGreatDoorW8
import Derived.ChangeKeysEq
namespace Go.Proofs.YtllpjlpmjoopmaaGreatDoor.W
open Go.RowKit

section
variable {P : Program} {o : Oper} {E : Env} {w : World}
theorem V.bcmpEq {t u : TypeId} {x y : Operand} {a b : Bool} (ho : o.op = .binOp .eql t x y u) (ht : P.underlying t = some .bool) (hx : ev E x = .bool a) (hy : ev E y = .bool b) : OpV P o E w (.bool (a == b)) := by
  simp [OpV, execOp, ho, hx, hy, go_sem, eqGuard, binOp, Op.equal, Op.maxDepth, run_equalIn_bool' w 9999 t a b ht]
theorem V.bcmpNe {t u : TypeId} {x y : Operand} {a b : Bool} (ho : o.op = .binOp .neq t x y u) (ht : P.underlying t = some .bool) (hx : ev E x = .bool a) (hy : ev E y = .bool b) : OpV P o E w (.bool (!(a == b))) := by
  simp [OpV, execOp, ho, hx, hy, go_sem, eqGuard, binOp, Op.equal, Op.maxDepth, run_equalIn_bool' w 9999 t a b ht]
/-- the cells of two structs, whose fields all are numbers -/
def IntAt (P : Program) (xs ys : Array Value) : List (TypeId × Nat × Bool) → List (IntKind × Int × Int) → Prop
  | [], [] => True
  | (t, o, n) :: r, (k, a, b) :: s => n = false ∧ P.underlying t = some (.int k) ∧ xs[o]? = some (.int k a) ∧ ys[o]? = some (.int k b) ∧ IntAt P xs ys r s
  | _, _ => False
def eqAll : List (IntKind × Int × Int) → Bool
  | [] => true
  | (_, a, b) :: r => decide (a = b) && eqAll r
theorem run_eqFields_ints (w : World) (d : Nat) (xs ys : Array Value) : ∀ (fs : List Field) (s : List (IntKind × Int × Int)), IntAt P xs ys (fs.map fun f => (f.type, f.offset, f.name == "_")) s →
    (Op.eqFields (d + 1) xs ys fs).run P w = .ok (eqAll s) w
  | [], [], _ => by simp [Op.eqFields, eqAll]
  | [], _ :: _, h => absurd h (by simp [IntAt])
  | _ :: _, [], h => absurd h (by simp [IntAt])
  | f :: fs, (k, a, b) :: s, h => by
    obtain ⟨hn, hu, h1, h2, h3⟩ := h
    have hn' : f.name ≠ "_" := by simpa using hn
    have hp : P.plainKey f.type = true := by unfold Program.plainKey; rw [hu]
    simp only [Op.eqFields, hn', ne_eq, not_false_eq_true, if_true, Sem.run_bind, run_part_plain w hp h1, run_part_plain w hp h2, run_equalIn_int w d f.type k k a b hu, Result.andThen_ok, eqAll]
    by_cases e : a = b
    · have := run_eqFields_ints w d xs ys fs s h3
      simp [e, this]
    · simp [e]
theorem V.aeq {op : BinOp} {t u : TypeId} {x y : Operand} {xs ys : Array Value} {fs : List (TypeId × Nat × Bool)} (s : List (IntKind × Int × Int)) {r : Bool} (ho : o.op = .binOp op t x y u) (hop : (op = .eql ∧ r = eqAll s) ∨ (op = .neq ∧ r = !eqAll s))
    (hg : P.eqGuardType P.depth t = false) (hp : P.stoodInHeld t = false) (ht : P.underlying t = some (.struct (P.fieldsOf t))) (hf : (P.fieldsOf t).toList.map (fun f => (f.type, f.offset, f.name == "_")) = fs)
    (hx : ev E x = .agg xs) (hy : ev E y = .agg ys) (h : IntAt P xs ys fs s) : OpV P o E w (.bool r) := by
  subst hf
  have key := run_eqFields_ints w 9998 xs ys _ s h
  have e : (Op.equal t (.agg xs) (.agg ys)).run P w = .ok (eqAll s) w := by
    rw [Op.equal, Op.maxDepth, run_equalIn_struct w 9999 t xs ys ht hp]; exact key
  rcases hop with ⟨rfl, rfl⟩ | ⟨rfl, rfl⟩
  · simp [OpV, execOp, ho, hx, hy, go_sem, eqGuard, binOp, e, hg]
  · simp [OpV, execOp, ho, hx, hy, go_sem, eqGuard, binOp, e, hg]
theorem psCons {E : Env} {ps : List (Nat × Operand)} {i : Nat} {x : Operand} {v : Value} {L : List (Nat × Value)} (h : ev E x = v) (r : ps.map (fun x => (x.1, ev E x.2)) = L) : ((i, x) :: ps).map (fun x => (x.1, ev E x.2)) = (i, v) :: L := by simp [h, r]
theorem V.build1 {t : TypeId} {ps : Array (Nat × Operand)} {L : List (Nat × Value)} {vs : Array Value} (ho : o.op = .build t ps) (hps : ps.toList.map (fun x => (x.1, ev E x.2)) = L) (hb : P.built t L = some vs) : OpV P o E w (.agg vs) := by
  refine V.build ho ?_
  rw [Array.toList_map, hps]; exact hb
/-- a call of a function value with two arguments -/
theorem C.callv2 {f : FuncId} {tys : Array TypeId} {g x y : Operand} {cap : Array Value} {a b : Value} {args : Array Value} (ho : o.op = .call ⟨.value g, #[x, y], tys⟩) (hg : ev E g = .func (.func f) #[] cap) (hn : ∀ f', g ≠ .func f') (hf : Callable P f) (h1 : ev E x = a) (h2 : ev E y = b) (ha : #[a, b] ++ cap = args) : OpC P o E w f args := by
  subst ha
  obtain ⟨fn, hfn, hname, hb⟩ := hf
  have hn' : ¬ fn.name = "runtime.NumGoroutine" := by simpa using hname
  have hb' : ¬ fn.body = none := by intro e; rw [e] at hb; cases hb
  cases g with
  | func f' => exact absurd rfl (hn f')
  | _ => simp [OpC, execOp, ho, go_sem, hg, callFunc, hfn, hn', hb', h1, h2]
end

/-! ### Rows of one's own whose elements hold slices -/
section
variable {α : Type} {R : Rep α} {e B n : Nat} {X Y O : List Nat} {w w' : World} {v T : Value} {xs : List α}
theorem Rep.base {α : Type} {R : Rep α} {O X : List Nat} {w : World} {cs : List Value} {x : α} (h : R.rd (O ++ X) w cs x) : R.rd X w cs x := R.mono h fun _ hb => List.mem_append.2 (.inr hb)
theorem mem_pre {O X : List Nat} {g : Nat} (h : g ∈ O) : g ∈ O ++ X := List.mem_append.2 (.inl h)
theorem mem_avoid {b : Nat} (h : b ∈ avoid T X) : T.ownBlock = some b ∨ b ∈ X := by
  unfold avoid at h
  cases ho : T.ownBlock with
  | none => rw [ho] at h; exact .inr h
  | some g =>
    rw [ho] at h
    rcases List.mem_cons.1 h with rfl | h
    · exact .inl rfl
    · exact .inr h
theorem avoid_sub {X Y : List Nat} (k : ∀ b ∈ X, b ∈ Y) {b : Nat} (h : b ∈ avoid v X) : b ∈ avoid v Y := by
  rcases mem_avoid h with h | h
  · unfold avoid; rw [h]; exact List.mem_cons_self
  · exact avoid_mem (k b h)
theorem Owns.base (h : Owns R e B (O ++ X) w v xs) : Owns R e B X w v xs := h.mono fun _ hb => List.mem_append.2 (.inr hb)
theorem base_no (h : ∀ g, v.ownBlock = some g → g ∉ O ++ X) : ∀ g, v.ownBlock = some g → g ∉ X := fun g hg hm => h g hg (List.mem_append.2 (.inr hm))
theorem avoid_no (h1 : ∀ g, v.ownBlock = some g → n ≤ g) (h2 : ∀ g, T.ownBlock = some g → g < n) (h3 : ∀ g, v.ownBlock = some g → g ∉ X) : ∀ g, v.ownBlock = some g → g ∉ avoid T X := by
  intro g hg hm
  rcases mem_avoid hm with h | h
  · have := h1 g hg; have := h2 g h; omega
  · exact h3 g hg h
/-- a new row of one's own, of what holds no slices, avoids an older one -/
theorem Owns.far (hf : Flat R) (h : Owns R e B X w v xs) (h3 : ∀ g, v.ownBlock = some g → g ∉ X) (h2 : ∀ g, T.ownBlock = some g → g < B) : Sl R (avoid T X) w v xs :=
  Owns.sl' (Owns.flat hf h) (avoid_no (fun g hg => (h.lt g hg).1) h2 h3)
theorem avoid_far (h : Sl R (avoid T X) w v xs) {g : Nat} (hg : T.ownBlock = some g) : Sl R (g :: X) w v xs := by simpa [avoid, hg] using h
theorem Ext.avoid (h : Ext O w w') : Ext (W.avoid T (O ++ X)) w w' := h.mono fun _ hb => avoid_mem (List.mem_append.2 (.inl hb))
end
end Go.Proofs.YtllpjlpmjoopmaaGreatDoor.W
