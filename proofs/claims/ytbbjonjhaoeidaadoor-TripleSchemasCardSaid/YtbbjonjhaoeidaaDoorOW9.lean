/- Equality of Bools and of structs of numbers; calls of function values. Program-agnostic. -/
import Derived.Test.YtbbjonjhaoeidaaDoorOW8
import Derived.ChangeKeysEq
set_option linter.unusedVariables false
set_option linter.unusedSimpArgs false
namespace Go.Proofs.YtbbjonjhaoeidaaDoor.W
open Go.RowKit

section
variable {P : Program} {o : Oper} {E : Env} {w : World}
theorem V.bcmpEq {t u : TypeId} {x y : Operand} {a b : Bool} (ho : o.op = .binOp .eql t x y u) (ht : P.underlying t = some .bool) (hx : ev E x = .bool a) (hy : ev E y = .bool b) : OpV P o E w (.bool (a == b)) := by
  simp [OpV, execOp, ho, hx, hy, go_sem, eqGuard, binOp, Op.equal, Op.maxDepth, run_equalIn_bool' w 9999 t a b ht]
theorem V.bcmpNe {t u : TypeId} {x y : Operand} {a b : Bool} (ho : o.op = .binOp .neq t x y u) (ht : P.underlying t = some .bool) (hx : ev E x = .bool a) (hy : ev E y = .bool b) : OpV P o E w (.bool (!(a == b))) := by
  simp [OpV, execOp, ho, hx, hy, go_sem, eqGuard, binOp, Op.equal, Op.maxDepth, run_equalIn_bool' w 9999 t a b ht]
/-- the cells of two structs, whose fields all are numbers -/
def IntAt (P : Program) (xs ys : Array Value) : List (TypeId × Nat × Bool) → List (IntKind × Int × Int) → Prop
  | [], [] => True
  | (t, o, n) :: r, (k, a, b) :: s => n = false ∧ P.underlying t = some (.int k) ∧ xs[o]? = some (.int k a) ∧ ys[o]? = some (.int k b) ∧ IntAt P xs ys r s
  | _, _ => False
def eqAll : List (IntKind × Int × Int) → Bool
  | [] => true
  | (_, a, b) :: r => decide (a = b) && eqAll r
theorem run_eqFields_ints (w : World) (d : Nat) (xs ys : Array Value) : ∀ (fs : List Field) (s : List (IntKind × Int × Int)), IntAt P xs ys (fs.map fun f => (f.type, f.offset, f.name == "_")) s →
    (Op.eqFields (d + 1) xs ys fs).run P w = .ok (eqAll s) w
  | [], [], _ => by simp [Op.eqFields, eqAll]
  | [], _ :: _, h => absurd h (by simp [IntAt])
  | _ :: _, [], h => absurd h (by simp [IntAt])
  | f :: fs, (k, a, b) :: s, h => by
    obtain ⟨hn, hu, h1, h2, h3⟩ := h
    have hn' : f.name ≠ "_" := by simpa using hn
    have hp : P.plainKey f.type = true := by unfold Program.plainKey; rw [hu]
    simp only [Op.eqFields, hn', ne_eq, not_false_eq_true, if_true, Sem.run_bind, run_part_plain w hp h1, run_part_plain w hp h2, run_equalIn_int w d f.type k k a b hu, Result.andThen_ok, eqAll]
    by_cases e : a = b
    · have := run_eqFields_ints w d xs ys fs s h3
      simp [e, this]
    · simp [e]
theorem V.aeq {op : BinOp} {t u : TypeId} {x y : Operand} {xs ys : Array Value} {fs : List (TypeId × Nat × Bool)} (s : List (IntKind × Int × Int)) {r : Bool} (ho : o.op = .binOp op t x y u) (hop : (op = .eql ∧ r = eqAll s) ∨ (op = .neq ∧ r = !eqAll s))
    (hg : P.eqGuardType P.depth t = false) (hp : P.stoodInHeld t = false) (ht : P.underlying t = some (.struct (P.fieldsOf t))) (hf : (P.fieldsOf t).toList.map (fun f => (f.type, f.offset, f.name == "_")) = fs)
    (hx : ev E x = .agg xs) (hy : ev E y = .agg ys) (h : IntAt P xs ys fs s) : OpV P o E w (.bool r) := by
  subst hf
  have key := run_eqFields_ints w 9998 xs ys _ s h
  have e : (Op.equal t (.agg xs) (.agg ys)).run P w = .ok (eqAll s) w := by
    rw [Op.equal, Op.maxDepth, run_equalIn_struct w 9999 t xs ys ht hp]; exact key
  rcases hop with ⟨rfl, rfl⟩ | ⟨rfl, rfl⟩
  · simp [OpV, execOp, ho, hx, hy, go_sem, eqGuard, binOp, e, hg]
  · simp [OpV, execOp, ho, hx, hy, go_sem, eqGuard, binOp, e, hg]
theorem psCons {E : Env} {ps : List (Nat × Operand)} {i : Nat} {x : Operand} {v : Value} {L : List (Nat × Value)} (h : ev E x = v) (r : ps.map (fun x => (x.1, ev E x.2)) = L) : ((i, x) :: ps).map (fun x => (x.1, ev E x.2)) = (i, v) :: L := by simp [h, r]
theorem V.build1 {t : TypeId} {ps : Array (Nat × Operand)} {L : List (Nat × Value)} {vs : Array Value} (ho : o.op = .build t ps) (hps : ps.toList.map (fun x => (x.1, ev E x.2)) = L) (hb : P.built t L = some vs) : OpV P o E w (.agg vs) := by
  refine V.build ho ?_
  rw [Array.toList_map, hps]; exact hb
/-- a call of a function value with two arguments -/
theorem C.callv2 {f : FuncId} {tys : Array TypeId} {g x y : Operand} {cap : Array Value} {a b : Value} {args : Array Value} (ho : o.op = .call ⟨.value g, #[x, y], tys⟩) (hg : ev E g = .func (.func f) #[] cap) (hn : ∀ f', g ≠ .func f') (hf : Callable P f) (h1 : ev E x = a) (h2 : ev E y = b) (ha : #[a, b] ++ cap = args) : OpC P o E w f args := by
  subst ha
  obtain ⟨fn, hfn, hname, hb⟩ := hf
  have hn' : ¬ fn.name = "runtime.NumGoroutine" := by simpa using hname
  have hb' : ¬ fn.body = none := by intro e; rw [e] at hb; cases hb
  cases g with
  | func f' => exact absurd rfl (hn f')
  | _ => simp [OpC, execOp, ho, go_sem, hg, callFunc, hfn, hn', hb', h1, h2]
end

/-! ### Rows of one's own whose elements hold slices -/
section
variable {α : Type} {R : Rep α} {e B n : Nat} {X Y O : List Nat} {w w' : World} {v T : Value} {xs : List α}
theorem Rep.base {α : Type} {R : Rep α} {O X : List Nat} {w : World} {cs : List Value} {x : α} (h : R.rd (O ++ X) w cs x) : R.rd X w cs x := R.mono h fun _ hb => List.mem_append.2 (.inr hb)
theorem mem_pre {O X : List Nat} {g : Nat} (h : g ∈ O) : g ∈ O ++ X := List.mem_append.2 (.inl h)
theorem mem_avoid {b : Nat} (h : b ∈ avoid T X) : T.ownBlock = some b ∨ b ∈ X := by
  unfold avoid at h
  cases ho : T.ownBlock with
  | none => rw [ho] at h; exact .inr h
  | some g =>
    rw [ho] at h
    rcases List.mem_cons.1 h with rfl | h
    · exact .inl rfl
    · exact .inr h
theorem avoid_sub {X Y : List Nat} (k : ∀ b ∈ X, b ∈ Y) {b : Nat} (h : b ∈ avoid v X) : b ∈ avoid v Y := by
  rcases mem_avoid h with h | h
  · unfold avoid; rw [h]; exact List.mem_cons_self
  · exact avoid_mem (k b h)
theorem Owns.base (h : Owns R e B (O ++ X) w v xs) : Owns R e B X w v xs := h.mono fun _ hb => List.mem_append.2 (.inr hb)
theorem base_no (h : ∀ g, v.ownBlock = some g → g ∉ O ++ X) : ∀ g, v.ownBlock = some g → g ∉ X := fun g hg hm => h g hg (List.mem_append.2 (.inr hm))
theorem avoid_no (h1 : ∀ g, v.ownBlock = some g → n ≤ g) (h2 : ∀ g, T.ownBlock = some g → g < n) (h3 : ∀ g, v.ownBlock = some g → g ∉ X) : ∀ g, v.ownBlock = some g → g ∉ avoid T X := by
  intro g hg hm
  rcases mem_avoid hm with h | h
  · have := h1 g hg; have := h2 g h; omega
  · exact h3 g hg h
/-- a new row of one's own, of what holds no slices, avoids an older one -/
theorem Owns.far (hf : Flat R) (h : Owns R e B X w v xs) (h3 : ∀ g, v.ownBlock = some g → g ∉ X) (h2 : ∀ g, T.ownBlock = some g → g < B) : Sl R (avoid T X) w v xs :=
  Owns.sl' (Owns.flat hf h) (avoid_no (fun g hg => (h.lt g hg).1) h2 h3)
theorem avoid_far (h : Sl R (avoid T X) w v xs) {g : Nat} (hg : T.ownBlock = some g) : Sl R (g :: X) w v xs := by simpa [avoid, hg] using h
theorem Ext.avoid (h : Ext O w w') : Ext (W.avoid T (O ++ X)) w w' := h.mono fun _ hb => avoid_mem (List.mem_append.2 (.inl hb))
end
def fieldB (P : Program) (t i ft off sz : Nat) : Bool := (match P.underlying t with
  | some (.struct fs) => (match fs[i]? with
    | some f => Nat.beq f.type ft && Nat.beq f.offset off
    | none => false)
  | _ => false) && ((match P.info? ft with
  | some x => Nat.beq x.size sz
  | none => false) && !Nat.beq sz 0)
theorem fld {P : Program} {t i ft off sz : Nat} (h : fieldB P t i ft off sz = true) : FieldOf P t i ft off sz := by
  simp only [fieldB, Bool.and_eq_true, Bool.not_eq_true'] at h
  obtain ⟨h1, h2, h3⟩ := h
  split at h1
  · rename_i fs hu
    split at h1
    · rename_i f hf
      simp only [Bool.and_eq_true] at h1
      refine ⟨⟨fs, f, hu, hf, Nat.eq_of_beq_eq_true h1.1, Nat.eq_of_beq_eq_true h1.2⟩, ?_, fun e => ?_⟩
      · split at h2
        · rename_i x hx
          unfold Sized; rw [hx]; exact congrArg some (Nat.eq_of_beq_eq_true h2)
        · cases h2
      · subst e; cases h3
    · cases h1
  · cases h1
/-! ### The rest of a region of which no operation runs but those that hand on what is known -/
def look : List (Nat × Option Bool) → Nat → Option (Option Bool)
  | [], _ => none
  | (t', v) :: r, t => bif Nat.beq t' t then some v else look r t
def kv : Option Bool → Value
  | none => undef
  | some b => .bool b
def KnownAt (S : List (Nat × Option Bool)) (E : Env) : Prop := ∀ t v, look S t = some v → E t = kv v
theorem kn {E : Env} : KnownAt [] E := fun _ _ h => by cases h
theorem kc {S : List (Nat × Option Bool)} {E : Env} {t : Nat} (v : Option Bool) (h : E t = kv v) (k : KnownAt S E) : KnownAt ((t, v) :: S) E := by
  intro t' v' hl
  simp only [look] at hl
  cases hb : Nat.beq t t' with
  | true =>
    rw [hb] at hl
    simp only [cond_true, Option.some.injEq] at hl
    subst hl
    have := Nat.eq_of_beq_eq_true hb
    subst this
    exact h
  | false => rw [hb] at hl; exact k t' v' hl
def opdB (S : List (Nat × Option Bool)) : Operand → Option Bool
  | .tmp t => match look S t with
    | some (some b) => some b
    | _ => none
  | .const (.bool b) => some b
  | _ => none
theorem opdB_ev {S : List (Nat × Option Bool)} {E : Env} (hK : KnownAt S E) {x : Operand} {b : Bool} (h : opdB S x = some b) : ev E x = .bool b := by
  unfold opdB at h
  split at h
  · split at h
    · rename_i t b' hl
      cases h
      exact hK _ _ hl
    · cases h
  · cases h; rfl
  · cases h
def execB (S : List (Nat × Option Bool)) : Op → Option Bool
  | .move x => opdB S x
  | .assign x => opdB S x
  | .pick c x y => match opdB S c with
    | some true => opdB S x
    | some false => opdB S y
    | none => none
  | .unOp .not _ x => (opdB S x).map (!·)
  | _ => none
theorem execB_ok {P : Program} {S : List (Nat × Option Bool)} {E : Env} (hK : KnownAt S E) {o : Oper} {b : Bool} (h : execB S o.op = some b) (w : World) : OpV P o E w (.bool b) := by
  unfold execB at h
  split at h
  · rename_i x ho; exact V.move ho (opdB_ev hK h)
  · rename_i x ho; exact V.assign ho (opdB_ev hK h)
  · rename_i c x y ho
    split at h
    · rename_i hc; exact V.pick ho (opdB_ev hK hc) (opdB_ev hK h)
    · rename_i hc; exact V.pick ho (opdB_ev hK hc) (opdB_ev hK h)
    · cases h
  · rename_i t x ho
    cases hx : opdB S x with
    | none => rw [hx] at h; cases h
    | some c =>
      rw [hx] at h
      simp only [Option.map_some, Option.some.injEq] at h
      subst h
      exact V.not ho (opdB_ev hK hx)
  · cases h
def guardB (ops : Array Oper) (S : List (Nat × Option Bool)) : Option (Nat × Bool) → Option Bool
  | none => some true
  | some (j, b) => match (ops[j]?).bind (·.dst) with
    | none => none
    | some d => match look S d with
      | some (some c) => some (c == b)
      | some none => some false
      | none => none
theorem guardB_sure {ops : Array Oper} {S : List (Nat × Option Bool)} {E : Env} (hK : KnownAt S E) {o : Oper} (h : guardB ops S o.guard = some true) : Sure ops o E := by
  cases hg : o.guard with
  | none => exact Sure.none hg
  | some x =>
    obtain ⟨j, b⟩ := x
    rw [hg] at h
    simp only [guardB] at h
    cases hd : (ops[j]?).bind (·.dst) with
    | none => rw [hd] at h; cases h
    | some d =>
      rw [hd] at h
      simp only at h
      split at h
      · rename_i c hl
        have hE := hK _ _ hl
        simp only [Option.some.injEq, beq_iff_eq] at h
        subst h
        exact Sure.yes hg hd hE
      · cases h
      · cases h
theorem guardB_shut {ops : Array Oper} {S : List (Nat × Option Bool)} {E : Env} (hK : KnownAt S E) {o : Oper} (h : guardB ops S o.guard = some false) : Shut ops o E := by
  cases hg : o.guard with
  | none => rw [hg] at h; cases h
  | some x =>
    obtain ⟨j, b⟩ := x
    rw [hg] at h
    simp only [guardB] at h
    cases hd : (ops[j]?).bind (·.dst) with
    | none => rw [hd] at h; cases h
    | some d =>
      rw [hd] at h
      simp only at h
      split at h
      · rename_i c hl
        have hE := hK _ _ hl
        exact Shut.no hg hd hE (by simpa using h)
      · rename_i hl; exact Shut.undef hg hd (hK _ _ hl)
      · cases h
def putB (S : List (Nat × Option Bool)) : Option Nat → Option Bool → List (Nat × Option Bool)
  | none, _ => S
  | some d, v => (d, v) :: S
theorem KnownAt.put {S : List (Nat × Option Bool)} {E : Env} (hK : KnownAt S E) (d : Option Nat) (v : Option Bool) : KnownAt (putB S d v) (updO E d (kv v)) := by
  cases d with
  | none => exact hK
  | some d =>
    intro t v' hl
    simp only [putB, look] at hl
    cases hb : Nat.beq d t with
    | true =>
      rw [hb] at hl
      simp only [cond_true, Option.some.injEq] at hl
      subst hl
      have := Nat.eq_of_beq_eq_true hb
      subst this
      exact upd_same _ _ _
    | false =>
      rw [hb] at hl
      have hne : t ≠ d := by intro e; subst e; rw [Nat.beq_refl] at hb; cases hb
      rw [updO, upd_ne _ _ _ _ hne]; exact hK t v' hl
def skipRun (n : Fsz) (ops : Array Oper) : List Oper → List (Nat × Option Bool) → Option (List (Nat × Option Bool))
  | [], S => some S
  | o :: r, S => bif dstOk n o.dst then match guardB ops S o.guard with
      | some false => skipRun n ops r (putB S o.dst none)
      | some true => match execB S o.op with
        | some b => skipRun n ops r (putB S o.dst (some b))
        | none => none
      | none => none
    else none
def notDst : List Oper → Nat → Bool
  | [], _ => true
  | o :: r, t => (match o.dst with | some d => !Nat.beq d t | none => true) && notDst r t
theorem notDst_ne {o : Oper} {r : List Oper} {t : Nat} (h : notDst (o :: r) t = true) (E : Env) (v : Value) : updO E o.dst v t = E t ∧ notDst r t = true := by
  simp only [notDst, Bool.and_eq_true] at h
  refine ⟨?_, h.2⟩
  cases hd : o.dst with
  | none => rfl
  | some d =>
    rw [hd] at h
    refine upd_ne _ _ _ _ (fun e => ?_)
    subst e
    have := h.1
    simp only [Nat.beq_refl, Bool.not_true, Bool.false_eq_true] at this
def skipOK (n : Fsz) (ops : Array Oper) (rest : List Oper) (S T : List (Nat × Option Bool)) : Bool := match skipRun n ops rest S with
  | some S' => T.all fun x => look S' x.1 == some x.2
  | none => false
theorem look_mem : ∀ {T : List (Nat × Option Bool)} {t : Nat} {v : Option Bool}, look T t = some v → (t, v) ∈ T
  | (t', v') :: r, t, v, h => by
    simp only [look] at h
    cases hb : Nat.beq t' t with
    | true =>
      rw [hb] at h
      simp only [cond_true, Option.some.injEq] at h
      subst h
      have := Nat.eq_of_beq_eq_true hb
      subst this
      simp
    | false => rw [hb] at h; exact List.mem_cons_of_mem _ (look_mem h)
theorem KnownAt.of_all {S T : List (Nat × Option Bool)} {E : Env} (hK : KnownAt S E) (h : (T.all fun x => look S x.1 == some x.2) = true) : KnownAt T E := by
  intro t v hl
  have := List.all_eq_true.1 h _ (look_mem hl)
  simp only [beq_iff_eq] at this
  exact hK t v this
section
variable {P : Program} {n : Fsz} {ro : Option Nat} {E : Env} {w : World} {ops : Array Oper} {rest : List Oper}
theorem WL.z {Q : K} {o : Oper} (u : Value) (h : OpV P o E w u) (k : WLr ro P n ops Q rest (updO E o.dst u) w) (hs : o.guard = none := by rfl) (hd : dstOk n o.dst = true := by rfl) : WLr ro P n ops Q (o :: rest) E w := WL.v (Sure.none hs) hd h k
theorem WQ.z {Q : Env → World → Prop} {o : Oper} (u : Value) (h : ∀ w', Ext [] w w' → OpV P o E w' u) (k : WQ P n ops w Q rest (updO E o.dst u)) (hs : o.guard = none := by rfl) (hd : dstOk n o.dst = true := by rfl) : WQ P n ops w Q (o :: rest) E := WQ.v (Sure.none hs) hd h k
theorem WL.y {Q : K} {o : Oper} {j g : Nat} {b : Bool} (u : Value) (hE : E g = .bool b) (h : OpV P o E w u) (k : WLr ro P n ops Q rest (updO E o.dst u) w) (hs : o.guard = some (j, b) := by rfl) (hj : (ops[j]?).bind (·.dst) = some g := by rfl) (hd : dstOk n o.dst = true := by rfl) : WLr ro P n ops Q (o :: rest) E w := WL.v (Sure.yes hs hj hE) hd h k
theorem WQ.y {Q : Env → World → Prop} {o : Oper} {j g : Nat} {b : Bool} (u : Value) (hE : E g = .bool b) (h : ∀ w', Ext [] w w' → OpV P o E w' u) (k : WQ P n ops w Q rest (updO E o.dst u)) (hs : o.guard = some (j, b) := by rfl) (hj : (ops[j]?).bind (·.dst) = some g := by rfl) (hd : dstOk n o.dst = true := by rfl) : WQ P n ops w Q (o :: rest) E := WQ.v (Sure.yes hs hj hE) hd h k
theorem WP.sr {N R : Env → World → Prop} {X : Nat → Env → World → Prop} {id : Nat} {l : List Oper} {y : Code} (h : WLr ro P n l.toArray ⟨WPr ro P n y ⟨N, X, R⟩, X, R⟩ l E w) : WPr ro P n (.seq (.region id l.toArray false) y) ⟨N, X, R⟩ E w := WP.seq (WP.region h)
theorem WL.vbp {Q : K} {o : Oper} {c : Prop} [Decidable c] (hs : Sure ops o E) (hd : dstOk n o.dst = true) (h : OpV P o E w (.bool (decide c))) (kt : c → WLr ro P n ops Q rest (updO E o.dst (.bool true)) w) (kf : ¬c → WLr ro P n ops Q rest (updO E o.dst (.bool false)) w) : WLr ro P n ops Q (o :: rest) E w := WL.vb hs hd h (fun e => kt (of_decide_eq_true e)) (fun e => kf (of_decide_eq_false e))
theorem WL.vbnp {Q : K} {o : Oper} {c : Prop} [Decidable c] (hs : Sure ops o E) (hd : dstOk n o.dst = true) (h : OpV P o E w (.bool (!decide c))) (kt : ¬c → WLr ro P n ops Q rest (updO E o.dst (.bool true)) w) (kf : c → WLr ro P n ops Q rest (updO E o.dst (.bool false)) w) : WLr ro P n ops Q (o :: rest) E w := WL.vb hs hd h (fun e => kt (of_decide_eq_false (bnot_true e))) (fun e => kf (of_decide_eq_true (bnot_false e)))
theorem WL.vbn {Q : K} {o : Oper} {c : Bool} (hs : Sure ops o E) (hd : dstOk n o.dst = true) (h : OpV P o E w (.bool (!c))) (kt : c = false → WLr ro P n ops Q rest (updO E o.dst (.bool true)) w) (kf : c = true → WLr ro P n ops Q rest (updO E o.dst (.bool false)) w) : WLr ro P n ops Q (o :: rest) E w := WL.vb hs hd h (fun e => kt (bnot_true e)) (fun e => kf (bnot_false e))
theorem WQ.vbp {Q : Env → World → Prop} {o : Oper} {c : Prop} [Decidable c] (hs : Sure ops o E) (hd : dstOk n o.dst = true) (h : ∀ w', Ext [] w w' → OpV P o E w' (.bool (decide c))) (kt : c → WQ P n ops w Q rest (updO E o.dst (.bool true))) (kf : ¬c → WQ P n ops w Q rest (updO E o.dst (.bool false))) : WQ P n ops w Q (o :: rest) E := WQ.vb hs hd h (fun e => kt (of_decide_eq_true e)) (fun e => kf (of_decide_eq_false e))
theorem WQ.vbnp {Q : Env → World → Prop} {o : Oper} {c : Prop} [Decidable c] (hs : Sure ops o E) (hd : dstOk n o.dst = true) (h : ∀ w', Ext [] w w' → OpV P o E w' (.bool (!decide c))) (kt : ¬c → WQ P n ops w Q rest (updO E o.dst (.bool true))) (kf : c → WQ P n ops w Q rest (updO E o.dst (.bool false))) : WQ P n ops w Q (o :: rest) E := WQ.vb hs hd h (fun e => kt (of_decide_eq_false (bnot_true e))) (fun e => kf (of_decide_eq_true (bnot_false e)))
theorem WQ.vbn {Q : Env → World → Prop} {o : Oper} {c : Bool} (hs : Sure ops o E) (hd : dstOk n o.dst = true) (h : ∀ w', Ext [] w w' → OpV P o E w' (.bool (!c))) (kt : c = false → WQ P n ops w Q rest (updO E o.dst (.bool true))) (kf : c = true → WQ P n ops w Q rest (updO E o.dst (.bool false))) : WQ P n ops w Q (o :: rest) E := WQ.vb hs hd h (fun e => kt (bnot_true e)) (fun e => kf (bnot_false e))
theorem WP.condp {Q : K} {c : Operand} {x y : Code} {t : Prop} [Decidable t] (hc : ev E c = .bool (decide t)) (ht : t → WPr ro P n x Q E w) (hf : ¬t → WPr ro P n y Q E w) : WPr ro P n (.cond c x y) Q E w := WP.cond hc (fun e => ht (of_decide_eq_true e)) (fun e => hf (of_decide_eq_false e))
theorem WP.condnp {Q : K} {c : Operand} {x y : Code} {t : Prop} [Decidable t] (hc : ev E c = .bool (!decide t)) (ht : ¬t → WPr ro P n x Q E w) (hf : t → WPr ro P n y Q E w) : WPr ro P n (.cond c x y) Q E w := WP.cond hc (fun e => ht (of_decide_eq_false (bnot_true e))) (fun e => hf (of_decide_eq_true (bnot_false e)))
theorem WP.condn {Q : K} {c : Operand} {x y : Code} {t : Bool} (hc : ev E c = .bool (!t)) (ht : t = false → WPr ro P n x Q E w) (hf : t = true → WPr ro P n y Q E w) : WPr ro P n (.cond c x y) Q E w := WP.cond hc (fun e => ht (bnot_true e)) (fun e => hf (bnot_false e))
/-- a value handed on, as it is -/
def handsOn : Op → Operand → Prop
  | .move x, y => x = y
  | .assign x, y => x = y
  | _, _ => False
theorem handsOn_v {P : Program} {o : Oper} {E : Env} {w : World} {x : Operand} (h : handsOn o.op x) : OpV P o E w (ev E x) := by
  unfold handsOn at h
  split at h
  · rename_i ho; subst h; exact V.move ho rfl
  · rename_i ho; subst h; exact V.assign ho rfl
  · exact h.elim
def pickOf (b : Bool) (x y : Operand) : Operand := bif b then x else y
theorem pick_v {P : Program} {o : Oper} {E : Env} {w : World} {c x y : Operand} {b : Bool} (ho : o.op = .pick c x y) (hc : ev E c = .bool b) : OpV P o E w (ev E (pickOf b x y)) := V.pick ho hc (by cases b <;> rfl)
theorem WL.m {Q : K} {o : Oper} {x : Operand} (ho : handsOn o.op x) (k : WLr ro P n ops Q rest (updO E o.dst (ev E x)) w) (hs : o.guard = none := by rfl) (hd : dstOk n o.dst = true := by rfl) : WLr ro P n ops Q (o :: rest) E w := WL.v (Sure.none hs) hd (handsOn_v ho) k
theorem WL.my {Q : K} {o : Oper} {x : Operand} {j g : Nat} {b : Bool} (hE : E g = .bool b) (ho : handsOn o.op x) (k : WLr ro P n ops Q rest (updO E o.dst (ev E x)) w) (hs : o.guard = some (j, b) := by rfl) (hj : (ops[j]?).bind (·.dst) = some g := by rfl) (hd : dstOk n o.dst = true := by rfl) : WLr ro P n ops Q (o :: rest) E w := WL.v (Sure.yes hs hj hE) hd (handsOn_v ho) k
theorem WQ.m {Q : Env → World → Prop} {o : Oper} {x : Operand} (ho : handsOn o.op x) (k : WQ P n ops w Q rest (updO E o.dst (ev E x))) (hs : o.guard = none := by rfl) (hd : dstOk n o.dst = true := by rfl) : WQ P n ops w Q (o :: rest) E := WQ.v (Sure.none hs) hd (fun _ _ => handsOn_v ho) k
theorem WQ.my {Q : Env → World → Prop} {o : Oper} {x : Operand} {j g : Nat} {b : Bool} (hE : E g = .bool b) (ho : handsOn o.op x) (k : WQ P n ops w Q rest (updO E o.dst (ev E x))) (hs : o.guard = some (j, b) := by rfl) (hj : (ops[j]?).bind (·.dst) = some g := by rfl) (hd : dstOk n o.dst = true := by rfl) : WQ P n ops w Q (o :: rest) E := WQ.v (Sure.yes hs hj hE) hd (fun _ _ => handsOn_v ho) k
theorem WL.k {Q : K} {o : Oper} {c x y : Operand} {a : Bool} (hc : ev E c = .bool a) (ho : o.op = .pick c x y) (k : WLr ro P n ops Q rest (updO E o.dst (ev E (pickOf a x y))) w) (hs : o.guard = none := by rfl) (hd : dstOk n o.dst = true := by rfl) : WLr ro P n ops Q (o :: rest) E w := WL.v (Sure.none hs) hd (pick_v ho hc) k
theorem WL.ky {Q : K} {o : Oper} {c x y : Operand} {a : Bool} {j g : Nat} {b : Bool} (hE : E g = .bool b) (hc : ev E c = .bool a) (ho : o.op = .pick c x y) (k : WLr ro P n ops Q rest (updO E o.dst (ev E (pickOf a x y))) w) (hs : o.guard = some (j, b) := by rfl) (hj : (ops[j]?).bind (·.dst) = some g := by rfl) (hd : dstOk n o.dst = true := by rfl) : WLr ro P n ops Q (o :: rest) E w := WL.v (Sure.yes hs hj hE) hd (pick_v ho hc) k
theorem WQ.k {Q : Env → World → Prop} {o : Oper} {c x y : Operand} {a : Bool} (hc : ev E c = .bool a) (ho : o.op = .pick c x y) (k : WQ P n ops w Q rest (updO E o.dst (ev E (pickOf a x y)))) (hs : o.guard = none := by rfl) (hd : dstOk n o.dst = true := by rfl) : WQ P n ops w Q (o :: rest) E := WQ.v (Sure.none hs) hd (fun _ _ => pick_v ho hc) k
theorem WQ.ky {Q : Env → World → Prop} {o : Oper} {c x y : Operand} {a : Bool} {j g : Nat} {b : Bool} (hE : E g = .bool b) (hc : ev E c = .bool a) (ho : o.op = .pick c x y) (k : WQ P n ops w Q rest (updO E o.dst (ev E (pickOf a x y)))) (hs : o.guard = some (j, b) := by rfl) (hj : (ops[j]?).bind (·.dst) = some g := by rfl) (hd : dstOk n o.dst = true := by rfl) : WQ P n ops w Q (o :: rest) E := WQ.v (Sure.yes hs hj hE) hd (fun _ _ => pick_v ho hc) k
/-- a field of a box, read -/
theorem WL.f {Q : K} {o1 o2 : Oper} {t i ft off sz b k d1 : Nat} {x : Operand} (v : Value) (hfl : FieldOf P t i ft off sz) (hx : ev E x = .pointer (some ⟨b, k, none⟩)) (hp : Plain P ft) (hc : w.cell? ⟨b, k + off, none⟩ = some v)
    (kk : WLr ro P n ops Q rest (updO (updO E (some d1) (.pointer (some ⟨b, k + off, none⟩))) o2.dst v) w) (h1 : o1.op = .fieldAddr t x i := by rfl) (hd : o1.dst = some d1 := by rfl) (h2 : o2.op = .load ft (.tmp d1) := by rfl) (g1 : o1.guard = none := by rfl) (g2 : o2.guard = none := by rfl) (e1 : dstOk n o1.dst = true := by rfl) (e2 : dstOk n o2.dst = true := by rfl) :
    WLr ro P n ops Q (o1 :: o2 :: rest) E w := by
  refine WL.v (Sure.none g1) e1 (V.fieldAddr h1 hfl hx) ?_
  rw [hd]
  exact WL.v (Sure.none g2) e2 (V.load h2 hp (upd_same _ _ _) hc) kk
theorem WL.fy {Q : K} {o1 o2 : Oper} {t i ft off sz b k d1 j g : Nat} {c : Bool} {x : Operand} (v : Value) (hE : E g = .bool c) (hfl : FieldOf P t i ft off sz) (hx : ev E x = .pointer (some ⟨b, k, none⟩)) (hp : Plain P ft) (hc : w.cell? ⟨b, k + off, none⟩ = some v)
    (kk : WLr ro P n ops Q rest (updO (updO E (some d1) (.pointer (some ⟨b, k + off, none⟩))) o2.dst v) w) (h1 : o1.op = .fieldAddr t x i := by rfl) (hd : o1.dst = some d1 := by rfl) (h2 : o2.op = .load ft (.tmp d1) := by rfl) (g1 : o1.guard = some (j, c) := by rfl) (g2 : o2.guard = some (j, c) := by rfl) (hj : (ops[j]?).bind (·.dst) = some g := by rfl) (hne : Nat.beq d1 g = false := by rfl) (e1 : dstOk n o1.dst = true := by rfl) (e2 : dstOk n o2.dst = true := by rfl) :
    WLr ro P n ops Q (o1 :: o2 :: rest) E w := by
  refine WL.v (Sure.yes g1 hj hE) e1 (V.fieldAddr h1 hfl hx) ?_
  rw [hd]
  have hg : g ≠ d1 := by intro e; subst e; rw [Nat.beq_refl] at hne; cases hne
  exact WL.v (Sure.yes g2 hj ((upd_ne _ _ _ _ hg).trans hE)) e2 (V.load h2 hp (upd_same _ _ _) hc) kk
theorem WQ.f {Q : Env → World → Prop} {o1 o2 : Oper} {t i ft off sz b k d1 : Nat} {x : Operand} (v : Value) (hfl : FieldOf P t i ft off sz) (hx : ev E x = .pointer (some ⟨b, k, none⟩)) (hp : Plain P ft) (hc : ∀ w', Ext [] w w' → w'.cell? ⟨b, k + off, none⟩ = some v)
    (kk : WQ P n ops w Q rest (updO (updO E (some d1) (.pointer (some ⟨b, k + off, none⟩))) o2.dst v)) (h1 : o1.op = .fieldAddr t x i := by rfl) (hd : o1.dst = some d1 := by rfl) (h2 : o2.op = .load ft (.tmp d1) := by rfl) (g1 : o1.guard = none := by rfl) (g2 : o2.guard = none := by rfl) (e1 : dstOk n o1.dst = true := by rfl) (e2 : dstOk n o2.dst = true := by rfl) :
    WQ P n ops w Q (o1 :: o2 :: rest) E := by
  refine WQ.v (Sure.none g1) e1 (fun _ _ => V.fieldAddr h1 hfl hx) ?_
  rw [hd]
  exact WQ.v (Sure.none g2) e2 (fun w' hw => V.load h2 hp (upd_same _ _ _) (hc w' hw)) kk
theorem WQ.fy {Q : Env → World → Prop} {o1 o2 : Oper} {t i ft off sz b k d1 j g : Nat} {c : Bool} {x : Operand} (v : Value) (hE : E g = .bool c) (hfl : FieldOf P t i ft off sz) (hx : ev E x = .pointer (some ⟨b, k, none⟩)) (hp : Plain P ft) (hc : ∀ w', Ext [] w w' → w'.cell? ⟨b, k + off, none⟩ = some v)
    (kk : WQ P n ops w Q rest (updO (updO E (some d1) (.pointer (some ⟨b, k + off, none⟩))) o2.dst v)) (h1 : o1.op = .fieldAddr t x i := by rfl) (hd : o1.dst = some d1 := by rfl) (h2 : o2.op = .load ft (.tmp d1) := by rfl) (g1 : o1.guard = some (j, c) := by rfl) (g2 : o2.guard = some (j, c) := by rfl) (hj : (ops[j]?).bind (·.dst) = some g := by rfl) (hne : Nat.beq d1 g = false := by rfl) (e1 : dstOk n o1.dst = true := by rfl) (e2 : dstOk n o2.dst = true := by rfl) :
    WQ P n ops w Q (o1 :: o2 :: rest) E := by
  refine WQ.v (Sure.yes g1 hj hE) e1 (fun _ _ => V.fieldAddr h1 hfl hx) ?_
  rw [hd]
  have hg : g ≠ d1 := by intro e; subst e; rw [Nat.beq_refl] at hne; cases hne
  exact WQ.v (Sure.yes g2 hj ((upd_ne _ _ _ _ hg).trans hE)) e2 (fun w' hw => V.load h2 hp (upd_same _ _ _) (hc w' hw)) kk
theorem WL.skipRun_ok {Q : K} : ∀ (rest : List Oper) (S S' : List (Nat × Option Bool)) (E : Env), KnownAt S E → skipRun n ops rest S = some S' → (∀ E', KnownAt S' E' → (∀ t, notDst rest t = true → E' t = E t) → Q.norm E' w) → WLr ro P n ops Q rest E w
  | [], S, S', E, hK, h, k => by
    simp only [skipRun, Option.some.injEq] at h
    subst h
    exact WL.nil (k E hK fun _ _ => rfl)
  | o :: r, S, S', E, hK, h, k => by
    simp only [skipRun] at h
    cases hd : dstOk n o.dst with
    | false => rw [hd] at h; cases h
    | true =>
      rw [hd] at h
      simp only [cond_true] at h
      split at h
      · rename_i hg
        exact WL.s (guardB_shut hK hg) hd (WL.skipRun_ok r _ S' _ (hK.put o.dst none) h fun E' hK' hE' => k E' hK' fun t ht => (hE' t (notDst_ne ht E undef).2).trans (notDst_ne ht E undef).1)
      · rename_i hg
        split at h
        · rename_i b hb
          exact WL.v (guardB_sure hK hg) hd (execB_ok hK hb w) (WL.skipRun_ok r _ S' _ (hK.put o.dst (some b)) h fun E' hK' hE' => k E' hK' fun t ht => (hE' t (notDst_ne ht E (.bool b)).2).trans (notDst_ne ht E (.bool b)).1)
        · cases h
      · cases h
theorem WL.skips {Q : K} (S T : List (Nat × Option Bool)) (hK : KnownAt S E) (h : skipOK n ops rest S T = true) (k : ∀ E', KnownAt T E' → (∀ t, notDst rest t = true → E' t = E t) → Q.norm E' w) : WLr ro P n ops Q rest E w := by
  unfold skipOK at h
  split at h
  · rename_i S' hS
    exact WL.skipRun_ok rest S S' E hK hS fun E' hK' hE' => k E' (hK'.of_all h) hE'
  · cases h
theorem WQ.skipRun_ok {Q : Env → World → Prop} : ∀ (rest : List Oper) (S S' : List (Nat × Option Bool)) (E : Env), KnownAt S E → skipRun n ops rest S = some S' → (∀ E', KnownAt S' E' → (∀ t, notDst rest t = true → E' t = E t) → ∀ w', Ext [] w w' → Q E' w') → WQ P n ops w Q rest E
  | [], S, S', E, hK, h, k => by
    simp only [skipRun, Option.some.injEq] at h
    subst h
    exact WQ.nil (k E hK fun _ _ => rfl)
  | o :: r, S, S', E, hK, h, k => by
    simp only [skipRun] at h
    cases hd : dstOk n o.dst with
    | false => rw [hd] at h; cases h
    | true =>
      rw [hd] at h
      simp only [cond_true] at h
      split at h
      · rename_i hg
        exact WQ.s (guardB_shut hK hg) hd (WQ.skipRun_ok r _ S' _ (hK.put o.dst none) h fun E' hK' hE' => k E' hK' fun t ht => (hE' t (notDst_ne ht E undef).2).trans (notDst_ne ht E undef).1)
      · rename_i hg
        split at h
        · rename_i b hb
          exact WQ.v (guardB_sure hK hg) hd (fun w' _ => execB_ok hK hb w') (WQ.skipRun_ok r _ S' _ (hK.put o.dst (some b)) h fun E' hK' hE' => k E' hK' fun t ht => (hE' t (notDst_ne ht E (.bool b)).2).trans (notDst_ne ht E (.bool b)).1)
        · cases h
      · cases h
theorem WQ.skips {Q : Env → World → Prop} (S T : List (Nat × Option Bool)) (hK : KnownAt S E) (h : skipOK n ops rest S T = true) (k : ∀ E', KnownAt T E' → (∀ t, notDst rest t = true → E' t = E t) → ∀ w', Ext [] w w' → Q E' w') : WQ P n ops w Q rest E := by
  unfold skipOK at h
  split at h
  · rename_i S' hS
    exact WQ.skipRun_ok rest S S' E hK hS fun E' hK' hE' => k E' (hK'.of_all h) hE'
  · cases h
end
end Go.Proofs.YtbbjonjhaoeidaaDoor.W
