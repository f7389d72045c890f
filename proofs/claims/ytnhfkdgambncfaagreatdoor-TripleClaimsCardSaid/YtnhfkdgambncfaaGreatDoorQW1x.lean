/- Frames as functions from slots to values; the weakest precondition over them; one rule a form of code. Program-agnostic. -/
import Derived.WalkKit
import Derived.Deep.Quiet
import Derived.Deep.LoopGhost
import Derived.Sort.LoopGhostIn
import Derived.TacticsIn
import Derived.RangeFuncFrom
set_option linter.unusedVariables false
set_option linter.unusedSimpArgs false
set_option linter.unusedSectionVars false
namespace Go.Proofs.YtnhfkdgambncfaaGreatDoor.W
open Go.RowKit

abbrev Env := Nat → Value
def envOf (a : Act) : Env := fun t => a.tmps.getD t undef
def ev (E : Env) : Operand → Value
  | .tmp t => E t
  | .const v => v
  | .global g => .pointer (some ⟨g, 0, none⟩)
  | .func f => .func (.func f) #[] #[]
theorem eval_envOf (a : Act) : a.eval = ev (envOf a) := by funext x; cases x <;> rfl

def upd (E : Env) (d : Nat) (v : Value) : Env := fun t => bif Nat.beq t d then v else E t
def updO (E : Env) (d : Option Nat) (v : Value) : Env := match d with | some d => upd E d v | none => E
theorem upd_same (E : Env) (d : Nat) (v : Value) : upd E d v d = v := by simp [upd, Nat.beq_refl]
theorem upd_ne (E : Env) (d t : Nat) (v : Value) (h : t ≠ d) : upd E d v t = E t := by
  have : Nat.beq t d = false := by
    cases hb : Nat.beq t d with
    | false => rfl
    | true => exact absurd (Nat.eq_of_beq_eq_true hb) h
  simp [upd, this]

/-- a frame's size, and what the activation has deferred -/
structure Fsz where
  n : Nat
  D : List Deferred
instance (k : Nat) : OfNat Fsz k := ⟨⟨k, []⟩⟩
def Ok (n : Fsz) (a : Act) : Prop := a.tmps.size = n.n ∧ a.defers = n.D
def dstOk (n : Fsz) : Option Nat → Bool
  | none => true
  | some d => Nat.blt d n.n

theorem Ok.put {n : Fsz} {a : Act} (h : Ok n a) (d : Option Nat) (v : Value) : Ok n (a.put d v) := by
  cases d with
  | none => exact h
  | some d => exact ⟨by simpa [Act.put] using h.1, h.2⟩

theorem envOf_put {n : Fsz} {a : Act} (h : Ok n a) (d : Option Nat) (hd : dstOk n d = true) (v : Value) :
    envOf (a.put d v) = updO (envOf a) d v := by
  cases d with
  | none => rfl
  | some d =>
    have hd' : d < n.n := Nat.le_of_ble_eq_true (by simpa [dstOk, Nat.blt] using hd)
    funext t
    by_cases ht : t = d
    · subst ht
      rw [updO, upd_same]
      simp [envOf, Act.put, h.1, hd', Array.getD_eq_getD_getElem?]
    · rw [updO, upd_ne _ _ _ _ ht]
      simp only [envOf, Act.put, Array.getD_eq_getD_getElem?, Array.getElem?_setIfInBounds]
      rw [if_neg (fun e => ht e.symm)]

/-- What stands behind a piece of code: at its end, at an exit, at a return. -/
structure K where
  norm : Env → World → Prop
  ex : Nat → Env → World → Prop
  ret : Env → World → Prop
def K.post (k : K) : Exit → Env → World → Prop
  | .normal, E, w => k.norm E w
  | .exit i, E, w => k.ex i E w
  | .ret, E, w => k.ret E w
  | _, _, _ => False
def lift (n : Fsz) (Q : K) : Exit → Act → World → Prop := fun e a w => Ok n a ∧ Q.post e (envOf a) w

/-- no fence at all; perhaps within a round of a range over a function -/
def Fr (ro : Option Nat) : Fence := { Fence.wide with round := ro }
theorem Fr_none : Fr none = Fence.wide := rfl
def WPr (ro : Option Nat) (P : Program) (n : Fsz) (c : Code) (Q : K) (E : Env) (w : World) : Prop :=
  ∀ a, Ok n a → envOf a = E → c.wpIn (Fr ro) 1 P (lift n Q) a w
abbrev WP := WPr none

section
variable {P : Program} {n : Fsz} {ro : Option Nat} {Q : K} {E : Env} {w : World} {N R : Env → World → Prop} {X : Nat → Env → World → Prop}

theorem WP.mono {c : Code} {Q' : K} (h : WPr ro P n c Q E w) (h1 : ∀ E w, Q.norm E w → Q'.norm E w) (h2 : ∀ i E w, Q.ex i E w → Q'.ex i E w) (h3 : ∀ E w, Q.ret E w → Q'.ret E w) : WPr ro P n c Q' E w :=
  fun a ha he => wpIn_mono (h a ha he) fun e _ _ ⟨g1, g2⟩ => ⟨g1, by cases e <;> first | exact h1 _ _ g2 | exact h2 _ _ _ g2 | exact h3 _ _ g2 | exact g2⟩

theorem WP.seq {x y : Code} (h : WPr ro P n x ⟨WPr ro P n y ⟨N, X, R⟩, X, R⟩ E w) : WPr ro P n (.seq x y) ⟨N, X, R⟩ E w := by
  intro a ha he
  refine wpIn_seq (wpIn_mono (h a ha he) ?_)
  intro e a' w' ⟨h1, h2⟩
  cases e <;> first | exact h2 a' h1 rfl | exact ⟨h1, h2⟩

theorem WP.cond {c : Operand} {x y : Code} {t : Bool} (hc : ev E c = .bool t) (ht : t = true → WPr ro P n x Q E w) (hf : t = false → WPr ro P n y Q E w) :
    WPr ro P n (.cond c x y) Q E w := by
  intro a ha he
  have hc' : a.eval c = .bool t := by rw [eval_envOf, he]; exact hc
  exact wpIn_cond_split hc' (fun h => ht h a ha he) (fun h => hf h a ha he)

theorem WP.cond_true {c : Operand} {x y : Code} (hc : ev E c = .bool true) (ht : WPr ro P n x Q E w) : WPr ro P n (.cond c x y) Q E w :=
  WP.cond hc (fun _ => ht) (fun h => by cases h)
theorem WP.cond_false {c : Operand} {x y : Code} (hc : ev E c = .bool false) (ht : WPr ro P n y Q E w) : WPr ro P n (.cond c x y) Q E w :=
  WP.cond hc (fun h => by cases h) (fun _ => ht)

theorem WP.skip (h : N E w) : WPr ro P n .skip ⟨N, X, R⟩ E w := fun _ ha he => wpIn_skip ⟨ha, he ▸ h⟩
theorem WP.label {l : Nat} (h : N E w) : WPr ro P n (.label l) ⟨N, X, R⟩ E w := fun _ ha he => wpIn_label ⟨ha, he ▸ h⟩
theorem WP.ret (h : R E w) : WPr ro P n .ret ⟨N, X, R⟩ E w := fun _ ha he => wpIn_ret ⟨ha, he ▸ h⟩
theorem WP.exit {id : Nat} (h : X id E w) : WPr ro P n (.exit id) ⟨N, X, R⟩ E w := fun _ ha he => wpIn_exit ⟨ha, he ▸ h⟩

theorem WP.block {id : Nat} {c : Code} (h : WPr ro P n c ⟨N, fun i => bif Nat.beq i id then N else X i, R⟩ E w) : WPr ro P n (.block id c) ⟨N, X, R⟩ E w := by
  intro a ha he
  refine wpIn_block (wpIn_mono (h a ha he) ?_)
  intro e a' w' ⟨h1, h2⟩
  cases e with
  | exit i =>
    simp only [K.post] at h2
    simp only [Exit.inBlock]
    split
    · rename_i hi; subst hi; rw [Nat.beq_refl] at h2; exact ⟨h1, h2⟩
    · rename_i hi
      have : Nat.beq i id = false := by
        cases hb : Nat.beq i id with
        | false => rfl
        | true => exact absurd (Nat.eq_of_beq_eq_true hb) hi
      rw [this] at h2; exact ⟨h1, h2⟩
  | _ => exact ⟨h1, h2⟩

/-- A loop: a relation over a ghost state, and a measure of the ghost state that every round lowers. -/
theorem WP.loop {σ : Type} {c : Code} (I : σ → Env → World → Prop) (μ : σ → Nat) (s₀ : σ) (h₀ : I s₀ E w)
    (round : ∀ s E w, I s E w → WPr ro P n c ⟨fun E' w' => ∃ s', I s' E' w' ∧ μ s' < μ s, X, R⟩ E w) : WPr ro P n (.loop c) ⟨N, X, R⟩ E w := by
  intro a ha he
  refine wpIn_loop_ghost (fun k a w => Ok n a ∧ ∃ s, μ s = k ∧ I s (envOf a) w) (μ s₀) ⟨ha, s₀, rfl, he ▸ h₀⟩ ?_
  rintro k a w ⟨hok, s, rfl, hI⟩
  refine wpIn_mono (round s _ w hI a hok rfl) ?_
  intro e a' w' ⟨h1, h2⟩
  cases e with
  | normal => obtain ⟨s', hI', hlt⟩ := h2; exact ⟨μ s', hlt, h1, s', rfl, hI'⟩
  | _ => exact ⟨h1, h2⟩

/-- Whatever the frame and the world are, of which this holds. -/
theorem WP.cut {c : Code} (J : Env → World → Prop) (h : J E w) (hc : ∀ E w, J E w → WPr ro P n c Q E w) : WPr ro P n c Q E w := hc _ _ h
end

/-- The frame at a function's entry. -/
def argEnv (args : Array Value) : Env := fun t => args.getD t undef

/-- A call, over frames: it returns, and this holds of what it hands back. -/
def Fnc (P : Program) (f : FuncId) (args : Array Value) (w : World) (R : Value → World → Prop) : Prop :=
  Calls P f args w fun e w' => ∃ v, e = .returned v ∧ R v w'

theorem Fnc.mono {P : Program} {f : FuncId} {args : Array Value} {w : World} {R R' : Value → World → Prop} (h : Fnc P f args w R) (hr : ∀ v w', R v w' → R' v w') : Fnc P f args w R' :=
  Calls.mono h fun _ _ ⟨v, he, hR⟩ => ⟨v, he, hr _ _ hR⟩

/-- The value that a function hands back, out of its frame. -/
def resOf (fn : Func) (P : Program) (E : Env) (w : World) (R : Value → World → Prop) : Prop :=
  ∀ tmps : Array Value, tmps.size = fn.ntmps → (fun t => tmps.getD t undef) = E → ∃ v, (results fn tmps).run P w = .ok v w ∧ R v w

theorem Fnc.of_WP {P : Program} {f : FuncId} {fn : Func} {c : Code} {args : Array Value} {w : World} {R : Value → World → Prop} {n : Nat}
    (hf : P.funcs[f]? = some fn) (hb : fn.body = some c) (hn : fn.ntmps = n) (hs : args.size ≤ n)
    (h : ∀ E : Env, (∀ t, t < args.size → E t = args.getD t undef) → WP P ⟨n, []⟩ c ⟨fun E w => resOf fn P E w R, fun _ _ _ => False, fun E w => resOf fn P E w R⟩ E w) : Fnc P f args w R := by
  subst hn
  refine calls_of_wp hf hb ?_
  let a : Act := { tmps := args ++ Array.replicate (fn.ntmps - args.size) undef, defers := [] }
  have hok : Ok ⟨fn.ntmps, []⟩ a := ⟨by simp [a]; omega, rfl⟩
  have hE : ∀ t, t < args.size → envOf a t = args.getD t undef := by
    intro t ht
    simp [envOf, a, Array.getD_eq_getD_getElem?, Array.getElem?_append, ht]
  refine Go.wp_mono (wpIn_wide.1 (h _ hE a hok rfl)) ?_
  intro e a' w' ⟨h1, h2⟩
  cases e with
  | normal => obtain ⟨v, hr, hR⟩ := h2 a'.tmps h1.1 rfl; exact ⟨h1.2, v, hr, v, rfl, hR⟩
  | ret => obtain ⟨v, hr, hR⟩ := h2 a'.tmps h1.1 rfl; exact ⟨h1.2, v, hr, v, rfl, hR⟩
  | exit i => exact h2.elim
  | goto l => exact h2.elim
  | panic ch => exact h2.elim
  | outgrown => exact h2.elim

theorem resOf.one {fn : Func} {P : Program} {E : Env} {w : World} {R : Value → World → Prop} {t : Nat} {v : Value}
    (hr : fn.results = #[.tmp t]) (hv : E t = v) (hR : R v w) : resOf fn P E w R := by
  intro tmps _ he
  subst he
  refine ⟨v, ?_, hR⟩
  simp only [Array.getD_eq_getD_getElem?] at hv
  simp [results, hr, go_sem, hv]
theorem resOf.two {fn : Func} {P : Program} {E : Env} {w : World} {R : Value → World → Prop} {t u : Nat} {v v' : Value}
    (hr : fn.results = #[.tmp t, .tmp u]) (hv : E t = v) (hv' : E u = v') (hR : R (.tuple #[v, v']) w) : resOf fn P E w R := by
  intro tmps _ he
  subst he
  refine ⟨_, ?_, hR⟩
  simp only [Array.getD_eq_getD_getElem?] at hv hv'
  simp [results, hr, go_sem, hv, hv']
theorem resOf.three {fn : Func} {P : Program} {E : Env} {w : World} {R : Value → World → Prop} {t u x : Nat} {v v' v'' : Value}
    (hr : fn.results = #[.tmp t, .tmp u, .tmp x]) (hv : E t = v) (hv' : E u = v') (hv'' : E x = v'') (hR : R (.tuple #[v, v', v'']) w) : resOf fn P E w R := by
  intro tmps _ he
  subst he
  refine ⟨_, ?_, hR⟩
  simp only [Array.getD_eq_getD_getElem?] at hv hv' hv''
  simp [results, hr, go_sem, hv, hv', hv'']
theorem resOf.none {fn : Func} {P : Program} {E : Env} {w : World} {R : Value → World → Prop}
    (hr : fn.results = #[]) (hR : R (.tuple #[]) w) : resOf fn P E w R := by
  intro tmps _ he
  subst he
  refine ⟨_, ?_, hR⟩
  simp [results, hr, go_sem]
end Go.Proofs.YtnhfkdgambncfaaGreatDoor.W
namespace Go.Proofs.YtnhfkdgambncfaaGreatDoor.W
open Go.RowKit

/-- Of w's blocks none but those of X has turned; the streams are as they were. -/
structure Ext (X : List Nat) (w w' : World) : Prop where
  os : w'.os = w.os
  tape : w'.tape = w.tape
  output : w'.output = w.output
  size : w.heap.size ≤ w'.heap.size
  block : ∀ k, k < w.heap.size → k ∉ X → w'.heap[k]? = w.heap[k]?

theorem Ext.refl (X : List Nat) (w : World) : Ext X w w := ⟨rfl, rfl, rfl, Nat.le_refl _, fun _ _ _ => rfl⟩
theorem Ext.trans {X : List Nat} {a b c : World} (h : Ext X a b) (k : Ext X b c) : Ext X a c :=
  ⟨k.os.trans h.os, k.tape.trans h.tape, k.output.trans h.output, Nat.le_trans h.size k.size,
    fun i hi hx => (k.block i (Nat.lt_of_lt_of_le hi h.size) hx).trans (h.block i hi hx)⟩
theorem Ext.mono {X Y : List Nat} {a b : World} (h : Ext X a b) (hs : ∀ k, k ∈ X → k ∈ Y) : Ext Y a b :=
  ⟨h.os, h.tape, h.output, h.size, fun k hk hx => h.block k hk fun hy => hx (hs k hy)⟩
theorem Ext.any {Y : List Nat} {a b : World} (h : Ext [] a b) : Ext Y a b := h.mono (by simp)
theorem Ext.below {w w' : World} (h : Ext [] w w') : Below w.heap.size w w' := ⟨h.os, h.tape, h.output, h.size, fun k hk => h.block k hk (by simp)⟩
theorem Ext.of_below {w w' : World} (h : Below w.heap.size w w') : Ext [] w w' := ⟨h.os, h.tape, h.output, h.size, fun k hk _ => h.block k hk⟩
/-- What was new in the callee's eyes need not be kept. -/
theorem Ext.new {X : List Nat} {a b c : World} (h : Ext [] a b) (k : Ext X b c) (hX : ∀ x ∈ X, a.heap.size ≤ x) : Ext [] a c :=
  ⟨k.os.trans h.os, k.tape.trans h.tape, k.output.trans h.output, Nat.le_trans h.size k.size,
    fun i hi _ => (k.block i (Nat.lt_of_lt_of_le hi h.size) (fun hx => by have := hX i hx; omega)).trans (h.block i hi (by simp))⟩
theorem Ext.drew {X : List Nat} (w : World) (n : Nat) : Ext X w { w with drawn := n } := ⟨rfl, rfl, rfl, Nat.le_refl _, fun _ _ _ => rfl⟩
theorem Ext.push {X : List Nat} (w : World) (o : Obj) : Ext X w { w with heap := w.heap.push o } :=
  ⟨rfl, rfl, rfl, by simp, fun k hk _ => by show (w.heap.push o)[k]? = _; rw [Array.getElem?_push, if_neg (by omega)]⟩
theorem Ext.setCell {X : List Nat} (w : World) (a : Addr) (v : Value) (h : a.block ∈ X) : Ext X w (w.setCell a v) :=
  ⟨rfl, rfl, rfl, by simp [World.setCell], fun k _ hx => by
    simp only [World.setCell, Array.getElem?_modify]
    rw [if_neg (fun e : a.block = k => hx (e ▸ h))]⟩

/-- Block b is this object. -/
def Blk (w : World) (b : Nat) (o : Obj) : Prop := w.heap[b]? = some o
theorem Blk.lt {w : World} {b : Nat} {o : Obj} (h : Blk w b o) : b < w.heap.size := by
  unfold Blk at h
  by_cases hb : b < w.heap.size
  · exact hb
  · rw [Array.getElem?_eq_none (by omega)] at h; cases h
theorem Blk.ext {X : List Nat} {w w' : World} {b : Nat} {o : Obj} (h : Blk w b o) (k : Ext X w w') (hx : b ∉ X) : Blk w' b o :=
  (k.block b h.lt hx).trans h
theorem Blk.new (w : World) (o : Obj) : Blk { w with heap := w.heap.push o } w.heap.size o := by simp [Blk]
/-- Block b is these cells, of type t, none of them frozen. -/
def Box (w : World) (b : Nat) (t : TypeId) (cs : List Value) : Prop := Blk w b (.cells cs.toArray t (0, 0))
theorem Box.ext {X : List Nat} {w w' : World} {b : Nat} {t : TypeId} {cs : List Value} (h : Box w b t cs) (k : Ext X w w') (hx : b ∉ X) : Box w' b t cs := Blk.ext h k hx
theorem Box.lt {w : World} {b : Nat} {t : TypeId} {cs : List Value} (h : Box w b t cs) : b < w.heap.size := Blk.lt h
theorem Box.cell {w : World} {b : Nat} {t : TypeId} {cs : List Value} (h : Box w b t cs) {i : Nat} {v : Value} (hi : cs[i]? = some v) : w.cell? ⟨b, i, none⟩ = some v := by
  have h' : w.heap[b]? = some (.cells cs.toArray t (0, 0)) := h
  simp [World.cell?, h', hi]
theorem Box.free {w : World} {b : Nat} {t : TypeId} {cs : List Value} (h : Box w b t cs) (i : Nat) : w.frozen? ⟨b, i, none⟩ = false := by
  have h' : w.heap[b]? = some (.cells cs.toArray t (0, 0)) := h
  simp [World.frozen?, h']
theorem Box.set {w : World} {b : Nat} {t : TypeId} {cs : List Value} (h : Box w b t cs) (i : Nat) (v : Value) : Box (w.setCell ⟨b, i, none⟩ v) b t (cs.set i v) := by
  have h' : w.heap[b]? = some (.cells cs.toArray t (0, 0)) := h
  simp [Box, Blk, World.setCell, Array.getElem?_modify, h']
theorem Box.other {w : World} {b b' : Nat} {t : TypeId} {cs : List Value} (h : Box w b t cs) (i : Nat) (v : Value) (hb : b ≠ b') : Box (w.setCell ⟨b', i, none⟩ v) b t cs :=
  h.ext (Ext.setCell (X := [b']) w ⟨b', i, none⟩ v (by simp)) (by simpa using hb)

/-- The operation, carried out in w, yields v and leaves w'. -/
def OpX (P : Program) (o : Oper) (E : Env) (w : World) (v : Value) (w' : World) : Prop :=
  (execOp (ev E) o).run P w = .ok (.value v) w' ∨ (v = undef ∧ (execOp (ev E) o).run P w = .ok .skip w')
/-- The operation only reads. -/
def OpV (P : Program) (o : Oper) (E : Env) (w : World) (v : Value) : Prop := (execOp (ev E) o).run P w = .ok (.value v) w
/-- The operation calls. -/
def OpC (P : Program) (o : Oper) (E : Env) (w : World) (f : FuncId) (args : Array Value) : Prop := (execOp (ev E) o).run P w = .ok (.enter f args) w
theorem OpV.x {P : Program} {o : Oper} {E : Env} {w : World} {v : Value} (h : OpV P o E w v) : OpX P o E w v w := .inl h

/-- The operation's guard lets it run. -/
def Sure (ops : Array Oper) (o : Oper) (E : Env) : Prop := ∀ tmps : Array Value, (fun t => tmps.getD t undef) = E → Region.wanted o (yielded ops tmps) = true
def Shut (ops : Array Oper) (o : Oper) (E : Env) : Prop := ∀ tmps : Array Value, (fun t => tmps.getD t undef) = E → Region.wanted o (yielded ops tmps) = false
theorem Sure.none {ops : Array Oper} {o : Oper} {E : Env} (h : o.guard = none) : Sure ops o E := fun _ _ => by simp [Region.wanted, h]
theorem yielded_of {ops : Array Oper} {j g : Nat} {E : Env} {b : Bool} (hj : (ops[j]?).bind (·.dst) = some g) (hE : E g = .bool b) (tmps : Array Value) (he : (fun t => tmps.getD t undef) = E) :
    yielded ops tmps j = some b := by
  subst he
  simp only [Array.getD_eq_getD_getElem?] at hE
  simp only [yielded, hj, Option.bind_some]
  cases h : tmps[g]? with
  | none => rw [h] at hE; simp [undef] at hE
  | some v => rw [h] at hE; simp at hE; rw [hE]
theorem Sure.yes {ops : Array Oper} {o : Oper} {E : Env} {j g : Nat} {b : Bool} (h : o.guard = some (j, b)) (hj : (ops[j]?).bind (·.dst) = some g) (hE : E g = .bool b) : Sure ops o E := fun tmps he => by
  simp [Region.wanted, h, yielded_of hj hE tmps he]
theorem Shut.no {ops : Array Oper} {o : Oper} {E : Env} {j g : Nat} {b c : Bool} (h : o.guard = some (j, b)) (hj : (ops[j]?).bind (·.dst) = some g) (hE : E g = .bool c) (hbc : (c == b) = false) : Shut ops o E := fun tmps he => by
  simp only [Region.wanted, h, yielded_of hj hE tmps he]
  cases c <;> cases b <;> simp_all
theorem Shut.undef {ops : Array Oper} {o : Oper} {E : Env} {j g : Nat} {b : Bool} (h : o.guard = some (j, b)) (hj : (ops[j]?).bind (·.dst) = some g) (hE : E g = undef) : Shut ops o E := fun tmps he => by
  subst he
  simp only [Array.getD_eq_getD_getElem?] at hE
  simp only [Region.wanted, h, yielded, hj, Option.bind_some]
  cases hv : tmps[g]? with
  | none => rfl
  | some v => rw [hv] at hE; simp at hE; rw [hE]; rfl

/-! ### The text's order -/
def WLr (ro : Option Nat) (P : Program) (n : Fsz) (ops : Array Oper) (Q : K) (l : List Oper) (E : Env) (w : World) : Prop :=
  ∀ a, Ok n a → envOf a = E → wpListIn (Fr ro) 1 P ops (lift n Q) l a w
abbrev WL := WLr none

theorem not_defer {P : Program} {o : Oper} {ρ : Operand → Value} {w w' : World} {x : Next} (h : (execOp ρ o).run P w = .ok x w') (hx : ∀ d, x ≠ .defer d) : ∀ c, o.op ≠ .defer c := by
  intro c hc
  simp only [execOp, hc, Sem.run_bind] at h
  cases hr : (resolve ρ c o.type).run P w with
  | ok d w2 => rw [hr] at h; simp only [Result.andThen_ok, Sem.run_pure, Result.ok.injEq] at h; exact hx d h.1.symm
  | halt x w2 => rw [hr] at h; simp at h
theorem semAt_of {P : Program} {ro : Option Nat} {o : Oper} {ρ : Operand → Value} {w w' : World} {x : Next} (h : (execOp ρ o).run P w = .ok x w') (hx : ∀ d, x ≠ .defer d) : (o.semAt ro ρ).run P w = .ok x w' := by
  rw [Oper.semAt_eq ro ρ o (not_defer h hx)]; exact h

section
variable {P : Program} {n : Fsz} {ro : Option Nat} {Q : K} {E : Env} {w w' : World} {ops : Array Oper} {o : Oper} {rest : List Oper} {u : Value}

theorem WP.region {id : Nat} {l : List Oper} (h : WLr ro P n l.toArray Q l E w) : WPr ro P n (.region id l.toArray false) Q E w := fun a ha he => wpIn_region_lit (h a ha he)
theorem WL.nil {N R : Env → World → Prop} {X : Nat → Env → World → Prop} (h : N E w) : WLr ro P n ops ⟨N, X, R⟩ [] E w := fun _ ha he => ⟨ha, he ▸ h⟩
theorem WL.x (hs : Sure ops o E) (hd : dstOk n o.dst = true) (h : OpX P o E w u w') (k : WLr ro P n ops Q rest (updO E o.dst u) w') : WLr ro P n ops Q (o :: rest) E w := by
  intro a ha he
  unfold wpListIn
  rw [if_pos (hs a.tmps he)]
  refine ⟨fun _ _ => trivial, ?_⟩
  have hk := k (a.put o.dst u) (ha.put _ _) (by rw [envOf_put ha _ hd, he])
  rw [eval_envOf, he]
  rcases h with h | ⟨rfl, h⟩
  · rw [semAt_of h (by simp)]; exact hk
  · rw [semAt_of h (by simp)]; exact hk
theorem WL.v (hs : Sure ops o E) (hd : dstOk n o.dst = true) (h : OpV P o E w u) (k : WLr ro P n ops Q rest (updO E o.dst u) w) : WLr ro P n ops Q (o :: rest) E w := WL.x hs hd h.x k
theorem WL.c {f : FuncId} {args : Array Value} (hs : Sure ops o E) (hd : dstOk n o.dst = true) (h : OpC P o E w f args) (k : Fnc P f args w fun v w' => WLr ro P n ops Q rest (updO E o.dst v) w') : WLr ro P n ops Q (o :: rest) E w := by
  intro a ha he
  unfold wpListIn
  rw [if_pos (hs a.tmps he)]
  refine ⟨fun _ _ => trivial, ?_⟩
  rw [eval_envOf, he, semAt_of h (by simp)]
  refine ⟨fun _ => Nat.le_refl 1, ?_⟩
  have hc : CallsIn (Fr ro) (1 - 1) P f args w (fun e w' => ∃ v, e = .returned v ∧ WLr ro P n ops Q rest (updO E o.dst v) w') := by
    have := (callsIn_wide (n := 1 - 1)).2 k
    exact this
  refine CallsIn.mono hc ?_
  rintro e w' ⟨v, rfl, hk⟩
  exact hk (a.put o.dst v) (ha.put _ _) (by rw [envOf_put ha _ hd, he])
theorem WL.s (hs : Shut ops o E) (hd : dstOk n o.dst = true) (k : WLr ro P n ops Q rest (updO E o.dst undef) w) : WLr ro P n ops Q (o :: rest) E w := by
  intro a ha he
  unfold wpListIn
  rw [if_neg (by rw [hs a.tmps he]; simp)]
  exact ⟨fun _ _ => trivial, k (a.put o.dst undef) (ha.put _ _) (by rw [envOf_put ha _ hd, he])⟩
theorem WL.cut {l : List Oper} (J : Env → World → Prop) (h : J E w) (k : ∀ E w, J E w → WLr ro P n ops Q l E w) : WLr ro P n ops Q l E w := k _ _ h
end

/-! ### A region that draws its order, in which nothing is written: the text's order serves, in every world that w grows to -/
def WQ (P : Program) (n : Fsz) (ops : Array Oper) (w : World) (Q : Env → World → Prop) (l : List Oper) (E : Env) : Prop :=
  ∀ a, Ok n a → envOf a = E → wpQuiet P ops (fun w' => Ext [] w w') (fun a' => ∀ w', Ext [] w w' → Ok n a' ∧ Q (envOf a') w') l a

section
variable {P : Program} {n : Fsz} {E : Env} {w : World} {ops : Array Oper} {o : Oper} {rest : List Oper} {u : Value}

theorem WP.quiet {N R : Env → World → Prop} {X : Nat → Env → World → Prop} {id : Nat} {l : List Oper} (hm : P.follows .mixedOrders = true) (hB : Region.lexB .any l.toArray = true) (h : WQ P n l.toArray w N l E) : WP P n (.region id l.toArray true) ⟨N, X, R⟩ E w :=
  fun a ha he => wpIn_wide.2 <| wp_region_quiet (C := fun w' => Ext [] w w') hm hB (Ext.drew w _) (by have h' := h a ha he; show wpQuiet P l.toArray _ _ l.toArray.toList a; simp only [List.toList_toArray]; exact h')
variable {Q : Env → World → Prop}
theorem WQ.nil (h : ∀ w', Ext [] w w' → Q E w') : WQ P n ops w Q [] E := fun _ ha he w' hw => ⟨ha, he ▸ h w' hw⟩
theorem WQ.v (hs : Sure ops o E) (hd : dstOk n o.dst = true) (h : ∀ w', Ext [] w w' → OpV P o E w' u) (k : WQ P n ops w Q rest (updO E o.dst u)) : WQ P n ops w Q (o :: rest) E := by
  intro a ha he
  unfold wpQuiet
  rw [if_pos (hs a.tmps he)]
  refine ⟨u, fun w' hw => ?_, k (a.put o.dst u) (ha.put _ _) (by rw [envOf_put ha _ hd, he])⟩
  unfold Oper.quietAt
  rw [eval_envOf, he, h w' hw]
  exact ⟨rfl, rfl⟩
theorem WQ.c {f : FuncId} {args : Array Value} (hs : Sure ops o E) (hd : dstOk n o.dst = true) (h : ∀ w', Ext [] w w' → OpC P o E w' f args)
    (hc : ∀ w', Ext [] w w' → Fnc P f args w' fun v w'' => v = u ∧ Ext [] w' w'') (k : WQ P n ops w Q rest (updO E o.dst u)) : WQ P n ops w Q (o :: rest) E := by
  intro a ha he
  unfold wpQuiet
  rw [if_pos (hs a.tmps he)]
  refine ⟨u, fun w' hw => ?_, k (a.put o.dst u) (ha.put _ _) (by rw [envOf_put ha _ hd, he])⟩
  unfold Oper.quietAt
  rw [eval_envOf, he, h w' hw]
  refine ⟨rfl, Calls.mono (hc w' hw) ?_⟩
  rintro e w'' ⟨v, rfl, rfl, hx⟩
  exact ⟨rfl, hw.trans hx⟩
theorem WQ.s (hs : Shut ops o E) (hd : dstOk n o.dst = true) (k : WQ P n ops w Q rest (updO E o.dst undef)) : WQ P n ops w Q (o :: rest) E := by
  intro a ha he
  unfold wpQuiet
  rw [if_neg (by rw [hs a.tmps he]; simp)]
  exact k (a.put o.dst undef) (ha.put _ _) (by rw [envOf_put ha _ hd, he])
end
end Go.Proofs.YtnhfkdgambncfaaGreatDoor.W
namespace Go.Proofs.YtnhfkdgambncfaaGreatDoor.W
open Go.RowKit
section
variable {P : Program} {o : Oper} {E : Env} {w : World}

theorem V.move {x : Operand} {v : Value} (ho : o.op = .move x) (hx : ev E x = v) : OpV P o E w v := by
  simp [OpV, execOp, ho, hx, go_sem]
theorem V.assign {x : Operand} {v : Value} (ho : o.op = .assign x) (hx : ev E x = v) : OpV P o E w v := by
  simp [OpV, execOp, ho, hx, go_sem]
theorem V.pick {c x y : Operand} {b : Bool} {v : Value} (ho : o.op = .pick c x y) (hc : ev E c = .bool b) (hv : (bif b then ev E x else ev E y) = v) : OpV P o E w v := by
  subst hv
  cases b <;> simp [OpV, execOp, ho, hc, go_sem, asBool]
theorem V.nilCheck {x : Operand} {a : Addr} (ho : o.op = .nilCheck x) (hx : ev E x = .pointer (some a)) : OpV P o E w (.pointer (some a)) := by
  simp [OpV, execOp, ho, hx, go_sem]
theorem V.extract {x : Operand} {i : Nat} {vs : Array Value} {v : Value} (ho : o.op = .extract x i) (hx : ev E x = .tuple vs) (hv : vs[i]? = some v) : OpV P o E w v := by
  simp [OpV, execOp, ho, hx, go_sem, Instr.extract, hv]
theorem V.not {t : TypeId} {x : Operand} {b : Bool} (ho : o.op = .unOp .not t x) (hx : ev E x = .bool b) : OpV P o E w (.bool !b) := by
  simp [OpV, execOp, ho, hx, go_sem, Op.unary]
theorem V.makeFunc {f : Fn} {a c : Array Operand} {a' c' : Array Value} (ho : o.op = .makeFunc f a c) (ha : a.map (ev E) = a') (hc : c.map (ev E) = c') : OpV P o E w (.func f a' c') := by
  subst ha; subst hc
  simp [OpV, execOp, ho, go_sem, Instr.makeFunc]

/-- a comparison of integers -/
def cmpB : BinOp → Int → Int → Option Bool
  | .eql, x, y => some (decide (x = y))
  | .neq, x, y => some (decide (x ≠ y))
  | .lss, x, y => some (decide (x < y))
  | .leq, x, y => some (decide (x ≤ y))
  | .gtr, x, y => some (decide (x > y))
  | .geq, x, y => some (decide (x ≥ y))
  | _, _, _ => none
theorem V.cmp {op : BinOp} {t u : TypeId} {x y : Operand} {k : IntKind} {a b : Int} {r : Bool} (ho : o.op = .binOp op t x y u) (hx : ev E x = .int k a) (hy : ev E y = .int k b)
    (hr : cmpB op a b = some r) : OpV P o E w (.bool r) := by
  cases op <;> simp only [cmpB, Option.some.injEq, reduceCtorEq] at hr <;> subst hr <;> simp [OpV, execOp, ho, hx, hy, go_sem, eqGuard, binOp, Op.intCmp] <;> rfl
def arith : BinOp → Int → Int → Option Int
  | .add, x, y => some (x + y)
  | .sub, x, y => some (x - y)
  | .mul, x, y => some (x * y)
  | _, _, _ => none
theorem V.arith {op : BinOp} {t u : TypeId} {x y : Operand} {k : IntKind} {a b r r' : Int} (ho : o.op = .binOp op t x y u) (hx : ev E x = .int k a) (hy : ev E y = .int k b)
    (hr : arith op a b = some r) (hw : k.wrap r = r') : OpV P o E w (.int k r') := by
  subst hw
  cases op <;> simp [W.arith] at hr <;> subst hr <;> simp [OpV, execOp, ho, hx, hy, go_sem, eqGuard, binOp, Op.intArith]
/-- a comparison of strings -/
def scmpB : BinOp → ByteArray → ByteArray → Option Bool
  | .eql, x, y => some (x.toList == y.toList)
  | .neq, x, y => some (!(x.toList == y.toList))
  | .lss, x, y => some (Op.bytesLess x.toList y.toList)
  | .leq, x, y => some (Op.bytesLess x.toList y.toList || x.toList == y.toList)
  | .gtr, x, y => some (!(Op.bytesLess x.toList y.toList || x.toList == y.toList))
  | .geq, x, y => some (!Op.bytesLess x.toList y.toList)
  | _, _, _ => none
theorem V.scmp {op : BinOp} {t u : TypeId} {x y : Operand} {a b : ByteArray} {r : Bool} (ho : o.op = .binOp op t x y u) (hx : ev E x = .string a) (hy : ev E y = .string b)
    (hr : scmpB op a b = some r) : OpV P o E w (.bool r) := by
  cases op <;> simp only [scmpB, Option.some.injEq, reduceCtorEq] at hr <;> subst hr <;> simp [OpV, execOp, ho, hx, hy, go_sem, eqGuard, binOp, Op.stringOp]
theorem V.sadd {t u : TypeId} {x y : Operand} {a b : ByteArray} (ho : o.op = .binOp .add t x y u) (hx : ev E x = .string a) (hy : ev E y = .string b)
    (hr : a.size + b.size ≤ 9223372036854775807) : OpV P o E w (.string (a ++ b)) := by
  have hr' : (a.size : Int) + (b.size : Int) ≤ 9223372036854775807 := by omega
  simp [OpV, execOp, ho, hx, hy, go_sem, eqGuard, binOp, Op.stringOp, hr']
theorem V.convInt {s d : TypeId} {k' : IntKind} {x : Operand} {k : IntKind} {a r : Int} (ho : o.op = .convert s d x) (hs : P.underlying s = some (.int k)) (hd : P.underlying d = some (.int k')) (hx : ev E x = .int k a)
    (hr : k'.wrap a = r) : OpV P o E w (.int k' r) := by
  subst hr
  simp [OpV, execOp, ho, hx, go_sem, convert, underlying, hs, hd, Conv.intToInt]

/-! ### Types -/
def Plain (P : Program) (t : TypeId) : Prop := ∃ d, P.underlying t = some d ∧ (∀ fs, d ≠ .struct fs) ∧ (∀ n e, d ≠ .array n e)
def Sized (P : Program) (t n : Nat) : Prop := (P.info? t).map (·.size) = some n
def Aggr (P : Program) (t n : Nat) : Prop := (∃ d, P.underlying t = some d ∧ ((∃ fs, d = .struct fs) ∨ (∃ n e, d = .array n e))) ∧ Sized P t n
/-- field i of the struct type t: it has type ft, lies at the cell off, and has sz cells, at least one -/
structure FieldOf (P : Program) (t i ft off sz : Nat) : Prop where
  h : ∃ fs f, P.underlying t = some (.struct fs) ∧ fs[i]? = some f ∧ f.type = ft ∧ f.offset = off
  size : Sized P ft sz
  pos : sz ≠ 0
theorem addr_add (b o n : Nat) : Addr.add ⟨b, o, none⟩ n = ⟨b, o + n, none⟩ := by
  unfold Addr.add
  split
  · simp_all
  · rfl
theorem size_of {n t : Nat} (h : Sized P t n) : (sizeOf t).run P w = .ok n w := by
  unfold Sized at h
  cases hi : P.info? t with
  | none => rw [hi] at h; cases h
  | some i => rw [hi] at h; simp at h; subst h; simp [sizeOf, typeInfo, hi, go_sem]
theorem is_agg_no {t : Nat} (h : Plain P t) : (isAgg t).run P w = .ok false w := by
  obtain ⟨d, h1, h2, h3⟩ := h
  cases d <;> simp [isAgg, underlying, h1, go_sem] <;> first | exact (h2 _ rfl).elim | exact (h3 _ _ rfl).elim
theorem is_agg_yes {t n : Nat} (h : Aggr P t n) : (isAgg t).run P w = .ok true w := by
  obtain ⟨⟨d, h1, h2⟩, _⟩ := h
  rcases h2 with ⟨_, rfl⟩ | ⟨_, _, rfl⟩ <;> simp [isAgg, underlying, h1, go_sem]

theorem V.lenSlice {tys : Array TypeId} {x : Operand} {a : Option Addr} {l c t e : Nat} (ho : o.op = .call ⟨.builtin .len, #[x], tys⟩) (ht : tys[0]? = some t) (hu : P.underlying t = some (.slice e)) (hx : ev E x = .slice a l c) :
    OpV P o E w (.int .i64 l) := by
  simp [OpV, execOp, ho, hx, go_sem, Builtin.len_, ht, hu, underlying]
theorem V.lenString {tys : Array TypeId} {x : Operand} {s : ByteArray} {t : Nat} (ho : o.op = .call ⟨.builtin .len, #[x], tys⟩) (ht : tys[0]? = some t) (hu : P.underlying t = some .string) (hx : ev E x = .string s) : OpV P o E w (.int .i64 s.size) := by
  simp [OpV, execOp, ho, hx, go_sem, Builtin.len_, ht, hu, underlying]
theorem V.fieldAddr {t : TypeId} {x : Operand} {i ft off sz b k : Nat} (ho : o.op = .fieldAddr t x i) (ht : FieldOf P t i ft off sz) (hx : ev E x = .pointer (some ⟨b, k, none⟩)) :
    OpV P o E w (.pointer (some ⟨b, k + off, none⟩)) := by
  obtain ⟨⟨fs, f, h1, h2, rfl, rfl⟩, h3, h4⟩ := ht
  simp [OpV, execOp, ho, hx, go_sem, Instr.fieldAt, underlying, h1, h2, Instr.sureAddr, fieldPlace, size_of h3, h4, addr_add]
theorem V.field {t : TypeId} {x : Operand} {i ft off sz : Nat} {cs : Array Value} {v : Value} (ho : o.op = .field t x i) (ht : FieldOf P t i ft off sz) (hp : Plain P ft) (hx : ev E x = .agg cs) (hv : cs[off]? = some v) :
    OpV P o E w v := by
  obtain ⟨⟨fs, f, h1, h2, rfl, rfl⟩, h3, h4⟩ := ht
  simp [OpV, execOp, ho, hx, go_sem, Instr.field, underlying, h1, h2, asAgg, part, is_agg_no hp, hv]
theorem V.fieldAgg {t : TypeId} {x : Operand} {i ft off sz : Nat} {cs cs' : Array Value} (ho : o.op = .field t x i) (ht : FieldOf P t i ft off sz) (hp : Aggr P ft sz) (hx : ev E x = .agg cs) (hv : cs.extract off (off + sz) = cs') :
    OpV P o E w (.agg cs') := by
  subst hv
  obtain ⟨⟨fs, f, h1, h2, rfl, rfl⟩, h3, h4⟩ := ht
  simp [OpV, execOp, ho, hx, go_sem, Instr.field, underlying, h1, h2, asAgg, part, is_agg_yes hp, size_of h3]
theorem V.indexAddr {t : TypeId} {x i : Operand} {e sz b k l c : Nat} {ik : IntKind} {j : Int} {m : Nat} (ho : o.op = .indexAddr t x i) (ht : P.underlying t = some (.slice e)) (hs : Sized P e sz)
    (hx : ev E x = .slice (some ⟨b, k, none⟩) l c) (hi : ev E i = .int ik j) (hj : j = (m : Int)) (hm : m < l) : OpV P o E w (.pointer (some ⟨b, k + m * sz, none⟩)) := by
  subst hj
  simp [OpV, execOp, ho, hx, hi, go_sem, Instr.indexAt, underlying, ht, asIntOf, size_of hs, addr_add, hm]
theorem V.indexString {t : TypeId} {x i : Operand} {s : ByteArray} {ik : IntKind} {j : Int} {m : Nat} {u : UInt8} (ho : o.op = .index t x i) (ht : P.underlying t = some .string)
    (hx : ev E x = .string s) (hi : ev E i = .int ik j) (hj : j = (m : Int)) (hm : s[m]? = some u) : OpV P o E w (.int .u8 u.toNat) := by
  subst hj
  simp [OpV, execOp, ho, hx, hi, go_sem, Instr.index, underlying, ht, asIntOf, hm]
/-- the cells at the place ⟨b, k⟩ of w -/
def At (w : World) (b k : Nat) (cs : List Value) : Prop := ∀ j v, cs[j]? = some v → w.cell? ⟨b, k + j, none⟩ = some v
theorem load_cell {a : Addr} {v : Value} (h : w.cell? a = some v) : (load a).run P w = .ok v w := by simp [load, Sem.run, h]
theorem load_cells {b k : Nat} (cs : List Value) : ∀ (i : Nat) (acc : Array Value), (∀ j v, cs[j]? = some v → w.cell? ⟨b, k + (i + j), none⟩ = some v) →
    (loadCellsFrom ⟨b, k, none⟩ i cs.length acc).run P w = .ok (acc ++ cs.toArray) w := by
  induction cs with
  | nil => intro i acc _; simp [loadCellsFrom, go_sem]
  | cons v cs ih =>
    intro i acc h
    have h0 := h 0 v (by simp)
    have h1 := ih (i + 1) (acc.push v) (fun j u hj => by have := h (j + 1) u (by simpa using hj); rw [show k + (i + 1 + j) = k + (i + (j + 1)) from by omega]; exact this)
    simp only [Nat.add_zero] at h0
    simp [loadCellsFrom, go_sem, addr_add, load_cell h0, h1]
theorem V.load {t : TypeId} {x : Operand} {a : Addr} {v : Value} (ho : o.op = .load t x) (ht : Plain P t) (hx : ev E x = .pointer (some a)) (hv : w.cell? a = some v) : OpV P o E w v := by
  simp [OpV, execOp, ho, hx, go_sem, Instr.loadAt, Instr.sureAddr, loadVar, is_agg_no ht, hv]
theorem V.loadAgg {t : TypeId} {x : Operand} {b k sz : Nat} {cs : List Value} (ho : o.op = .load t x) (ht : Aggr P t sz) (hx : ev E x = .pointer (some ⟨b, k, none⟩)) (hv : At w b k cs) (hl : cs.length = sz) : OpV P o E w (.agg cs.toArray) := by
  subst hl
  have h := load_cells (P := P) (w := w) (b := b) (k := k) cs 0 #[] (fun j v hj => by rw [show k + (0 + j) = k + j from by omega]; exact hv j v hj)
  simp [OpV, execOp, ho, hx, go_sem, Instr.loadAt, Instr.sureAddr, loadVar, is_agg_yes ht, size_of ht.2, loadCells, h]
theorem V.sliceString {t : TypeId} {x : Operand} {lo hi : Option Operand} {s r : ByteArray} {l h : Nat} (ho : o.op = .slice t x lo hi none) (ht : P.underlying t = some .string) (hx : ev E x = .string s)
    (hlo : match lo with | none => l = 0 | some y => ∃ ik, ev E y = .int ik (l : Int)) (hhi : match hi with | none => h = s.size | some y => ∃ ik, ev E y = .int ik (h : Int)) (h1 : l ≤ h) (h2 : h ≤ s.size) (hr : s.extract l h = r) :
    OpV P o E w (.string r) := by
  subst hr
  have e1 : (l : Int) ≤ (h : Int) := by omega
  have e2 : (h : Int) ≤ (s.size : Int) := by omega
  cases lo <;> cases hi <;> simp only at hlo hhi
  · subst hlo; subst hhi; simp [OpV, execOp, ho, hx, go_sem, Instr.sliceAt, underlying, ht, Instr.slice, Instr.sliceBounds]
  · obtain ⟨ik, hi'⟩ := hhi; subst hlo; simp [OpV, execOp, ho, hx, go_sem, Instr.sliceAt, underlying, ht, Instr.slice, Instr.sliceBounds, Instr.sliceBound, asIntOf, hi', e2, h1, h2]
  · obtain ⟨ik, hl'⟩ := hlo; subst hhi; simp [OpV, execOp, ho, hx, go_sem, Instr.sliceAt, underlying, ht, Instr.slice, Instr.sliceBounds, Instr.sliceBound, asIntOf, hl', e1, h1, h2]
  · obtain ⟨ik, hl'⟩ := hlo; obtain ⟨ik', hi'⟩ := hhi
    simp [OpV, execOp, ho, hx, go_sem, Instr.sliceAt, underlying, ht, Instr.slice, Instr.sliceBounds, Instr.sliceBound, asIntOf, hi', hl', e1, e2, h1, h2]
/-- a slice of a slice: from l to h, within the capacity -/
theorem V.sliceSlice {t : TypeId} {x : Operand} {lo hi : Option Operand} {e sz b k n c l h : Nat} (ho : o.op = .slice t x lo hi none) (ht : P.underlying t = some (.slice e)) (hs : Sized P e sz) (hx : ev E x = .slice (some ⟨b, k, none⟩) n c)
    (hlo : match lo with | none => l = 0 | some y => ∃ ik, ev E y = .int ik (l : Int)) (hhi : match hi with | none => h = n | some y => ∃ ik, ev E y = .int ik (h : Int)) (h1 : l ≤ h) (h2 : h ≤ c) :
    OpV P o E w (.slice (some ⟨b, k + (if c = l then 0 else l * sz), none⟩) (h - l) (c - l)) := by
  have e1 : (l : Int) ≤ (h : Int) := by omega
  have e2 : (h : Int) ≤ (c : Int) := by omega
  cases lo <;> cases hi <;> simp only at hlo hhi
  · subst hlo; subst hhi; simp [OpV, execOp, ho, hx, go_sem, Instr.sliceAt, underlying, ht, Instr.slice, Instr.sliceBounds, size_of hs, addr_add]
  · obtain ⟨ik, hi'⟩ := hhi; subst hlo; simp [OpV, execOp, ho, hx, go_sem, Instr.sliceAt, underlying, ht, Instr.slice, Instr.sliceBounds, Instr.sliceBound, asIntOf, hi', e2, h1, h2, size_of hs, addr_add]
  · obtain ⟨ik, hl'⟩ := hlo; subst hhi; simp [OpV, execOp, ho, hx, go_sem, Instr.sliceAt, underlying, ht, Instr.slice, Instr.sliceBounds, Instr.sliceBound, asIntOf, hl', e1, h1, h2, size_of hs, addr_add]
    split <;> rfl
  · obtain ⟨ik, hl'⟩ := hlo; obtain ⟨ik', hi'⟩ := hhi
    simp [OpV, execOp, ho, hx, go_sem, Instr.sliceAt, underlying, ht, Instr.slice, Instr.sliceBounds, Instr.sliceBound, asIntOf, hi', hl', e1, e2, h1, h2, size_of hs, addr_add]
    split <;> rfl
theorem V.sliceNil {t : TypeId} {x : Operand} {lo hi : Option Operand} {e sz : Nat} (ho : o.op = .slice t x lo hi none) (ht : P.underlying t = some (.slice e)) (hs : Sized P e sz) (hx : ev E x = .slice none 0 0)
    (hlo : match lo with | none => True | some y => ∃ ik, ev E y = .int ik 0) (hhi : match hi with | none => True | some y => ∃ ik, ev E y = .int ik 0) :
    OpV P o E w (.slice none 0 0) := by
  cases lo <;> cases hi <;> simp only at hlo hhi
  · simp [OpV, execOp, ho, hx, go_sem, Instr.sliceAt, underlying, ht, Instr.slice, Instr.sliceBounds, size_of hs]
  · obtain ⟨ik, hi'⟩ := hhi; simp [OpV, execOp, ho, hx, go_sem, Instr.sliceAt, underlying, ht, Instr.slice, Instr.sliceBounds, Instr.sliceBound, asIntOf, hi', size_of hs]
  · obtain ⟨ik, hl'⟩ := hlo; simp [OpV, execOp, ho, hx, go_sem, Instr.sliceAt, underlying, ht, Instr.slice, Instr.sliceBounds, Instr.sliceBound, asIntOf, hl', size_of hs]
  · obtain ⟨ik, hl'⟩ := hlo; obtain ⟨ik', hi'⟩ := hhi
    simp [OpV, execOp, ho, hx, go_sem, Instr.sliceAt, underlying, ht, Instr.slice, Instr.sliceBounds, Instr.sliceBound, asIntOf, hi', hl', size_of hs]
end
/-! ### Calls -/
section
variable {P : Program} {o : Oper} {E : Env} {w : World}
def Callable (P : Program) (f : FuncId) : Prop := ∃ fn, P.funcs[f]? = some fn ∧ (fn.name == "runtime.NumGoroutine") = false ∧ fn.body.isNone = false
theorem C.call {f : FuncId} {xs : Array Operand} {tys : Array TypeId} {args : Array Value} (ho : o.op = .call ⟨.value (.func f), xs, tys⟩) (ha : xs.map (ev E) = args) (hf : Callable P f) : OpC P o E w f args := by
  subst ha
  obtain ⟨fn, hfn, hn, hb⟩ := hf
  have hn' : ¬ fn.name = "runtime.NumGoroutine" := by simpa using hn
  have hb' : ¬ fn.body = none := by intro e; rw [e] at hb; cases hb
  simp [OpC, execOp, ho, go_sem, ev, callFunc, hfn, hn', hb']
end
end Go.Proofs.YtnhfkdgambncfaaGreatDoor.W
namespace Go.Proofs.YtnhfkdgambncfaaGreatDoor.W
open Go.RowKit

theorem cell_lt {w : World} {a : Addr} {v : Value} (h : w.cell? a = some v) : a.block < w.heap.size := by
  unfold World.cell? at h
  by_cases hb : a.block < w.heap.size
  · exact hb
  · rw [Array.getElem?_eq_none (by omega)] at h; cases h
theorem cell_ext {X : List Nat} {w w' : World} {a : Addr} {v : Value} (h : w.cell? a = some v) (k : Ext X w w') (hx : a.block ∉ X) : w'.cell? a = some v := by
  have := k.block a.block (cell_lt h) hx
  unfold World.cell? at *
  rw [this]; exact h
theorem At.ext {X : List Nat} {w w' : World} {b i : Nat} {cs : List Value} (h : At w b i cs) (k : Ext X w w') (hx : b ∉ X) : At w' b i cs := fun j v hj => cell_ext (h j v hj) k hx
theorem At.cell {w : World} {b i : Nat} {cs : List Value} (h : At w b i cs) {j : Nat} {v : Value} (hj : cs[j]? = some v) : w.cell? ⟨b, i + j, none⟩ = some v := h j v hj
theorem At.lt {w : World} {b i : Nat} {cs : List Value} (h : At w b i cs) (hn : cs ≠ []) : b < w.heap.size := by
  cases cs with
  | nil => exact absurd rfl hn
  | cons v r => exact cell_lt (h 0 v rfl)

/-- A representation: which cells read as which datum, none of what they lead to lying in a block of X. -/
structure Rep (α : Type) where
  sz : Nat
  rd : List Nat → World → List Value → α → Prop
  len : ∀ {X w cs x}, rd X w cs x → cs.length = sz
  one : ∀ {X w cs x}, rd X w cs x → ∀ u ∈ cs, u.oneCell' = true
  ext : ∀ {X w w' cs x}, rd X w cs x → Ext X w w' → rd X w' cs x
  mono : ∀ {X Y w cs x}, rd Y w cs x → (∀ k ∈ X, k ∈ Y) → rd X w cs x
  new : ∀ {X w cs x b}, rd X w cs x → w.heap.size ≤ b → rd (b :: X) w cs x

/-- The slice v reads as the list xs. -/
def Sl {α : Type} (R : Rep α) (X : List Nat) (w : World) (v : Value) (xs : List α) : Prop :=
  (v = .slice none 0 0 ∧ xs = []) ∨
  (∃ b k c, v = .slice (some ⟨b, k, none⟩) xs.length c ∧ xs.length ≤ c ∧ c ≤ maxLen ∧ ∀ i x, xs[i]? = some x → b ∉ X ∧ ∃ cs, R.rd X w cs x ∧ At w b (k + i * R.sz) cs) ∨
  ∃ a, v = .slice (some a) 0 0 ∧ xs = []

section
variable {α : Type} {R : Rep α} {X Y : List Nat} {w w' : World} {v : Value} {xs : List α}
theorem Sl.ext (h : Sl R X w v xs) (k : Ext X w w') : Sl R X w' v xs := by
  rcases h with h | ⟨b, i, c, h1, h2, h3, h4⟩ | h
  rotate_left 2
  · exact .inr (.inr h)
  · exact .inl h
  · refine .inr (.inl ⟨b, i, c, h1, h2, h3, fun j x hj => ?_⟩)
    obtain ⟨hb, cs, hr, ha⟩ := h4 j x hj
    exact ⟨hb, cs, R.ext hr k, ha.ext k hb⟩
theorem Sl.mono (h : Sl R Y w v xs) (k : ∀ b ∈ X, b ∈ Y) : Sl R X w v xs := by
  rcases h with h | ⟨b, i, c, h1, h2, h3, h4⟩ | h
  rotate_left 2
  · exact .inr (.inr h)
  · exact .inl h
  · refine .inr (.inl ⟨b, i, c, h1, h2, h3, fun j x hj => ?_⟩)
    obtain ⟨hb, cs, hr, ha⟩ := h4 j x hj
    exact ⟨fun hx => hb (k b hx), cs, R.mono hr k, ha⟩
theorem Sl.new {b : Nat} (hz : R.sz ≠ 0) (h : Sl R X w v xs) (k : w.heap.size ≤ b) : Sl R (b :: X) w v xs := by
  rcases h with h | ⟨b', i, c, h1, h2, h3, h4⟩ | h
  rotate_left 2
  · exact .inr (.inr h)
  · exact .inl h
  · refine .inr (.inl ⟨b', i, c, h1, h2, h3, fun j x hj => ?_⟩)
    obtain ⟨hb, cs, hr, ha⟩ := h4 j x hj
    have hne : cs ≠ [] := fun e => hz (by have := R.len hr; rw [e] at this; simpa using this.symm)
    have hlt := ha.lt hne
    exact ⟨by simp only [List.mem_cons, not_or]; exact ⟨by omega, hb⟩, cs, R.new hr k, ha⟩
theorem Sl.le (h : Sl R X w v xs) : xs.length ≤ maxLen := by
  rcases h with ⟨_, rfl⟩ | ⟨b, i, c, h1, h2, h3, h4⟩ | ⟨_, _, rfl⟩
  · simp [maxLen]
  · omega
  · simp [maxLen]
theorem Sl.nil : Sl R X w (.slice none 0 0) [] := .inl ⟨rfl, rfl⟩
/-- its words -/
theorem Sl.shape (h : Sl R X w v xs) : ∃ a c, v = .slice a xs.length c := by
  rcases h with ⟨rfl, rfl⟩ | ⟨b, i, c, h1, _⟩ | ⟨a, rfl, rfl⟩
  · exact ⟨none, 0, rfl⟩
  · exact ⟨_, c, h1⟩
  · exact ⟨some a, 0, rfl⟩
/-- an element of it -/
theorem Sl.get (h : Sl R X w v xs) {i : Nat} {x : α} (hx : xs[i]? = some x) :
    ∃ b k c cs, v = .slice (some ⟨b, k, none⟩) xs.length c ∧ b ∉ X ∧ R.rd X w cs x ∧ At w b (k + i * R.sz) cs := by
  rcases h with ⟨_, rfl⟩ | ⟨b, k, c, h1, _, _, h4⟩ | ⟨_, _, rfl⟩
  · simp at hx
  · obtain ⟨hb, cs, hr, ha⟩ := h4 i x hx
    exact ⟨b, k, c, cs, h1, hb, hr, ha⟩
  · simp at hx
end

/-! ### The representations -/
def inK (k : IntKind) (n : Int) : Prop := k.min ≤ n ∧ n ≤ k.max
theorem inK_i64 {n : Int} (h : inK .i64 n) : -9223372036854775808 ≤ n ∧ n ≤ 9223372036854775807 := by simpa [inK, IntKind.min, IntKind.max, IntKind.signed, IntKind.bits] using h
theorem inK_u64 {n : Int} (h : inK .u64 n) : 0 ≤ n ∧ n ≤ 18446744073709551615 := by simpa [inK, IntKind.min, IntKind.max, IntKind.signed, IntKind.bits] using h
theorem inK_u8 {n : Int} (h : inK .u8 n) : 0 ≤ n ∧ n ≤ 255 := by simpa [inK, IntKind.min, IntKind.max, IntKind.signed, IntKind.bits] using h
theorem inK_i64' {n : Int} (h : -9223372036854775808 ≤ n ∧ n ≤ 9223372036854775807) : inK .i64 n := by simpa [inK, IntKind.min, IntKind.max, IntKind.signed, IntKind.bits] using h
theorem inK_u64' {n : Int} (h : 0 ≤ n ∧ n ≤ 18446744073709551615) : inK .u64 n := by simpa [inK, IntKind.min, IntKind.max, IntKind.signed, IntKind.bits] using h
theorem inK_u8' {n : Int} (h : 0 ≤ n ∧ n ≤ 255) : inK .u8 n := by simpa [inK, IntKind.min, IntKind.max, IntKind.signed, IntKind.bits] using h
theorem wrap_i64 {n : Int} (h1 : -9223372036854775808 ≤ n) (h2 : n ≤ 9223372036854775807) : IntKind.i64.wrap n = n := IntWalk.i64_in _ ⟨h1, h2⟩

def intR (k : IntKind) : Rep Int where
  sz := 1
  rd := fun _ _ cs n => cs = [.int k n] ∧ inK k n
  len := by rintro _ _ _ _ ⟨rfl, _⟩; rfl
  one := by rintro _ _ _ _ ⟨rfl, _⟩; simp [Value.oneCell']
  ext := fun h _ => h
  mono := fun h _ => h
  new := fun h _ => h
def boolR : Rep Bool where
  sz := 1
  rd := fun _ _ cs b => cs = [.bool b]
  len := by rintro _ _ _ _ rfl; rfl
  one := by rintro _ _ _ _ rfl; simp [Value.oneCell']
  ext := fun h _ => h
  mono := fun h _ => h
  new := fun h _ => h
def strR : Rep ByteArray where
  sz := 1
  rd := fun _ _ cs s => cs = [.string s] ∧ s.size ≤ maxLen
  len := by rintro _ _ _ _ ⟨rfl, _⟩; rfl
  one := by rintro _ _ _ _ ⟨rfl, _⟩; simp [Value.oneCell']
  ext := fun h _ => h
  mono := fun h _ => h
  new := fun h _ => h
theorem Sl.one {α : Type} {R : Rep α} {X : List Nat} {w : World} {v : Value} {xs : List α} (h : Sl R X w v xs) : v.oneCell' = true := by
  obtain ⟨a, c, rfl⟩ := h.shape; rfl
def slR {α : Type} (R : Rep α) (hz : R.sz ≠ 0) : Rep (List α) where
  sz := 1
  rd := fun X w cs xs => ∃ v, cs = [v] ∧ Sl R X w v xs
  len := by rintro _ _ _ _ ⟨v, rfl, _⟩; rfl
  one := by rintro _ _ _ _ ⟨v, rfl, h⟩; simpa using h.one
  ext := fun ⟨v, h1, h2⟩ k => ⟨v, h1, h2.ext k⟩
  mono := fun ⟨v, h1, h2⟩ k => ⟨v, h1, h2.mono k⟩
  new := fun ⟨v, h1, h2⟩ k => ⟨v, h1, Sl.new hz h2 k⟩

abbrev Ints := Sl (intR .i64)

/-! ### A slice of the call's own: nobody else writes or reads its row -/
def avoid (v : Value) (X : List Nat) : List Nat := match v.ownBlock with | some b => b :: X | none => X
def Owns {α : Type} (R : Rep α) (e : TypeId) (B : Nat) (X : List Nat) (w : World) (v : Value) (xs : List α) : Prop :=
  ∃ cells, w.ownsRow B e R.sz v xs.length cells ∧ (∀ i x, xs[i]? = some x → R.rd (avoid v X) w ((cells.drop (i * R.sz)).take R.sz) x) ∧ ∀ u ∈ cells, u.oneCell' = true

theorem Owns.nil {α : Type} {R : Rep α} {e : TypeId} {B : Nat} {X : List Nat} {w : World} : Owns R e B X w (.slice none 0 0) [] :=
  ⟨[], World.ownsRow_nil w B e R.sz, by simp, by simp⟩
theorem Owns.le {α : Type} {R : Rep α} {e : TypeId} {B : Nat} {X : List Nat} {w : World} {v : Value} {xs : List α} (h : Owns R e B X w v xs) : xs.length ≤ maxLen := by
  obtain ⟨cells, ⟨_, h1⟩, _⟩ := h
  rcases h1 with ⟨_, h2⟩ | ⟨g, cap, cur, _, _, _, h3, h4, _⟩
  · rw [h2]; simp [maxLen]
  · omega
theorem Owns.shape {α : Type} {R : Rep α} {e : TypeId} {B : Nat} {X : List Nat} {w : World} {v : Value} {xs : List α} (h : Owns R e B X w v xs) : ∃ a c, v = .slice a xs.length c := by
  obtain ⟨cells, ⟨_, h1⟩, _⟩ := h
  rcases h1 with ⟨h1, h2⟩ | ⟨g, cap, cur, h1, _⟩
  · exact ⟨none, 0, by rw [h1, h2]⟩
  · exact ⟨_, _, h1⟩
theorem Owns.sl {α : Type} {R : Rep α} {e : TypeId} {B : Nat} {X : List Nat} {w : World} {v : Value} {xs : List α} (h : Owns R e B X w v xs) (hX : ∀ x ∈ X, x < B) : Sl R X w v xs := by
  obtain ⟨cells, ⟨hlen, h1⟩, h2, _⟩ := h
  rcases h1 with ⟨rfl, h0⟩ | ⟨g, cap, cur, rfl, hB, hg, hc, hm, hs, ht⟩
  · exact .inl ⟨rfl, List.eq_nil_of_length_eq_zero h0⟩
  · refine .inr (.inl ⟨g, 0, cap, rfl, hc, hm, fun i x hx => ⟨fun hgx => by have := hX g hgx; omega, _, R.mono (h2 i x hx) (by intro k hk; simp [avoid, Value.ownBlock, hk]), ?_⟩⟩)
    intro j u hj
    have hi : i < xs.length := by
      rcases Nat.lt_or_ge i xs.length with h | h
      · exact h
      · rw [List.getElem?_eq_none h] at hx; cases hx
    have hjl : j < R.sz := by
      rcases Nat.lt_or_ge j R.sz with h | h
      · exact h
      · rw [List.getElem?_eq_none (by simp; omega)] at hj; cases hj
    rw [List.getElem?_take_of_lt hjl, List.getElem?_drop, ← ht, List.getElem?_take] at hj
    split at hj
    · simp only [World.cell?, hg]
      simpa using hj
    · cases hj
theorem Owns.mono {α : Type} {R : Rep α} {e : TypeId} {B : Nat} {X Y : List Nat} {w : World} {v : Value} {xs : List α} (h : Owns R e B Y w v xs) (k : ∀ b ∈ X, b ∈ Y) : Owns R e B X w v xs := by
  obtain ⟨cells, h1, h2, h3⟩ := h
  refine ⟨cells, h1, fun i x hx => R.mono (h2 i x hx) ?_, h3⟩
  intro b hb
  unfold avoid at hb ⊢
  cases ho : v.ownBlock with
  | none => rw [ho] at hb; exact k b hb
  | some g =>
    rw [ho] at hb
    simp only [List.mem_cons] at hb ⊢
    rcases hb with hb | hb
    · exact .inl hb
    · exact .inr (k b hb)
theorem Owns.low {α : Type} {R : Rep α} {e : TypeId} {B B' : Nat} {X : List Nat} {w : World} {v : Value} {xs : List α} (h : Owns R e B X w v xs) (k : B' ≤ B) : Owns R e B' X w v xs := by
  obtain ⟨cells, ⟨h0, h1⟩, h2, h3⟩ := h
  refine ⟨cells, ⟨h0, ?_⟩, h2, h3⟩
  rcases h1 with h1 | ⟨g, cap, cur, a, b, c⟩
  · exact .inl h1
  · exact .inr ⟨g, cap, cur, a, Nat.le_trans k b, c⟩
/-- whatever is written elsewhere -/
theorem Owns.ext {α : Type} {R : Rep α} {e : TypeId} {B : Nat} {X : List Nat} {w w' : World} {v : Value} {xs : List α} (h : Owns R e B X w v xs) (k : Ext X w w') (hX : ∀ x ∈ X, x < B) : Owns R e B X w' v xs := by
  obtain ⟨cells, ⟨h0, h1⟩, h2, h3⟩ := h
  refine ⟨cells, ⟨h0, ?_⟩, fun i x hx => R.ext (h2 i x hx) (k.mono ?_), h3⟩
  · rcases h1 with h1 | ⟨g, cap, cur, hv, hB, hg, hr⟩
    · exact .inl h1
    · refine .inr ⟨g, cap, cur, hv, hB, ?_, hr⟩
      rw [k.block g (Blk.lt hg) (fun hx => by have := hX g hx; omega)]; exact hg
  · intro b hb
    unfold avoid
    cases v.ownBlock with
    | none => exact hb
    | some g => simp [hb]
theorem avoid_mem {v : Value} {X : List Nat} {b : Nat} (h : b ∈ X) : b ∈ avoid v X := by
  unfold avoid
  cases v.ownBlock with
  | none => exact h
  | some g => simp [h]
end Go.Proofs.YtnhfkdgambncfaaGreatDoor.W
