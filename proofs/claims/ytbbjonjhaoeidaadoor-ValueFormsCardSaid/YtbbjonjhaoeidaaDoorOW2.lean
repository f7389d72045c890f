/- Regions over frames: the operations in the text's order; the rules of single operations. Program-agnostic. -/
import Derived.Test.YtbbjonjhaoeidaaDoorOW1
set_option linter.unusedVariables false
set_option linter.unusedSimpArgs false
namespace Go.Proofs.YtbbjonjhaoeidaaDoor.W
open Go.RowKit

/-- Of w's blocks none but those of X has turned; the streams are as they were. -/
structure Ext (X : List Nat) (w w' : World) : Prop where
  os : w'.os = w.os
  tape : w'.tape = w.tape
  output : w'.output = w.output
  size : w.heap.size ≤ w'.heap.size
  block : ∀ k, k < w.heap.size → k ∉ X → w'.heap[k]? = w.heap[k]?

theorem Ext.refl (X : List Nat) (w : World) : Ext X w w := ⟨rfl, rfl, rfl, Nat.le_refl _, fun _ _ _ => rfl⟩
theorem Ext.trans {X : List Nat} {a b c : World} (h : Ext X a b) (k : Ext X b c) : Ext X a c :=
  ⟨k.os.trans h.os, k.tape.trans h.tape, k.output.trans h.output, Nat.le_trans h.size k.size,
    fun i hi hx => (k.block i (Nat.lt_of_lt_of_le hi h.size) hx).trans (h.block i hi hx)⟩
theorem Ext.mono {X Y : List Nat} {a b : World} (h : Ext X a b) (hs : ∀ k, k ∈ X → k ∈ Y) : Ext Y a b :=
  ⟨h.os, h.tape, h.output, h.size, fun k hk hx => h.block k hk fun hy => hx (hs k hy)⟩
theorem Ext.any {Y : List Nat} {a b : World} (h : Ext [] a b) : Ext Y a b := h.mono (by simp)
theorem Ext.below {w w' : World} (h : Ext [] w w') : Below w.heap.size w w' := ⟨h.os, h.tape, h.output, h.size, fun k hk => h.block k hk (by simp)⟩
theorem Ext.of_below {w w' : World} (h : Below w.heap.size w w') : Ext [] w w' := ⟨h.os, h.tape, h.output, h.size, fun k hk _ => h.block k hk⟩
/-- What was new in the callee's eyes need not be kept. -/
theorem Ext.new {X : List Nat} {a b c : World} (h : Ext [] a b) (k : Ext X b c) (hX : ∀ x ∈ X, a.heap.size ≤ x) : Ext [] a c :=
  ⟨k.os.trans h.os, k.tape.trans h.tape, k.output.trans h.output, Nat.le_trans h.size k.size,
    fun i hi _ => (k.block i (Nat.lt_of_lt_of_le hi h.size) (fun hx => by have := hX i hx; omega)).trans (h.block i hi (by simp))⟩
theorem Ext.drew {X : List Nat} (w : World) (n : Nat) : Ext X w { w with drawn := n } := ⟨rfl, rfl, rfl, Nat.le_refl _, fun _ _ _ => rfl⟩
theorem Ext.push {X : List Nat} (w : World) (o : Obj) : Ext X w { w with heap := w.heap.push o } :=
  ⟨rfl, rfl, rfl, by simp, fun k hk _ => by show (w.heap.push o)[k]? = _; rw [Array.getElem?_push, if_neg (by omega)]⟩
theorem Ext.setCell {X : List Nat} (w : World) (a : Addr) (v : Value) (h : a.block ∈ X) : Ext X w (w.setCell a v) :=
  ⟨rfl, rfl, rfl, by simp [World.setCell], fun k _ hx => by
    simp only [World.setCell, Array.getElem?_modify]
    rw [if_neg (fun e : a.block = k => hx (e ▸ h))]⟩

/-- Block b is this object. -/
def Blk (w : World) (b : Nat) (o : Obj) : Prop := w.heap[b]? = some o
theorem Blk.lt {w : World} {b : Nat} {o : Obj} (h : Blk w b o) : b < w.heap.size := by
  unfold Blk at h
  by_cases hb : b < w.heap.size
  · exact hb
  · rw [Array.getElem?_eq_none (by omega)] at h; cases h
theorem Blk.ext {X : List Nat} {w w' : World} {b : Nat} {o : Obj} (h : Blk w b o) (k : Ext X w w') (hx : b ∉ X) : Blk w' b o :=
  (k.block b h.lt hx).trans h
theorem Blk.new (w : World) (o : Obj) : Blk { w with heap := w.heap.push o } w.heap.size o := by simp [Blk]
/-- Block b is these cells, of type t, none of them frozen. -/
def Box (w : World) (b : Nat) (t : TypeId) (cs : List Value) : Prop := Blk w b (.cells cs.toArray t (0, 0))
theorem Box.ext {X : List Nat} {w w' : World} {b : Nat} {t : TypeId} {cs : List Value} (h : Box w b t cs) (k : Ext X w w') (hx : b ∉ X) : Box w' b t cs := Blk.ext h k hx
theorem Box.lt {w : World} {b : Nat} {t : TypeId} {cs : List Value} (h : Box w b t cs) : b < w.heap.size := Blk.lt h
theorem Box.cell {w : World} {b : Nat} {t : TypeId} {cs : List Value} (h : Box w b t cs) {i : Nat} {v : Value} (hi : cs[i]? = some v) : w.cell? ⟨b, i, none⟩ = some v := by
  have h' : w.heap[b]? = some (.cells cs.toArray t (0, 0)) := h
  simp [World.cell?, h', hi]
theorem Box.free {w : World} {b : Nat} {t : TypeId} {cs : List Value} (h : Box w b t cs) (i : Nat) : w.frozen? ⟨b, i, none⟩ = false := by
  have h' : w.heap[b]? = some (.cells cs.toArray t (0, 0)) := h
  simp [World.frozen?, h']
theorem Box.set {w : World} {b : Nat} {t : TypeId} {cs : List Value} (h : Box w b t cs) (i : Nat) (v : Value) : Box (w.setCell ⟨b, i, none⟩ v) b t (cs.set i v) := by
  have h' : w.heap[b]? = some (.cells cs.toArray t (0, 0)) := h
  simp [Box, Blk, World.setCell, Array.getElem?_modify, h']
theorem Box.other {w : World} {b b' : Nat} {t : TypeId} {cs : List Value} (h : Box w b t cs) (i : Nat) (v : Value) (hb : b ≠ b') : Box (w.setCell ⟨b', i, none⟩ v) b t cs :=
  h.ext (Ext.setCell (X := [b']) w ⟨b', i, none⟩ v (by simp)) (by simpa using hb)

/-- The operation, carried out in w, yields v and leaves w'. -/
def OpX (P : Program) (o : Oper) (E : Env) (w : World) (v : Value) (w' : World) : Prop :=
  (execOp (ev E) o).run P w = .ok (.value v) w' ∨ (v = undef ∧ (execOp (ev E) o).run P w = .ok .skip w')
/-- The operation only reads. -/
def OpV (P : Program) (o : Oper) (E : Env) (w : World) (v : Value) : Prop := (execOp (ev E) o).run P w = .ok (.value v) w
/-- The operation calls. -/
def OpC (P : Program) (o : Oper) (E : Env) (w : World) (f : FuncId) (args : Array Value) : Prop := (execOp (ev E) o).run P w = .ok (.enter f args) w
theorem OpV.x {P : Program} {o : Oper} {E : Env} {w : World} {v : Value} (h : OpV P o E w v) : OpX P o E w v w := .inl h

/-- The operation's guard lets it run. -/
def Sure (ops : Array Oper) (o : Oper) (E : Env) : Prop := ∀ tmps : Array Value, (fun t => tmps.getD t undef) = E → Region.wanted o (yielded ops tmps) = true
def Shut (ops : Array Oper) (o : Oper) (E : Env) : Prop := ∀ tmps : Array Value, (fun t => tmps.getD t undef) = E → Region.wanted o (yielded ops tmps) = false
theorem Sure.none {ops : Array Oper} {o : Oper} {E : Env} (h : o.guard = none) : Sure ops o E := fun _ _ => by simp [Region.wanted, h]
theorem yielded_of {ops : Array Oper} {j g : Nat} {E : Env} {b : Bool} (hj : (ops[j]?).bind (·.dst) = some g) (hE : E g = .bool b) (tmps : Array Value) (he : (fun t => tmps.getD t undef) = E) :
    yielded ops tmps j = some b := by
  subst he
  simp only [Array.getD_eq_getD_getElem?] at hE
  simp only [yielded, hj, Option.bind_some]
  cases h : tmps[g]? with
  | none => rw [h] at hE; simp [undef] at hE
  | some v => rw [h] at hE; simp at hE; rw [hE]
theorem Sure.yes {ops : Array Oper} {o : Oper} {E : Env} {j g : Nat} {b : Bool} (h : o.guard = some (j, b)) (hj : (ops[j]?).bind (·.dst) = some g) (hE : E g = .bool b) : Sure ops o E := fun tmps he => by
  simp [Region.wanted, h, yielded_of hj hE tmps he]
theorem Shut.no {ops : Array Oper} {o : Oper} {E : Env} {j g : Nat} {b c : Bool} (h : o.guard = some (j, b)) (hj : (ops[j]?).bind (·.dst) = some g) (hE : E g = .bool c) (hbc : (c == b) = false) : Shut ops o E := fun tmps he => by
  simp only [Region.wanted, h, yielded_of hj hE tmps he]
  cases c <;> cases b <;> simp_all
theorem Shut.undef {ops : Array Oper} {o : Oper} {E : Env} {j g : Nat} {b : Bool} (h : o.guard = some (j, b)) (hj : (ops[j]?).bind (·.dst) = some g) (hE : E g = undef) : Shut ops o E := fun tmps he => by
  subst he
  simp only [Array.getD_eq_getD_getElem?] at hE
  simp only [Region.wanted, h, yielded, hj, Option.bind_some]
  cases hv : tmps[g]? with
  | none => rfl
  | some v => rw [hv] at hE; simp at hE; rw [hE]; rfl

/-! ### The text's order -/
def WLr (ro : Option Nat) (P : Program) (n : Fsz) (ops : Array Oper) (Q : K) (l : List Oper) (E : Env) (w : World) : Prop :=
  ∀ a, Ok n a → envOf a = E → wpListIn (Fr ro) 1 P ops (lift n Q) l a w
abbrev WL := WLr none

theorem not_defer {P : Program} {o : Oper} {ρ : Operand → Value} {w w' : World} {x : Next} (h : (execOp ρ o).run P w = .ok x w') (hx : ∀ d, x ≠ .defer d) : ∀ c, o.op ≠ .defer c := by
  intro c hc
  simp only [execOp, hc, Sem.run_bind] at h
  cases hr : (resolve ρ c o.type).run P w with
  | ok d w2 => rw [hr] at h; simp only [Result.andThen_ok, Sem.run_pure, Result.ok.injEq] at h; exact hx d h.1.symm
  | halt x w2 => rw [hr] at h; simp at h
theorem semAt_of {P : Program} {ro : Option Nat} {o : Oper} {ρ : Operand → Value} {w w' : World} {x : Next} (h : (execOp ρ o).run P w = .ok x w') (hx : ∀ d, x ≠ .defer d) : (o.semAt ro ρ).run P w = .ok x w' := by
  rw [Oper.semAt_eq ro ρ o (not_defer h hx)]; exact h

section
variable {P : Program} {n : Fsz} {ro : Option Nat} {Q : K} {E : Env} {w w' : World} {ops : Array Oper} {o : Oper} {rest : List Oper} {u : Value}

theorem WP.region {id : Nat} {l : List Oper} (h : WLr ro P n l.toArray Q l E w) : WPr ro P n (.region id l.toArray false) Q E w := fun a ha he => wpIn_region_lit (h a ha he)
theorem WL.nil {N R : Env → World → Prop} {X : Nat → Env → World → Prop} (h : N E w) : WLr ro P n ops ⟨N, X, R⟩ [] E w := fun _ ha he => ⟨ha, he ▸ h⟩
theorem WL.x (hs : Sure ops o E) (hd : dstOk n o.dst = true) (h : OpX P o E w u w') (k : WLr ro P n ops Q rest (updO E o.dst u) w') : WLr ro P n ops Q (o :: rest) E w := by
  intro a ha he
  unfold wpListIn
  rw [if_pos (hs a.tmps he)]
  refine ⟨fun _ _ => trivial, ?_⟩
  have hk := k (a.put o.dst u) (ha.put _ _) (by rw [envOf_put ha _ hd, he])
  rw [eval_envOf, he]
  rcases h with h | ⟨rfl, h⟩
  · rw [semAt_of h (by simp)]; exact hk
  · rw [semAt_of h (by simp)]; exact hk
theorem WL.v (hs : Sure ops o E) (hd : dstOk n o.dst = true) (h : OpV P o E w u) (k : WLr ro P n ops Q rest (updO E o.dst u) w) : WLr ro P n ops Q (o :: rest) E w := WL.x hs hd h.x k
theorem WL.c {f : FuncId} {args : Array Value} (hs : Sure ops o E) (hd : dstOk n o.dst = true) (h : OpC P o E w f args) (k : Fnc P f args w fun v w' => WLr ro P n ops Q rest (updO E o.dst v) w') : WLr ro P n ops Q (o :: rest) E w := by
  intro a ha he
  unfold wpListIn
  rw [if_pos (hs a.tmps he)]
  refine ⟨fun _ _ => trivial, ?_⟩
  rw [eval_envOf, he, semAt_of h (by simp)]
  refine ⟨fun _ => Nat.le_refl 1, ?_⟩
  have hc : CallsIn (Fr ro) (1 - 1) P f args w (fun e w' => ∃ v, e = .returned v ∧ WLr ro P n ops Q rest (updO E o.dst v) w') := by
    have := (callsIn_wide (n := 1 - 1)).2 k
    exact this
  refine CallsIn.mono hc ?_
  rintro e w' ⟨v, rfl, hk⟩
  exact hk (a.put o.dst v) (ha.put _ _) (by rw [envOf_put ha _ hd, he])
theorem WL.s (hs : Shut ops o E) (hd : dstOk n o.dst = true) (k : WLr ro P n ops Q rest (updO E o.dst undef) w) : WLr ro P n ops Q (o :: rest) E w := by
  intro a ha he
  unfold wpListIn
  rw [if_neg (by rw [hs a.tmps he]; simp)]
  exact ⟨fun _ _ => trivial, k (a.put o.dst undef) (ha.put _ _) (by rw [envOf_put ha _ hd, he])⟩
theorem WL.cut {l : List Oper} (J : Env → World → Prop) (h : J E w) (k : ∀ E w, J E w → WLr ro P n ops Q l E w) : WLr ro P n ops Q l E w := k _ _ h
end

/-! ### A region that draws its order, in which nothing is written: the text's order serves, in every world that w grows to -/
def WQ (P : Program) (n : Fsz) (ops : Array Oper) (w : World) (Q : Env → World → Prop) (l : List Oper) (E : Env) : Prop :=
  ∀ a, Ok n a → envOf a = E → wpQuiet P ops (fun w' => Ext [] w w') (fun a' => ∀ w', Ext [] w w' → Ok n a' ∧ Q (envOf a') w') l a

section
variable {P : Program} {n : Fsz} {E : Env} {w : World} {ops : Array Oper} {o : Oper} {rest : List Oper} {u : Value}

theorem WP.quiet {N R : Env → World → Prop} {X : Nat → Env → World → Prop} {id : Nat} {l : List Oper} (hm : P.follows .mixedOrders = true) (hB : Region.lexB .any l.toArray = true) (h : WQ P n l.toArray w N l E) : WP P n (.region id l.toArray true) ⟨N, X, R⟩ E w :=
  fun a ha he => wpIn_wide.2 <| wp_region_quiet (C := fun w' => Ext [] w w') hm hB (Ext.drew w _) (by have h' := h a ha he; show wpQuiet P l.toArray _ _ l.toArray.toList a; simp only [List.toList_toArray]; exact h')
variable {Q : Env → World → Prop}
theorem WQ.nil (h : ∀ w', Ext [] w w' → Q E w') : WQ P n ops w Q [] E := fun _ ha he w' hw => ⟨ha, he ▸ h w' hw⟩
theorem WQ.v (hs : Sure ops o E) (hd : dstOk n o.dst = true) (h : ∀ w', Ext [] w w' → OpV P o E w' u) (k : WQ P n ops w Q rest (updO E o.dst u)) : WQ P n ops w Q (o :: rest) E := by
  intro a ha he
  unfold wpQuiet
  rw [if_pos (hs a.tmps he)]
  refine ⟨u, fun w' hw => ?_, k (a.put o.dst u) (ha.put _ _) (by rw [envOf_put ha _ hd, he])⟩
  unfold Oper.quietAt
  rw [eval_envOf, he, h w' hw]
  exact ⟨rfl, rfl⟩
theorem WQ.c {f : FuncId} {args : Array Value} (hs : Sure ops o E) (hd : dstOk n o.dst = true) (h : ∀ w', Ext [] w w' → OpC P o E w' f args)
    (hc : ∀ w', Ext [] w w' → Fnc P f args w' fun v w'' => v = u ∧ Ext [] w' w'') (k : WQ P n ops w Q rest (updO E o.dst u)) : WQ P n ops w Q (o :: rest) E := by
  intro a ha he
  unfold wpQuiet
  rw [if_pos (hs a.tmps he)]
  refine ⟨u, fun w' hw => ?_, k (a.put o.dst u) (ha.put _ _) (by rw [envOf_put ha _ hd, he])⟩
  unfold Oper.quietAt
  rw [eval_envOf, he, h w' hw]
  refine ⟨rfl, Calls.mono (hc w' hw) ?_⟩
  rintro e w'' ⟨v, rfl, rfl, hx⟩
  exact ⟨rfl, hw.trans hx⟩
theorem WQ.s (hs : Shut ops o E) (hd : dstOk n o.dst = true) (k : WQ P n ops w Q rest (updO E o.dst undef)) : WQ P n ops w Q (o :: rest) E := by
  intro a ha he
  unfold wpQuiet
  rw [if_neg (by rw [hs a.tmps he]; simp)]
  exact k (a.put o.dst undef) (ha.put _ _) (by rw [envOf_put ha _ hd, he])
end
end Go.Proofs.YtbbjonjhaoeidaaDoor.W
