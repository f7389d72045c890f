/- The rules of operations that make or write memory. Program-agnostic. -/
import Derived.Test.YtbbjonjhaoeidaaDoorOW4
import Derived.Laws.AppendOwnNone
set_option linter.unusedVariables false
set_option linter.unusedSimpArgs false
namespace Go.Proofs.YtbbjonjhaoeidaaDoor.W
open Go.RowKit

theorem Ext.alloc {X : List Nat} (w : World) (o : Obj) : Ext X w (w.alloc o) := Ext.push w o
theorem Ext.of_grown {X : List Nat} {w w' : World} {row : Option Nat} (h : w.grownBy w' row) (hr : ∀ k, row = some k → k ∈ X) : Ext X w w' :=
  ⟨h.os, h.tape, h.output, h.size, fun k hk hx => h.block k hk (fun e => hx (hr k e.symm))⟩
/-- What stood before B is as it was, where a row of one's own behind B was written. -/
theorem Ext.own {X : List Nat} {w0 w w' : World} {v : Value} (h : Ext X w0 w) (hg : w.grownBy w' v.ownBlock) (hv : ∀ k, v.ownBlock = some k → w0.heap.size ≤ k) : Ext X w0 w' :=
  ⟨hg.os.trans h.os, hg.tape.trans h.tape, hg.output.trans h.output, Nat.le_trans h.size hg.size,
    fun k hk hx => (hg.block k (Nat.lt_of_lt_of_le hk h.size) (fun e => by have := hv k e.symm; omega)).trans (h.block k hk hx)⟩
theorem ownsRow_block {w : World} {B : Nat} {e sz n : Nat} {v : Value} {xs : List Value} (h : w.ownsRow B e sz v n xs) : ∀ k, v.ownBlock = some k → B ≤ k := fun k hk => (h.lt k hk).1

section
variable {P : Program} {n : Fsz} {ro : Option Nat} {Q : K} {E : Env} {w : World} {ops : Array Oper} {o : Oper} {rest : List Oper}

theorem run_v {s : Sem Value} {v : Value} {w' : World} (h : s.run P w = .ok v w') : (do pure (Next.value (← s)) : Sem Next).run P w = .ok (.value v) w' := by
  simp only [Sem.run_bind, h, Result.andThen_ok, Sem.run_pure]
theorem run_u {s : Sem Unit} {w' : World} (h : s.run P w = .ok () w') : (do s; pure Next.skip : Sem Next).run P w = .ok .skip w' := by
  simp only [Sem.run_bind, h, Result.andThen_ok, Sem.run_pure]
theorem WL.box {t : TypeId} {x : Operand} {v : Value} {cs : List Value} (hs : Sure ops o E) (hd : dstOk n o.dst = true) (ho : o.op = .box t x) (hx : ev E x = v) (hc : v.cells = cs.toArray)
    (k : ∀ b w', Ext [] w w' → b = w.heap.size → Box w' b t cs → WLr ro P n ops Q rest (updO E o.dst (.pointer (some ⟨b, 0, none⟩))) w') : WLr ro P n ops Q (o :: rest) E w := by
  refine WL.x (u := .pointer (some ⟨w.heap.size, 0, none⟩)) (w' := w.alloc (.cells v.cells t)) hs hd (.inl ?_) (k _ _ (Ext.alloc w _) rfl ?_)
  · simp [execOp, ho, hx, go_sem, Instr.box, newVar, newRow]
  · rw [hc]; exact Blk.new w _
def Zero (P : Program) (t : TypeId) (v : Value) : Prop := (P.info? t).bind (·.zero) = some v
theorem zero_of {t : TypeId} {v : Value} (h : Zero P t v) : (zeroValue t).run P w = .ok v w := by
  unfold Zero at h
  cases hi : P.info? t with
  | none => rw [hi] at h; cases h
  | some i => rw [hi] at h; simp at h; simp [zeroValue, typeInfo, hi, go_sem, h]
theorem WL.alloc {t : TypeId} {v : Value} {cs : List Value} (hs : Sure ops o E) (hd : dstOk n o.dst = true) (ho : o.op = .alloc t) (hz : Zero P t v) (hc : v.cells = cs.toArray)
    (k : ∀ b w', Ext [] w w' → b = w.heap.size → Box w' b t cs → WLr ro P n ops Q rest (updO E o.dst (.pointer (some ⟨b, 0, none⟩))) w') : WLr ro P n ops Q (o :: rest) E w := by
  refine WL.x (u := .pointer (some ⟨w.heap.size, 0, none⟩)) (w' := w.alloc (.cells v.cells t)) hs hd (.inl ?_) (k _ _ (Ext.alloc w _) rfl ?_)
  · simp [execOp, ho, go_sem, Instr.alloc, zero_of hz, newVar, newRow]
  · rw [hc]; exact Blk.new w _
theorem run_store {b i : Nat} {t : TypeId} {cs : List Value} {v : Value} (hb : Box w b t cs) (hi : i < cs.length) (h1 : v.oneCell' = true) : (store ⟨b, i, none⟩ v).run P w = .ok () (w.setCell ⟨b, i, none⟩ v) := by
  have hc : w.cell? ⟨b, i, none⟩ = some cs[i] := hb.cell (List.getElem?_eq_getElem hi)
  have hf := hb.free i
  cases v <;> simp [Value.oneCell'] at h1 <;> simp [store, Sem.run, hc, hf]
/-- a store of one cell into a box -/
theorem WL.store {t t' : TypeId} {x y : Operand} {b i : Nat} {cs : List Value} {v : Value} (hs : Sure ops o E) (hd : dstOk n o.dst = true) (ho : o.op = .store t x y) (hz : Sized P t 1) (hx : ev E x = .pointer (some ⟨b, i, none⟩)) (hy : ev E y = v)
    (h1 : v.oneCell' = true) (hb : Box w b t' cs) (hi : i < cs.length) (k : ∀ w', Ext [b] w w' → Box w' b t' (cs.set i v) → WLr ro P n ops Q rest (updO E o.dst undef) w') : WLr ro P n ops Q (o :: rest) E w := by
  refine WL.x (u := undef) (w' := w.setCell ⟨b, i, none⟩ v) hs hd (.inr ⟨rfl, ?_⟩) (k _ (Ext.setCell w _ v (by simp)) (hb.set i v))
  have := run_store (P := P) hb hi h1
  have h2 : (storeVar t ⟨b, i, none⟩ v).run P w = .ok () (w.setCell ⟨b, i, none⟩ v) := by
    have hv : v.cells = #[v] := by cases v <;> first | rfl | simp [Value.oneCell'] at h1
    unfold storeVar
    rw [hv]
    simp [go_sem, size_of hz, storeCells, addr_add, this]
  simp only [execOp, ho, hx, hy]
  exact run_u h2
/-- cells in the midst of a row written anew -/
def splice (cs : List Value) (i : Nat) (vs : List Value) : List Value := cs.take i ++ vs ++ cs.drop (i + vs.length)
theorem Box.splice {b i : Nat} {t : TypeId} {cs : List Value} (vs : List Value) (hb : Box w b t cs) : Box (w.setRow b (W.splice cs i vs).toArray) b t (W.splice cs i vs) := setRow_heap w b _ _ t _ hb
/-- a store of a struct or an array, whole, into a box -/
theorem WL.storeAgg {t t' : TypeId} {x y : Operand} {b i sz : Nat} {cs vs : List Value} (hs : Sure ops o E) (hd : dstOk n o.dst = true) (ho : o.op = .store t x y) (hz : Sized P t sz) (hx : ev E x = .pointer (some ⟨b, i, none⟩)) (hy : ev E y = .agg vs.toArray)
    (hl : vs.length = sz) (h1 : ∀ u ∈ vs, u.oneCell' = true) (hb : Box w b t' cs) (hi : i + sz ≤ cs.length) (k : ∀ w', Ext [b] w w' → Box w' b t' (splice cs i vs) → WLr ro P n ops Q rest (updO E o.dst undef) w') : WLr ro P n ops Q (o :: rest) E w := by
  subst hl
  have h := run_storeCells_at P b i t' vs 0 cs.toArray w hb (by simpa using hi) h1
  simp only [Nat.add_zero] at h
  refine WL.x (u := undef) (w' := w.setRow b (splice cs i vs).toArray) hs hd (.inr ⟨rfl, ?_⟩) (k _ ⟨rfl, rfl, rfl, by simp, fun k _ hk => setRow_other w b k _ (by simpa using hk)⟩ (hb.splice vs))
  have h' : (storeCells ⟨b, i, none⟩ vs 0).run P w = .ok () (w.setRow b (splice cs i vs).toArray) := by rw [h]; simp [splice]
  simp [execOp, ho, hx, hy, go_sem, Instr.storeAt, Instr.sureAddr, storeVar, size_of hz, Value.cells, h']
/-- a struct written out -/
theorem V.build {t : TypeId} {ps : Array (Nat × Operand)} {vs : Array Value} (ho : o.op = .build t ps) (hb : P.built t (ps.map fun x => (x.1, ev E x.2)).toList = some vs) : OpV P o E w (.agg vs) := by
  have := run_build (P := P) w t (ps.map fun x => (x.1, ev E x.2)) vs hb
  simp only [OpV, execOp, ho]
  exact run_v this

/-- an element type's row of the table -/
def Elem (P : Program) (e : TypeId) (z : Value) (size bytes : Nat) : Prop := (P.info? e).map (fun i => (i.zero, i.size, i.bytes)) = some (some z, size, bytes)

/-- a slice literal: a new row -/
theorem WL.buildSlice {t e : TypeId} {len sz : Nat} {z : Value} {by' : Nat} {ps : Array (Nat × Operand)} {cs : List Value} (hs : Sure ops o E) (hd : dstOk n o.dst = true) (ho : o.op = .buildSlice t len ps) (ht : P.underlying t = some (.slice e)) (he : Elem P e z sz by')
    (hsm : len * sz ≤ 1024)
    (hf : Instr.fill (fun i => some (i * sz, sz)) ((Array.range (len * sz)).map ((if len * sz = 0 then #[] else z.cells)[· % (if len * sz = 0 then #[] else z.cells).size]!)) (ps.map fun x => (x.1, ev E x.2)).toList = some cs.toArray)
    (k : ∀ w', Ext [] w w' → Box w' w.heap.size e cs → WLr ro P n ops Q rest (updO E o.dst (.slice (some ⟨w.heap.size, 0, none⟩) len len)) w') : WLr ro P n ops Q (o :: rest) E w := by
  obtain ⟨i, hi, hz0, hz1, hz2⟩ := info_parts he
  subst hz1
  refine WL.x (u := .slice (some ⟨w.heap.size, 0, none⟩) len len) (w' := w.alloc (.cells cs.toArray e)) hs hd (.inl ?_) (k _ (Ext.alloc w _) (Blk.new w _))
  have hsize : (sizeOf e).run P w = .ok i.size w := size_of (by simp [Sized, hi])
  have hzero : (zeroValue e).run P w = .ok z w := zero_of (by simp [Zero, hi, hz0])
  have hbig : ¬ (len * i.size > 2 ^ 24) := by omega
  have hrow : ∀ c : Array Value, (newRow e c).run P w = .ok ⟨w.heap.size, 0, none⟩ (w.alloc (.cells c e)) := fun c => by simp [newRow, go_sem]
  have key : (Instr.buildSlice t len (ps.map fun x => (x.1, ev E x.2))).run P w = .ok (.slice (some ⟨w.heap.size, 0, none⟩) len len) (w.alloc (.cells cs.toArray e)) := by
    unfold Instr.buildSlice
    by_cases h0 : len * i.size = 0
    · simp only [if_pos h0] at hf
      simp only [Sem.run_bind, underlying, run_program, ht, Result.andThen_ok, Sem.run_pure, hsize, Sem.run_ite, if_neg hbig, if_pos h0, hf, hrow]
    · simp only [if_neg h0] at hf
      simp only [Sem.run_bind, underlying, run_program, ht, Result.andThen_ok, Sem.run_pure, hsize, hzero, Sem.run_ite, if_neg hbig, if_neg h0, hf, hrow]
  simp only [execOp, ho]
  exact run_v key

/-- append of a slice to one of the call's own -/
theorem WL.append {t e : TypeId} {z : Value} {sz by' B m nn c : Nat} {x y : Operand} {v : Value} {xs news : List Value} {a : Addr} (hs : Sure ops o E) (hd : dstOk n o.dst = true) (ho : o.op = .call ⟨.builtin .append, #[x, y], #[t, t]⟩)
    (ht : P.underlying t = some (.slice e)) (he : Elem P e z sz by') (hzs : z.cells.size = sz) (hsz : 0 < sz) (hx : ev E x = v) (hy : ev E y = .slice (some a) m c)
    (hown : w.ownsRow B e sz v nn xs) (hB : B ≤ w.heap.size) (hl : news.length = m * sz) (hnews : ∀ j u, news[j]? = some u → w.cell? (a.add j) = some u) (h1 : ∀ u ∈ news, u.oneCell' = true)
    (hbytes : (nn + m) * by' ≤ 140737488355328) (hlen : nn + m ≤ maxLen)
    (k : ∀ v' w', w'.ownsRow B e sz v' (nn + m) (xs ++ news) → w.grownBy w' v.ownBlock → WLr ro P n ops Q rest (updO E o.dst v') w') : WLr ro P n ops Q (o :: rest) E w := by
  obtain ⟨i, hi, hz0, hz1, hz2⟩ := info_parts he
  obtain ⟨v', w', hr, ho', hg, _⟩ := run_append_own (P := P) w B t o.type e i z sz by' ht hi hz0 hz1 hz2 hzs hsz v nn xs hown a m c news hl hnews h1 hlen hbytes hB
  refine WL.x (u := v') (w' := w') hs hd (.inl ?_) (k v' w' ho' hg)
  simp only [execOp, ho, resolve]
  have e : #[x, y].map (ev E) = #[v, .slice (some a) m c] := by simp [hx, hy]
  rw [e]
  exact run_v hr
end
end Go.Proofs.YtbbjonjhaoeidaaDoor.W
