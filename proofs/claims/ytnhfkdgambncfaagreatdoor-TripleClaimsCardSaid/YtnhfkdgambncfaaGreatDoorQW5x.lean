/- The rules of operations that make or write memory. Program-agnostic. -/
import Derived.Test.YtnhfkdgambncfaaGreatDoorQW1x
import Derived.Laws.AppendOwnNone
import Derived.WalkSpells
import Derived.ChangeKeysEq
set_option linter.unusedVariables false
set_option linter.unusedSimpArgs false
set_option linter.unusedSectionVars false
namespace Go.Proofs.YtnhfkdgambncfaaGreatDoor.W
open Go.RowKit

theorem Ext.alloc {X : List Nat} (w : World) (o : Obj) : Ext X w (w.alloc o) := Ext.push w o
theorem Ext.of_grown {X : List Nat} {w w' : World} {row : Option Nat} (h : w.grownBy w' row) (hr : ∀ k, row = some k → k ∈ X) : Ext X w w' :=
  ⟨h.os, h.tape, h.output, h.size, fun k hk hx => h.block k hk (fun e => hx (hr k e.symm))⟩
/-- What stood before B is as it was, where a row of one's own behind B was written. -/
theorem Ext.own {X : List Nat} {w0 w w' : World} {v : Value} (h : Ext X w0 w) (hg : w.grownBy w' v.ownBlock) (hv : ∀ k, v.ownBlock = some k → w0.heap.size ≤ k) : Ext X w0 w' :=
  ⟨hg.os.trans h.os, hg.tape.trans h.tape, hg.output.trans h.output, Nat.le_trans h.size hg.size,
    fun k hk hx => (hg.block k (Nat.lt_of_lt_of_le hk h.size) (fun e => by have := hv k e.symm; omega)).trans (h.block k hk hx)⟩
theorem ownsRow_block {w : World} {B : Nat} {e sz n : Nat} {v : Value} {xs : List Value} (h : w.ownsRow B e sz v n xs) : ∀ k, v.ownBlock = some k → B ≤ k := fun k hk => (h.lt k hk).1

section
variable {P : Program} {n : Fsz} {ro : Option Nat} {Q : K} {E : Env} {w : World} {ops : Array Oper} {o : Oper} {rest : List Oper}

theorem run_v {s : Sem Value} {v : Value} {w' : World} (h : s.run P w = .ok v w') : (do pure (Next.value (← s)) : Sem Next).run P w = .ok (.value v) w' := by
  simp only [Sem.run_bind, h, Result.andThen_ok, Sem.run_pure]
theorem run_u {s : Sem Unit} {w' : World} (h : s.run P w = .ok () w') : (do s; pure Next.skip : Sem Next).run P w = .ok .skip w' := by
  simp only [Sem.run_bind, h, Result.andThen_ok, Sem.run_pure]
theorem WL.box {t : TypeId} {x : Operand} {v : Value} {cs : List Value} (hs : Sure ops o E) (hd : dstOk n o.dst = true) (ho : o.op = .box t x) (hx : ev E x = v) (hc : v.cells = cs.toArray)
    (k : ∀ b w', Ext [] w w' → b = w.heap.size → Box w' b t cs → WLr ro P n ops Q rest (updO E o.dst (.pointer (some ⟨b, 0, none⟩))) w') : WLr ro P n ops Q (o :: rest) E w := by
  refine WL.x (u := .pointer (some ⟨w.heap.size, 0, none⟩)) (w' := w.alloc (.cells v.cells t)) hs hd (.inl ?_) (k _ _ (Ext.alloc w _) rfl ?_)
  · simp [execOp, ho, hx, go_sem, Instr.box, newVar, newRow]
  · rw [hc]; exact Blk.new w _
def Zero (P : Program) (t : TypeId) (v : Value) : Prop := (P.info? t).bind (·.zero) = some v
theorem zero_of {t : TypeId} {v : Value} (h : Zero P t v) : (zeroValue t).run P w = .ok v w := by
  unfold Zero at h
  cases hi : P.info? t with
  | none => rw [hi] at h; cases h
  | some i => rw [hi] at h; simp at h; simp [zeroValue, typeInfo, hi, go_sem, h]
theorem WL.alloc {t : TypeId} {v : Value} {cs : List Value} (hs : Sure ops o E) (hd : dstOk n o.dst = true) (ho : o.op = .alloc t) (hz : Zero P t v) (hc : v.cells = cs.toArray)
    (k : ∀ b w', Ext [] w w' → b = w.heap.size → Box w' b t cs → WLr ro P n ops Q rest (updO E o.dst (.pointer (some ⟨b, 0, none⟩))) w') : WLr ro P n ops Q (o :: rest) E w := by
  refine WL.x (u := .pointer (some ⟨w.heap.size, 0, none⟩)) (w' := w.alloc (.cells v.cells t)) hs hd (.inl ?_) (k _ _ (Ext.alloc w _) rfl ?_)
  · simp [execOp, ho, go_sem, Instr.alloc, zero_of hz, newVar, newRow]
  · rw [hc]; exact Blk.new w _
theorem run_store {b i : Nat} {t : TypeId} {cs : List Value} {v : Value} (hb : Box w b t cs) (hi : i < cs.length) (h1 : v.oneCell' = true) : (store ⟨b, i, none⟩ v).run P w = .ok () (w.setCell ⟨b, i, none⟩ v) := by
  have hc : w.cell? ⟨b, i, none⟩ = some cs[i] := hb.cell (List.getElem?_eq_getElem hi)
  have hf := hb.free i
  cases v <;> simp [Value.oneCell'] at h1 <;> simp [store, Sem.run, hc, hf]
/-- a store of one cell into a box -/
theorem WL.store {t t' : TypeId} {x y : Operand} {b i : Nat} {cs : List Value} {v : Value} (hs : Sure ops o E) (hd : dstOk n o.dst = true) (ho : o.op = .store t x y) (hz : Sized P t 1) (hx : ev E x = .pointer (some ⟨b, i, none⟩)) (hy : ev E y = v)
    (h1 : v.oneCell' = true) (hb : Box w b t' cs) (hi : i < cs.length) (k : ∀ w', Ext [b] w w' → Box w' b t' (cs.set i v) → WLr ro P n ops Q rest (updO E o.dst undef) w') : WLr ro P n ops Q (o :: rest) E w := by
  refine WL.x (u := undef) (w' := w.setCell ⟨b, i, none⟩ v) hs hd (.inr ⟨rfl, ?_⟩) (k _ (Ext.setCell w _ v (by simp)) (hb.set i v))
  have := run_store (P := P) hb hi h1
  have h2 : (storeVar t ⟨b, i, none⟩ v).run P w = .ok () (w.setCell ⟨b, i, none⟩ v) := by
    have hv : v.cells = #[v] := by cases v <;> first | rfl | simp [Value.oneCell'] at h1
    unfold storeVar
    rw [hv]
    simp [go_sem, size_of hz, storeCells, addr_add, this]
  simp only [execOp, ho, hx, hy]
  exact run_u h2
/-- cells in the midst of a row written anew -/
def splice (cs : List Value) (i : Nat) (vs : List Value) : List Value := cs.take i ++ vs ++ cs.drop (i + vs.length)
theorem Box.splice {b i : Nat} {t : TypeId} {cs : List Value} (vs : List Value) (hb : Box w b t cs) : Box (w.setRow b (W.splice cs i vs).toArray) b t (W.splice cs i vs) := setRow_heap w b _ _ t _ hb
/-- a store of a struct or an array, whole, into a box -/
theorem WL.storeAgg {t t' : TypeId} {x y : Operand} {b i sz : Nat} {cs vs : List Value} (hs : Sure ops o E) (hd : dstOk n o.dst = true) (ho : o.op = .store t x y) (hz : Sized P t sz) (hx : ev E x = .pointer (some ⟨b, i, none⟩)) (hy : ev E y = .agg vs.toArray)
    (hl : vs.length = sz) (h1 : ∀ u ∈ vs, u.oneCell' = true) (hb : Box w b t' cs) (hi : i + sz ≤ cs.length) (k : ∀ w', Ext [b] w w' → Box w' b t' (splice cs i vs) → WLr ro P n ops Q rest (updO E o.dst undef) w') : WLr ro P n ops Q (o :: rest) E w := by
  subst hl
  have h := run_storeCells_at P b i t' vs 0 cs.toArray w hb (by simpa using hi) h1
  simp only [Nat.add_zero] at h
  refine WL.x (u := undef) (w' := w.setRow b (splice cs i vs).toArray) hs hd (.inr ⟨rfl, ?_⟩) (k _ ⟨rfl, rfl, rfl, by simp, fun k _ hk => setRow_other w b k _ (by simpa using hk)⟩ (hb.splice vs))
  have h' : (storeCells ⟨b, i, none⟩ vs 0).run P w = .ok () (w.setRow b (splice cs i vs).toArray) := by rw [h]; simp [splice]
  simp [execOp, ho, hx, hy, go_sem, Instr.storeAt, Instr.sureAddr, storeVar, size_of hz, Value.cells, h']
/-- a struct written out -/
theorem V.build {t : TypeId} {ps : Array (Nat × Operand)} {vs : Array Value} (ho : o.op = .build t ps) (hb : P.built t (ps.map fun x => (x.1, ev E x.2)).toList = some vs) : OpV P o E w (.agg vs) := by
  have := run_build (P := P) w t (ps.map fun x => (x.1, ev E x.2)) vs hb
  simp only [OpV, execOp, ho]
  exact run_v this

/-- an element type's row of the table -/
def Elem (P : Program) (e : TypeId) (z : Value) (size bytes : Nat) : Prop := (P.info? e).map (fun i => (i.zero, i.size, i.bytes)) = some (some z, size, bytes)

/-- a slice literal: a new row -/
theorem WL.buildSlice {t e : TypeId} {len sz : Nat} {z : Value} {by' : Nat} {ps : Array (Nat × Operand)} {cs : List Value} (hs : Sure ops o E) (hd : dstOk n o.dst = true) (ho : o.op = .buildSlice t len ps) (ht : P.underlying t = some (.slice e)) (he : Elem P e z sz by')
    (hsm : len * sz ≤ 1024)
    (hf : Instr.fill (fun i => some (i * sz, sz)) ((Array.range (len * sz)).map ((if len * sz = 0 then #[] else z.cells)[· % (if len * sz = 0 then #[] else z.cells).size]!)) (ps.map fun x => (x.1, ev E x.2)).toList = some cs.toArray)
    (k : ∀ w', Ext [] w w' → Box w' w.heap.size e cs → WLr ro P n ops Q rest (updO E o.dst (.slice (some ⟨w.heap.size, 0, none⟩) len len)) w') : WLr ro P n ops Q (o :: rest) E w := by
  obtain ⟨i, hi, hz0, hz1, hz2⟩ := info_parts he
  subst hz1
  refine WL.x (u := .slice (some ⟨w.heap.size, 0, none⟩) len len) (w' := w.alloc (.cells cs.toArray e)) hs hd (.inl ?_) (k _ (Ext.alloc w _) (Blk.new w _))
  have hsize : (sizeOf e).run P w = .ok i.size w := size_of (by simp [Sized, hi])
  have hzero : (zeroValue e).run P w = .ok z w := zero_of (by simp [Zero, hi, hz0])
  have hbig : ¬ (len * i.size > 2 ^ 24) := by omega
  have hrow : ∀ c : Array Value, (newRow e c).run P w = .ok ⟨w.heap.size, 0, none⟩ (w.alloc (.cells c e)) := fun c => by simp [newRow, go_sem]
  have key : (Instr.buildSlice t len (ps.map fun x => (x.1, ev E x.2))).run P w = .ok (.slice (some ⟨w.heap.size, 0, none⟩) len len) (w.alloc (.cells cs.toArray e)) := by
    unfold Instr.buildSlice
    by_cases h0 : len * i.size = 0
    · simp only [if_pos h0] at hf
      simp only [Sem.run_bind, underlying, run_program, ht, Result.andThen_ok, Sem.run_pure, hsize, Sem.run_ite, if_neg hbig, if_pos h0, hf, hrow]
    · simp only [if_neg h0] at hf
      simp only [Sem.run_bind, underlying, run_program, ht, Result.andThen_ok, Sem.run_pure, hsize, hzero, Sem.run_ite, if_neg hbig, if_neg h0, hf, hrow]
  simp only [execOp, ho]
  exact run_v key

/-- append of a slice to one of the call's own -/
theorem WL.append {t e : TypeId} {z : Value} {sz by' B m nn c : Nat} {x y : Operand} {v : Value} {xs news : List Value} {a : Addr} (hs : Sure ops o E) (hd : dstOk n o.dst = true) (ho : o.op = .call ⟨.builtin .append, #[x, y], #[t, t]⟩)
    (ht : P.underlying t = some (.slice e)) (he : Elem P e z sz by') (hzs : z.cells.size = sz) (hsz : 0 < sz) (hx : ev E x = v) (hy : ev E y = .slice (some a) m c)
    (hown : w.ownsRow B e sz v nn xs) (hB : B ≤ w.heap.size) (hl : news.length = m * sz) (hnews : ∀ j u, news[j]? = some u → w.cell? (a.add j) = some u) (h1 : ∀ u ∈ news, u.oneCell' = true)
    (hbytes : (nn + m) * by' ≤ 140737488355328) (hlen : nn + m ≤ maxLen)
    (k : ∀ v' w', w'.ownsRow B e sz v' (nn + m) (xs ++ news) → w.grownBy w' v.ownBlock → WLr ro P n ops Q rest (updO E o.dst v') w') : WLr ro P n ops Q (o :: rest) E w := by
  obtain ⟨i, hi, hz0, hz1, hz2⟩ := info_parts he
  obtain ⟨v', w', hr, ho', hg, _⟩ := run_append_own (P := P) w B t o.type e i z sz by' ht hi hz0 hz1 hz2 hzs hsz v nn xs hown a m c news hl hnews h1 hlen hbytes hB
  refine WL.x (u := v') (w' := w') hs hd (.inl ?_) (k v' w' ho' hg)
  simp only [execOp, ho, resolve]
  have e : #[x, y].map (ev E) = #[v, .slice (some a) m c] := by simp [hx, hy]
  rw [e]
  exact run_v hr
end
end Go.Proofs.YtnhfkdgambncfaaGreatDoor.W
namespace Go.Proofs.YtnhfkdgambncfaaGreatDoor.W
open Go.RowKit

theorem WP.seq_cut {P : Program} {n : Fsz} {ro : Option Nat} {N R : Env → World → Prop} {X : Nat → Env → World → Prop} {E : Env} {w : World} {x y : Code} (J : Env → World → Prop) (h : WPr ro P n x ⟨J, X, R⟩ E w) (k : ∀ E w, J E w → WPr ro P n y ⟨N, X, R⟩ E w) : WPr ro P n (.seq x y) ⟨N, X, R⟩ E w :=
  WP.seq (WP.mono h k (fun _ _ _ h => h) (fun _ _ h => h))

section
variable {P : Program} {n : Fsz} {ro : Option Nat} {Q : K} {E : Env} {w : World} {ops : Array Oper} {o : Oper} {rest : List Oper}
theorem WL.vb {c : Bool} (hs : Sure ops o E) (hd : dstOk n o.dst = true) (h : OpV P o E w (.bool c)) (kt : c = true → WLr ro P n ops Q rest (updO E o.dst (.bool true)) w) (kf : c = false → WLr ro P n ops Q rest (updO E o.dst (.bool false)) w) : WLr ro P n ops Q (o :: rest) E w := by
  cases c
  · exact WL.v hs hd h (kf rfl)
  · exact WL.v hs hd h (kt rfl)
end
section
variable {P : Program} {n : Fsz} {E : Env} {w : World} {ops : Array Oper} {o : Oper} {rest : List Oper} {Q : Env → World → Prop}
theorem WQ.vb {c : Bool} (hs : Sure ops o E) (hd : dstOk n o.dst = true) (h : ∀ w', Ext [] w w' → OpV P o E w' (.bool c)) (kt : c = true → WQ P n ops w Q rest (updO E o.dst (.bool true))) (kf : c = false → WQ P n ops w Q rest (updO E o.dst (.bool false))) : WQ P n ops w Q (o :: rest) E := by
  cases c
  · exact WQ.v hs hd h (kf rfl)
  · exact WQ.v hs hd h (kt rfl)
end
section
variable {P : Program} {o : Oper} {E : Env} {w : World} {f : FuncId} {tys : Array TypeId}
theorem C.call0 (ho : o.op = .call ⟨.value (.func f), #[], tys⟩) (hf : Callable P f) : OpC P o E w f #[] := C.call ho (by simp) hf
theorem C.call1 {x : Operand} {a : Value} (ho : o.op = .call ⟨.value (.func f), #[x], tys⟩) (hf : Callable P f) (h1 : ev E x = a) : OpC P o E w f #[a] := C.call ho (by simp [h1]) hf
theorem C.call2 {x y : Operand} {a b : Value} (ho : o.op = .call ⟨.value (.func f), #[x, y], tys⟩) (hf : Callable P f) (h1 : ev E x = a) (h2 : ev E y = b) : OpC P o E w f #[a, b] := C.call ho (by simp [h1, h2]) hf
theorem C.call3 {x y z : Operand} {a b c : Value} (ho : o.op = .call ⟨.value (.func f), #[x, y, z], tys⟩) (hf : Callable P f) (h1 : ev E x = a) (h2 : ev E y = b) (h3 : ev E z = c) : OpC P o E w f #[a, b, c] := C.call ho (by simp [h1, h2, h3]) hf
theorem C.call4 {x y z u : Operand} {a b c d : Value} (ho : o.op = .call ⟨.value (.func f), #[x, y, z, u], tys⟩) (hf : Callable P f) (h1 : ev E x = a) (h2 : ev E y = b) (h3 : ev E z = c) (h4 : ev E u = d) : OpC P o E w f #[a, b, c, d] := C.call ho (by simp [h1, h2, h3, h4]) hf
/-- a call of a function value -/
theorem C.callv1 {g x : Operand} {cap : Array Value} {a : Value} {args : Array Value} (ho : o.op = .call ⟨.value g, #[x], tys⟩) (hg : ev E g = .func (.func f) #[] cap) (hn : ∀ f', g ≠ .func f') (hf : Callable P f) (h1 : ev E x = a) (ha : #[a] ++ cap = args) : OpC P o E w f args := by
  subst ha
  obtain ⟨fn, hfn, hname, hb⟩ := hf
  have hn' : ¬ fn.name = "runtime.NumGoroutine" := by simpa using hname
  have hb' : ¬ fn.body = none := by intro e; rw [e] at hb; cases hb
  cases g with
  | func f' => exact absurd rfl (hn f')
  | _ => simp [OpC, execOp, ho, go_sem, hg, callFunc, hfn, hn', hb', h1]
end

theorem At.seg {w : World} {b : Nat} {t : TypeId} {cs : List Value} (h : Box w b t cs) (k m : Nat) : At w b k ((cs.drop k).take m) := by
  intro j v hj
  refine h.cell ?_
  rw [List.getElem?_take] at hj
  split at hj
  · rw [List.getElem?_drop] at hj; exact hj
  · cases hj
theorem At.box {w : World} {b : Nat} {t : TypeId} {cs : List Value} (h : Box w b t cs) : At w b 0 cs := fun j v hj => by rw [Nat.zero_add]; exact h.cell hj
/-- one's own boxes are nothing that was there -/
theorem Ext.done {X : List Nat} {a c : World} (h : Ext X a c) (hX : ∀ x ∈ X, a.heap.size ≤ x) : Ext [] a c :=
  ⟨h.os, h.tape, h.output, h.size, fun i hi _ => h.block i hi fun hx => by have := hX i hx; omega⟩
theorem run_loadVar_agg {P : Program} {w : World} {t sz b k : Nat} {cs : List Value} (ht : Aggr P t sz) (hv : At w b k cs) (hl : cs.length = sz) : (loadVar t ⟨b, k, none⟩).run P w = .ok (.agg cs.toArray) w := by
  subst hl
  have h := load_cells (P := P) (w := w) (b := b) (k := k) cs 0 #[] (fun j v hj => by rw [show k + (0 + j) = k + j from by omega]; exact hv j v hj)
  simp [loadVar, go_sem, is_agg_yes ht, size_of ht.2, loadCells, h]
theorem run_loadVar_one {P : Program} {w : World} {t : Nat} {a : Addr} {v : Value} (ht : Plain P t) (hv : w.cell? a = some v) : (loadVar t a).run P w = .ok v w := by
  simp [loadVar, go_sem, is_agg_no ht, hv]
/-- what a result's variable holds -/
def ResVal (P : Program) (E : Env) (w : World) (r : ResultVar) (v : Value) : Prop := match r with
  | .tmp t => E t = v
  | .cell a t => ∃ b k, E a = .pointer (some ⟨b, k, none⟩) ∧ (loadVar t ⟨b, k, none⟩).run P w = .ok v w
def readVar (tmps : Array Value) : ResultVar → Sem Value
  | .tmp t => pure (tmps.getD t undef)
  | .cell a t => do loadVar t (← asAddr (tmps.getD a undef))
theorem results_eq (fn : Func) (tmps : Array Value) : results fn tmps = (do let vs ← fn.results.mapM (readVar tmps); pure (if h : vs.size = 1 then vs[0] else .tuple vs)) := rfl
theorem ResVal.run {P : Program} {E : Env} {w : World} {r : ResultVar} {v : Value} (h : ResVal P E w r v) (tmps : Array Value) (he : (fun t => tmps.getD t undef) = E) :
    (readVar tmps r).run P w = .ok v w := by
  subst he
  cases r with
  | tmp t => simp only [ResVal] at h; simp only [readVar, h]; rfl
  | cell a t =>
    obtain ⟨b, k, h1, h2⟩ := h
    simp only [readVar, h1, asAddr, Sem.run_bind, Sem.run_pure, Result.andThen_ok, h2]
theorem resOf.c1 {fn : Func} {P : Program} {E : Env} {w : World} {R : Value → World → Prop} {r : ResultVar} {v : Value}
    (hr : fn.results = #[r]) (hv : ResVal P E w r v) (hR : R v w) : resOf fn P E w R := by
  intro tmps _ he
  refine ⟨v, ?_, hR⟩
  have h1 := hv.run tmps he
  rw [results_eq, hr]
  simp only [List.mapM_toArray, List.mapM_cons, List.mapM_nil, Sem.run_bind, Sem.run_pure, Sem.run_map, Result.andThen_ok, h1]
  rfl
theorem resOf.c2 {fn : Func} {P : Program} {E : Env} {w : World} {R : Value → World → Prop} {r r' : ResultVar} {v v' : Value}
    (hr : fn.results = #[r, r']) (hv : ResVal P E w r v) (hv' : ResVal P E w r' v') (hR : R (.tuple #[v, v']) w) : resOf fn P E w R := by
  intro tmps _ he
  refine ⟨_, ?_, hR⟩
  have h1 := hv.run tmps he
  have h2 := hv'.run tmps he
  rw [results_eq, hr]
  simp only [List.mapM_toArray, List.mapM_cons, List.mapM_nil, Sem.run_bind, Sem.run_pure, Sem.run_map, Result.andThen_ok, h1, h2]
  rfl
theorem resOf.c3 {fn : Func} {P : Program} {E : Env} {w : World} {R : Value → World → Prop} {r r' r'' : ResultVar} {v v' v'' : Value}
    (hr : fn.results = #[r, r', r'']) (hv : ResVal P E w r v) (hv' : ResVal P E w r' v') (hv'' : ResVal P E w r'' v'') (hR : R (.tuple #[v, v', v'']) w) : resOf fn P E w R := by
  intro tmps _ he
  refine ⟨_, ?_, hR⟩
  have h1 := hv.run tmps he
  have h2 := hv'.run tmps he
  have h3 := hv''.run tmps he
  rw [results_eq, hr]
  simp only [List.mapM_toArray, List.mapM_cons, List.mapM_nil, Sem.run_bind, Sem.run_pure, Sem.run_map, Result.andThen_ok, h1, h2, h3]
  rfl
theorem Ext.pre {O X : List Nat} {a b : World} (h : Ext O a b) : Ext (O ++ X) a b := h.mono fun k hk => List.mem_append.2 (.inl hk)
theorem Ext.cons {O : List Nat} {a b : World} {c : Nat} (h : Ext O a b) : Ext (c :: O) a b := h.mono fun k hk => List.mem_cons_of_mem _ hk
theorem Ext.drop {O : List Nat} {a c : World} {b : Nat} (h : Ext (b :: O) a c) (hb : a.heap.size ≤ b) : Ext O a c :=
  ⟨h.os, h.tape, h.output, h.size, fun i hi hx => h.block i hi fun hm => by
    rcases List.mem_cons.1 hm with e | hm
    · omega
    · exact hx hm⟩
/-- all numbers below n are so -/
def allB (n : Nat) (p : Nat → Bool) : Bool := (List.range n).all p
theorem allB_true {n k : Nat} {p : Nat → Bool} (h : ∀ j, j < k → p j = true) (hk : n ≤ k) : allB n p = true := by
  simp only [allB, List.all_eq_true, List.mem_range]
  exact fun j hj => h j (by omega)
theorem allB_false {n k : Nat} {p : Nat → Bool} (hk : k < n) (h : p k = false) : allB n p = false := by
  simp only [allB, List.all_eq_false, List.mem_range]
  exact ⟨k, hk, by simp [h]⟩
theorem allB_iff {n : Nat} {p : Nat → Bool} : allB n p = true ↔ ∀ j, j < n → p j = true := by simp [allB]
theorem all_zero (p : Nat → Bool) : ∀ j, j < 0 → p j = true := fun _ h => by omega
theorem all_step {k : Nat} {p : Nat → Bool} (h : ∀ j, j < k → p j = true) (hk : p k = true) : ∀ j, j < k + 1 → p j = true := fun j hj => by
  rcases Nat.lt_or_ge j k with hlt | hge
  · exact h j hlt
  · obtain rfl : j = k := by omega
    exact hk
theorem bnot_true {b : Bool} (h : (!b) = true) : b = false := by cases b <;> simp_all
theorem bnot_false {b : Bool} (h : (!b) = false) : b = true := by cases b <;> simp_all
def structFields (P : Program) (t : TypeId) : Array Field := match P.underlying t with | some (.struct fs) => fs | _ => #[]
def fieldAt (P : Program) (t i : Nat) : Field := (structFields P t).getD i default
theorem getD_some {α : Type} {xs : List α} {i : Nat} (h : i < xs.length) (d : α) : xs[i]? = some (xs.getD i d) := by
  rw [List.getD_eq_getElem?_getD, List.getElem?_eq_getElem h]; rfl
theorem Sl.le' {α : Type} {R : Rep α} {X : List Nat} {w : World} {v : Value} {xs : List α} (h : Sl R X w v xs) : xs.length ≤ 9223372036854775807 := by have := h.le; simpa [maxLen] using this
theorem int_eq {k : IntKind} {a b : Int} (h : a = b) : Value.int k a = Value.int k b := by rw [h]
theorem bool_eq {a b : Bool} (h : a = b) : Value.bool a = Value.bool b := by rw [h]
theorem str_eq {a b : ByteArray} (h : a = b) : Value.string a = Value.string b := by rw [h]
theorem tup2 {a b c d : Value} (h : a = b) (k : c = d) : Value.tuple #[a, c] = Value.tuple #[b, d] := by rw [h, k]
theorem tup3 {a b c d e f : Value} (h : a = b) (k : c = d) (l : e = f) : Value.tuple #[a, c, e] = Value.tuple #[b, d, f] := by rw [h, k, l]
theorem V.max {P : Program} {o : Oper} {E : Env} {w : World} {tys : Array TypeId} {x y : Operand} {k k' : IntKind} {a b : Int} {t : Nat} (ho : o.op = .call ⟨.builtin .max, #[x, y], tys⟩) (ht : tys[0]? = some t) (hu : P.underlying t = some (.int k')) (hx : ev E x = .int k a) (hy : ev E y = .int k b) : OpV P o E w (.int k (Max.max a b)) := by
  have e : #[x, y].map (ev E) = #[.int k a, .int k b] := by simp [hx, hy]
  have e2 : (if b > a then b else a) = Max.max a b := by split <;> omega
  have h : (Builtin.max_ tys o.type #[.int k a, .int k b]).run P w = .ok (.int k (Max.max a b)) w := by
    rw [← e2]; simp only [Builtin.max_]; rfl
  simp only [OpV, execOp, ho, resolve]
  rw [e]
  exact run_v h
theorem V.min {P : Program} {o : Oper} {E : Env} {w : World} {tys : Array TypeId} {x y : Operand} {k k' : IntKind} {a b : Int} {t : Nat} (ho : o.op = .call ⟨.builtin .min, #[x, y], tys⟩) (ht : tys[0]? = some t) (hu : P.underlying t = some (.int k')) (hx : ev E x = .int k a) (hy : ev E y = .int k b) : OpV P o E w (.int k (Min.min a b)) := by
  have e : #[x, y].map (ev E) = #[.int k a, .int k b] := by simp [hx, hy]
  have e2 : (if b < a then b else a) = Min.min a b := by split <;> omega
  have h : (Builtin.min_ tys o.type #[.int k a, .int k b]).run P w = .ok (.int k (Min.min a b)) w := by
    rw [← e2]; simp only [Builtin.min_]; rfl
  simp only [OpV, execOp, ho, resolve]
  rw [e]
  exact run_v h
theorem wrap_u64 {n : Int} (h1 : 0 ≤ n) (h2 : n ≤ 18446744073709551615) : IntKind.u64.wrap n = n := by
  simp [IntKind.wrap, IntKind.signed, IntKind.bits]; omega
theorem wrap_u8 {n : Int} (h1 : 0 ≤ n) (h2 : n ≤ 255) : IntKind.u8.wrap n = n := by
  simp [IntKind.wrap, IntKind.signed, IntKind.bits]; omega
theorem inNil {w : World} : ∀ x ∈ ([] : List Nat), x < w.heap.size := by simp
theorem inCons {w : World} {b : Nat} {X : List Nat} (h : b < w.heap.size) (k : ∀ x ∈ X, x < w.heap.size) : ∀ x ∈ b :: X, x < w.heap.size := by
  intro x hx; rcases List.mem_cons.1 hx with rfl | hx
  · exact h
  · exact k x hx
theorem geNil {B : Nat} : ∀ x ∈ ([] : List Nat), B ≤ x := by simp
theorem geCons {B b : Nat} {X : List Nat} (h : B ≤ b) (k : ∀ x ∈ X, B ≤ x) : ∀ x ∈ b :: X, B ≤ x := by
  intro x hx; rcases List.mem_cons.1 hx with rfl | hx
  · exact h
  · exact k x hx
end Go.Proofs.YtnhfkdgambncfaaGreatDoor.W
namespace Go.Proofs.YtnhfkdgambncfaaGreatDoor.W
open Go.RowKit

def StepW (P : Program) (o : Oper) (E : Env) (w : World) (Kp : Value → World → Prop) : Prop :=
  (∃ v w', OpX P o E w v w' ∧ Kp v w') ∨ (∃ f args, OpC P o E w f args ∧ Fnc P f args w Kp)
def dstAt (l : List Oper) (i : Nat) : Option Nat := (l[i]?).bind Oper.dst
/-- What operation i leaves behind in its slot. -/
def holdsF (l : List Oper) (F : Nat → Value → World → Prop) (i : Nat) (E : Env) (w : World) : Prop :=
  match dstAt l i with
  | some d => F i (E d) w
  | none => ∃ u, F i u w
/-- Must i come before j? -/
def isPred (l : List Oper) (i j : Nat) : Prop := ∃ o, l[j]? = some o ∧ ∃ e ∈ o.after.toList, Region.binds .any e = true ∧ e.on = i
structure AnyOk (P : Program) (n : Fsz) (l : List Oper) (E : Env) (I : World → Prop) (F : Nat → Value → World → Prop) : Prop where
  dst : ∀ (i : Nat) (o : Oper), l[i]? = some o → dstOk n o.dst = true
  apart : ∀ (i j d : Nat), dstAt l i = some d → dstAt l j = some d → i = j
  back : ∀ (i : Nat) (o : Oper), l[i]? = some o → ∀ e ∈ o.after.toList, Region.binds .any e = true → e.on < i
  step : ∀ (i : Nat) (o : Oper), l[i]? = some o → ∀ E' w', I w' → (∀ t, (∀ j, dstAt l j = some t → j = i ∨ isPred l i j) → E' t = E t) →
    (∀ e ∈ o.after.toList, Region.binds .any e = true → holdsF l F e.on E' w') →
    (Shut l.toArray o E' ∧ F i undef w') ∨ (Sure l.toArray o E' ∧ StepW P o E' w' fun v w'' => I w'' ∧ F i v w'' ∧ ∀ j u, j ≠ i → F j u w' → F j u w'')

def unl (n : Nat) (listed : Array Bool) : List Nat := (List.range n).filter fun i => !listed.getD i true
theorem unl_set {n i : Nat} {listed : Array Bool} (hs : listed.size = n) (hi : i < n) (hl : listed.getD i true = false) : (unl n (listed.setIfInBounds i true)).length + 1 ≤ (unl n listed).length := by
  have e : unl n (listed.setIfInBounds i true) = (unl n listed).filter (fun k => decide (k ≠ i)) := by
    unfold unl
    rw [List.filter_filter]
    apply List.filter_congr
    intro k hk
    have hk' : k < n := List.mem_range.1 hk
    simp only [Array.getD_eq_getD_getElem?, Array.getElem?_setIfInBounds]
    by_cases h : i = k
    · subst h; simp [hs, hi]
    · rw [if_neg h]; have : k ≠ i := fun e => h e.symm; simp [this]
  rw [e]
  exact List.length_filter_lt_length_iff_exists.2 ⟨i, by simp only [unl, List.mem_filter, List.mem_range, hl]; exact ⟨hi, rfl⟩, by simp⟩
theorem getD_set {i j : Nat} {listed : Array Bool} {d : Bool} : (listed.setIfInBounds i true).getD j d = if i = j ∧ j < listed.size then true else listed.getD j d := by
  simp only [Array.getD_eq_getD_getElem?, Array.getElem?_setIfInBounds]
  by_cases h : i = j
  · subst h
    by_cases hb : i < listed.size
    · simp [hb]
    · simp [hb, Array.getElem?_eq_none (Nat.le_of_not_lt hb)]
  · simp [h]

structure AnyInv (n : Fsz) (l : List Oper) (E : Env) (I : World → Prop) (F : Nat → Value → World → Prop) (listed : Array Bool) (a : Act) (w : World) : Prop where
  size : listed.size = l.length
  ok : Ok n a
  inv : I w
  closed : ∀ k o, l[k]? = some o → listed.getD k true = true → ∀ e ∈ o.after.toList, Region.binds .any e = true → listed.getD e.on true = true
  base : ∀ t, (∀ j, dstAt l j = some t → listed.getD j true = false) → envOf a t = E t
  facts : ∀ k, k < l.length → listed.getD k true = true → holdsF l F k (envOf a) w

theorem mem_ready {ops : Array Oper} {listed : Array Bool} {i : Nat} : i ∈ Region.ready .any ops listed ↔ i < ops.size ∧ listed.getD i true = false ∧ ∃ o, ops[i]? = some o ∧ ∀ e ∈ o.after.toList, Region.binds .any e = true → listed.getD e.on false = true := by
  unfold Region.ready
  simp only [List.mem_filter, List.mem_range, Bool.and_eq_true, Bool.not_eq_true']
  constructor
  · rintro ⟨h1, h2, h3⟩
    refine ⟨h1, h2, ?_⟩
    cases ho : ops[i]? with
    | none => rw [ho] at h3; cases h3
    | some o =>
      rw [ho] at h3
      refine ⟨o, rfl, fun e he hb => ?_⟩
      simp only [Option.map_some, Option.getD_some, Array.all_eq_true', Bool.or_eq_true, Bool.not_eq_true'] at h3
      rcases h3 e (Array.mem_toList_iff.1 he) with h | h
      · rw [hb] at h; cases h
      · exact h
  · rintro ⟨h1, h2, o, ho, h3⟩
    refine ⟨h1, h2, ?_⟩
    rw [ho]
    simp only [Option.map_some, Option.getD_some, Array.all_eq_true', Bool.or_eq_true, Bool.not_eq_true']
    intro e he
    cases hb : Region.binds .any e with
    | false => exact .inl rfl
    | true => exact .inr (h3 e (Array.mem_toList_iff.2 he) hb)

theorem all_listed {n : Fsz} {l : List Oper} {E : Env} {P : Program} {I : World → Prop} {F : Nat → Value → World → Prop} (H : AnyOk P n l E I F) {listed : Array Bool} {a : Act} {w : World} (V : AnyInv n l E I F listed a w)
    (h : Region.ready .any l.toArray listed = []) : ∀ k, k < l.length → listed.getD k true = true := by
  intro k
  induction k using Nat.strongRecOn with
  | _ k ih =>
    intro hk
    cases hl : listed.getD k true with
    | true => rfl
    | false =>
      have ho : l[k]? = some l[k] := List.getElem?_eq_getElem hk
      have : k ∈ Region.ready .any l.toArray listed := mem_ready.2 ⟨by simpa using hk, hl, l[k], by simp [ho], fun e he hb => by
        have hlt := H.back k _ ho e he hb
        have := ih e.on hlt (by omega)
        have hsz : e.on < listed.size := by rw [V.size]; omega
        rw [Array.getD_eq_getD_getElem?, Array.getElem?_eq_getElem hsz] at this ⊢
        exact this⟩
      rw [h] at this; cases this

theorem wpAny_of {P : Program} {n : Fsz} {l : List Oper} {E : Env} {I : World → Prop} {F : Nat → Value → World → Prop} {N R : Env → World → Prop} {X : Nat → Env → World → Prop} (H : AnyOk P n l E I F)
    (fin : ∀ E' w', I w' → (∀ t, (∀ j, dstAt l j ≠ some t) → E' t = E t) → (∀ i, i < l.length → holdsF l F i E' w') → N E' w') :
    ∀ (fuel : Nat) (listed : Array Bool) (a : Act) (w : World), AnyInv n l E I F listed a w → (unl l.length listed).length ≤ fuel → wpAny P .any l.toArray (lift n ⟨N, X, R⟩) fuel listed a w := by
  have done : ∀ listed a w, AnyInv n l E I F listed a w → Region.ready .any l.toArray listed = [] → lift n ⟨N, X, R⟩ .normal a w := by
    intro listed a w V h
    have hall := all_listed H V h
    exact ⟨V.ok, fin _ _ V.inv (fun t ht => V.base t fun j hj => absurd hj (ht j)) fun i hi => V.facts i hi (hall i hi)⟩
  intro fuel
  induction fuel with
  | zero =>
    intro listed a w V hu
    have hnil : Region.ready .any l.toArray listed = [] := by
      rw [List.eq_nil_iff_forall_not_mem]
      intro i hi
      obtain ⟨h1, h2, _⟩ := mem_ready.1 hi
      have : i ∈ unl l.length listed := by simp only [unl, List.mem_filter, List.mem_range, h2]; exact ⟨by simpa using h1, rfl⟩
      rw [List.eq_nil_of_length_eq_zero (by omega : (unl l.length listed).length = 0)] at this
      cases this
    exact ⟨hnil, done _ _ _ V hnil⟩
  | succ fuel ih =>
    intro listed a w V hu
    refine ⟨done _ _ _ V, fun i hi => ?_⟩
    obtain ⟨h1, h2, o, ho, h3⟩ := mem_ready.1 hi
    have h1' : i < l.length := by simpa using h1
    have ho' : l[i]? = some o := by simpa using ho
    have hpre : ∀ e ∈ o.after.toList, Region.binds .any e = true → e.on < l.length ∧ listed.getD e.on true = true := by
      intro e he hb
      have hlt := H.back i o ho' e he hb
      have := h3 e he hb
      have hsz : e.on < listed.size := by rw [V.size]; omega
      rw [Array.getD_eq_getD_getElem?, Array.getElem?_eq_getElem hsz] at this
      exact ⟨by omega, by rw [Array.getD_eq_getD_getElem?, Array.getElem?_eq_getElem hsz]; exact this⟩
    have hstep := H.step i o ho' (envOf a) w V.inv
      (fun t ht => V.base t fun j hj => by
        rcases ht j hj with rfl | ⟨oj, hoj, e, he, hb, rfl⟩
        · exact h2
        · cases hl : listed.getD j true with
          | false => rfl
          | true => have := V.closed j oj hoj hl e he hb; rw [h2] at this; cases this)
      (fun e he hb => V.facts e.on (hpre e he hb).1 (hpre e he hb).2)
    have hcount : (unl l.length (listed.setIfInBounds i true)).length ≤ fuel := by
      have := unl_set (listed := listed) V.size h1' h2; omega
    -- the state behind the operation
    have next : ∀ v w', I w' → F i v w' → (∀ j u, j ≠ i → F j u w → F j u w') → AnyInv n l E I F (listed.setIfInBounds i true) (a.put o.dst v) w' := by
      intro v w' hI hF hkeep
      have henv : envOf (a.put o.dst v) = updO (envOf a) o.dst v := envOf_put V.ok o.dst (H.dst i o ho') v
      have hdi : dstAt l i = o.dst := by simp [dstAt, ho']
      refine ⟨by simpa using V.size, V.ok.put _ _, hI, ?_, ?_, ?_⟩
      · intro k ok hok hl e he hb
        rw [getD_set] at hl ⊢
        split
        · rfl
        · split at hl
          · rename_i hik; obtain ⟨rfl, _⟩ := hik
            rw [ho'] at hok; cases hok
            exact (hpre e he hb).2
          · exact V.closed k ok hok hl e he hb
      · intro t ht
        rw [henv]
        have hti : o.dst ≠ some t := by
          intro e
          have := ht i (by rw [hdi]; exact e)
          rw [getD_set, if_pos ⟨rfl, by rw [V.size]; exact h1'⟩] at this; cases this
        have : updO (envOf a) o.dst v t = envOf a t := by
          cases hd : o.dst with
          | none => rfl
          | some d => exact upd_ne _ _ _ _ (fun e => hti (by rw [hd, e]))
        rw [this]
        refine V.base t fun j hj => ?_
        have := ht j hj
        rw [getD_set] at this
        split at this
        · cases this
        · exact this
      · intro k hk hl
        rw [getD_set] at hl
        by_cases hki : k = i
        · subst hki
          unfold holdsF
          rw [hdi]
          cases hd : o.dst with
          | none => exact ⟨v, hF⟩
          | some d =>
            simp only
            rw [hd] at henv
            rw [henv, updO, upd_same]; exact hF
        · rw [if_neg (fun h => hki h.1.symm)] at hl
          have hf := V.facts k hk hl
          unfold holdsF at hf ⊢
          cases hdk : dstAt l k with
          | none => rw [hdk] at hf; obtain ⟨u, hf⟩ := hf; exact ⟨u, hkeep k _ hki hf⟩
          | some d =>
            rw [hdk] at hf
            simp only at hf ⊢
            have : envOf (a.put o.dst v) d = envOf a d := by
              rw [henv]
              cases hd : o.dst with
              | none => rfl
              | some d' => exact upd_ne _ _ _ _ (fun e => hki (H.apart k i d hdk (by rw [hdi, hd, e])))
            rw [this]
            exact hkeep k _ hki hf
    unfold wpOp
    simp only [ho]
    rcases hstep with ⟨hs, hF⟩ | ⟨hs, hx | ⟨f, args, hc, hf⟩⟩
    · rw [if_neg (by rw [hs a.tmps rfl]; simp)]
      exact ih _ _ _ (next undef w V.inv hF (fun _ _ _ h => h)) hcount
    · rw [if_pos (hs a.tmps rfl)]
      left
      obtain ⟨v, w', hx, hI, hF, hk⟩ := hx
      unfold Oper.wp
      rw [eval_envOf]
      rcases hx with hx | ⟨rfl, hx⟩ <;> rw [hx] <;> exact ih _ _ _ (next _ w' hI hF hk) hcount
    · rw [if_pos (hs a.tmps rfl)]
      left
      unfold Oper.wp
      rw [eval_envOf, hc]
      refine Calls.mono hf ?_
      rintro e w' ⟨v, rfl, hI, hF, hk⟩
      exact ih _ _ _ (next v w' hI hF hk) hcount

/-- a region that draws its order -/
theorem WP.any {P : Program} {n : Fsz} {id : Nat} {l : List Oper} {E : Env} {w : World} {N R : Env → World → Prop} {X : Nat → Env → World → Prop} (I : World → Prop) (F : Nat → Value → World → Prop) (hm : P.follows .mixedOrders = true)
    (hI : ∀ d, I { w with drawn := d }) (H : AnyOk P n l E I F)
    (fin : ∀ E' w', I w' → (∀ t, (∀ j, dstAt l j ≠ some t) → E' t = E t) → (∀ i, i < l.length → holdsF l F i E' w') → N E' w') : WP P n (.region id l.toArray true) ⟨N, X, R⟩ E w := by
  intro a ha he
  subst he
  refine wpIn_wide.2 (wp_region_any hm ?_)
  refine wpAny_of H fin _ _ _ _ ⟨by simp, ha, hI _, ?_, fun _ _ => rfl, ?_⟩ ?_
  · intro k o ho hl
    rw [Array.getD_eq_getD_getElem?] at hl
    have hk : k < l.length := by
      rcases Nat.lt_or_ge k l.length with h | h
      · exact h
      · rw [List.getElem?_eq_none h] at ho; cases ho
    simp [hk] at hl
  · intro k hk hl
    rw [Array.getD_eq_getD_getElem?] at hl
    simp [hk] at hl
  · have := List.length_filter_le (fun i => !(Array.replicate l.toArray.size false).getD i true) (List.range l.length)
    simpa [unl] using this
end Go.Proofs.YtnhfkdgambncfaaGreatDoor.W
namespace Go.Proofs.YtnhfkdgambncfaaGreatDoor.W
open Go.RowKit

/-- two texts are the same -/
def seqB (a b : ByteArray) : Bool := a.toList == b.toList
theorem b_true_eq (b : Bool) : (true = b) = (b = true) := by cases b <;> simp
theorem b_false_eq (b : Bool) : (false = b) = (b = false) := by cases b <;> simp
theorem castSl {α : Type} {R : Rep α} {X : List Nat} {w : World} {v : Value} {xs ys : List α} (e : xs = ys) (h : Sl R X w v xs) : Sl R X w v ys := e ▸ h
theorem Sl.base {α : Type} {R : Rep α} {O X : List Nat} {w : World} {v : Value} {xs : List α} (h : Sl R (O ++ X) w v xs) : Sl R X w v xs := h.mono fun _ hk => List.mem_append.2 (.inr hk)
theorem inMono {a b : World} {X : List Nat} (h : ∀ x ∈ X, x < a.heap.size) (k : a.heap.size ≤ b.heap.size) : ∀ x ∈ X, x < b.heap.size := fun x hx => Nat.lt_of_lt_of_le (h x hx) k

section
variable {α : Type} {R : Rep α} {e B : Nat} {X Y : List Nat} {w w' : World} {v : Value} {xs : List α}
theorem Owns.keep (h : Owns R e B X w v xs) (k : Ext Y w w') (hY : ∀ g, v.ownBlock = some g → g ∉ Y) (hYX : ∀ b ∈ Y, b ∈ X) : Owns R e B X w' v xs := by
  obtain ⟨cells, ⟨h0, h1⟩, h2, h3⟩ := h
  refine ⟨cells, ⟨h0, ?_⟩, fun i x hx => R.ext (h2 i x hx) (k.mono fun b hb => avoid_mem (hYX b hb)), h3⟩
  rcases h1 with h1 | ⟨g, cap, cur, hv, hB, hg, hr⟩
  · exact .inl h1
  · refine .inr ⟨g, cap, cur, hv, hB, ?_, hr⟩
    subst hv
    rw [k.block g (Blk.lt hg) (hY g rfl)]; exact hg
theorem Owns.new {b : Nat} (h : Owns R e B X w v xs) (k : w.heap.size ≤ b) : Owns R e B (b :: X) w v xs := by
  obtain ⟨cells, h1, h2, h3⟩ := h
  refine ⟨cells, h1, fun i x hx => R.mono (R.new (h2 i x hx) k) ?_, h3⟩
  intro c hc
  unfold avoid at *
  cases ho : v.ownBlock with
  | none => rw [ho] at hc; exact hc
  | some g =>
    rw [ho] at hc
    simp only [List.mem_cons] at hc ⊢
    rcases hc with h | h | h
    · exact .inr (.inl h)
    · exact .inl h
    · exact .inr (.inr h)
theorem Owns.lt (h : Owns R e B X w v xs) : ∀ g, v.ownBlock = some g → B ≤ g ∧ g < w.heap.size := by
  obtain ⟨cells, h1, _⟩ := h
  exact h1.lt
theorem Owns.castE {ys : List α} (e' : xs = ys) (h : Owns R e B X w v xs) : Owns R e B X w v ys := e' ▸ h
end

theorem At.cells {w : World} {b k : Nat} {cs : List Value} (h : At w b k cs) : ∀ j u, cs[j]? = some u → w.cell? ((⟨b, k, none⟩ : Addr).add j) = some u := fun j u hj => by rw [addr_add]; exact h j u hj

/-- all cells of a slice that reads as a list -/
theorem Sl.row {α : Type} {R : Rep α} {X : List Nat} {w : World} {b k c n : Nat} {xs : List α} (h : ∀ i x, xs[i]? = some x → b ∉ X ∧ ∃ cs, R.rd X w cs x ∧ At w b (k + i * R.sz) cs) (hn : xs.length = n) :
    ∃ cells : List Value, cells.length = n * R.sz ∧ At w b k cells ∧ (∀ u ∈ cells, u.oneCell' = true) ∧ ∀ i x, xs[i]? = some x → R.rd X w ((cells.drop (i * R.sz)).take R.sz) x := by
  subst hn
  induction xs generalizing k with
  | nil => exact ⟨[], by simp, fun j v hj => by simp at hj, by simp, fun i x hx => by simp at hx⟩
  | cons x r ih =>
    obtain ⟨_, cs, hr, ha⟩ := h 0 x rfl
    obtain ⟨cells, h1, h2, h3, h4⟩ := ih (k := k + R.sz) (fun i y hy => by
      obtain ⟨hb, cs', hr', ha'⟩ := h (i + 1) y (by simpa using hy)
      exact ⟨hb, cs', hr', by rw [show k + R.sz + i * R.sz = k + (i + 1) * R.sz from by rw [Nat.add_mul]; omega]; exact ha'⟩)
    have hl := R.len hr
    refine ⟨cs ++ cells, by rw [List.length_append, h1, hl, List.length_cons, Nat.add_mul]; omega, ?_, ?_, ?_⟩
    · intro j v hj
      rw [List.getElem?_append] at hj
      split at hj
      · have := ha j v hj; simpa using this
      · rename_i hge
        have := h2 (j - cs.length) v hj
        rw [show k + R.sz + (j - cs.length) = k + j from by omega] at this; exact this
    · intro u hu
      rcases List.mem_append.1 hu with hu | hu
      · exact R.one hr u hu
      · exact h3 u hu
    · intro i y hy
      cases i with
      | zero =>
        simp only [List.getElem?_cons_zero, Option.some.injEq] at hy
        subst hy
        simp only [Nat.zero_mul, List.drop_zero]
        rw [List.take_append_of_le_length (by omega), List.take_of_length_le (by omega)]
        exact hr
      | succ i =>
        have := h4 i y (by simpa using hy)
        rw [show (i + 1) * R.sz = cs.length + i * R.sz from by rw [Nat.add_mul, hl]; omega, List.drop_append, List.drop_of_length_le (by omega), List.nil_append, show cs.length + i * R.sz - cs.length = i * R.sz from by omega]
        exact this

theorem take_drop_append {cells news : List Value} {i sz n : Nat} (h : cells.length = n * sz) (hi : i < n) : ((cells ++ news).drop (i * sz)).take sz = (cells.drop (i * sz)).take sz := by
  have h1 : (i + 1) * sz ≤ n * sz := Nat.mul_le_mul_right sz hi
  rw [Nat.add_mul] at h1
  rw [List.drop_append_of_le_length (by omega), List.take_append_of_le_length (by rw [List.length_drop]; omega)]
theorem take_drop_append' {cells news : List Value} {i sz n : Nat} (h : cells.length = n * sz) : ((cells ++ news).drop ((n + i) * sz)).take sz = (news.drop (i * sz)).take sz := by
  rw [Nat.add_mul, ← h, List.drop_append, List.drop_of_length_le (by omega), List.nil_append, show cells.length + i * sz - cells.length = i * sz from by omega]

section
variable {P : Program} {n : Fsz} {ro : Option Nat} {Q : K} {E : Env} {w : World} {ops : Array Oper} {o : Oper} {rest : List Oper}
/-- append of a slice that reads as a list to one of the call's own -/
theorem WL.appendOwn {α : Type} {R : Rep α} {X : List Nat} {t e : TypeId} {z : Value} {by' B : Nat} {x y : Operand} {v s : Value} {xs ys : List α} (hs : Sure ops o E) (hd : dstOk n o.dst = true) (ho : o.op = .call ⟨.builtin .append, #[x, y], #[t, t]⟩)
    (ht : P.underlying t = some (.slice e)) (he : Elem P e z R.sz by') (hzs : z.cells.size = R.sz) (hsz : 0 < R.sz) (hx : ev E x = v) (hy : ev E y = s)
    (hown : Owns R e B X w v xs) (hsl : Sl R X w s ys) (hfar : ∀ g, v.ownBlock = some g → Sl R (g :: X) w s ys) (hB : B ≤ w.heap.size)
    (hbytes : (xs.length + ys.length) * by' ≤ 140737488355328) (hlen : xs.length + ys.length ≤ maxLen)
    (k : ∀ v' w', Owns R e B X w' v' (xs ++ ys) → w.grownBy w' v.ownBlock → (∀ g, v'.ownBlock = some g → v.ownBlock = some g ∨ w.heap.size ≤ g) → WLr ro P n ops Q rest (updO E o.dst v') w') : WLr ro P n ops Q (o :: rest) E w := by
  obtain ⟨cells, hrow, hel, h1⟩ := hown
  -- what is appended
  have hnews : ∃ (a : Option Addr) (c : Nat) (news : List Value), s = .slice a ys.length c ∧ news.length = ys.length * R.sz ∧ (∀ u ∈ news, u.oneCell' = true) ∧
      ((a = none ∧ c = 0 ∧ ys = []) ∨ ∃ a0 : Addr, a = some a0 ∧ ∀ j u, news[j]? = some u → w.cell? (a0.add j) = some u) ∧ ∀ X', Sl R X' w s ys → ∀ i q, ys[i]? = some q → R.rd X' w ((news.drop (i * R.sz)).take R.sz) q := by
    rcases hsl with ⟨rfl, rfl⟩ | ⟨b, k, c, rfl, hc, hm, hq⟩ | ⟨a, rfl, rfl⟩
    rotate_left 2
    · exact ⟨some a, 0, [], rfl, by simp, by simp, .inr ⟨a, rfl, by simp⟩, fun _ _ i q hq => by simp at hq⟩
    · exact ⟨none, 0, [], rfl, by simp, by simp, .inl ⟨rfl, rfl, rfl⟩, fun _ _ i q hq => by simp at hq⟩
    · obtain ⟨news, g1, g2, g3, g4⟩ := Sl.row (c := c) hq rfl
      refine ⟨_, c, news, rfl, g1, g3, .inr ⟨⟨b, k, none⟩, rfl, g2.cells⟩, ?_⟩
      intro X' hX' i q hiq
      rcases hX' with ⟨h0, _⟩ | ⟨b', k', c', h0, _, _, hq'⟩ | ⟨a', _, h0⟩
      rotate_left 2
      · subst h0; simp at hiq
      · cases h0
      · cases h0
        obtain ⟨_, cs, hr, ha⟩ := hq' i q hiq
        -- the same cells
        have hcs : cs = (news.drop (i * R.sz)).take R.sz := by
          apply List.ext_getElem?
          intro j
          have hi : i < ys.length := by
            rcases Nat.lt_or_ge i ys.length with h | h
            · exact h
            · rw [List.getElem?_eq_none h] at hiq; cases hiq
          have hle : (i + 1) * R.sz ≤ ys.length * R.sz := Nat.mul_le_mul_right _ hi
          rw [Nat.add_mul] at hle
          by_cases hj : j < R.sz
          · rw [List.getElem?_take_of_lt hj, List.getElem?_drop]
            have hj1 : j < cs.length := by rw [R.len hr]; exact hj
            have hj2 : i * R.sz + j < news.length := by rw [g1]; omega
            have e1 := ha j _ (List.getElem?_eq_getElem hj1)
            have e2 := g2 (i * R.sz + j) _ (List.getElem?_eq_getElem hj2)
            rw [show k + (i * R.sz + j) = k + i * R.sz + j from by omega] at e2
            rw [List.getElem?_eq_getElem hj1, List.getElem?_eq_getElem hj2]
            rw [e1] at e2; exact e2
          · rw [List.getElem?_eq_none (by rw [R.len hr]; omega), List.getElem?_eq_none (by rw [List.length_take]; omega)]
        rw [← hcs]; exact hr
  obtain ⟨a, c, news, rfl, hnl, hn1, hwhere, hread⟩ := hnews
  -- the new element facts
  have fin : ∀ v' w', w'.ownsRow B e R.sz v' (xs.length + ys.length) (cells ++ news) → w.grownBy w' v.ownBlock → (∀ g, v'.ownBlock = some g → v.ownBlock = some g ∨ w.heap.size ≤ g) → Owns R e B X w' v' (xs ++ ys) := by
    intro v' w' hr hg hfresh
    refine ⟨cells ++ news, by rw [List.length_append]; exact hr, ?_, ?_⟩
    · intro i q hiq
      have key : ∃ cs, (((cells ++ news).drop (i * R.sz)).take R.sz = cs) ∧ ((∀ g, v.ownBlock = some g → R.rd (g :: X) w cs q) ∧ R.rd X w cs q) := by
        rw [List.getElem?_append] at hiq
        split at hiq
        · rename_i hi
          refine ⟨_, take_drop_append hrow.1 hi, ?_, ?_⟩
          · intro g hg'; have := hel i q hiq; simpa [avoid, hg'] using this
          · exact R.mono (hel i q hiq) fun b hb => avoid_mem hb
        · rename_i hi
          obtain ⟨j, rfl⟩ : ∃ j, i = xs.length + j := ⟨i - xs.length, by omega⟩
          rw [show xs.length + j - xs.length = j from by omega] at hiq
          refine ⟨_, take_drop_append' hrow.1, ?_, ?_⟩
          · intro g hg'; exact hread _ (hfar g hg') j q hiq
          · exact hread _ hsl j q hiq
      obtain ⟨cs, rfl, hk1, hk2⟩ := key
      have hext : Ext (avoid v X) w w' := Ext.of_grown hg fun k hk => by simp [avoid, hk]
      cases hv' : v'.ownBlock with
      | none =>
        simp only [avoid, hv']
        cases hv : v.ownBlock with
        | none => simp only [avoid, hv] at hext; exact R.ext hk2 hext
        | some g =>
          simp only [avoid, hv] at hext
          exact R.mono (R.ext (hk1 g hv) hext) fun b hb => List.mem_cons_of_mem _ hb
      | some g' =>
        simp only [avoid, hv']
        rcases hfresh g' hv' with h | h
        · have := R.ext (hk1 g' h) (by simpa [avoid, h] using hext); exact this
        · cases hv : v.ownBlock with
          | none =>
            simp only [avoid, hv] at hext
            have hn := R.new hk2 h
            exact R.ext hn (hext.mono fun b hb => List.mem_cons_of_mem _ hb)
          | some g =>
            simp only [avoid, hv] at hext
            have hn := R.new (hk1 g hv) h
            refine R.mono (R.ext hn (hext.mono fun b hb => List.mem_cons_of_mem _ hb)) ?_
            intro b hb
            rcases List.mem_cons.1 hb with rfl | hb
            · simp
            · simp [hb]
    · intro u hu
      rcases List.mem_append.1 hu with hu | hu
      · exact h1 u hu
      · exact hn1 u hu
  obtain ⟨i, hi, hz0, hz1, hz2⟩ := info_parts he
  have step : ∀ v' w', (Builtin.append_ #[t, t] o.type #[v, .slice a ys.length c]).run P w = .ok v' w' → Owns R e B X w' v' (xs ++ ys) → w.grownBy w' v.ownBlock → (∀ g, v'.ownBlock = some g → v.ownBlock = some g ∨ w.heap.size ≤ g) → WLr ro P n ops Q (o :: rest) E w := by
    intro v' w' hr h2 h3 h4
    refine WL.x (u := v') (w' := w') hs hd (.inl ?_) (k v' w' h2 h3 h4)
    simp only [execOp, ho, resolve]
    have e' : #[x, y].map (ev E) = #[v, .slice a ys.length c] := by simp [hx, hy]
    rw [e']
    exact run_v hr
  rcases hwhere with ⟨rfl, rfl, rfl⟩ | ⟨a0, rfl, hcells⟩
  · -- nothing is appended
    have hr : (Builtin.append_ #[t, t] o.type #[v, .slice none 0 0]).run P w = .ok v w := by
      rcases hrow.2 with ⟨rfl, _⟩ | ⟨g, cap, cur, rfl, _, hg, hnc, _⟩
      · simp [Builtin.append_, run_underlying ht, sizeOf, typeInfo, hi, Builtin.lenOf, Builtin.firstCells]
      · simp [Builtin.append_, run_underlying ht, sizeOf, typeInfo, hi, Builtin.lenOf, Builtin.firstCells, hnc, storeCells]
    have hnil : news = [] := List.eq_nil_of_length_eq_zero (by simpa using hnl)
    exact step v w hr (by rw [List.append_nil]; exact ⟨cells, hrow, hel, h1⟩) ⟨rfl, rfl, rfl, Nat.le_refl _, fun _ _ _ => rfl⟩ (fun g hg => .inl hg)
  · obtain ⟨v', w', hr, ho', hg, _⟩ := run_append_own (P := P) w B t o.type e i z R.sz by' ht hi hz0 hz1 hz2 hzs hsz v xs.length cells hrow a0 ys.length c news hnl hcells hn1 hlen hbytes hB
    have hfresh : ∀ g, v'.ownBlock = some g → v.ownBlock = some g ∨ w.heap.size ≤ g := by
      intro g hg'
      rcases hrow.2 with ⟨hv, h0⟩ | ⟨g0, cap, cur, hv, _, hg0, hnc, hcm, hcs, htake⟩
      · -- nil: whatever comes is new
        subst hv
        have hc0 : cells = [] := List.eq_nil_of_length_eq_zero (by rw [hrow.1, h0]; simp)
        subst hc0
        obtain ⟨v2, w2, hr2, ho2, _, _⟩ := run_append_own (P := P) w w.heap.size t o.type e i z R.sz by' ht hi hz0 hz1 hz2 hzs hsz (.slice none 0 0) xs.length [] ⟨by rw [h0]; simp, .inl ⟨rfl, h0⟩⟩ a0 ys.length c news hnl hcells hn1 hlen hbytes (Nat.le_refl _)
        rw [hr] at hr2
        cases hr2
        exact .inr (ho2.lt g hg').1
      · subst hv
        by_cases hroom : xs.length + ys.length ≤ cap
        · have hfit : xs.length * i.size + news.length ≤ cur.size := by rw [hnl, hcs, hz1, ← Nat.add_mul]; exact Nat.mul_le_mul_right _ hroom
          have hr2 := run_append_room (P := P) w t o.type e i ht hi g0 xs.length cap cur hg0 a0 ys.length c news (by rw [hz1]; exact hnl) hcells hn1 hroom hfit
          rw [hr] at hr2
          cases hr2
          exact .inl hg'
        · have holds : ∀ j u, cells[j]? = some u → w.cell? ((⟨g0, 0, none⟩ : Addr).add j) = some u := hrow.cells (g := g0) rfl
          have hlen' : xs.length + ys.length ≤ 9223372036854775807 := by simpa [maxLen] using hlen
          have hr2 := run_append_grow (P := P) w t o.type e i z ht hi hz0 ⟨g0, 0, none⟩ xs.length cap cells (by rw [hz1]; exact hrow.1) holds a0 ys.length c news (by rw [hz1]; exact hnl) hcells (by omega) (by omega) (growslice_fits (by omega) (by rw [hz2]; exact hbytes))
          rw [hr] at hr2
          cases hr2
          simp only [Value.ownBlock, Option.some.injEq] at hg'
          exact .inr (by omega)
    exact step v' w' hr (fin v' w' ho' hg hfresh) hg hfresh
end

/-! ### Slice literals -/
theorem foldl_set (vs : List Value) : ∀ (off j : Nat) (a b c : List Value), a.length = off + j → b.length = vs.length →
    ((vs.zipIdx j).foldl (fun (cs : Array Value) (x : Value × Nat) => cs.setIfInBounds (off + x.2) x.1) (a ++ b ++ c).toArray) = (a ++ vs ++ c).toArray := by
  induction vs with
  | nil => intro off j a b c _ hb; have : b = [] := List.eq_nil_of_length_eq_zero hb; subst this; simp
  | cons v vs ih =>
    intro off j a b c ha hb
    cases b with
    | nil => simp at hb
    | cons b0 b =>
      simp only [List.zipIdx_cons, List.foldl_cons]
      have e : (a ++ (b0 :: b) ++ c).toArray.setIfInBounds (off + j) v = ((a ++ [v]) ++ b ++ c).toArray := by
        rw [← ha]
        simp [List.set_append]
      rw [e, ih off (j + 1) (a ++ [v]) b c (by simp; omega) (by simpa using hb)]
      simp
theorem fill_all (sz : Nat) : ∀ (vs : List Value) (i : Nat) (pre suf : List Value), pre.length = i * sz → suf.length = vs.length * sz → (∀ v ∈ vs, v.cells.size = sz) →
    Instr.fill (fun i => some (i * sz, sz)) (pre ++ suf).toArray ((vs.zipIdx i).map fun x => (x.2, x.1)) = some (pre ++ vs.flatMap (·.cells.toList)).toArray := by
  intro vs
  induction vs with
  | nil => intro i pre suf _ hs _; have : suf = [] := List.eq_nil_of_length_eq_zero (by simpa using hs); subst this; simp [Instr.fill]
  | cons v vs ih =>
    intro i pre suf hp hs hv
    have hvs : v.cells.size = sz := hv v (by simp)
    simp only [List.zipIdx_cons, List.map_cons, Instr.fill]
    have hsl : sz ≤ suf.length := by rw [hs, List.length_cons, Nat.add_mul]; omega
    have hno : ¬ ((v.cells.size != sz) || decide (i * sz + v.cells.size > (pre ++ suf).toArray.size)) = true := by
      simp [hvs, hp]; omega
    rw [if_neg (by simpa using hno)]
    have hz : v.cells.zipIdx.foldl (fun (cs : Array Value) (x : Value × Nat) => cs.setIfInBounds (i * sz + x.2) x.1) (pre ++ suf).toArray = (pre ++ v.cells.toList ++ suf.drop sz).toArray := by
      have := foldl_set v.cells.toList (i * sz) 0 pre (suf.take sz) (suf.drop sz) (by omega) (by rw [show v.cells.toList.length = sz from by rw [Array.length_toList]; exact hvs, List.length_take]; omega)
      rw [List.append_assoc, List.take_append_drop] at this
      rw [← this, ← Array.foldl_toList]
      simp
    have hz' : v.cells.zipIdx.foldl (fun cs (x : Value × Nat) => match x with | (c, j) => cs.setIfInBounds (i * sz + j) c) (pre ++ suf).toArray = (pre ++ v.cells.toList ++ suf.drop sz).toArray := hz
    rw [hz']
    have := ih (i + 1) (pre ++ v.cells.toList) (suf.drop sz) (by rw [List.length_append, hp, Array.length_toList, hvs, Nat.add_mul]; omega) (by rw [List.length_drop, hs, List.length_cons, Nat.add_mul]; omega) (fun u hu => hv u (by simp [hu]))
    rw [this]
    simp

theorem flat_seg {sz : Nat} : ∀ {vs : List Value} {i : Nat} {v : Value}, (∀ v ∈ vs, v.cells.size = sz) → vs[i]? = some v → ((vs.flatMap (·.cells.toList)).drop (i * sz)).take sz = v.cells.toList := by
  intro vs
  induction vs with
  | nil => intro i v _ h; simp at h
  | cons u vs ih =>
    intro i v hv h
    have hu : u.cells.toList.length = sz := by rw [Array.length_toList]; exact hv u (by simp)
    cases i with
    | zero =>
      simp only [List.getElem?_cons_zero, Option.some.injEq] at h
      subst h
      rw [List.flatMap_cons, Nat.zero_mul, List.drop_zero, ← hu, List.take_left]
    | succ i =>
      rw [List.flatMap_cons, show (i + 1) * sz = u.cells.toList.length + i * sz from by rw [Nat.add_mul, hu]; omega, List.drop_append, List.drop_of_length_le (by omega), List.nil_append, show u.cells.toList.length + i * sz - u.cells.toList.length = i * sz from by omega]
      exact ih (fun x hx => hv x (by simp [hx])) (by simpa using h)
theorem flat_len {sz : Nat} : ∀ {vs : List Value}, (∀ v ∈ vs, v.cells.size = sz) → (vs.flatMap (·.cells.toList)).length = vs.length * sz := by
  intro vs
  induction vs with
  | nil => intro _; simp
  | cons v vs ih =>
    intro hv
    rw [List.flatMap_cons, List.length_append, ih (fun u hu => hv u (by simp [hu])), Array.length_toList, hv v (by simp), List.length_cons, Nat.add_mul]; omega

section
variable {P : Program} {n : Fsz} {ro : Option Nat} {Q : K} {E : Env} {w : World} {ops : Array Oper} {o : Oper} {rest : List Oper}
/-- a slice literal, all of its elements written out -/
theorem WL.lit {α : Type} {R : Rep α} {X : List Nat} {t e : TypeId} {len by' : Nat} {z : Value} {ps : Array (Nat × Operand)} {vs : List Value} {xs : List α} (hs : Sure ops o E) (hd : dstOk n o.dst = true) (ho : o.op = .buildSlice t len ps) (ht : P.underlying t = some (.slice e))
    (he : Elem P e z R.sz by') (hsz : 0 < R.sz) (hsm : len * R.sz ≤ 1024) (hps : ps.toList.map (fun x => (x.1, ev E x.2)) = (vs.zipIdx 0).map fun x => (x.2, x.1)) (hlen : vs.length = len) (hxl : xs.length = len)
    (hrd : ∀ (i : Nat) (v : Value) (x : α), vs[i]? = some v → xs[i]? = some x → R.rd X w v.cells.toList x)
    (k : ∀ v w', Ext [] w w' → Owns R e w.heap.size X w' v xs → (∀ g, v.ownBlock = some g → g = w.heap.size) → WLr ro P n ops Q rest (updO E o.dst v) w') : WLr ro P n ops Q (o :: rest) E w := by
  have hat : ∀ i, i < len → ∃ v x, vs[i]? = some v ∧ xs[i]? = some x ∧ R.rd X w v.cells.toList x := by
    intro i hi
    have h1 : i < vs.length := by omega
    have h2 : i < xs.length := by omega
    exact ⟨_, _, List.getElem?_eq_getElem h1, List.getElem?_eq_getElem h2, hrd i _ _ (List.getElem?_eq_getElem h1) (List.getElem?_eq_getElem h2)⟩
  have hcs : ∀ v ∈ vs, v.cells.size = R.sz := by
    intro v hv
    obtain ⟨i, hi, rfl⟩ := List.mem_iff_getElem.1 hv
    obtain ⟨u, x, h1, h2, h3⟩ := hat i (by omega)
    rw [List.getElem?_eq_getElem hi] at h1
    cases h1
    have := R.len h3
    rw [Array.length_toList] at this; exact this
  have hfl : (vs.flatMap (·.cells.toList)).length = len * R.sz := by rw [flat_len hcs, hlen]
  refine WL.buildSlice (cs := vs.flatMap (·.cells.toList)) hs hd ho ht he hsm ?_ ?_
  · rw [Array.toList_map, hps]
    generalize hc : (Array.range (len * R.sz)).map ((if len * R.sz = 0 then #[] else z.cells)[· % (if len * R.sz = 0 then #[] else z.cells).size]!) = c0
    have h0 : c0.toList.length = vs.length * R.sz := by rw [← hc, hlen]; simp
    have := fill_all R.sz vs 0 [] c0.toList (by simp) h0 hcs
    simpa using this
  · intro w' hx hb
    refine k _ w' hx ⟨vs.flatMap (·.cells.toList), ⟨by rw [hxl]; exact hfl, .inr ⟨w.heap.size, len, _, by rw [hxl], Nat.le_refl _, hb, by omega, ?_, by simpa using hfl, ?_⟩⟩, ?_, ?_⟩ ?_
    · simp only [maxLen]
      have : len ≤ len * R.sz := Nat.le_mul_of_pos_right _ hsz
      omega
    · show (vs.flatMap (·.cells.toList)).take (xs.length * R.sz) = _
      rw [List.take_of_length_le (by rw [hfl, hxl]; exact Nat.le_refl _)]
    · intro i x hix
      have hi : i < len := by
        rcases Nat.lt_or_ge i xs.length with h | h
        · omega
        · rw [List.getElem?_eq_none h] at hix; cases hix
      obtain ⟨v, y, h1, h2, h3⟩ := hat i hi
      rw [h2] at hix; cases hix
      rw [flat_seg hcs h1]
      have hn := R.new h3 (Nat.le_refl w.heap.size)
      exact R.ext hn (hx.any)
    · intro u hu
      obtain ⟨v, hv, huv⟩ := List.mem_flatMap.1 hu
      obtain ⟨i, hi, rfl⟩ := List.mem_iff_getElem.1 hv
      obtain ⟨v, y, h1, h2, h3⟩ := hat i (by omega)
      rw [List.getElem?_eq_getElem hi] at h1
      cases h1
      exact R.one h3 u huv
    · intro g hg; simp only [Value.ownBlock, Option.some.injEq] at hg; exact hg.symm
end

/-! ### nil, and slices cut -/
def nilB : Value → Bool
  | .slice none _ _ => true
  | _ => false
theorem Sl.isNil {α : Type} {R : Rep α} {X : List Nat} {w : World} {v : Value} {xs : List α} (h : Sl R X w v xs) (hn : nilB v = true) : v = .slice none 0 0 ∧ xs = [] := by
  rcases h with h | ⟨b, k, c, rfl, _⟩ | ⟨a, rfl, _⟩
  · exact h
  · cases hn
  · cases hn
theorem V.eqNil {P : Program} {o : Oper} {E : Env} {w : World} {t u e : TypeId} {x y : Operand} {a : Option Addr} {l c : Nat} {v : Value} (ho : o.op = .binOp .eql t x y u) (ht : P.underlying t = some (.slice e)) (hx : ev E x = v) (hv : v = .slice a l c) (hy : ev E y = .slice none 0 0) :
    OpV P o E w (.bool (nilB v)) := by
  subst hv
  have h : (binOp .eql t (.slice a l c) (.slice none 0 0)).run P w = .ok (.bool (nilB (.slice a l c))) w := by
    rw [Lib.run_eql_slice_nil w t e a l c 0 0 ht]
    cases a <;> rfl
  have hg : (eqGuard .eql t x y (.slice a l c) (.slice none 0 0)).run P w = .ok () w := rfl
  simp only [OpV, execOp, ho, hx, hy, Sem.run_bind, hg, h, Result.andThen_ok, Sem.run_pure]
/-- s[:h:h] -/
theorem V.clip {P : Program} {o : Oper} {E : Env} {w : World} {α : Type} {R : Rep α} {X : List Nat} {t e : TypeId} {x y z : Operand} {v : Value} {xs : List α} (ho : o.op = .slice t x none (some y) (some z)) (ht : P.underlying t = some (.slice e)) (hs : Sized P e R.sz) (hx : ev E x = v) (hsl : Sl R X w v xs)
    (hy : ev E y = .int .i64 xs.length) (hz : ev E z = .int .i64 xs.length) : ∃ v', OpV P o E w v' ∧ Sl R X w v' xs := by
  rcases hsl with ⟨rfl, rfl⟩ | ⟨b, k, c, rfl, hc, hm, hq⟩ | ⟨a, rfl, rfl⟩
  rotate_left 2
  · refine ⟨.slice (some a) 0 0, ?_, .inr (.inr ⟨a, rfl, rfl⟩)⟩
    simp [OpV, execOp, ho, hx, hy, hz, go_sem, Instr.sliceAt, underlying, ht, Instr.slice, Instr.sliceBounds, Instr.sliceBound, asIntOf, size_of hs, Addr.add]
  · refine ⟨.slice none 0 0, ?_, .inl ⟨rfl, rfl⟩⟩
    simp [OpV, execOp, ho, hx, hy, hz, go_sem, Instr.sliceAt, underlying, ht, Instr.slice, Instr.sliceBounds, Instr.sliceBound, asIntOf, size_of hs]
  · refine ⟨.slice (some ⟨b, k, none⟩) xs.length xs.length, ?_, .inr (.inl ⟨b, k, xs.length, rfl, Nat.le_refl _, by omega, hq⟩)⟩
    simp [OpV, execOp, ho, hx, hy, hz, go_sem, Instr.sliceAt, underlying, ht, Instr.slice, Instr.sliceBounds, Instr.sliceBound, asIntOf, size_of hs, hc, addr_add]
/-- s[:h] -/
theorem V.upto {P : Program} {o : Oper} {E : Env} {w : World} {α : Type} {R : Rep α} {X : List Nat} {t e : TypeId} {x y : Operand} {v : Value} {xs : List α} {k : IntKind} {h : Nat} (ho : o.op = .slice t x none (some y) none) (ht : P.underlying t = some (.slice e)) (hs : Sized P e R.sz) (hx : ev E x = v) (hsl : Sl R X w v xs)
    (hy : ev E y = .int k h) (hh : h ≤ xs.length) : ∃ v', OpV P o E w v' ∧ Sl R X w v' (xs.take h) := by
  rcases hsl with ⟨rfl, rfl⟩ | ⟨b, kk, c, rfl, hc, hm, hq⟩ | ⟨a, rfl, rfl⟩
  rotate_left 2
  · have : h = 0 := by simpa using hh
    subst this
    refine ⟨.slice (some a) 0 0, ?_, .inr (.inr ⟨a, rfl, rfl⟩)⟩
    simp [OpV, execOp, ho, hx, hy, go_sem, Instr.sliceAt, underlying, ht, Instr.slice, Instr.sliceBounds, Instr.sliceBound, asIntOf, size_of hs, Addr.add]
  · have : h = 0 := by simpa using hh
    subst this
    refine ⟨.slice none 0 0, ?_, .inl ⟨rfl, rfl⟩⟩
    simp [OpV, execOp, ho, hx, hy, go_sem, Instr.sliceAt, underlying, ht, Instr.slice, Instr.sliceBounds, Instr.sliceBound, asIntOf, size_of hs]
  · have e1 : (h : Int) ≤ (c : Int) := by omega
    have e2 : h ≤ c := by omega
    refine ⟨.slice (some ⟨b, kk, none⟩) h c, ?_, .inr (.inl ⟨b, kk, c, by rw [List.length_take, Nat.min_eq_left hh], by rw [List.length_take]; omega, hm, ?_⟩)⟩
    · simp [OpV, execOp, ho, hx, hy, go_sem, Instr.sliceAt, underlying, ht, Instr.slice, Instr.sliceBounds, Instr.sliceBound, asIntOf, size_of hs, e2, addr_add]
    · intro i x hix
      rw [List.getElem?_take] at hix
      split at hix
      · exact hq i x hix
      · cases hix

/-- a representation whose cells lead nowhere -/
def Flat {α : Type} (R : Rep α) : Prop := ∀ X Y w cs x, R.rd X w cs x → R.rd Y w cs x
theorem flat_int (k : IntKind) : Flat (intR k) := fun _ _ _ _ _ h => h
theorem flat_bool : Flat boolR := fun _ _ _ _ _ h => h
theorem flat_str : Flat strR := fun _ _ _ _ _ h => h
theorem Owns.sl' {α : Type} {R : Rep α} {e B : Nat} {X : List Nat} {w : World} {v : Value} {xs : List α} (h : Owns R e B X w v xs) (hX : ∀ g, v.ownBlock = some g → g ∉ X) : Sl R X w v xs := by
  obtain ⟨cells, ⟨hlen, h1⟩, h2, _⟩ := h
  rcases h1 with ⟨rfl, h0⟩ | ⟨g, cap, cur, rfl, hB, hg, hc, hm, hs, ht⟩
  · exact .inl ⟨rfl, List.eq_nil_of_length_eq_zero h0⟩
  · refine .inr (.inl ⟨g, 0, cap, rfl, hc, hm, fun i x hx => ⟨hX g rfl, _, R.mono (h2 i x hx) (by intro k hk; simp [avoid, Value.ownBlock, hk]), ?_⟩⟩)
    intro j u hj
    have hi : i < xs.length := by
      rcases Nat.lt_or_ge i xs.length with h | h
      · exact h
      · rw [List.getElem?_eq_none h] at hx; cases hx
    have hjl : j < R.sz := by
      rcases Nat.lt_or_ge j R.sz with h | h
      · exact h
      · rw [List.getElem?_eq_none (by simp; omega)] at hj; cases hj
    rw [List.getElem?_take_of_lt hjl, List.getElem?_drop, ← ht, List.getElem?_take] at hj
    split at hj
    · simp only [World.cell?, hg]
      simpa using hj
    · cases hj
theorem Owns.flat {α : Type} {R : Rep α} {e B : Nat} {X Y : List Nat} {w : World} {v : Value} {xs : List α} (hR : Flat R) (h : Owns R e B X w v xs) : Owns R e B Y w v xs := by
  obtain ⟨cells, h1, h2, h3⟩ := h
  exact ⟨cells, h1, fun i x hx => hR _ _ _ _ _ (h2 i x hx), h3⟩
theorem Owns.nil' {α : Type} {R : Rep α} {e : TypeId} {B : Nat} {X : List Nat} {w : World} {v : Value} (hv : v = .slice none 0 0) : Owns R e B X w v [] := by
  subst hv; exact Owns.nil
theorem nil_block {v : Value} (hv : v = .slice none 0 0) {p : Nat → Prop} : ∀ g, v.ownBlock = some g → p g := by
  subst hv; intro g hg; cases hg
theorem Box.grown {w w' : World} {b : Nat} {t : TypeId} {cs : List Value} {v : Value} (h : Box w b t cs) (hg : w.grownBy w' v.ownBlock) (hne : ∀ g, v.ownBlock = some g → g ≠ b) : Box w' b t cs :=
  (hg.block b h.lt (fun e => hne b e.symm rfl)).trans h
theorem Ext.ownB {X : List Nat} {w0 w w' : World} {v : Value} {B : Nat} (h : Ext X w0 w) (hg : w.grownBy w' v.ownBlock) (hv : ∀ k, v.ownBlock = some k → B ≤ k) (hB : w0.heap.size ≤ B) : Ext X w0 w' := h.own hg fun k hk => Nat.le_trans hB (hv k hk)
/-- the row behind an append, and what it is not -/
theorem after_no {w : World} {v v' : Value} {X : List Nat} (hf : ∀ g, v'.ownBlock = some g → v.ownBlock = some g ∨ w.heap.size ≤ g) (hno : ∀ g, v.ownBlock = some g → g ∉ X) (hX : ∀ x ∈ X, x < w.heap.size) : ∀ g, v'.ownBlock = some g → g ∉ X := by
  intro g hg hx
  rcases hf g hg with h | h
  · exact hno g h hx
  · have := hX g hx; omega
end Go.Proofs.YtnhfkdgambncfaaGreatDoor.W
namespace Go.Proofs.YtnhfkdgambncfaaGreatDoor.W
open Go.RowKit

section
variable {P : Program} {o : Oper} {E : Env} {w : World}
theorem V.bcmpEq {t u : TypeId} {x y : Operand} {a b : Bool} (ho : o.op = .binOp .eql t x y u) (ht : P.underlying t = some .bool) (hx : ev E x = .bool a) (hy : ev E y = .bool b) : OpV P o E w (.bool (a == b)) := by
  simp [OpV, execOp, ho, hx, hy, go_sem, eqGuard, binOp, Op.equal, Op.maxDepth, run_equalIn_bool' w 9999 t a b ht]
theorem V.bcmpNe {t u : TypeId} {x y : Operand} {a b : Bool} (ho : o.op = .binOp .neq t x y u) (ht : P.underlying t = some .bool) (hx : ev E x = .bool a) (hy : ev E y = .bool b) : OpV P o E w (.bool (!(a == b))) := by
  simp [OpV, execOp, ho, hx, hy, go_sem, eqGuard, binOp, Op.equal, Op.maxDepth, run_equalIn_bool' w 9999 t a b ht]
/-- the cells of two structs, whose fields all are numbers -/
def IntAt (P : Program) (xs ys : Array Value) : List (TypeId × Nat × Bool) → List (IntKind × Int × Int) → Prop
  | [], [] => True
  | (t, o, n) :: r, (k, a, b) :: s => n = false ∧ P.underlying t = some (.int k) ∧ xs[o]? = some (.int k a) ∧ ys[o]? = some (.int k b) ∧ IntAt P xs ys r s
  | _, _ => False
def eqAll : List (IntKind × Int × Int) → Bool
  | [] => true
  | (_, a, b) :: r => decide (a = b) && eqAll r
theorem run_eqFields_ints (w : World) (d : Nat) (xs ys : Array Value) : ∀ (fs : List Field) (s : List (IntKind × Int × Int)), IntAt P xs ys (fs.map fun f => (f.type, f.offset, f.name == "_")) s →
    (Op.eqFields (d + 1) xs ys fs).run P w = .ok (eqAll s) w
  | [], [], _ => by simp [Op.eqFields, eqAll]
  | [], _ :: _, h => absurd h (by simp [IntAt])
  | _ :: _, [], h => absurd h (by simp [IntAt])
  | f :: fs, (k, a, b) :: s, h => by
    obtain ⟨hn, hu, h1, h2, h3⟩ := h
    have hn' : f.name ≠ "_" := by simpa using hn
    have hp : P.plainKey f.type = true := by unfold Program.plainKey; rw [hu]
    simp only [Op.eqFields, hn', ne_eq, not_false_eq_true, if_true, Sem.run_bind, run_part_plain w hp h1, run_part_plain w hp h2, run_equalIn_int w d f.type k k a b hu, Result.andThen_ok, eqAll]
    by_cases e : a = b
    · have := run_eqFields_ints w d xs ys fs s h3
      simp [e, this]
    · simp [e]
theorem V.aeq {op : BinOp} {t u : TypeId} {x y : Operand} {xs ys : Array Value} {fs : List (TypeId × Nat × Bool)} (s : List (IntKind × Int × Int)) {r : Bool} (ho : o.op = .binOp op t x y u) (hop : (op = .eql ∧ r = eqAll s) ∨ (op = .neq ∧ r = !eqAll s))
    (hg : P.eqGuardType P.depth t = false) (hp : P.stoodInHeld t = false) (ht : P.underlying t = some (.struct (P.fieldsOf t))) (hf : (P.fieldsOf t).toList.map (fun f => (f.type, f.offset, f.name == "_")) = fs)
    (hx : ev E x = .agg xs) (hy : ev E y = .agg ys) (h : IntAt P xs ys fs s) : OpV P o E w (.bool r) := by
  subst hf
  have key := run_eqFields_ints w 9998 xs ys _ s h
  have e : (Op.equal t (.agg xs) (.agg ys)).run P w = .ok (eqAll s) w := by
    rw [Op.equal, Op.maxDepth, run_equalIn_struct w 9999 t xs ys ht hp]; exact key
  rcases hop with ⟨rfl, rfl⟩ | ⟨rfl, rfl⟩
  · simp [OpV, execOp, ho, hx, hy, go_sem, eqGuard, binOp, e, hg]
  · simp [OpV, execOp, ho, hx, hy, go_sem, eqGuard, binOp, e, hg]
theorem psCons {E : Env} {ps : List (Nat × Operand)} {i : Nat} {x : Operand} {v : Value} {L : List (Nat × Value)} (h : ev E x = v) (r : ps.map (fun x => (x.1, ev E x.2)) = L) : ((i, x) :: ps).map (fun x => (x.1, ev E x.2)) = (i, v) :: L := by simp [h, r]
theorem V.build1 {t : TypeId} {ps : Array (Nat × Operand)} {L : List (Nat × Value)} {vs : Array Value} (ho : o.op = .build t ps) (hps : ps.toList.map (fun x => (x.1, ev E x.2)) = L) (hb : P.built t L = some vs) : OpV P o E w (.agg vs) := by
  refine V.build ho ?_
  rw [Array.toList_map, hps]; exact hb
/-- a call of a function value with two arguments -/
theorem C.callv2 {f : FuncId} {tys : Array TypeId} {g x y : Operand} {cap : Array Value} {a b : Value} {args : Array Value} (ho : o.op = .call ⟨.value g, #[x, y], tys⟩) (hg : ev E g = .func (.func f) #[] cap) (hn : ∀ f', g ≠ .func f') (hf : Callable P f) (h1 : ev E x = a) (h2 : ev E y = b) (ha : #[a, b] ++ cap = args) : OpC P o E w f args := by
  subst ha
  obtain ⟨fn, hfn, hname, hb⟩ := hf
  have hn' : ¬ fn.name = "runtime.NumGoroutine" := by simpa using hname
  have hb' : ¬ fn.body = none := by intro e; rw [e] at hb; cases hb
  cases g with
  | func f' => exact absurd rfl (hn f')
  | _ => simp [OpC, execOp, ho, go_sem, hg, callFunc, hfn, hn', hb', h1, h2]
end

/-! ### Rows of one's own whose elements hold slices -/
section
variable {α : Type} {R : Rep α} {e B n : Nat} {X Y O : List Nat} {w w' : World} {v T : Value} {xs : List α}
theorem Rep.base {α : Type} {R : Rep α} {O X : List Nat} {w : World} {cs : List Value} {x : α} (h : R.rd (O ++ X) w cs x) : R.rd X w cs x := R.mono h fun _ hb => List.mem_append.2 (.inr hb)
theorem mem_pre {O X : List Nat} {g : Nat} (h : g ∈ O) : g ∈ O ++ X := List.mem_append.2 (.inl h)
theorem mem_avoid {b : Nat} (h : b ∈ avoid T X) : T.ownBlock = some b ∨ b ∈ X := by
  unfold avoid at h
  cases ho : T.ownBlock with
  | none => rw [ho] at h; exact .inr h
  | some g =>
    rw [ho] at h
    rcases List.mem_cons.1 h with rfl | h
    · exact .inl rfl
    · exact .inr h
theorem avoid_sub {X Y : List Nat} (k : ∀ b ∈ X, b ∈ Y) {b : Nat} (h : b ∈ avoid v X) : b ∈ avoid v Y := by
  rcases mem_avoid h with h | h
  · unfold avoid; rw [h]; exact List.mem_cons_self
  · exact avoid_mem (k b h)
theorem Owns.base (h : Owns R e B (O ++ X) w v xs) : Owns R e B X w v xs := h.mono fun _ hb => List.mem_append.2 (.inr hb)
theorem base_no (h : ∀ g, v.ownBlock = some g → g ∉ O ++ X) : ∀ g, v.ownBlock = some g → g ∉ X := fun g hg hm => h g hg (List.mem_append.2 (.inr hm))
theorem avoid_no (h1 : ∀ g, v.ownBlock = some g → n ≤ g) (h2 : ∀ g, T.ownBlock = some g → g < n) (h3 : ∀ g, v.ownBlock = some g → g ∉ X) : ∀ g, v.ownBlock = some g → g ∉ avoid T X := by
  intro g hg hm
  rcases mem_avoid hm with h | h
  · have := h1 g hg; have := h2 g h; omega
  · exact h3 g hg h
/-- a new row of one's own, of what holds no slices, avoids an older one -/
theorem Owns.far (hf : Flat R) (h : Owns R e B X w v xs) (h3 : ∀ g, v.ownBlock = some g → g ∉ X) (h2 : ∀ g, T.ownBlock = some g → g < B) : Sl R (avoid T X) w v xs :=
  Owns.sl' (Owns.flat hf h) (avoid_no (fun g hg => (h.lt g hg).1) h2 h3)
theorem avoid_far (h : Sl R (avoid T X) w v xs) {g : Nat} (hg : T.ownBlock = some g) : Sl R (g :: X) w v xs := by simpa [avoid, hg] using h
theorem Ext.avoid (h : Ext O w w') : Ext (W.avoid T (O ++ X)) w w' := h.mono fun _ hb => avoid_mem (List.mem_append.2 (.inl hb))
end
def fieldB (P : Program) (t i ft off sz : Nat) : Bool := (match P.underlying t with
  | some (.struct fs) => (match fs[i]? with
    | some f => Nat.beq f.type ft && Nat.beq f.offset off
    | none => false)
  | _ => false) && ((match P.info? ft with
  | some x => Nat.beq x.size sz
  | none => false) && !Nat.beq sz 0)
theorem fld {P : Program} {t i ft off sz : Nat} (h : fieldB P t i ft off sz = true) : FieldOf P t i ft off sz := by
  simp only [fieldB, Bool.and_eq_true, Bool.not_eq_true'] at h
  obtain ⟨h1, h2, h3⟩ := h
  split at h1
  · rename_i fs hu
    split at h1
    · rename_i f hf
      simp only [Bool.and_eq_true] at h1
      refine ⟨⟨fs, f, hu, hf, Nat.eq_of_beq_eq_true h1.1, Nat.eq_of_beq_eq_true h1.2⟩, ?_, fun e => ?_⟩
      · split at h2
        · rename_i x hx
          unfold Sized; rw [hx]; exact congrArg some (Nat.eq_of_beq_eq_true h2)
        · cases h2
      · subst e; cases h3
    · cases h1
  · cases h1
/-! ### The rest of a region of which no operation runs but those that hand on what is known -/
def look : List (Nat × Option Bool) → Nat → Option (Option Bool)
  | [], _ => none
  | (t', v) :: r, t => bif Nat.beq t' t then some v else look r t
def kv : Option Bool → Value
  | none => undef
  | some b => .bool b
def KnownAt (S : List (Nat × Option Bool)) (E : Env) : Prop := ∀ t v, look S t = some v → E t = kv v
theorem kn {E : Env} : KnownAt [] E := fun _ _ h => by cases h
theorem kc {S : List (Nat × Option Bool)} {E : Env} {t : Nat} (v : Option Bool) (h : E t = kv v) (k : KnownAt S E) : KnownAt ((t, v) :: S) E := by
  intro t' v' hl
  simp only [look] at hl
  cases hb : Nat.beq t t' with
  | true =>
    rw [hb] at hl
    simp only [cond_true, Option.some.injEq] at hl
    subst hl
    have := Nat.eq_of_beq_eq_true hb
    subst this
    exact h
  | false => rw [hb] at hl; exact k t' v' hl
def opdB (S : List (Nat × Option Bool)) : Operand → Option Bool
  | .tmp t => match look S t with
    | some (some b) => some b
    | _ => none
  | .const (.bool b) => some b
  | _ => none
theorem opdB_ev {S : List (Nat × Option Bool)} {E : Env} (hK : KnownAt S E) {x : Operand} {b : Bool} (h : opdB S x = some b) : ev E x = .bool b := by
  unfold opdB at h
  split at h
  · split at h
    · rename_i t b' hl
      cases h
      exact hK _ _ hl
    · cases h
  · cases h; rfl
  · cases h
def execB (S : List (Nat × Option Bool)) : Op → Option Bool
  | .move x => opdB S x
  | .assign x => opdB S x
  | .pick c x y => match opdB S c with
    | some true => opdB S x
    | some false => opdB S y
    | none => none
  | .unOp .not _ x => (opdB S x).map (!·)
  | _ => none
theorem execB_ok {P : Program} {S : List (Nat × Option Bool)} {E : Env} (hK : KnownAt S E) {o : Oper} {b : Bool} (h : execB S o.op = some b) (w : World) : OpV P o E w (.bool b) := by
  unfold execB at h
  split at h
  · rename_i x ho; exact V.move ho (opdB_ev hK h)
  · rename_i x ho; exact V.assign ho (opdB_ev hK h)
  · rename_i c x y ho
    split at h
    · rename_i hc; exact V.pick ho (opdB_ev hK hc) (opdB_ev hK h)
    · rename_i hc; exact V.pick ho (opdB_ev hK hc) (opdB_ev hK h)
    · cases h
  · rename_i t x ho
    cases hx : opdB S x with
    | none => rw [hx] at h; cases h
    | some c =>
      rw [hx] at h
      simp only [Option.map_some, Option.some.injEq] at h
      subst h
      exact V.not ho (opdB_ev hK hx)
  · cases h
def guardB (ops : Array Oper) (S : List (Nat × Option Bool)) : Option (Nat × Bool) → Option Bool
  | none => some true
  | some (j, b) => match (ops[j]?).bind (·.dst) with
    | none => none
    | some d => match look S d with
      | some (some c) => some (c == b)
      | some none => some false
      | none => none
theorem guardB_sure {ops : Array Oper} {S : List (Nat × Option Bool)} {E : Env} (hK : KnownAt S E) {o : Oper} (h : guardB ops S o.guard = some true) : Sure ops o E := by
  cases hg : o.guard with
  | none => exact Sure.none hg
  | some x =>
    obtain ⟨j, b⟩ := x
    rw [hg] at h
    simp only [guardB] at h
    cases hd : (ops[j]?).bind (·.dst) with
    | none => rw [hd] at h; cases h
    | some d =>
      rw [hd] at h
      simp only at h
      split at h
      · rename_i c hl
        have hE := hK _ _ hl
        simp only [Option.some.injEq, beq_iff_eq] at h
        subst h
        exact Sure.yes hg hd hE
      · cases h
      · cases h
theorem guardB_shut {ops : Array Oper} {S : List (Nat × Option Bool)} {E : Env} (hK : KnownAt S E) {o : Oper} (h : guardB ops S o.guard = some false) : Shut ops o E := by
  cases hg : o.guard with
  | none => rw [hg] at h; cases h
  | some x =>
    obtain ⟨j, b⟩ := x
    rw [hg] at h
    simp only [guardB] at h
    cases hd : (ops[j]?).bind (·.dst) with
    | none => rw [hd] at h; cases h
    | some d =>
      rw [hd] at h
      simp only at h
      split at h
      · rename_i c hl
        have hE := hK _ _ hl
        exact Shut.no hg hd hE (by simpa using h)
      · rename_i hl; exact Shut.undef hg hd (hK _ _ hl)
      · cases h
def putB (S : List (Nat × Option Bool)) : Option Nat → Option Bool → List (Nat × Option Bool)
  | none, _ => S
  | some d, v => (d, v) :: S
theorem KnownAt.put {S : List (Nat × Option Bool)} {E : Env} (hK : KnownAt S E) (d : Option Nat) (v : Option Bool) : KnownAt (putB S d v) (updO E d (kv v)) := by
  cases d with
  | none => exact hK
  | some d =>
    intro t v' hl
    simp only [putB, look] at hl
    cases hb : Nat.beq d t with
    | true =>
      rw [hb] at hl
      simp only [cond_true, Option.some.injEq] at hl
      subst hl
      have := Nat.eq_of_beq_eq_true hb
      subst this
      exact upd_same _ _ _
    | false =>
      rw [hb] at hl
      have hne : t ≠ d := by intro e; subst e; rw [Nat.beq_refl] at hb; cases hb
      rw [updO, upd_ne _ _ _ _ hne]; exact hK t v' hl
def skipRun (n : Fsz) (ops : Array Oper) : List Oper → List (Nat × Option Bool) → Option (List (Nat × Option Bool))
  | [], S => some S
  | o :: r, S => bif dstOk n o.dst then match guardB ops S o.guard with
      | some false => skipRun n ops r (putB S o.dst none)
      | some true => match execB S o.op with
        | some b => skipRun n ops r (putB S o.dst (some b))
        | none => none
      | none => none
    else none
def notDst : List Oper → Nat → Bool
  | [], _ => true
  | o :: r, t => (match o.dst with | some d => !Nat.beq d t | none => true) && notDst r t
theorem notDst_ne {o : Oper} {r : List Oper} {t : Nat} (h : notDst (o :: r) t = true) (E : Env) (v : Value) : updO E o.dst v t = E t ∧ notDst r t = true := by
  simp only [notDst, Bool.and_eq_true] at h
  refine ⟨?_, h.2⟩
  cases hd : o.dst with
  | none => rfl
  | some d =>
    rw [hd] at h
    refine upd_ne _ _ _ _ (fun e => ?_)
    subst e
    have := h.1
    simp only [Nat.beq_refl, Bool.not_true, Bool.false_eq_true] at this
def skipOK (n : Fsz) (ops : Array Oper) (rest : List Oper) (S T : List (Nat × Option Bool)) : Bool := match skipRun n ops rest S with
  | some S' => T.all fun x => look S' x.1 == some x.2
  | none => false
theorem look_mem : ∀ {T : List (Nat × Option Bool)} {t : Nat} {v : Option Bool}, look T t = some v → (t, v) ∈ T
  | (t', v') :: r, t, v, h => by
    simp only [look] at h
    cases hb : Nat.beq t' t with
    | true =>
      rw [hb] at h
      simp only [cond_true, Option.some.injEq] at h
      subst h
      have := Nat.eq_of_beq_eq_true hb
      subst this
      simp
    | false => rw [hb] at h; exact List.mem_cons_of_mem _ (look_mem h)
theorem KnownAt.of_all {S T : List (Nat × Option Bool)} {E : Env} (hK : KnownAt S E) (h : (T.all fun x => look S x.1 == some x.2) = true) : KnownAt T E := by
  intro t v hl
  have := List.all_eq_true.1 h _ (look_mem hl)
  simp only [beq_iff_eq] at this
  exact hK t v this
section
variable {P : Program} {n : Fsz} {ro : Option Nat} {E : Env} {w : World} {ops : Array Oper} {rest : List Oper}
theorem WL.z {Q : K} {o : Oper} (u : Value) (h : OpV P o E w u) (k : WLr ro P n ops Q rest (updO E o.dst u) w) (hs : o.guard = none := by rfl) (hd : dstOk n o.dst = true := by rfl) : WLr ro P n ops Q (o :: rest) E w := WL.v (Sure.none hs) hd h k
theorem WQ.z {Q : Env → World → Prop} {o : Oper} (u : Value) (h : ∀ w', Ext [] w w' → OpV P o E w' u) (k : WQ P n ops w Q rest (updO E o.dst u)) (hs : o.guard = none := by rfl) (hd : dstOk n o.dst = true := by rfl) : WQ P n ops w Q (o :: rest) E := WQ.v (Sure.none hs) hd h k
theorem WL.y {Q : K} {o : Oper} {j g : Nat} {b : Bool} (u : Value) (hE : E g = .bool b) (h : OpV P o E w u) (k : WLr ro P n ops Q rest (updO E o.dst u) w) (hs : o.guard = some (j, b) := by rfl) (hj : (ops[j]?).bind (·.dst) = some g := by rfl) (hd : dstOk n o.dst = true := by rfl) : WLr ro P n ops Q (o :: rest) E w := WL.v (Sure.yes hs hj hE) hd h k
theorem WQ.y {Q : Env → World → Prop} {o : Oper} {j g : Nat} {b : Bool} (u : Value) (hE : E g = .bool b) (h : ∀ w', Ext [] w w' → OpV P o E w' u) (k : WQ P n ops w Q rest (updO E o.dst u)) (hs : o.guard = some (j, b) := by rfl) (hj : (ops[j]?).bind (·.dst) = some g := by rfl) (hd : dstOk n o.dst = true := by rfl) : WQ P n ops w Q (o :: rest) E := WQ.v (Sure.yes hs hj hE) hd h k
theorem WP.sr {N R : Env → World → Prop} {X : Nat → Env → World → Prop} {id : Nat} {l : List Oper} {y : Code} (h : WLr ro P n l.toArray ⟨WPr ro P n y ⟨N, X, R⟩, X, R⟩ l E w) : WPr ro P n (.seq (.region id l.toArray false) y) ⟨N, X, R⟩ E w := WP.seq (WP.region h)
theorem WL.vbp {Q : K} {o : Oper} {c : Prop} [Decidable c] (hs : Sure ops o E) (hd : dstOk n o.dst = true) (h : OpV P o E w (.bool (decide c))) (kt : c → WLr ro P n ops Q rest (updO E o.dst (.bool true)) w) (kf : ¬c → WLr ro P n ops Q rest (updO E o.dst (.bool false)) w) : WLr ro P n ops Q (o :: rest) E w := WL.vb hs hd h (fun e => kt (of_decide_eq_true e)) (fun e => kf (of_decide_eq_false e))
theorem WL.vbnp {Q : K} {o : Oper} {c : Prop} [Decidable c] (hs : Sure ops o E) (hd : dstOk n o.dst = true) (h : OpV P o E w (.bool (!decide c))) (kt : ¬c → WLr ro P n ops Q rest (updO E o.dst (.bool true)) w) (kf : c → WLr ro P n ops Q rest (updO E o.dst (.bool false)) w) : WLr ro P n ops Q (o :: rest) E w := WL.vb hs hd h (fun e => kt (of_decide_eq_false (bnot_true e))) (fun e => kf (of_decide_eq_true (bnot_false e)))
theorem WL.vbn {Q : K} {o : Oper} {c : Bool} (hs : Sure ops o E) (hd : dstOk n o.dst = true) (h : OpV P o E w (.bool (!c))) (kt : c = false → WLr ro P n ops Q rest (updO E o.dst (.bool true)) w) (kf : c = true → WLr ro P n ops Q rest (updO E o.dst (.bool false)) w) : WLr ro P n ops Q (o :: rest) E w := WL.vb hs hd h (fun e => kt (bnot_true e)) (fun e => kf (bnot_false e))
theorem WQ.vbp {Q : Env → World → Prop} {o : Oper} {c : Prop} [Decidable c] (hs : Sure ops o E) (hd : dstOk n o.dst = true) (h : ∀ w', Ext [] w w' → OpV P o E w' (.bool (decide c))) (kt : c → WQ P n ops w Q rest (updO E o.dst (.bool true))) (kf : ¬c → WQ P n ops w Q rest (updO E o.dst (.bool false))) : WQ P n ops w Q (o :: rest) E := WQ.vb hs hd h (fun e => kt (of_decide_eq_true e)) (fun e => kf (of_decide_eq_false e))
theorem WQ.vbnp {Q : Env → World → Prop} {o : Oper} {c : Prop} [Decidable c] (hs : Sure ops o E) (hd : dstOk n o.dst = true) (h : ∀ w', Ext [] w w' → OpV P o E w' (.bool (!decide c))) (kt : ¬c → WQ P n ops w Q rest (updO E o.dst (.bool true))) (kf : c → WQ P n ops w Q rest (updO E o.dst (.bool false))) : WQ P n ops w Q (o :: rest) E := WQ.vb hs hd h (fun e => kt (of_decide_eq_false (bnot_true e))) (fun e => kf (of_decide_eq_true (bnot_false e)))
theorem WQ.vbn {Q : Env → World → Prop} {o : Oper} {c : Bool} (hs : Sure ops o E) (hd : dstOk n o.dst = true) (h : ∀ w', Ext [] w w' → OpV P o E w' (.bool (!c))) (kt : c = false → WQ P n ops w Q rest (updO E o.dst (.bool true))) (kf : c = true → WQ P n ops w Q rest (updO E o.dst (.bool false))) : WQ P n ops w Q (o :: rest) E := WQ.vb hs hd h (fun e => kt (bnot_true e)) (fun e => kf (bnot_false e))
theorem WP.condp {Q : K} {c : Operand} {x y : Code} {t : Prop} [Decidable t] (hc : ev E c = .bool (decide t)) (ht : t → WPr ro P n x Q E w) (hf : ¬t → WPr ro P n y Q E w) : WPr ro P n (.cond c x y) Q E w := WP.cond hc (fun e => ht (of_decide_eq_true e)) (fun e => hf (of_decide_eq_false e))
theorem WP.condnp {Q : K} {c : Operand} {x y : Code} {t : Prop} [Decidable t] (hc : ev E c = .bool (!decide t)) (ht : ¬t → WPr ro P n x Q E w) (hf : t → WPr ro P n y Q E w) : WPr ro P n (.cond c x y) Q E w := WP.cond hc (fun e => ht (of_decide_eq_false (bnot_true e))) (fun e => hf (of_decide_eq_true (bnot_false e)))
theorem WP.condn {Q : K} {c : Operand} {x y : Code} {t : Bool} (hc : ev E c = .bool (!t)) (ht : t = false → WPr ro P n x Q E w) (hf : t = true → WPr ro P n y Q E w) : WPr ro P n (.cond c x y) Q E w := WP.cond hc (fun e => ht (bnot_true e)) (fun e => hf (bnot_false e))
/-- a value handed on, as it is -/
def handsOn : Op → Operand → Prop
  | .move x, y => x = y
  | .assign x, y => x = y
  | _, _ => False
theorem handsOn_v {P : Program} {o : Oper} {E : Env} {w : World} {x : Operand} (h : handsOn o.op x) : OpV P o E w (ev E x) := by
  unfold handsOn at h
  split at h
  · rename_i ho; subst h; exact V.move ho rfl
  · rename_i ho; subst h; exact V.assign ho rfl
  · exact h.elim
def pickOf (b : Bool) (x y : Operand) : Operand := bif b then x else y
theorem pick_v {P : Program} {o : Oper} {E : Env} {w : World} {c x y : Operand} {b : Bool} (ho : o.op = .pick c x y) (hc : ev E c = .bool b) : OpV P o E w (ev E (pickOf b x y)) := V.pick ho hc (by cases b <;> rfl)
theorem WL.m {Q : K} {o : Oper} {x : Operand} (ho : handsOn o.op x) (k : WLr ro P n ops Q rest (updO E o.dst (ev E x)) w) (hs : o.guard = none := by rfl) (hd : dstOk n o.dst = true := by rfl) : WLr ro P n ops Q (o :: rest) E w := WL.v (Sure.none hs) hd (handsOn_v ho) k
theorem WL.my {Q : K} {o : Oper} {x : Operand} {j g : Nat} {b : Bool} (hE : E g = .bool b) (ho : handsOn o.op x) (k : WLr ro P n ops Q rest (updO E o.dst (ev E x)) w) (hs : o.guard = some (j, b) := by rfl) (hj : (ops[j]?).bind (·.dst) = some g := by rfl) (hd : dstOk n o.dst = true := by rfl) : WLr ro P n ops Q (o :: rest) E w := WL.v (Sure.yes hs hj hE) hd (handsOn_v ho) k
theorem WQ.m {Q : Env → World → Prop} {o : Oper} {x : Operand} (ho : handsOn o.op x) (k : WQ P n ops w Q rest (updO E o.dst (ev E x))) (hs : o.guard = none := by rfl) (hd : dstOk n o.dst = true := by rfl) : WQ P n ops w Q (o :: rest) E := WQ.v (Sure.none hs) hd (fun _ _ => handsOn_v ho) k
theorem WQ.my {Q : Env → World → Prop} {o : Oper} {x : Operand} {j g : Nat} {b : Bool} (hE : E g = .bool b) (ho : handsOn o.op x) (k : WQ P n ops w Q rest (updO E o.dst (ev E x))) (hs : o.guard = some (j, b) := by rfl) (hj : (ops[j]?).bind (·.dst) = some g := by rfl) (hd : dstOk n o.dst = true := by rfl) : WQ P n ops w Q (o :: rest) E := WQ.v (Sure.yes hs hj hE) hd (fun _ _ => handsOn_v ho) k
theorem WL.k {Q : K} {o : Oper} {c x y : Operand} {a : Bool} (hc : ev E c = .bool a) (ho : o.op = .pick c x y) (k : WLr ro P n ops Q rest (updO E o.dst (ev E (pickOf a x y))) w) (hs : o.guard = none := by rfl) (hd : dstOk n o.dst = true := by rfl) : WLr ro P n ops Q (o :: rest) E w := WL.v (Sure.none hs) hd (pick_v ho hc) k
theorem WL.ky {Q : K} {o : Oper} {c x y : Operand} {a : Bool} {j g : Nat} {b : Bool} (hE : E g = .bool b) (hc : ev E c = .bool a) (ho : o.op = .pick c x y) (k : WLr ro P n ops Q rest (updO E o.dst (ev E (pickOf a x y))) w) (hs : o.guard = some (j, b) := by rfl) (hj : (ops[j]?).bind (·.dst) = some g := by rfl) (hd : dstOk n o.dst = true := by rfl) : WLr ro P n ops Q (o :: rest) E w := WL.v (Sure.yes hs hj hE) hd (pick_v ho hc) k
theorem WQ.k {Q : Env → World → Prop} {o : Oper} {c x y : Operand} {a : Bool} (hc : ev E c = .bool a) (ho : o.op = .pick c x y) (k : WQ P n ops w Q rest (updO E o.dst (ev E (pickOf a x y)))) (hs : o.guard = none := by rfl) (hd : dstOk n o.dst = true := by rfl) : WQ P n ops w Q (o :: rest) E := WQ.v (Sure.none hs) hd (fun _ _ => pick_v ho hc) k
theorem WQ.ky {Q : Env → World → Prop} {o : Oper} {c x y : Operand} {a : Bool} {j g : Nat} {b : Bool} (hE : E g = .bool b) (hc : ev E c = .bool a) (ho : o.op = .pick c x y) (k : WQ P n ops w Q rest (updO E o.dst (ev E (pickOf a x y)))) (hs : o.guard = some (j, b) := by rfl) (hj : (ops[j]?).bind (·.dst) = some g := by rfl) (hd : dstOk n o.dst = true := by rfl) : WQ P n ops w Q (o :: rest) E := WQ.v (Sure.yes hs hj hE) hd (fun _ _ => pick_v ho hc) k
/-- a field of a box, read -/
theorem WL.f {Q : K} {o1 o2 : Oper} {t i ft off sz b k d1 : Nat} {x : Operand} (v : Value) (hfl : FieldOf P t i ft off sz) (hx : ev E x = .pointer (some ⟨b, k, none⟩)) (hp : Plain P ft) (hc : w.cell? ⟨b, k + off, none⟩ = some v)
    (kk : WLr ro P n ops Q rest (updO (updO E (some d1) (.pointer (some ⟨b, k + off, none⟩))) o2.dst v) w) (h1 : o1.op = .fieldAddr t x i := by rfl) (hd : o1.dst = some d1 := by rfl) (h2 : o2.op = .load ft (.tmp d1) := by rfl) (g1 : o1.guard = none := by rfl) (g2 : o2.guard = none := by rfl) (e1 : dstOk n o1.dst = true := by rfl) (e2 : dstOk n o2.dst = true := by rfl) :
    WLr ro P n ops Q (o1 :: o2 :: rest) E w := by
  refine WL.v (Sure.none g1) e1 (V.fieldAddr h1 hfl hx) ?_
  rw [hd]
  exact WL.v (Sure.none g2) e2 (V.load h2 hp (upd_same _ _ _) hc) kk
theorem WL.fy {Q : K} {o1 o2 : Oper} {t i ft off sz b k d1 j g : Nat} {c : Bool} {x : Operand} (v : Value) (hE : E g = .bool c) (hfl : FieldOf P t i ft off sz) (hx : ev E x = .pointer (some ⟨b, k, none⟩)) (hp : Plain P ft) (hc : w.cell? ⟨b, k + off, none⟩ = some v)
    (kk : WLr ro P n ops Q rest (updO (updO E (some d1) (.pointer (some ⟨b, k + off, none⟩))) o2.dst v) w) (h1 : o1.op = .fieldAddr t x i := by rfl) (hd : o1.dst = some d1 := by rfl) (h2 : o2.op = .load ft (.tmp d1) := by rfl) (g1 : o1.guard = some (j, c) := by rfl) (g2 : o2.guard = some (j, c) := by rfl) (hj : (ops[j]?).bind (·.dst) = some g := by rfl) (hne : Nat.beq d1 g = false := by rfl) (e1 : dstOk n o1.dst = true := by rfl) (e2 : dstOk n o2.dst = true := by rfl) :
    WLr ro P n ops Q (o1 :: o2 :: rest) E w := by
  refine WL.v (Sure.yes g1 hj hE) e1 (V.fieldAddr h1 hfl hx) ?_
  rw [hd]
  have hg : g ≠ d1 := by intro e; subst e; rw [Nat.beq_refl] at hne; cases hne
  exact WL.v (Sure.yes g2 hj ((upd_ne _ _ _ _ hg).trans hE)) e2 (V.load h2 hp (upd_same _ _ _) hc) kk
theorem WQ.f {Q : Env → World → Prop} {o1 o2 : Oper} {t i ft off sz b k d1 : Nat} {x : Operand} (v : Value) (hfl : FieldOf P t i ft off sz) (hx : ev E x = .pointer (some ⟨b, k, none⟩)) (hp : Plain P ft) (hc : ∀ w', Ext [] w w' → w'.cell? ⟨b, k + off, none⟩ = some v)
    (kk : WQ P n ops w Q rest (updO (updO E (some d1) (.pointer (some ⟨b, k + off, none⟩))) o2.dst v)) (h1 : o1.op = .fieldAddr t x i := by rfl) (hd : o1.dst = some d1 := by rfl) (h2 : o2.op = .load ft (.tmp d1) := by rfl) (g1 : o1.guard = none := by rfl) (g2 : o2.guard = none := by rfl) (e1 : dstOk n o1.dst = true := by rfl) (e2 : dstOk n o2.dst = true := by rfl) :
    WQ P n ops w Q (o1 :: o2 :: rest) E := by
  refine WQ.v (Sure.none g1) e1 (fun _ _ => V.fieldAddr h1 hfl hx) ?_
  rw [hd]
  exact WQ.v (Sure.none g2) e2 (fun w' hw => V.load h2 hp (upd_same _ _ _) (hc w' hw)) kk
theorem WQ.fy {Q : Env → World → Prop} {o1 o2 : Oper} {t i ft off sz b k d1 j g : Nat} {c : Bool} {x : Operand} (v : Value) (hE : E g = .bool c) (hfl : FieldOf P t i ft off sz) (hx : ev E x = .pointer (some ⟨b, k, none⟩)) (hp : Plain P ft) (hc : ∀ w', Ext [] w w' → w'.cell? ⟨b, k + off, none⟩ = some v)
    (kk : WQ P n ops w Q rest (updO (updO E (some d1) (.pointer (some ⟨b, k + off, none⟩))) o2.dst v)) (h1 : o1.op = .fieldAddr t x i := by rfl) (hd : o1.dst = some d1 := by rfl) (h2 : o2.op = .load ft (.tmp d1) := by rfl) (g1 : o1.guard = some (j, c) := by rfl) (g2 : o2.guard = some (j, c) := by rfl) (hj : (ops[j]?).bind (·.dst) = some g := by rfl) (hne : Nat.beq d1 g = false := by rfl) (e1 : dstOk n o1.dst = true := by rfl) (e2 : dstOk n o2.dst = true := by rfl) :
    WQ P n ops w Q (o1 :: o2 :: rest) E := by
  refine WQ.v (Sure.yes g1 hj hE) e1 (fun _ _ => V.fieldAddr h1 hfl hx) ?_
  rw [hd]
  have hg : g ≠ d1 := by intro e; subst e; rw [Nat.beq_refl] at hne; cases hne
  exact WQ.v (Sure.yes g2 hj ((upd_ne _ _ _ _ hg).trans hE)) e2 (fun w' hw => V.load h2 hp (upd_same _ _ _) (hc w' hw)) kk
theorem WL.skipRun_ok {Q : K} : ∀ (rest : List Oper) (S S' : List (Nat × Option Bool)) (E : Env), KnownAt S E → skipRun n ops rest S = some S' → (∀ E', KnownAt S' E' → (∀ t, notDst rest t = true → E' t = E t) → Q.norm E' w) → WLr ro P n ops Q rest E w
  | [], S, S', E, hK, h, k => by
    simp only [skipRun, Option.some.injEq] at h
    subst h
    exact WL.nil (k E hK fun _ _ => rfl)
  | o :: r, S, S', E, hK, h, k => by
    simp only [skipRun] at h
    cases hd : dstOk n o.dst with
    | false => rw [hd] at h; cases h
    | true =>
      rw [hd] at h
      simp only [cond_true] at h
      split at h
      · rename_i hg
        exact WL.s (guardB_shut hK hg) hd (WL.skipRun_ok r _ S' _ (hK.put o.dst none) h fun E' hK' hE' => k E' hK' fun t ht => (hE' t (notDst_ne ht E undef).2).trans (notDst_ne ht E undef).1)
      · rename_i hg
        split at h
        · rename_i b hb
          exact WL.v (guardB_sure hK hg) hd (execB_ok hK hb w) (WL.skipRun_ok r _ S' _ (hK.put o.dst (some b)) h fun E' hK' hE' => k E' hK' fun t ht => (hE' t (notDst_ne ht E (.bool b)).2).trans (notDst_ne ht E (.bool b)).1)
        · cases h
      · cases h
theorem WL.skips {Q : K} (S T : List (Nat × Option Bool)) (hK : KnownAt S E) (h : skipOK n ops rest S T = true) (k : ∀ E', KnownAt T E' → (∀ t, notDst rest t = true → E' t = E t) → Q.norm E' w) : WLr ro P n ops Q rest E w := by
  unfold skipOK at h
  split at h
  · rename_i S' hS
    exact WL.skipRun_ok rest S S' E hK hS fun E' hK' hE' => k E' (hK'.of_all h) hE'
  · cases h
theorem WQ.skipRun_ok {Q : Env → World → Prop} : ∀ (rest : List Oper) (S S' : List (Nat × Option Bool)) (E : Env), KnownAt S E → skipRun n ops rest S = some S' → (∀ E', KnownAt S' E' → (∀ t, notDst rest t = true → E' t = E t) → ∀ w', Ext [] w w' → Q E' w') → WQ P n ops w Q rest E
  | [], S, S', E, hK, h, k => by
    simp only [skipRun, Option.some.injEq] at h
    subst h
    exact WQ.nil (k E hK fun _ _ => rfl)
  | o :: r, S, S', E, hK, h, k => by
    simp only [skipRun] at h
    cases hd : dstOk n o.dst with
    | false => rw [hd] at h; cases h
    | true =>
      rw [hd] at h
      simp only [cond_true] at h
      split at h
      · rename_i hg
        exact WQ.s (guardB_shut hK hg) hd (WQ.skipRun_ok r _ S' _ (hK.put o.dst none) h fun E' hK' hE' => k E' hK' fun t ht => (hE' t (notDst_ne ht E undef).2).trans (notDst_ne ht E undef).1)
      · rename_i hg
        split at h
        · rename_i b hb
          exact WQ.v (guardB_sure hK hg) hd (fun w' _ => execB_ok hK hb w') (WQ.skipRun_ok r _ S' _ (hK.put o.dst (some b)) h fun E' hK' hE' => k E' hK' fun t ht => (hE' t (notDst_ne ht E (.bool b)).2).trans (notDst_ne ht E (.bool b)).1)
        · cases h
      · cases h
theorem WQ.skips {Q : Env → World → Prop} (S T : List (Nat × Option Bool)) (hK : KnownAt S E) (h : skipOK n ops rest S T = true) (k : ∀ E', KnownAt T E' → (∀ t, notDst rest t = true → E' t = E t) → ∀ w', Ext [] w w' → Q E' w') : WQ P n ops w Q rest E := by
  unfold skipOK at h
  split at h
  · rename_i S' hS
    exact WQ.skipRun_ok rest S S' E hK hS fun E' hK' hE' => k E' (hK'.of_all h) hE'
  · cases h
end
end Go.Proofs.YtnhfkdgambncfaaGreatDoor.W
