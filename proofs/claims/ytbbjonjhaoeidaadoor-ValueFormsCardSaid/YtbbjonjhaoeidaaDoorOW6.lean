/- Rules that the printer of walks uses. Program-agnostic. -/
import Derived.Test.YtbbjonjhaoeidaaDoorOW5
set_option linter.unusedVariables false
set_option linter.unusedSimpArgs false
namespace Go.Proofs.YtbbjonjhaoeidaaDoor.W
open Go.RowKit

theorem WP.seq_cut {P : Program} {n : Fsz} {ro : Option Nat} {N R : Env → World → Prop} {X : Nat → Env → World → Prop} {E : Env} {w : World} {x y : Code} (J : Env → World → Prop) (h : WPr ro P n x ⟨J, X, R⟩ E w) (k : ∀ E w, J E w → WPr ro P n y ⟨N, X, R⟩ E w) : WPr ro P n (.seq x y) ⟨N, X, R⟩ E w :=
  WP.seq (WP.mono h k (fun _ _ _ h => h) (fun _ _ h => h))

section
variable {P : Program} {n : Fsz} {ro : Option Nat} {Q : K} {E : Env} {w : World} {ops : Array Oper} {o : Oper} {rest : List Oper}
theorem WL.vb {c : Bool} (hs : Sure ops o E) (hd : dstOk n o.dst = true) (h : OpV P o E w (.bool c)) (kt : c = true → WLr ro P n ops Q rest (updO E o.dst (.bool true)) w) (kf : c = false → WLr ro P n ops Q rest (updO E o.dst (.bool false)) w) : WLr ro P n ops Q (o :: rest) E w := by
  cases c
  · exact WL.v hs hd h (kf rfl)
  · exact WL.v hs hd h (kt rfl)
end
section
variable {P : Program} {n : Fsz} {E : Env} {w : World} {ops : Array Oper} {o : Oper} {rest : List Oper} {Q : Env → World → Prop}
theorem WQ.vb {c : Bool} (hs : Sure ops o E) (hd : dstOk n o.dst = true) (h : ∀ w', Ext [] w w' → OpV P o E w' (.bool c)) (kt : c = true → WQ P n ops w Q rest (updO E o.dst (.bool true))) (kf : c = false → WQ P n ops w Q rest (updO E o.dst (.bool false))) : WQ P n ops w Q (o :: rest) E := by
  cases c
  · exact WQ.v hs hd h (kf rfl)
  · exact WQ.v hs hd h (kt rfl)
end
section
variable {P : Program} {o : Oper} {E : Env} {w : World} {f : FuncId} {tys : Array TypeId}
theorem C.call0 (ho : o.op = .call ⟨.value (.func f), #[], tys⟩) (hf : Callable P f) : OpC P o E w f #[] := C.call ho (by simp) hf
theorem C.call1 {x : Operand} {a : Value} (ho : o.op = .call ⟨.value (.func f), #[x], tys⟩) (hf : Callable P f) (h1 : ev E x = a) : OpC P o E w f #[a] := C.call ho (by simp [h1]) hf
theorem C.call2 {x y : Operand} {a b : Value} (ho : o.op = .call ⟨.value (.func f), #[x, y], tys⟩) (hf : Callable P f) (h1 : ev E x = a) (h2 : ev E y = b) : OpC P o E w f #[a, b] := C.call ho (by simp [h1, h2]) hf
theorem C.call3 {x y z : Operand} {a b c : Value} (ho : o.op = .call ⟨.value (.func f), #[x, y, z], tys⟩) (hf : Callable P f) (h1 : ev E x = a) (h2 : ev E y = b) (h3 : ev E z = c) : OpC P o E w f #[a, b, c] := C.call ho (by simp [h1, h2, h3]) hf
theorem C.call4 {x y z u : Operand} {a b c d : Value} (ho : o.op = .call ⟨.value (.func f), #[x, y, z, u], tys⟩) (hf : Callable P f) (h1 : ev E x = a) (h2 : ev E y = b) (h3 : ev E z = c) (h4 : ev E u = d) : OpC P o E w f #[a, b, c, d] := C.call ho (by simp [h1, h2, h3, h4]) hf
/-- a call of a function value -/
theorem C.callv1 {g x : Operand} {cap : Array Value} {a : Value} {args : Array Value} (ho : o.op = .call ⟨.value g, #[x], tys⟩) (hg : ev E g = .func (.func f) #[] cap) (hn : ∀ f', g ≠ .func f') (hf : Callable P f) (h1 : ev E x = a) (ha : #[a] ++ cap = args) : OpC P o E w f args := by
  subst ha
  obtain ⟨fn, hfn, hname, hb⟩ := hf
  have hn' : ¬ fn.name = "runtime.NumGoroutine" := by simpa using hname
  have hb' : ¬ fn.body = none := by intro e; rw [e] at hb; cases hb
  cases g with
  | func f' => exact absurd rfl (hn f')
  | _ => simp [OpC, execOp, ho, go_sem, hg, callFunc, hfn, hn', hb', h1]
end

theorem At.seg {w : World} {b : Nat} {t : TypeId} {cs : List Value} (h : Box w b t cs) (k m : Nat) : At w b k ((cs.drop k).take m) := by
  intro j v hj
  refine h.cell ?_
  rw [List.getElem?_take] at hj
  split at hj
  · rw [List.getElem?_drop] at hj; exact hj
  · cases hj
theorem At.box {w : World} {b : Nat} {t : TypeId} {cs : List Value} (h : Box w b t cs) : At w b 0 cs := fun j v hj => by rw [Nat.zero_add]; exact h.cell hj
/-- one's own boxes are nothing that was there -/
theorem Ext.done {X : List Nat} {a c : World} (h : Ext X a c) (hX : ∀ x ∈ X, a.heap.size ≤ x) : Ext [] a c :=
  ⟨h.os, h.tape, h.output, h.size, fun i hi _ => h.block i hi fun hx => by have := hX i hx; omega⟩
theorem run_loadVar_agg {P : Program} {w : World} {t sz b k : Nat} {cs : List Value} (ht : Aggr P t sz) (hv : At w b k cs) (hl : cs.length = sz) : (loadVar t ⟨b, k, none⟩).run P w = .ok (.agg cs.toArray) w := by
  subst hl
  have h := load_cells (P := P) (w := w) (b := b) (k := k) cs 0 #[] (fun j v hj => by rw [show k + (0 + j) = k + j from by omega]; exact hv j v hj)
  simp [loadVar, go_sem, is_agg_yes ht, size_of ht.2, loadCells, h]
theorem run_loadVar_one {P : Program} {w : World} {t : Nat} {a : Addr} {v : Value} (ht : Plain P t) (hv : w.cell? a = some v) : (loadVar t a).run P w = .ok v w := by
  simp [loadVar, go_sem, is_agg_no ht, hv]
/-- what a result's variable holds -/
def ResVal (P : Program) (E : Env) (w : World) (r : ResultVar) (v : Value) : Prop := match r with
  | .tmp t => E t = v
  | .cell a t => ∃ b k, E a = .pointer (some ⟨b, k, none⟩) ∧ (loadVar t ⟨b, k, none⟩).run P w = .ok v w
def readVar (tmps : Array Value) : ResultVar → Sem Value
  | .tmp t => pure (tmps.getD t undef)
  | .cell a t => do loadVar t (← asAddr (tmps.getD a undef))
theorem results_eq (fn : Func) (tmps : Array Value) : results fn tmps = (do let vs ← fn.results.mapM (readVar tmps); pure (if h : vs.size = 1 then vs[0] else .tuple vs)) := rfl
theorem ResVal.run {P : Program} {E : Env} {w : World} {r : ResultVar} {v : Value} (h : ResVal P E w r v) (tmps : Array Value) (he : (fun t => tmps.getD t undef) = E) :
    (readVar tmps r).run P w = .ok v w := by
  subst he
  cases r with
  | tmp t => simp only [ResVal] at h; simp only [readVar, h]; rfl
  | cell a t =>
    obtain ⟨b, k, h1, h2⟩ := h
    simp only [readVar, h1, asAddr, Sem.run_bind, Sem.run_pure, Result.andThen_ok, h2]
theorem resOf.c1 {fn : Func} {P : Program} {E : Env} {w : World} {R : Value → World → Prop} {r : ResultVar} {v : Value}
    (hr : fn.results = #[r]) (hv : ResVal P E w r v) (hR : R v w) : resOf fn P E w R := by
  intro tmps _ he
  refine ⟨v, ?_, hR⟩
  have h1 := hv.run tmps he
  rw [results_eq, hr]
  simp only [List.mapM_toArray, List.mapM_cons, List.mapM_nil, Sem.run_bind, Sem.run_pure, Sem.run_map, Result.andThen_ok, h1]
  rfl
theorem resOf.c2 {fn : Func} {P : Program} {E : Env} {w : World} {R : Value → World → Prop} {r r' : ResultVar} {v v' : Value}
    (hr : fn.results = #[r, r']) (hv : ResVal P E w r v) (hv' : ResVal P E w r' v') (hR : R (.tuple #[v, v']) w) : resOf fn P E w R := by
  intro tmps _ he
  refine ⟨_, ?_, hR⟩
  have h1 := hv.run tmps he
  have h2 := hv'.run tmps he
  rw [results_eq, hr]
  simp only [List.mapM_toArray, List.mapM_cons, List.mapM_nil, Sem.run_bind, Sem.run_pure, Sem.run_map, Result.andThen_ok, h1, h2]
  rfl
theorem resOf.c3 {fn : Func} {P : Program} {E : Env} {w : World} {R : Value → World → Prop} {r r' r'' : ResultVar} {v v' v'' : Value}
    (hr : fn.results = #[r, r', r'']) (hv : ResVal P E w r v) (hv' : ResVal P E w r' v') (hv'' : ResVal P E w r'' v'') (hR : R (.tuple #[v, v', v'']) w) : resOf fn P E w R := by
  intro tmps _ he
  refine ⟨_, ?_, hR⟩
  have h1 := hv.run tmps he
  have h2 := hv'.run tmps he
  have h3 := hv''.run tmps he
  rw [results_eq, hr]
  simp only [List.mapM_toArray, List.mapM_cons, List.mapM_nil, Sem.run_bind, Sem.run_pure, Sem.run_map, Result.andThen_ok, h1, h2, h3]
  rfl
theorem Ext.pre {O X : List Nat} {a b : World} (h : Ext O a b) : Ext (O ++ X) a b := h.mono fun k hk => List.mem_append.2 (.inl hk)
theorem Ext.cons {O : List Nat} {a b : World} {c : Nat} (h : Ext O a b) : Ext (c :: O) a b := h.mono fun k hk => List.mem_cons_of_mem _ hk
theorem Ext.drop {O : List Nat} {a c : World} {b : Nat} (h : Ext (b :: O) a c) (hb : a.heap.size ≤ b) : Ext O a c :=
  ⟨h.os, h.tape, h.output, h.size, fun i hi hx => h.block i hi fun hm => by
    rcases List.mem_cons.1 hm with e | hm
    · omega
    · exact hx hm⟩
/-- all numbers below n are so -/
def allB (n : Nat) (p : Nat → Bool) : Bool := (List.range n).all p
theorem allB_true {n k : Nat} {p : Nat → Bool} (h : ∀ j, j < k → p j = true) (hk : n ≤ k) : allB n p = true := by
  simp only [allB, List.all_eq_true, List.mem_range]
  exact fun j hj => h j (by omega)
theorem allB_false {n k : Nat} {p : Nat → Bool} (hk : k < n) (h : p k = false) : allB n p = false := by
  simp only [allB, List.all_eq_false, List.mem_range]
  exact ⟨k, hk, by simp [h]⟩
theorem allB_iff {n : Nat} {p : Nat → Bool} : allB n p = true ↔ ∀ j, j < n → p j = true := by simp [allB]
theorem all_zero (p : Nat → Bool) : ∀ j, j < 0 → p j = true := fun _ h => by omega
theorem all_step {k : Nat} {p : Nat → Bool} (h : ∀ j, j < k → p j = true) (hk : p k = true) : ∀ j, j < k + 1 → p j = true := fun j hj => by
  rcases Nat.lt_or_ge j k with hlt | hge
  · exact h j hlt
  · obtain rfl : j = k := by omega
    exact hk
theorem bnot_true {b : Bool} (h : (!b) = true) : b = false := by cases b <;> simp_all
theorem bnot_false {b : Bool} (h : (!b) = false) : b = true := by cases b <;> simp_all
def structFields (P : Program) (t : TypeId) : Array Field := match P.underlying t with | some (.struct fs) => fs | _ => #[]
def fieldAt (P : Program) (t i : Nat) : Field := (structFields P t).getD i default
theorem getD_some {α : Type} {xs : List α} {i : Nat} (h : i < xs.length) (d : α) : xs[i]? = some (xs.getD i d) := by
  rw [List.getD_eq_getElem?_getD, List.getElem?_eq_getElem h]; rfl
theorem Sl.le' {α : Type} {R : Rep α} {X : List Nat} {w : World} {v : Value} {xs : List α} (h : Sl R X w v xs) : xs.length ≤ 9223372036854775807 := by have := h.le; simpa [maxLen] using this
theorem int_eq {k : IntKind} {a b : Int} (h : a = b) : Value.int k a = Value.int k b := by rw [h]
theorem bool_eq {a b : Bool} (h : a = b) : Value.bool a = Value.bool b := by rw [h]
theorem str_eq {a b : ByteArray} (h : a = b) : Value.string a = Value.string b := by rw [h]
theorem tup2 {a b c d : Value} (h : a = b) (k : c = d) : Value.tuple #[a, c] = Value.tuple #[b, d] := by rw [h, k]
theorem tup3 {a b c d e f : Value} (h : a = b) (k : c = d) (l : e = f) : Value.tuple #[a, c, e] = Value.tuple #[b, d, f] := by rw [h, k, l]
theorem V.max {P : Program} {o : Oper} {E : Env} {w : World} {tys : Array TypeId} {x y : Operand} {k k' : IntKind} {a b : Int} {t : Nat} (ho : o.op = .call ⟨.builtin .max, #[x, y], tys⟩) (ht : tys[0]? = some t) (hu : P.underlying t = some (.int k')) (hx : ev E x = .int k a) (hy : ev E y = .int k b) : OpV P o E w (.int k (Max.max a b)) := by
  have e : #[x, y].map (ev E) = #[.int k a, .int k b] := by simp [hx, hy]
  have e2 : (if b > a then b else a) = Max.max a b := by split <;> omega
  have h : (Builtin.max_ tys o.type #[.int k a, .int k b]).run P w = .ok (.int k (Max.max a b)) w := by
    rw [← e2]; simp only [Builtin.max_]; rfl
  simp only [OpV, execOp, ho, resolve]
  rw [e]
  exact run_v h
theorem V.min {P : Program} {o : Oper} {E : Env} {w : World} {tys : Array TypeId} {x y : Operand} {k k' : IntKind} {a b : Int} {t : Nat} (ho : o.op = .call ⟨.builtin .min, #[x, y], tys⟩) (ht : tys[0]? = some t) (hu : P.underlying t = some (.int k')) (hx : ev E x = .int k a) (hy : ev E y = .int k b) : OpV P o E w (.int k (Min.min a b)) := by
  have e : #[x, y].map (ev E) = #[.int k a, .int k b] := by simp [hx, hy]
  have e2 : (if b < a then b else a) = Min.min a b := by split <;> omega
  have h : (Builtin.min_ tys o.type #[.int k a, .int k b]).run P w = .ok (.int k (Min.min a b)) w := by
    rw [← e2]; simp only [Builtin.min_]; rfl
  simp only [OpV, execOp, ho, resolve]
  rw [e]
  exact run_v h
theorem wrap_u64 {n : Int} (h1 : 0 ≤ n) (h2 : n ≤ 18446744073709551615) : IntKind.u64.wrap n = n := by
  simp [IntKind.wrap, IntKind.signed, IntKind.bits]; omega
theorem wrap_u8 {n : Int} (h1 : 0 ≤ n) (h2 : n ≤ 255) : IntKind.u8.wrap n = n := by
  simp [IntKind.wrap, IntKind.signed, IntKind.bits]; omega
theorem inNil {w : World} : ∀ x ∈ ([] : List Nat), x < w.heap.size := by simp
theorem inCons {w : World} {b : Nat} {X : List Nat} (h : b < w.heap.size) (k : ∀ x ∈ X, x < w.heap.size) : ∀ x ∈ b :: X, x < w.heap.size := by
  intro x hx; rcases List.mem_cons.1 hx with rfl | hx
  · exact h
  · exact k x hx
theorem geNil {B : Nat} : ∀ x ∈ ([] : List Nat), B ≤ x := by simp
theorem geCons {B b : Nat} {X : List Nat} (h : B ≤ b) (k : ∀ x ∈ X, B ≤ x) : ∀ x ∈ b :: X, B ≤ x := by
  intro x hx; rcases List.mem_cons.1 hx with rfl | hx
  · exact h
  · exact k x hx
end Go.Proofs.YtbbjonjhaoeidaaDoor.W
