/- The rules of single operations that read. Program-agnostic. -/
import Derived.Test.YtbbjonjhaoeidaaDoorOW2
set_option linter.unusedVariables false
set_option linter.unusedSimpArgs false
namespace Go.Proofs.YtbbjonjhaoeidaaDoor.W
open Go.RowKit
section
variable {P : Program} {o : Oper} {E : Env} {w : World}

theorem V.move {x : Operand} {v : Value} (ho : o.op = .move x) (hx : ev E x = v) : OpV P o E w v := by
  simp [OpV, execOp, ho, hx, go_sem]
theorem V.assign {x : Operand} {v : Value} (ho : o.op = .assign x) (hx : ev E x = v) : OpV P o E w v := by
  simp [OpV, execOp, ho, hx, go_sem]
theorem V.pick {c x y : Operand} {b : Bool} {v : Value} (ho : o.op = .pick c x y) (hc : ev E c = .bool b) (hv : (bif b then ev E x else ev E y) = v) : OpV P o E w v := by
  subst hv
  cases b <;> simp [OpV, execOp, ho, hc, go_sem, asBool]
theorem V.nilCheck {x : Operand} {a : Addr} (ho : o.op = .nilCheck x) (hx : ev E x = .pointer (some a)) : OpV P o E w (.pointer (some a)) := by
  simp [OpV, execOp, ho, hx, go_sem]
theorem V.extract {x : Operand} {i : Nat} {vs : Array Value} {v : Value} (ho : o.op = .extract x i) (hx : ev E x = .tuple vs) (hv : vs[i]? = some v) : OpV P o E w v := by
  simp [OpV, execOp, ho, hx, go_sem, Instr.extract, hv]
theorem V.not {t : TypeId} {x : Operand} {b : Bool} (ho : o.op = .unOp .not t x) (hx : ev E x = .bool b) : OpV P o E w (.bool !b) := by
  simp [OpV, execOp, ho, hx, go_sem, Op.unary]
theorem V.makeFunc {f : Fn} {a c : Array Operand} {a' c' : Array Value} (ho : o.op = .makeFunc f a c) (ha : a.map (ev E) = a') (hc : c.map (ev E) = c') : OpV P o E w (.func f a' c') := by
  subst ha; subst hc
  simp [OpV, execOp, ho, go_sem, Instr.makeFunc]

/-- a comparison of integers -/
def cmpB : BinOp → Int → Int → Option Bool
  | .eql, x, y => some (decide (x = y))
  | .neq, x, y => some (decide (x ≠ y))
  | .lss, x, y => some (decide (x < y))
  | .leq, x, y => some (decide (x ≤ y))
  | .gtr, x, y => some (decide (x > y))
  | .geq, x, y => some (decide (x ≥ y))
  | _, _, _ => none
theorem V.cmp {op : BinOp} {t u : TypeId} {x y : Operand} {k : IntKind} {a b : Int} {r : Bool} (ho : o.op = .binOp op t x y u) (hx : ev E x = .int k a) (hy : ev E y = .int k b)
    (hr : cmpB op a b = some r) : OpV P o E w (.bool r) := by
  cases op <;> simp only [cmpB, Option.some.injEq, reduceCtorEq] at hr <;> subst hr <;> simp [OpV, execOp, ho, hx, hy, go_sem, eqGuard, binOp, Op.intCmp] <;> rfl
def arith : BinOp → Int → Int → Option Int
  | .add, x, y => some (x + y)
  | .sub, x, y => some (x - y)
  | .mul, x, y => some (x * y)
  | _, _, _ => none
theorem V.arith {op : BinOp} {t u : TypeId} {x y : Operand} {k : IntKind} {a b r r' : Int} (ho : o.op = .binOp op t x y u) (hx : ev E x = .int k a) (hy : ev E y = .int k b)
    (hr : arith op a b = some r) (hw : k.wrap r = r') : OpV P o E w (.int k r') := by
  subst hw
  cases op <;> simp [W.arith] at hr <;> subst hr <;> simp [OpV, execOp, ho, hx, hy, go_sem, eqGuard, binOp, Op.intArith]
/-- a comparison of strings -/
def scmpB : BinOp → ByteArray → ByteArray → Option Bool
  | .eql, x, y => some (x.toList == y.toList)
  | .neq, x, y => some (!(x.toList == y.toList))
  | .lss, x, y => some (Op.bytesLess x.toList y.toList)
  | .leq, x, y => some (Op.bytesLess x.toList y.toList || x.toList == y.toList)
  | .gtr, x, y => some (!(Op.bytesLess x.toList y.toList || x.toList == y.toList))
  | .geq, x, y => some (!Op.bytesLess x.toList y.toList)
  | _, _, _ => none
theorem V.scmp {op : BinOp} {t u : TypeId} {x y : Operand} {a b : ByteArray} {r : Bool} (ho : o.op = .binOp op t x y u) (hx : ev E x = .string a) (hy : ev E y = .string b)
    (hr : scmpB op a b = some r) : OpV P o E w (.bool r) := by
  cases op <;> simp only [scmpB, Option.some.injEq, reduceCtorEq] at hr <;> subst hr <;> simp [OpV, execOp, ho, hx, hy, go_sem, eqGuard, binOp, Op.stringOp]
theorem V.sadd {t u : TypeId} {x y : Operand} {a b : ByteArray} (ho : o.op = .binOp .add t x y u) (hx : ev E x = .string a) (hy : ev E y = .string b)
    (hr : a.size + b.size ≤ 9223372036854775807) : OpV P o E w (.string (a ++ b)) := by
  have hr' : (a.size : Int) + (b.size : Int) ≤ 9223372036854775807 := by omega
  simp [OpV, execOp, ho, hx, hy, go_sem, eqGuard, binOp, Op.stringOp, hr']
theorem V.convInt {s d : TypeId} {k' : IntKind} {x : Operand} {k : IntKind} {a r : Int} (ho : o.op = .convert s d x) (hs : P.underlying s = some (.int k)) (hd : P.underlying d = some (.int k')) (hx : ev E x = .int k a)
    (hr : k'.wrap a = r) : OpV P o E w (.int k' r) := by
  subst hr
  simp [OpV, execOp, ho, hx, go_sem, convert, underlying, hs, hd, Conv.intToInt]

/-! ### Types -/
def Plain (P : Program) (t : TypeId) : Prop := ∃ d, P.underlying t = some d ∧ (∀ fs, d ≠ .struct fs) ∧ (∀ n e, d ≠ .array n e)
def Sized (P : Program) (t n : Nat) : Prop := (P.info? t).map (·.size) = some n
def Aggr (P : Program) (t n : Nat) : Prop := (∃ d, P.underlying t = some d ∧ ((∃ fs, d = .struct fs) ∨ (∃ n e, d = .array n e))) ∧ Sized P t n
/-- field i of the struct type t: it has type ft, lies at the cell off, and has sz cells, at least one -/
structure FieldOf (P : Program) (t i ft off sz : Nat) : Prop where
  h : ∃ fs f, P.underlying t = some (.struct fs) ∧ fs[i]? = some f ∧ f.type = ft ∧ f.offset = off
  size : Sized P ft sz
  pos : sz ≠ 0
theorem addr_add (b o n : Nat) : Addr.add ⟨b, o, none⟩ n = ⟨b, o + n, none⟩ := by
  unfold Addr.add
  split
  · simp_all
  · rfl
theorem size_of {n t : Nat} (h : Sized P t n) : (sizeOf t).run P w = .ok n w := by
  unfold Sized at h
  cases hi : P.info? t with
  | none => rw [hi] at h; cases h
  | some i => rw [hi] at h; simp at h; subst h; simp [sizeOf, typeInfo, hi, go_sem]
theorem is_agg_no {t : Nat} (h : Plain P t) : (isAgg t).run P w = .ok false w := by
  obtain ⟨d, h1, h2, h3⟩ := h
  cases d <;> simp [isAgg, underlying, h1, go_sem] <;> first | exact (h2 _ rfl).elim | exact (h3 _ _ rfl).elim
theorem is_agg_yes {t n : Nat} (h : Aggr P t n) : (isAgg t).run P w = .ok true w := by
  obtain ⟨⟨d, h1, h2⟩, _⟩ := h
  rcases h2 with ⟨_, rfl⟩ | ⟨_, _, rfl⟩ <;> simp [isAgg, underlying, h1, go_sem]

theorem V.lenSlice {tys : Array TypeId} {x : Operand} {a : Option Addr} {l c t e : Nat} (ho : o.op = .call ⟨.builtin .len, #[x], tys⟩) (ht : tys[0]? = some t) (hu : P.underlying t = some (.slice e)) (hx : ev E x = .slice a l c) :
    OpV P o E w (.int .i64 l) := by
  simp [OpV, execOp, ho, hx, go_sem, Builtin.len_, ht, hu, underlying]
theorem V.lenString {tys : Array TypeId} {x : Operand} {s : ByteArray} {t : Nat} (ho : o.op = .call ⟨.builtin .len, #[x], tys⟩) (ht : tys[0]? = some t) (hu : P.underlying t = some .string) (hx : ev E x = .string s) : OpV P o E w (.int .i64 s.size) := by
  simp [OpV, execOp, ho, hx, go_sem, Builtin.len_, ht, hu, underlying]
theorem V.fieldAddr {t : TypeId} {x : Operand} {i ft off sz b k : Nat} (ho : o.op = .fieldAddr t x i) (ht : FieldOf P t i ft off sz) (hx : ev E x = .pointer (some ⟨b, k, none⟩)) :
    OpV P o E w (.pointer (some ⟨b, k + off, none⟩)) := by
  obtain ⟨⟨fs, f, h1, h2, rfl, rfl⟩, h3, h4⟩ := ht
  simp [OpV, execOp, ho, hx, go_sem, Instr.fieldAt, underlying, h1, h2, Instr.sureAddr, fieldPlace, size_of h3, h4, addr_add]
theorem V.field {t : TypeId} {x : Operand} {i ft off sz : Nat} {cs : Array Value} {v : Value} (ho : o.op = .field t x i) (ht : FieldOf P t i ft off sz) (hp : Plain P ft) (hx : ev E x = .agg cs) (hv : cs[off]? = some v) :
    OpV P o E w v := by
  obtain ⟨⟨fs, f, h1, h2, rfl, rfl⟩, h3, h4⟩ := ht
  simp [OpV, execOp, ho, hx, go_sem, Instr.field, underlying, h1, h2, asAgg, part, is_agg_no hp, hv]
theorem V.fieldAgg {t : TypeId} {x : Operand} {i ft off sz : Nat} {cs cs' : Array Value} (ho : o.op = .field t x i) (ht : FieldOf P t i ft off sz) (hp : Aggr P ft sz) (hx : ev E x = .agg cs) (hv : cs.extract off (off + sz) = cs') :
    OpV P o E w (.agg cs') := by
  subst hv
  obtain ⟨⟨fs, f, h1, h2, rfl, rfl⟩, h3, h4⟩ := ht
  simp [OpV, execOp, ho, hx, go_sem, Instr.field, underlying, h1, h2, asAgg, part, is_agg_yes hp, size_of h3]
theorem V.indexAddr {t : TypeId} {x i : Operand} {e sz b k l c : Nat} {ik : IntKind} {j : Int} {m : Nat} (ho : o.op = .indexAddr t x i) (ht : P.underlying t = some (.slice e)) (hs : Sized P e sz)
    (hx : ev E x = .slice (some ⟨b, k, none⟩) l c) (hi : ev E i = .int ik j) (hj : j = (m : Int)) (hm : m < l) : OpV P o E w (.pointer (some ⟨b, k + m * sz, none⟩)) := by
  subst hj
  simp [OpV, execOp, ho, hx, hi, go_sem, Instr.indexAt, underlying, ht, asIntOf, size_of hs, addr_add, hm]
theorem V.indexString {t : TypeId} {x i : Operand} {s : ByteArray} {ik : IntKind} {j : Int} {m : Nat} {u : UInt8} (ho : o.op = .index t x i) (ht : P.underlying t = some .string)
    (hx : ev E x = .string s) (hi : ev E i = .int ik j) (hj : j = (m : Int)) (hm : s[m]? = some u) : OpV P o E w (.int .u8 u.toNat) := by
  subst hj
  simp [OpV, execOp, ho, hx, hi, go_sem, Instr.index, underlying, ht, asIntOf, hm]
/-- the cells at the place ⟨b, k⟩ of w -/
def At (w : World) (b k : Nat) (cs : List Value) : Prop := ∀ j v, cs[j]? = some v → w.cell? ⟨b, k + j, none⟩ = some v
theorem load_cell {a : Addr} {v : Value} (h : w.cell? a = some v) : (load a).run P w = .ok v w := by simp [load, Sem.run, h]
theorem load_cells {b k : Nat} (cs : List Value) : ∀ (i : Nat) (acc : Array Value), (∀ j v, cs[j]? = some v → w.cell? ⟨b, k + (i + j), none⟩ = some v) →
    (loadCellsFrom ⟨b, k, none⟩ i cs.length acc).run P w = .ok (acc ++ cs.toArray) w := by
  induction cs with
  | nil => intro i acc _; simp [loadCellsFrom, go_sem]
  | cons v cs ih =>
    intro i acc h
    have h0 := h 0 v (by simp)
    have h1 := ih (i + 1) (acc.push v) (fun j u hj => by have := h (j + 1) u (by simpa using hj); rw [show k + (i + 1 + j) = k + (i + (j + 1)) from by omega]; exact this)
    simp only [Nat.add_zero] at h0
    simp [loadCellsFrom, go_sem, addr_add, load_cell h0, h1]
theorem V.load {t : TypeId} {x : Operand} {a : Addr} {v : Value} (ho : o.op = .load t x) (ht : Plain P t) (hx : ev E x = .pointer (some a)) (hv : w.cell? a = some v) : OpV P o E w v := by
  simp [OpV, execOp, ho, hx, go_sem, Instr.loadAt, Instr.sureAddr, loadVar, is_agg_no ht, hv]
theorem V.loadAgg {t : TypeId} {x : Operand} {b k sz : Nat} {cs : List Value} (ho : o.op = .load t x) (ht : Aggr P t sz) (hx : ev E x = .pointer (some ⟨b, k, none⟩)) (hv : At w b k cs) (hl : cs.length = sz) : OpV P o E w (.agg cs.toArray) := by
  subst hl
  have h := load_cells (P := P) (w := w) (b := b) (k := k) cs 0 #[] (fun j v hj => by rw [show k + (0 + j) = k + j from by omega]; exact hv j v hj)
  simp [OpV, execOp, ho, hx, go_sem, Instr.loadAt, Instr.sureAddr, loadVar, is_agg_yes ht, size_of ht.2, loadCells, h]
theorem V.sliceString {t : TypeId} {x : Operand} {lo hi : Option Operand} {s r : ByteArray} {l h : Nat} (ho : o.op = .slice t x lo hi none) (ht : P.underlying t = some .string) (hx : ev E x = .string s)
    (hlo : match lo with | none => l = 0 | some y => ∃ ik, ev E y = .int ik (l : Int)) (hhi : match hi with | none => h = s.size | some y => ∃ ik, ev E y = .int ik (h : Int)) (h1 : l ≤ h) (h2 : h ≤ s.size) (hr : s.extract l h = r) :
    OpV P o E w (.string r) := by
  subst hr
  have e1 : (l : Int) ≤ (h : Int) := by omega
  have e2 : (h : Int) ≤ (s.size : Int) := by omega
  cases lo <;> cases hi <;> simp only at hlo hhi
  · subst hlo; subst hhi; simp [OpV, execOp, ho, hx, go_sem, Instr.sliceAt, underlying, ht, Instr.slice, Instr.sliceBounds]
  · obtain ⟨ik, hi'⟩ := hhi; subst hlo; simp [OpV, execOp, ho, hx, go_sem, Instr.sliceAt, underlying, ht, Instr.slice, Instr.sliceBounds, Instr.sliceBound, asIntOf, hi', e2, h1, h2]
  · obtain ⟨ik, hl'⟩ := hlo; subst hhi; simp [OpV, execOp, ho, hx, go_sem, Instr.sliceAt, underlying, ht, Instr.slice, Instr.sliceBounds, Instr.sliceBound, asIntOf, hl', e1, h1, h2]
  · obtain ⟨ik, hl'⟩ := hlo; obtain ⟨ik', hi'⟩ := hhi
    simp [OpV, execOp, ho, hx, go_sem, Instr.sliceAt, underlying, ht, Instr.slice, Instr.sliceBounds, Instr.sliceBound, asIntOf, hi', hl', e1, e2, h1, h2]
/-- a slice of a slice: from l to h, within the capacity -/
theorem V.sliceSlice {t : TypeId} {x : Operand} {lo hi : Option Operand} {e sz b k n c l h : Nat} (ho : o.op = .slice t x lo hi none) (ht : P.underlying t = some (.slice e)) (hs : Sized P e sz) (hx : ev E x = .slice (some ⟨b, k, none⟩) n c)
    (hlo : match lo with | none => l = 0 | some y => ∃ ik, ev E y = .int ik (l : Int)) (hhi : match hi with | none => h = n | some y => ∃ ik, ev E y = .int ik (h : Int)) (h1 : l ≤ h) (h2 : h ≤ c) :
    OpV P o E w (.slice (some ⟨b, k + (if c = l then 0 else l * sz), none⟩) (h - l) (c - l)) := by
  have e1 : (l : Int) ≤ (h : Int) := by omega
  have e2 : (h : Int) ≤ (c : Int) := by omega
  cases lo <;> cases hi <;> simp only at hlo hhi
  · subst hlo; subst hhi; simp [OpV, execOp, ho, hx, go_sem, Instr.sliceAt, underlying, ht, Instr.slice, Instr.sliceBounds, size_of hs, addr_add]
  · obtain ⟨ik, hi'⟩ := hhi; subst hlo; simp [OpV, execOp, ho, hx, go_sem, Instr.sliceAt, underlying, ht, Instr.slice, Instr.sliceBounds, Instr.sliceBound, asIntOf, hi', e2, h1, h2, size_of hs, addr_add]
  · obtain ⟨ik, hl'⟩ := hlo; subst hhi; simp [OpV, execOp, ho, hx, go_sem, Instr.sliceAt, underlying, ht, Instr.slice, Instr.sliceBounds, Instr.sliceBound, asIntOf, hl', e1, h1, h2, size_of hs, addr_add]
    split <;> rfl
  · obtain ⟨ik, hl'⟩ := hlo; obtain ⟨ik', hi'⟩ := hhi
    simp [OpV, execOp, ho, hx, go_sem, Instr.sliceAt, underlying, ht, Instr.slice, Instr.sliceBounds, Instr.sliceBound, asIntOf, hi', hl', e1, e2, h1, h2, size_of hs, addr_add]
    split <;> rfl
theorem V.sliceNil {t : TypeId} {x : Operand} {lo hi : Option Operand} {e sz : Nat} (ho : o.op = .slice t x lo hi none) (ht : P.underlying t = some (.slice e)) (hs : Sized P e sz) (hx : ev E x = .slice none 0 0)
    (hlo : match lo with | none => True | some y => ∃ ik, ev E y = .int ik 0) (hhi : match hi with | none => True | some y => ∃ ik, ev E y = .int ik 0) :
    OpV P o E w (.slice none 0 0) := by
  cases lo <;> cases hi <;> simp only at hlo hhi
  · simp [OpV, execOp, ho, hx, go_sem, Instr.sliceAt, underlying, ht, Instr.slice, Instr.sliceBounds, size_of hs]
  · obtain ⟨ik, hi'⟩ := hhi; simp [OpV, execOp, ho, hx, go_sem, Instr.sliceAt, underlying, ht, Instr.slice, Instr.sliceBounds, Instr.sliceBound, asIntOf, hi', size_of hs]
  · obtain ⟨ik, hl'⟩ := hlo; simp [OpV, execOp, ho, hx, go_sem, Instr.sliceAt, underlying, ht, Instr.slice, Instr.sliceBounds, Instr.sliceBound, asIntOf, hl', size_of hs]
  · obtain ⟨ik, hl'⟩ := hlo; obtain ⟨ik', hi'⟩ := hhi
    simp [OpV, execOp, ho, hx, go_sem, Instr.sliceAt, underlying, ht, Instr.slice, Instr.sliceBounds, Instr.sliceBound, asIntOf, hi', hl', size_of hs]
end
/-! ### Calls -/
section
variable {P : Program} {o : Oper} {E : Env} {w : World}
def Callable (P : Program) (f : FuncId) : Prop := ∃ fn, P.funcs[f]? = some fn ∧ (fn.name == "runtime.NumGoroutine") = false ∧ fn.body.isNone = false
theorem C.call {f : FuncId} {xs : Array Operand} {tys : Array TypeId} {args : Array Value} (ho : o.op = .call ⟨.value (.func f), xs, tys⟩) (ha : xs.map (ev E) = args) (hf : Callable P f) : OpC P o E w f args := by
  subst ha
  obtain ⟨fn, hfn, hn, hb⟩ := hf
  have hn' : ¬ fn.name = "runtime.NumGoroutine" := by simpa using hn
  have hb' : ¬ fn.body = none := by intro e; rw [e] at hb; cases hb
  simp [OpC, execOp, ho, go_sem, ev, callFunc, hfn, hn', hb']
end
end Go.Proofs.YtbbjonjhaoeidaaDoor.W
