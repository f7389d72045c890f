/- An evaluator of closed calls: what is read is known, what is new is named by numbers. Definitions. Program-agnostic. -/
import Derived.Test.YtkcnljgennehaaaW9
namespace Go.Proofs.Ytkcnljgennehaaa.Ev
open Go.RowKit Go.Proofs.Ytkcnljgennehaaa.W

/-! ### Tries -/
inductive Tr (α : Type) where
  | nil
  | node (l : Tr α) (v : Option α) (r : Tr α)
def Tr.get {α : Type} : Tr α → Nat → Option α
  | .nil, _ => none
  | .node l v r, k => bif Nat.beq k 0 then v else bif Nat.beq (Nat.mod k 2) 1 then l.get (Nat.div k 2) else r.get (Nat.div (Nat.sub k 1) 2)
def Tr.left {α : Type} : Tr α → Tr α | .nil => .nil | .node l _ _ => l
def Tr.val {α : Type} : Tr α → Option α | .nil => none | .node _ v _ => v
def Tr.right {α : Type} : Tr α → Tr α | .nil => .nil | .node _ _ r => r
def Tr.set {α : Type} : Nat → Tr α → Nat → Option α → Tr α
  | 0, _, _, _ => .nil
  | d + 1, t, k, x => bif Nat.beq k 0 then .node t.left x t.right else bif Nat.beq (Nat.mod k 2) 1 then .node (Tr.set d t.left (Nat.div k 2) x) t.val t.right else .node t.left t.val (Tr.set d t.right (Nat.div (Nat.sub k 1) 2) x)

/-! ### Values with names in the place of addresses -/
inductive AV where
  | v (x : Value)
  | ptr (l off : Nat)
  | sl (l off len c : Nat) (ex : Bool)
  | agg (cs : List AV)
  | tup (cs : List AV)
  | fn (f : FuncId) (cs : List AV)
  | yld (l : Nat)
  /-- some text of n bytes -/
  | str (n : Nat)
  | mp (l : Nat)
  /-- some text of at most n bytes -/
  | txt (n : Nat)
  /-- some slice of no elements, not nil -/
  | sl0
  /-- some value of one cell -/
  | unk
  /-- the capacity of a row of that name, from element d on -/
  | cap (l d : Nat)
  | opq (i : Nat)
structure AO where
  et : TypeId
  cs : List AV
  sz : Nat
  row : Bool
  /-- fewer elements than these have room -/
  hi : Option Nat
abbrev AE := Tr AV
/-- a loop over a function: what its rounds begin with -/
structure LO where
  state : LoopState
  N : Nat
  A : AE
  ps : List Nat
  asg : Code
  body : Code
  jump : Option Code
/-- what a name is of: cells, a loop over a function, a block for deferred calls -/
inductive AX where
  | c (o : AO)
  | l (o : LO)
  | d
  /-- n cells, each the same -/
  | z (et : TypeId) (x : Value) (n : Nat)
  /-- a map's entries: key, value, when it was born; the clock -/
  | m (es : List (Value × AV × Nat)) (clock : Nat)
  /-- a walk over a map -/
  | mi (map : Option Nat) (since : Nat) (seen : List Nat) (stepped : Nat)
  /-- a walk over a text -/
  | si (s : ByteArray) (pos : Nat)
structure Stt where
  h : Tr AX
  nx : Nat
inductive Rs where
  | rd (a : AV)
  | wr (a : AV) (st : Stt)
  | call (f : FuncId) (args : List AV)
  | rnd (l : Nat) (args : List AV)

def opd (A : AE) : Operand → Option AV
  | .tmp t => A.get t
  | .const v => some (.v v)
  | .global _ => none
  | .func f => some (.v (.func (.func f) #[] #[]))
def opds (A : AE) : List Operand → Option (List AV)
  | [] => some []
  | x :: r => match opd A x with
    | some a => match opds A r with
      | some as => some (a :: as)
      | none => none
    | none => none
def isV : AV → Bool | .v _ => true | _ => false
def valOf : AV → Value | .v x => x | _ => undef
def rho (A : AE) (x : Operand) : Value := match opd A x with | some (.v v) => v | _ => undef
def allV (A : AE) : List Operand → Bool
  | [] => true
  | x :: r => match opd A x with | some (.v _) => allV A r | _ => false
/-- the cells of a value -/
def cellsA : AV → List AV
  | .v (.agg vs) => vs.toList.map .v
  | .agg cs => cs
  | a => [a]
def allVs : List AV → Bool
  | [] => true
  | .v _ :: r => allVs r
  | _ => false
def mkAgg (cs : List AV) : AV := bif allVs cs then .v (.agg (cs.map valOf).toArray) else .agg cs
def mkTup (cs : List AV) : AV := bif allVs cs then .v (.tuple (cs.map valOf).toArray) else .tup cs
def pureRun {α : Type} (P : Program) : Sem α → Option α
  | .pure a => some a
  | .program k => pureRun P (k P)
  | .mark _ k => pureRun P k
  | _ => none
def isAggD : TypeDesc → Bool | .struct _ => true | .array _ _ => true | _ => false
def szOf (P : Program) (t : TypeId) : Option Nat := match P.info? t with | some i => some i.size | none => none
def zeroA (P : Program) (t : TypeId) : Option (List AV) := match P.info? t with
  | some i => match i.zero with
    | some v => some (cellsA (.v v))
    | none => none
  | none => none
/-- a part of cells, of type t, at off -/
def partA (P : Program) (t : TypeId) (cs : List AV) (off : Nat) : Option AV := match P.underlying t, szOf P t with
  | some d, some sz => bif isAggD d then (bif Nat.ble (off + sz) cs.length then some (mkAgg ((cs.drop off).take sz)) else none) else cs[off]?
  | _, _ => none
def spliceA (cs : List AV) (i : Nat) (vs : List AV) : List AV := cs.take i ++ vs ++ cs.drop (i + vs.length)
/-- no cell of one's own is an aggregate -/
def oneCellA : AV → Bool
  | .v (.agg _) => false | .v (.tuple _) => false | .agg _ => false | .tup _ => false | _ => true
def fillA (place : Nat → Option (Nat × Nat)) (cs : List AV) : List (Nat × AV) → Option (List AV)
  | [] => some cs
  | (i, a) :: r => match place i with
    | none => none
    | some (off, sz) => bif Nat.beq (cellsA a).length sz && Nat.ble (off + sz) cs.length then fillA place (spliceA cs off (cellsA a)) r else none
def partsA (A : AE) : List (Nat × Operand) → Option (List (Nat × AV))
  | [] => some []
  | (i, x) :: r => match opd A x with
    | some a => match partsA A r with
      | some as => some ((i, a) :: as)
      | none => none
    | none => none
def newX (st : Stt) (x : AX) : Stt := ⟨st.h.set 24 st.nx (some x), st.nx + 1⟩
def setX (st : Stt) (l : Nat) (x : AX) : Stt := ⟨st.h.set 24 l (some x), st.nx⟩
def newO (st : Stt) (o : AO) : Stt := newX st (.c o)
def setO (st : Stt) (l : Nat) (o : AO) : Stt := setX st l (.c o)
def delO (st : Stt) (l : Nat) : Stt := ⟨st.h.set 24 l none, st.nx⟩
def natOf : AV → Option Nat
  | .v (.int _ (.ofNat n)) => some n
  | _ => none
def repZ (z : List AV) : Nat → List AV
  | 0 => []
  | n + 1 => z ++ repZ z n
/-- the elements of a slice, as cells -/
def elemsA (st : Stt) (sz : Nat) : AV → Option (List AV)
  | .v (.slice none 0 0) => some []
  | .sl0 => some []
  | .sl l o n _ _ => match st.h.get l with
    | some (.c b) => bif Nat.ble (o + n * sz) b.cs.length then some ((b.cs.drop o).take (n * sz)) else none
    | _ => none
  | _ => none
/-- cells that are bytes -/
def intsA : List AV → Option (List Int)
  | [] => some []
  | .v (.int .u8 n) :: r => match intsA r with
    | some ns => some (n :: ns)
    | none => none
  | _ => none
def lenA : AV → Option Nat
  | .v (.slice _ n _) => some n
  | .sl _ _ n _ _ => some n
  | .sl0 => some 0
  | _ => none

def evRead (P : Program) (st : Stt) (t : TypeId) (a : AV) : Option AV := match a with
  | .ptr l k => match st.h.get l with
    | some (.c b) => partA P t b.cs k
    | _ => none
  | _ => none
def evStore (P : Program) (st : Stt) (t : TypeId) (a y : AV) : Option Stt := match a with
  | .ptr l k => match st.h.get l, szOf P t with
    | some (.c b), some sz => bif Nat.beq (cellsA y).length sz && Nat.ble (k + sz) b.cs.length && (cellsA y).all oneCellA then some (setO st l { b with cs := spliceA b.cs k (cellsA y) }) else none
    | _, _ => none
  | _ => none
def bnd (A : AE) (x : Option Operand) (d : Nat) : Option Nat := match x with
  | none => some d
  | some x => match opd A x with
    | some a => natOf a
    | none => none
/-- may a slice of loc l, from o on, be seen as n elements of sz cells, within its capacity? -/
def fitsA (st : Stt) (sz l c n : Nat) (ex : Bool) : Bool := bif ex then Nat.ble n c else match st.h.get l with
  | some (.c b) => b.row && Nat.ble 1 sz && Nat.beq b.sz sz && Nat.ble ((c + n) * sz) b.cs.length
  | _ => false
def maxOk : Option Operand → Option Operand → Bool
  | some _, none => false
  | _, _ => true
def evSlice (P : Program) (st : Stt) (A : AE) (t : TypeId) (x : Operand) (lo hi mx : Option Operand) : Option AV := match opd A x, P.underlying t with
  | some (.sl l o n c ex), some (.slice e) => match szOf P e, bnd A lo 0, bnd A hi n with
    | some sz, some a, some b => match mx with
      | none => bif Nat.ble a b && fitsA st sz l c b ex && fitsA st sz l c n ex then (bif ex || Nat.blt a b || Nat.blt a n || Nat.beq a 0 then some (.sl l (bif ex && Nat.beq c a then o else o + a * sz) (b - a) (bif ex then c - a else c + a) ex) else some .sl0) else none
      | some m => match hi, bnd A (some m) 0 with
        | some _, some m => bif Nat.ble a b && Nat.ble b m && Nat.ble m n && fitsA st sz l c n ex then some (.sl l (bif Nat.beq m a then o else o + a * sz) (b - a) (m - a) true) else none
        | _, _ => none
    | _, _, _ => none
  | some (.ptr l k), some (.array n e) => match szOf P e, bnd A lo 0, bnd A hi n, bnd A mx n with
    | some sz, some a, some b, some m => bif maxOk mx hi && Nat.ble a b && Nat.ble b m && Nat.ble m n then some (.sl l (bif Nat.beq m a then k else k + a * sz) (b - a) (m - a) true) else none
    | _, _, _, _ => none
  | _, _ => none
def isNilSl : AV → Bool | .v (.slice none 0 0) => true | .sl0 => true | _ => false
def evAppend (P : Program) (st : Stt) (t : TypeId) (x y : AV) : Option (AV × Stt) := match P.underlying t with
  | some (.slice e) => match P.info? e, zeroA P e with
    | some i, some z => bif Nat.ble 1 i.size && Nat.beq z.length i.size && z.all oneCellA then
      (bif isNilSl y then (match x with
        | .v (.slice none 0 0) => some (x, st)
        | .sl l _ n c ex => bif fitsA st i.size l c n ex then some (x, st) else none
        | _ => none)
      else match elemsA st i.size y, lenA y, elemsA st i.size x with
      | some ys, some m, some xs =>
        bif ys.all oneCellA && Nat.beq ys.length (m * i.size) then
          match x with
          | .v (.slice none 0 0) => bif Nat.ble (m * i.bytes) 1048576 && Nat.ble m 1048576 then (bif Nat.beq m 0 then some (x, st) else some (.sl st.nx 0 m 0 false, newO st ⟨e, ys, i.size, true, none⟩)) else none
          | .sl l k n c true => bif Nat.ble (n + m) c then (match st.h.get l with
              | some (.c b) => bif Nat.ble (k + (n + m) * i.size) b.cs.length then some (.sl l k (n + m) c true, setO st l { b with cs := spliceA b.cs (k + n * i.size) ys }) else none
              | _ => none)
            else bif !Nat.beq xs.length (n * i.size) || !Nat.ble ((n + m) * i.bytes) 1048576 || !Nat.ble (n + m) 1048576 || !xs.all oneCellA then none else some (.sl st.nx 0 (n + m) 0 false, newO st ⟨e, xs ++ ys, i.size, true, none⟩)
          | .sl l 0 n 0 false => match st.h.get l with
            | some (.c b) => bif b.row && Nat.beq b.et e && Nat.beq b.cs.length (n * i.size) && Nat.beq b.sz i.size && Nat.ble ((n + m) * i.bytes) 1048576 && Nat.ble (n + m) 1048576 then some (.sl st.nx 0 (n + m) 0 false, newO (delO st l) ⟨e, xs ++ ys, i.size, true, none⟩) else none
            | _ => none
          | _ => none
        else none
      | _, _, _ => none) else none
    | _, _ => none
  | _ => none
/-- zeros behind a row that has no room for them -/
def evAppendZ (P : Program) (st : Stt) (t u : TypeId) (x y : AV) : Option (AV × Stt) := match P.underlying t, P.underlying u, x, natOf y with
  | some (.slice e), some (.int _), .sl l o n 0 false, some k => match P.info? e, zeroA P e, st.h.get l with
    | some i, some z, some (.c b) => match elemsA st i.size x, b.hi with
      | some xs, some h => bif Nat.ble 1 i.size && Nat.beq z.length i.size && z.all oneCellA && b.row && Nat.ble h (n + k) && Nat.beq xs.length (n * i.size) && Nat.ble ((n + k) * i.bytes) 1048576 && Nat.ble (n + k) 1048576 && Nat.ble 1 k then
          some (.sl st.nx 0 (n + k) 0 false, newO st ⟨e, xs ++ repZ z k, i.size, true, none⟩) else none
      | _, _ => none
    | _, _, _ => none
  | _, _, _, _ => none
def zeroV (P : Program) (t : TypeId) : Option Value := match P.info? t with
  | some i => i.zero
  | none => none
/-- the entry that bears a key -/
def keyIdx (P : Program) (emp : Bool) (kt : TypeId) (k : Value) (es : List (Value × AV × Nat)) : Option (Option Nat) :=
  match pureRun P (Instr.checkKey emp 10000 kt k) with
  | some _ => match pureRun P (Instr.findKey kt k (es.map fun e => { key := e.1, val := undef, born := e.2.2 })) with
    | some (some (i, _)) => some (some i)
    | some none => some none
    | none => none
  | none => none
/-- '==' of what has a name -/
def eqlA (st : Stt) (d : TypeDesc) (a b : AV) : Option Bool := match d, a, b with
  | .slice _, .sl _ _ _ _ _, .v (.slice none 0 0) => some false
  | .pointer _, .ptr _ _, .v (.pointer none) => some false
  | .func _ _ _, .fn _ _, .v .nilFunc => some false
  | .map _ _, .mp _, .v (.map none) => some false
  | _, _, _ => none
/-- the most bytes of a text -/
def txtN : AV → Option Nat
  | .v (.string s) => some s.size
  | .str n => some n
  | .txt n => some n
  | _ => none
def plainKey : TypeDesc → Bool | .int _ => true | .string => true | .bool => true | _ => false
/-- is it the model's own 'slices.overlaps'? -/
def isOverlaps (fn : Func) : Bool := fn.body.isNone && !(fn.name == "runtime.NumGoroutine") && fn.origin == "slices.overlaps" && (Extern.allGenericRows.lookup fn.name).isNone && (Extern.allTypedRows.lookup fn.name).isNone && (Extern.allRows.lookup fn.name).isNone && (Extern.allNextRows.lookup fn.name).isNone
def overlapsAt (P : Program) (fn : Func) : Bool := match fn.params.toList with
  | [t, u] => Nat.beq t u && (match P.underlying t with | some (.slice e) => (szOf P e).isSome | _ => false) && isOverlaps fn
  | _ => false
/-- is a number more than a capacity? -/
def gtrCap (st : Stt) (k l d : Nat) : Option Bool := match st.h.get l with
  | some (.c o) => bif o.row && Nat.ble 1 o.sz then (bif (match o.hi with | some h => Nat.ble h (k + d) && Nat.ble 1 k | none => false) then some true else bif Nat.ble ((k + d) * o.sz) o.cs.length then some false else none) else none
  | _ => none
/-- operations that read -/
def evRdSp (P : Program) (st : Stt) (A : AE) : Op → Option AV
  | .move x => opd A x
  | .assign x => opd A x
  | .pick c x y => match opd A c with
    | some (.v (.bool b)) => bif b then opd A x else opd A y
    | _ => none
  | .extract x i => match opd A x with
    | some (.tup cs) => cs[i]?
    | some (.v (.tuple vs)) => match vs[i]? with | some a => some (.v a) | none => none
    | _ => none
  | .makeFunc (.func f) fs cs => bif Nat.beq fs.size 0 then (match opds A cs.toList with | some l => some (.fn f l) | none => none) else none
  | .nilCheck x => match opd A x with
    | some (.ptr l k) => some (.ptr l k)
    | some (.fn f cs) => some (.fn f cs)
    | _ => none
  | .fieldAddr t x i => match opd A x, P.underlying t with
    | some (.ptr l k), some (.struct fs) => match fs[i]? with
      | some f => match szOf P f.type with
        | some n => bif Nat.beq n 0 then none else some (.ptr l (k + f.offset))
        | none => none
      | none => none
    | _, _ => none
  | .indexAddr t x i => match opd A x, opd A i, P.underlying t with
    | some (.sl l k n _ _), some i, some (.slice e) => match natOf i, szOf P e with
      | some j, some sz => bif Nat.blt j n then some (.ptr l (k + j * sz)) else none
      | _, _ => none
    | some (.ptr l k), some i, some (.array n e) => match natOf i, szOf P e with
      | some j, some sz => bif Nat.blt j n then some (.ptr l (k + j * sz)) else none
      | _, _ => none
    | _, _, _ => none
  | .field t x i => match opd A x, P.underlying t with
    | some (.agg cs), some (.struct fs) => match fs[i]? with
      | some f => partA P f.type cs f.offset
      | none => none
    | _, _ => none
  | .build t ps => bif allV A (ps.toList.map (·.2)) then none else match partsA A ps.toList, P.info? t, P.underlying t with
    | some L, some it, some (.struct fs) => match it.zero, fs.toList.mapM (fun f => (P.info? f.type).map fun i => (f.offset, i.size)) with
      | some z, some places => match fillA (places.toArray[·]?) (cellsA (.v z)) L with | some cs => some (mkAgg cs) | none => none
      | _, _ => none
    | some L, some it, some (.array _ e) => match it.zero, szOf P e with
      | some z, some sz => match fillA (fun i => some (i * sz, sz)) (cellsA (.v z)) L with | some cs => some (mkAgg cs) | none => none
      | _, _ => none
    | _, _, _ => none
  | .load t x => match opd A x with
    | some a => evRead P st t a
    | none => none
  | .slice t x lo hi mx => evSlice P st A t x lo hi mx
  | .binOp .eql t x y _ => match opd A x, opd A y, P.underlying t with
    | some a, some b, some d => match eqlA st d a b with | some r => some (.v (.bool r)) | none => none
    | _, _, _ => none
  | .binOp .neq t x y _ => match opd A x, opd A y, P.underlying t with
    | some a, some b, some d => match eqlA st d a b with | some r => some (.v (.bool (!r))) | none => none
    | _, _, _ => none
  | .binOp .add _ x y _ => match opd A x, opd A y with
    | some (.v _), some (.v _) => none
    | some a, some b => match txtN a, txtN b with
      | some n, some m => bif Nat.ble (n + m) 9223372036854775807 then some (.txt (n + m)) else none
      | _, _ => none
    | _, _ => none
  | .lookup t m k ok => match opd A m, opd A k, P.underlying t with
    | some (.mp l), some (.v k), some (.map kt et) => match st.h.get l with
      | some (.m es _) => match keyIdx P es.isEmpty kt k es with
        | some (some i) => match es[i]? with
          | some (_, a, _) => some (bif ok then mkTup [a, .v (.bool true)] else a)
          | none => none
        | some none => match zeroV P et with
          | some z => some (bif ok then .v (.tuple #[z, .bool false]) else .v z)
          | none => none
        | none => none
      | _ => none
    | some (.mp l), some _, some (.map kt et) => match st.h.get l, P.underlying kt, zeroV P et with
      | some (.m [] _), some d, some z => bif plainKey d then some (bif ok then .v (.tuple #[z, .bool false]) else .v z) else none
      | _, _, _ => none
    | _, _, _ => none
  | .entry it => match opd A it with
    | some (.ptr l 0) => match st.h.get l with
      | some (.mi (some m) _ seen stepped) => match seen.getLast?, st.h.get m with
        | some b, some (.m es clock) => bif Nat.beq clock stepped then (match es.find? (fun e => e.2.2 == b) with
            | some e => some (mkTup [.v e.1, e.2.1])
            | none => none) else none
        | _, _ => none
      | _ => none
    | _ => none
  | .binOp .gtr _ x y _ => match opd A x, opd A y with
    | some (.v (.int .i64 (.ofNat k))), some (.cap l d) => match gtrCap st k l d with
      | some b => some (.v (.bool b))
      | none => none
    | _, _ => none
  | .call ⟨.value g, xs, _⟩ => match opd A g, opds A xs.toList with
    | some (.v (.func (.func f) fs cs)), some [.sl l _ _ _ _, .sl l' _ _ _ _] => match P.funcs[f]?, st.h.get l, st.h.get l' with
      | some fn, some (.c _), some (.c b) => bif Nat.beq fs.size 0 && Nat.beq cs.size 0 && !Nat.beq l l' && !b.cs.isEmpty && fn.body.isNone && overlapsAt P fn then some (.v (.bool false)) else none
      | _, _, _ => none
    | _, _ => none
  | .call ⟨.builtin .cap, xs, ts⟩ => match xs.toList, ts.toList with
    | [x], [t] => match opd A x, P.underlying t with
      | some (.sl _ _ _ c true), some (.slice _) => some (.v (.int .i64 c))
      | some (.sl l _ _ d false), some (.slice _) => some (.cap l d)
      | _, _ => none
    | _, _ => none
  | .call ⟨.builtin .len, xs, ts⟩ => match xs.toList, ts.toList with
    | [x], [t] => match opd A x, P.underlying t with
      | some (.sl _ _ n _ _), some (.slice _) => some (.v (.int .i64 n))
      | some .sl0, some (.slice _) => some (.v (.int .i64 0))
      | some (.str n), some .string => some (.v (.int .i64 n))
      | some (.mp l), some (.map _ _) => match st.h.get l with
        | some (.m es _) => some (.v (.int .i64 es.length))
        | _ => none
      | _, _ => none
    | _, _ => none
  | .convert s d x => match opd A x, P.underlying s, P.underlying d with
    | some (.sl l o n c ex), some (.slice e), some .string => match P.underlying e, st.h.get l with
      | some (.int .u8), some (.z _ (.int .u8 0) m) => bif Nat.ble (o + n) m then some (.str n) else none
      | some (.int .u8), some (.c _) => match elemsA st 1 (.sl l o n c ex) with
        | some cs => match intsA cs with
          | some ns => some (.v (.string (ns.foldl (fun r n => r.push (UInt8.ofNat n.toNat)) ByteArray.empty)))
          | none => none
        | none => none
      | _, _ => none
    | _, _, _ => none
  | _ => none
/-- what is copied: a slice's cells, or a text's bytes -/
def srcA (st : Stt) (sz : Nat) : AV → Option (List AV)
  | .v (.string s) => bif Nat.beq sz 1 then some (s.data.toList.map fun b => .v (.int .u8 b.toNat)) else none
  | y => elemsA st sz y
def lenS : AV → Option Nat
  | .v (.string s) => some s.size
  | y => lenA y
def evUpd (P : Program) (st : Stt) (A : AE) (t : TypeId) (m k x : Operand) : Option (AV × Stt) := match opd A m, opd A k, opd A x, P.underlying t with
  | some (.mp l), some (.v k), some x, some (.map kt _) => match st.h.get l with
    | some (.m es c) => match keyIdx P false kt k es with
      | some (some i) => match es[i]? with
        | some (k', _, b) => bif Instr.sameBits 10000 k' k then some (.v undef, setX st l (.m (es.set i (k, x, b)) c)) else none
        | none => none
      | some none => some (.v undef, setX st l (.m (es ++ [(k, x, c)]) (c + 1)))
      | none => none
    | _ => none
  | _, _, _, _ => none
def evDelete (P : Program) (st : Stt) (A : AE) (t : TypeId) (m k : Operand) : Option (AV × Stt) := match opd A m, opd A k, P.underlying t with
  | some (.mp l), some (.v k), some (.map kt _) => match st.h.get l with
    | some (.m es c) => match keyIdx P es.isEmpty kt k es with
      | some (some i) => some (.v (.tuple #[]), setX st l (.m (es.eraseIdx i) c))
      | some none => some (.v (.tuple #[]), setX st l (.m es c))
      | none => none
    | _ => none
  | _, _, _ => none
def evRangeOf (P : Program) (st : Stt) (A : AE) (t : TypeId) (x : Operand) : Option (AV × Stt) := match opd A x, P.underlying t with
  | some (.mp l), some (.map _ _) => match st.h.get l with
    | some (.m _ c) => some (.ptr st.nx 0, newX st (.mi (some l) c [] c))
    | _ => none
  | some (.v (.map none)), some (.map _ _) => some (.ptr st.nx 0, newX st (.mi none 0 [] 0))
  | some (.v (.string s)), some .string => some (.ptr st.nx 0, newX st (.si s 0))
  | _, _ => none
def evNext (st : Stt) (A : AE) (it : Operand) (isStr : Bool) : Option (AV × Stt) := match opd A it with
  | some (.ptr l 0) => match st.h.get l with
    | some (.si s pos) => bif isStr then (bif Nat.blt pos s.size then
          some (.v (.tuple #[.bool true, .int .i64 pos, .int .i32 (Utf8.decode s pos).1]), setX st l (.si s (pos + (Utf8.decode s pos).2)))
        else some (.v (.tuple #[.bool false]), st)) else none
    | some (.mi none _ _ _) => bif isStr then none else some (.v (.tuple #[.bool false]), st)
    | some (.mi (some m) since seen last) => bif isStr then none else match st.h.get m with
      | some (.m es clock) => bif !seen.isEmpty && !es.isEmpty && es.all (fun e => decide (e.2.2 ≥ last)) then none else match es.filter (fun e => !seen.contains e.2.2) with
        | [] => some (.v (.tuple #[.bool false]), st)
        | [e] => bif Nat.blt e.2.2 since then some (mkTup [.v (.bool true), .v e.1, e.2.1], setX st l (.mi (some m) since (seen ++ [e.2.2]) clock)) else none
        | _ => none
      | _ => none
    | _ => none
  | _ => none
def evCopy (P : Program) (st : Stt) (A : AE) (t : TypeId) (x y : Operand) : Option (AV × Stt) := match opd A x, opd A y, P.underlying t with
  | some (.sl l k n _ _), some y, some (.slice e) => match szOf P e, st.h.get l with
    | some sz, some (.c b) => match lenS y with
      | some m => match srcA st sz y with
        | some ys => bif Nat.ble (k + n * sz) b.cs.length && (ys.take (Nat.min m n * sz)).all oneCellA then some (.v (.int .i64 (Nat.min m n)), setO st l { b with cs := spliceA b.cs k (ys.take (Nat.min m n * sz)) }) else none
        | none => none
      | none => none
    | _, _ => none
  | _, _, _ => none
/-- operations that make or write memory -/
def evWrSp (P : Program) (st : Stt) (A : AE) : Op → Option (AV × Stt)
  | .buildSlice t len ps => match partsA A ps.toList, P.underlying t with
    | some L, some (.slice e) => match szOf P e, zeroA P e with
      | some sz, some z => bif Nat.ble (len * sz) 1024 && Nat.beq z.length sz && Nat.ble 1 sz then match fillA (fun i => some (i * sz, sz)) (repZ z len) L with
          | some cs => some (.sl st.nx 0 len len true, newO st ⟨e, cs, sz, false, none⟩)
          | none => none
        else none
      | _, _ => none
    | _, _ => none
  | .makeSlice t l c => match opd A l, opd A c, P.underlying t with
    | some l, some c, some (.slice e) => match natOf l, natOf c, P.info? e, zeroA P e with
      | some l, some c, some i, some z => bif Nat.ble l c && Nat.ble (i.bytes * c) 1099511627776 && Nat.ble c 1099511627776 && Nat.ble 1 i.size && Nat.beq z.length i.size then
          (bif Nat.ble (c * i.size) 4096 then some (.sl st.nx 0 l c true, newO st ⟨e, repZ z c, i.size, false, none⟩)
           else match z with
            | [.v x] => some (.sl st.nx 0 l c true, newX st (.z e x c))
            | _ => none)
        else none
      | _, _, _, _ => none
    | _, _, _ => none
  | .makeMap t r => match P.underlying t, bnd A r 0 with
    | some (.map _ _), some _ => some (.mp st.nx, newX st (.m [] 0))
    | _, _ => none
  | .mapUpdate t m k x => evUpd P st A t m k x
  | .insert t m k x => evUpd P st A t m k x
  | .call ⟨.builtin .delete, xs, ts⟩ => match xs.toList, ts.toList with
    | [m, k], [t, _] => evDelete P st A t m k
    | _, _ => none
  | .range t x => evRangeOf P st A t x
  | .next it isStr => evNext st A it isStr
  | .call ⟨.builtin .copy, xs, ts⟩ => match xs.toList, ts.toList with
    | [x, y], [t, _] => evCopy P st A t x y
    | _, _ => none
  | .alloc t => match zeroA P t with
    | some z => some (.ptr st.nx 0, newO st ⟨t, z, 0, false, none⟩)
    | none => none
  | .box t x => match opd A x with
    | some a => some (.ptr st.nx 0, newO st ⟨t, cellsA a, 0, false, none⟩)
    | none => none
  | .store t x y => match opd A x, opd A y with
    | some a, some b => match evStore P st t a b with | some st' => some (.v undef, st') | none => none
    | _, _ => none
  | .call ⟨.builtin .append, xs, ts⟩ => match xs.toList, ts.toList with
    | [x, y], [t, u] => match opd A x, opd A y with
      | some a, some b => bif Nat.beq t u then evAppend P st t a b else evAppendZ P st t u a b
      | _, _ => none
    | _, _ => none
  | .call ⟨.builtin .clear, xs, ts⟩ => match xs.toList, ts.toList with
    | [x], [t] => match opd A x, P.underlying t with
      | some (.sl l k n _ _), some (.slice e) => match st.h.get l, szOf P e, zeroA P e with
        | some (.c b), some sz, some z => bif Nat.beq z.length sz && Nat.ble (k + n * sz) b.cs.length && z.all oneCellA && Nat.ble 1 n && Nat.ble 1 sz then some (.v (.tuple #[]), setO st l { b with cs := spliceA b.cs k (repZ z n) }) else none
        | _, _, _ => none
      | _, _ => none
    | _, _ => none
  | _ => none
def callableB (P : Program) (f : FuncId) : Bool := match P.funcs[f]? with
  | some fn => !(fn.name == "runtime.NumGoroutine") && fn.body.isSome
  | none => false
/-- operations that call -/
def evCallSp (P : Program) (A : AE) : Op → Option (FuncId × List AV)
  | .call ⟨.value g, xs, _⟩ => match opd A g, opds A xs.toList with
    | some (.v (.func (.func f) fs cs)), some l => bif Nat.beq fs.size 0 && callableB P f then some (f, l ++ cs.toList.map .v) else none
    | some (.fn f cs), some l => bif callableB P f then some (f, l ++ cs) else none
    | _, _ => none
  | _ => none
/-- operations that begin a round -/
def evRndSp (A : AE) : Op → Option (Nat × List AV)
  | .call ⟨.value g, xs, _⟩ => match opd A g, opds A xs.toList with
    | some (.yld l), some as' => some (l, as')
    | _, _ => none
  | _ => none
/-- one operation that looks at nothing but its operands -/
def evPure (P : Program) (A : AE) (o : Oper) : Option AV := match o.op with
  | .select _ _ => none
  | _ => bif allV A o.op.operands.toList then match pureRun P (execOp (rho A) o) with
    | some (.value v) => some (.v v)
    | _ => none
  else none
def evOp (P : Program) (st : Stt) (A : AE) (o : Oper) : Option Rs := match evRdSp P st A o.op with
  | some a => some (.rd a)
  | none => match evWrSp P st A o.op with
    | some (a, st') => some (.wr a st')
    | none => match evCallSp P A o.op with
      | some (f, l) => some (.call f l)
      | none => match evRndSp A o.op with
        | some (l, as') => some (.rnd l as')
        | none => match evPure P A o with
          | some a => some (.rd a)
          | none => none

/-! ### Regions -/
inductive Go' where
  | run
  | skip
/-- what the guard says -/
def guardA (A : AE) (ops : Array Oper) (o : Oper) : Option Go' := match o.guard with
  | none => some .run
  | some (j, want) => match ops[j]? with
    | some q => match q.dst with
      | some d => match A.get d with
        | some (.v (.bool b)) => bif b == want then some .run else some .skip
        | some (.v (.tuple _)) => some .skip
        | _ => none
      | none => none
    | none => none
abbrev CallF := FuncId → List AV → Stt → Option (AV × Stt)
abbrev RndF := Nat → List AV → Stt → Option (AV × Stt)
def dstB (n : Nat) : Option Nat → Bool
  | none => true
  | some d => Nat.blt d n
def putA (A : AE) (d : Option Nat) (a : AV) : AE := match d with
  | some d => Tr.set 12 A d (some a)
  | none => A
/-- one operation, and what stands behind it -/
def evStep (P : Program) (cf : CallF) (rf : RndF) (ops : Array Oper) (st : Stt) (A : AE) (o : Oper) : Option (AV × Stt) := match guardA A ops o with
  | some .skip => some (.v undef, st)
  | some .run => match evOp P st A o with
    | some (.rd a) => some (a, st)
    | some (.wr a st') => some (a, st')
    | some (.call f as') => cf f as' st
    | some (.rnd l as') => rf l as' st
    | none => none
  | none => none
def evList (P : Program) (cf : CallF) (rf : RndF) (N : Nat) (ops : Array Oper) : List Oper → AE → Stt → Option (AE × Stt)
  | [], A, st => some (A, st)
  | o :: r, A, st => bif dstB N o.dst then match evStep P cf rf ops st A o with
      | some (a, st') => evList P cf rf N ops r (putA A o.dst a) st'
      | none => none
    else none

/-! ### Code -/
/-- how code is left: the frame, the names of the marks that its loops over functions have left, the state -/
inductive Out where
  | norm (A : AE) (D : List Nat) (st : Stt)
  | exit (id : Nat) (A : AE) (D : List Nat) (st : Stt)
  | ret (A : AE) (D : List Nat) (st : Stt)
def resA (P : Program) (A : AE) (st : Stt) : ResultVar → Option AV
  | .tmp t => A.get t
  | .cell a t => match A.get a with
    | some p => evRead P st t p
    | none => none
def resAs (P : Program) (A : AE) (st : Stt) : List ResultVar → Option (List AV)
  | [] => some []
  | r :: rs => match resA P A st r with
    | some a => match resAs P A st rs with
      | some as => some (a :: as)
      | none => none
    | none => none
def delAll : List Nat → Stt → Stt
  | [], st => st
  | l :: r, st => delAll r (delO st l)
def retA (P : Program) (f : Func) (A : AE) (D : List Nat) (st0 : Stt) : Option (AV × Stt) :=
  let st := delAll D st0
  match resAs P A st f.results.toList with
  | some [a] => some (a, st)
  | some as => some (mkTup as, st)
  | none => none
def argsA : List AV → Nat → AE
  | [], _ => .nil
  | a :: r, k => Tr.set 12 (argsA r (k + 1)) k (some a)
end Go.Proofs.Ytkcnljgennehaaa.Ev
