/- A symbolic evaluator: what a piece of code asks for, as a proposition; what is read are data, what is new is named by numbers. Definitions. Program-agnostic. -/
import Derived.Test.YtbbjonjhaoeidaaDoorOW9
set_option linter.unusedVariables false
set_option linter.unusedSimpArgs false
namespace Go.Proofs.YtbbjonjhaoeidaaDoor.Sv
open Go.RowKit Go.Proofs.YtbbjonjhaoeidaaDoor.W

/-! ### Data -/
inductive D where
  | i (n : Int)
  | b (x : Bool)
  | s (x : ByteArray)
  | l (xs : List D)
  | t (xs : List D)
instance : Inhabited D := ⟨.i 0⟩
def D.int : D → Int | .i n => n | _ => 0
def D.bool : D → Bool | .b x => x | _ => false
def D.str : D → ByteArray | .s x => x | _ => ByteArray.empty
def D.list : D → List D | .l xs => xs | _ => []
def D.tup : D → List D | .t xs => xs | _ => []
def nthD : List D → Nat → D
  | [], _ => .i 0
  | d :: _, 0 => d
  | _ :: r, k + 1 => nthD r k
def D.fld (d : D) (j : Nat) : D := nthD d.tup j
def tailD : List D → List D | [] => [] | _ :: r => r
def setD : List D → Nat → D → List D
  | [], 0, x => [x]
  | [], k + 1, x => .i 0 :: setD [] k x
  | _ :: r, 0, x => x :: r
  | d :: r, k + 1, x => d :: setD r k x
/-- types of data -/
inductive DT where
  | i (k : IntKind)
  | b
  | s
  | l (e : DT)
  | t (fs : List DT)
mutual
def DT.sz : DT → Nat
  | .t fs => DT.szs fs
  | _ => 1
def DT.szs : List DT → Nat
  | [] => 0
  | x :: r => x.sz + DT.szs r
end
mutual
def DT.beq : DT → DT → Bool
  | .i j, .i k => decide (j = k)
  | .b, .b => true
  | .s, .s => true
  | .l e, .l f => e.beq f
  | .t fs, .t gs => DT.beqs fs gs
  | _, _ => false
def DT.beqs : List DT → List DT → Bool
  | [], [] => true
  | x :: r, y :: q => x.beq y && DT.beqs r q
  | _, _ => false
end
mutual
/-- the empty datum of a type -/
def DT.zero : DT → D
  | .i _ => .i 0
  | .b => .b false
  | .s => .s ByteArray.empty
  | .l _ => .l []
  | .t fs => .t (DT.zeros fs)
def DT.zeros : List DT → List D
  | [] => []
  | x :: r => x.zero :: DT.zeros r
end

/-! ### Tries in layers -/
inductive Tr (α : Type) where
  | nil
  | node (l : Tr α) (v : Option α) (r : Tr α)
def Tr.get {α : Type} : Tr α → Nat → Option α
  | .nil, _ => none
  | .node l v r, k => bif Nat.beq k 0 then v else bif Nat.beq (Nat.mod k 2) 1 then l.get (Nat.div k 2) else r.get (Nat.div (Nat.sub k 1) 2)
def Tr.left {α : Type} : Tr α → Tr α | .nil => .nil | .node l _ _ => l
def Tr.val {α : Type} : Tr α → Option α | .nil => none | .node _ v _ => v
def Tr.right {α : Type} : Tr α → Tr α | .nil => .nil | .node _ _ r => r
def Tr.set {α : Type} : Nat → Tr α → Nat → Option α → Tr α
  | 0, _, _, _ => .nil
  | d + 1, t, k, x => bif Nat.beq k 0 then .node t.left x t.right else bif Nat.beq (Nat.mod k 2) 1 then .node (Tr.set d t.left (Nat.div k 2) x) t.val t.right else .node t.left t.val (Tr.set d t.right (Nat.div (Nat.sub k 1) 2) x)
/-- no key is set -/
def Tr.bare {α : Type} : Tr α → Bool
  | .nil => true
  | .node l v r => (match v with | none => true | some _ => false) && l.bare && r.bare
def Tr.clear {α : Type} (t : Tr α) : List Nat → Tr α
  | [] => t
  | k :: r => Tr.clear (Tr.set 24 t k none) r
abbrev Ly (α : Type) := List (Tr (Option α))
def Ly.go {α : Type} : Ly α → Nat → Option α
  | [], _ => none
  | t :: r, k => match t.get k with
    | some x => x
    | none => Ly.go r k
def Ly.get {α : Type} (L : Ly α) (k : Nat) : Option α := bif Nat.blt k 1000000 then L.go k else none
def Ly.set {α : Type} (L : Ly α) (k : Nat) (x : Option α) : Ly α := bif Nat.blt k 1000000 then (match L with | [] => [Tr.set 24 .nil k (some x)] | t :: r => Tr.set 24 t k (some x) :: r) else L
def Ly.push {α : Type} (L : Ly α) : Ly α := .nil :: L

/-! ### Values with names in the place of addresses -/
inductive AV where
  | v (x : Value)
  | ptr (l off : Nat)
  /-- a slice of a row whose cells are known, of this very capacity -/
  | sl (l off len c : Nat)
  | agg (cs : List AV)
  | tup (cs : List AV)
  | fn (f : FuncId) (cs : List AV)
  /-- a slice that reads as data; m: what it leads to may be handed on -/
  | dl (m : Bool) (t : DT) (xs : List D)
  /-- a slice of no elements and no room -/
  | e0
  /-- a pointer to a datum -/
  | pd (m : Bool) (t : DT) (d : D)
  /-- the first n elements of a row of one's own, with all its room -/
  | ow (l n : Nat)
  /-- the same, with no room -/
  | oc (l n : Nat)
  /-- a pointer into element i of a row of one's own, whose elements have sz cells: to the part at off, by the path js, of type t -/
  | pe (l i sz off : Nat) (js : List Nat) (t : DT)
  /-- n elements of a row of one's own from lo on, whose elements have sz cells -/
  | vw (l lo n sz : Nat)
inductive AX where
  | c (et : TypeId) (cs : List AV)
  /-- a row of one's own -/
  | q (et : TypeId) (t : DT) (xs : List D)
abbrev AE := Ly AV
structure Stt where
  h : Ly AX
  nx : Nat

def opd (A : AE) : Operand → Option AV
  | .tmp t => A.get t
  | .const v => some (.v v)
  | .global _ => none
  | .func f => some (.v (.func (.func f) #[] #[]))
def opds (A : AE) : List Operand → Option (List AV)
  | [] => some []
  | x :: r => match opd A x with
    | some a => match opds A r with
      | some as => some (a :: as)
      | none => none
    | none => none
def valOf : AV → Value | .v x => x | _ => undef
def rho (A : AE) (x : Operand) : Value := match opd A x with | some (.v v) => v | _ => undef
def allV (A : AE) : List Operand → Bool
  | [] => true
  | x :: r => match opd A x with | some (.v _) => allV A r | _ => false
def cellsA : AV → List AV
  | .v (.agg vs) => vs.toList.map .v
  | .agg cs => cs
  | a => [a]
def isAggD : TypeDesc → Bool | .struct _ => true | .array _ _ => true | _ => false
def szOf (P : Program) (t : TypeId) : Option Nat := match P.info? t with | some i => some i.size | none => none
def zeroA (P : Program) (t : TypeId) : Option (List AV) := match P.info? t with
  | some i => match i.zero with
    | some v => some (cellsA (.v v))
    | none => none
  | none => none
def partA (P : Program) (t : TypeId) (cs : List AV) (off : Nat) : Option AV := match P.underlying t, szOf P t with
  | some d, some sz => bif isAggD d then (bif Nat.ble (off + sz) cs.length then some (.agg ((cs.drop off).take sz)) else none) else cs[off]?
  | _, _ => none
def spliceA (cs : List AV) (i : Nat) (vs : List AV) : List AV := cs.take i ++ vs ++ cs.drop (i + vs.length)
def oneCellA : AV → Bool
  | .v (.agg _) => false | .v (.tuple _) => false | .agg _ => false | .tup _ => false | _ => true
def fillA (place : Nat → Option (Nat × Nat)) (cs : List AV) : List (Nat × AV) → Option (List AV)
  | [] => some cs
  | (i, a) :: r => match place i with
    | none => none
    | some (off, sz) => bif Nat.beq (cellsA a).length sz && Nat.ble (off + sz) cs.length then fillA place (spliceA cs off (cellsA a)) r else none
def partsA (A : AE) : List (Nat × Operand) → Option (List (Nat × AV))
  | [] => some []
  | (i, x) :: r => match opd A x with
    | some a => match partsA A r with
      | some as => some ((i, a) :: as)
      | none => none
    | none => none
def newX (st : Stt) (x : AX) : Stt := ⟨st.h.set st.nx (some x), st.nx + 1⟩
def setX (st : Stt) (l : Nat) (x : AX) : Stt := ⟨st.h.set l (some x), st.nx⟩
def delX (st : Stt) (l : Nat) : Stt := ⟨st.h.set l none, st.nx⟩
def natOf : AV → Option Nat
  | .v (.int _ (.ofNat n)) => some n
  | _ => none
def repZ (z : List AV) : Nat → List AV
  | 0 => []
  | n + 1 => z ++ repZ z n

/-! ### Data and cells -/
mutual
/-- the cells of a datum -/
def cellsD (m : Bool) : DT → D → List AV
  | .i k, d => [.v (.int k d.int)]
  | .b, d => [.v (.bool d.bool)]
  | .s, d => [.v (.string d.str)]
  | .l e, d => [.dl m e d.list]
  | .t fs, d => cellsDs m fs d 0
def cellsDs (m : Bool) : List DT → D → Nat → List AV
  | [], _, _ => []
  | t :: r, d, j => cellsD m t (d.fld j) ++ cellsDs m r d (j + 1)
end
def DT.isT : DT → Bool
  | .t _ => true
  | _ => false
def oneD (m : Bool) (t : DT) (d : D) : AV := match t with
  | .t _ => .agg (cellsD m t d)
  | _ => match cellsD m t d with | [a] => a | l => .agg l
/-- the place of field j: its offset and type -/
def fieldD : List DT → Nat → Nat → Option (Nat × DT)
  | [], _, _ => none
  | t :: _, 0, off => some (off, t)
  | t :: r, j + 1, off => fieldD r j (off + t.sz)
/-- a datum's part, by a path -/
def D.at (d : D) : List Nat → D
  | [] => d
  | j :: r => (d.fld j).at r
def D.put (d : D) : List Nat → D → D
  | [], x => x
  | j :: r, x => .t (setD d.tup j ((d.fld j).put r x))
abbrev Ps := List Prop
def obs : Ps → Prop → Prop
  | [], q => q
  | p :: r, q => p ∧ obs r q
def conj : Ps → Prop
  | [] => True
  | [p] => p
  | p :: r => p ∧ conj r
mutual
/-- cells as a datum; w: what they lead to may be handed on; the rows that are seen as data -/
def toD (w : Bool) (st : Stt) : DT → List AV → Option (D × List AV)
  | .i k, cs => match cs with
    | .v (.int k' n) :: r => bif decide (k = k') then some (.i n, r) else none
    | _ => none
  | .b, cs => match cs with
    | .v (.bool x) :: r => some (.b x, r)
    | _ => none
  | .s, cs => match cs with
    | .v (.string x) :: r => some (.s x, r)
    | _ => none
  | .l e, cs => match cs with
    | .v (.slice none 0 0) :: r => some (.l [], r)
    | .e0 :: r => some (.l [], r)
    | .dl m e' xs :: r => bif e.beq e' && (m || !w) then some (.l xs, r) else none
    | .ow l n :: r => match st.h.get l with
      | some (.q _ e' xs) => bif e.beq e' && !w then some (.l (xs.take n), r) else none
      | _ => none
    | .oc l n :: r => match st.h.get l with
      | some (.q _ e' xs) => bif e.beq e' && !w then some (.l (xs.take n), r) else none
      | _ => none
    | .vw l lo n sz :: r => match st.h.get l with
      | some (.q _ e' xs) => bif e.beq e' && !w && Nat.beq sz e.sz then some (.l ((xs.drop lo).take n), r) else none
      | _ => none
    | _ => none
  | .t fs, cs => match toDs w st fs cs with
    | some (ds, r) => some (.t ds, r)
    | none => none
def toDs (w : Bool) (st : Stt) : List DT → List AV → Option (List D × List AV)
  | [], cs => some ([], cs)
  | t :: ts, cs => match toD w st t cs with
    | some (d, r) => match toDs w st ts r with
      | some (ds, r') => some (d :: ds, r')
      | none => none
    | none => none
end
def isAggA : AV → Bool
  | .agg _ => true
  | .v (.agg _) => true
  | _ => false
def toD1 (w : Bool) (st : Stt) (t : DT) (a : AV) : Option D := bif isAggA a == t.isT then (match toD w st t (cellsA a) with
  | some (d, []) => some d
  | _ => none) else none
def toDn (w : Bool) (st : Stt) (t : DT) : Nat → List AV → Option (List D)
  | 0, [] => some []
  | 0, _ :: _ => none
  | n + 1, cs => match toD w st t cs with
    | some (d, r) => match toDn w st t n r with
      | some ds => some (d :: ds)
      | none => none
    | none => none
def delAll : List Nat → Stt → Stt
  | [], st => st
  | l :: r, st => delAll r (delX st l)
/-- a row of one's own becomes a datum for good -/
def freeze (st : Stt) : AV → Option (AV × Stt)
  | .ow l n => match st.h.get l with
    | some (.q _ e xs) => some (.dl true e (xs.take n), delX st l)
    | _ => none
  | .oc l n => match st.h.get l with
    | some (.q _ e xs) => some (.dl true e (xs.take n), delX st l)
    | _ => none
  | a => some (a, st)
def freezeL (st : Stt) : List AV → Option (List AV × Stt)
  | [] => some ([], st)
  | a :: r => match freeze st a with
    | some (a', st') => match freezeL st' r with
      | some (r', st'') => some (a' :: r', st'')
      | none => none
    | none => none

/-! ### Operations that read -/
abbrev Idx (j : Int) (n : Nat) : Prop := 0 ≤ j ∧ j < n
def strOfD (xs : List D) : ByteArray := strOfNums (xs.map D.int)
def byteAt' (s : ByteArray) (k : Nat) : Int := ((s.data.getD k 0).toNat : Int)
/-- one field of what stands at an address -/
def readD (P : Program) (t : TypeId) (m : Bool) (dt : DT) (d : D) : Option AV := match P.underlying t, szOf P t with
  | some u, some sz => bif Nat.beq sz dt.sz && (dt.isT == isAggD u) then some (oneD m dt d) else none
  | _, _ => none
def evRead (P : Program) (st : Stt) (t : TypeId) (a : AV) : Option AV := match a with
  | .ptr l k => match st.h.get l with
    | some (.c _ cs) => partA P t cs k
    | _ => none
  | .pd m dt d => readD P t m dt d
  | _ => none
/-- where a path leads -/
def pathD : DT → List Nat → Nat → Option (Nat × DT)
  | t, [], off => some (off, t)
  | .t fs, j :: r, off => match fieldD fs j off with
    | some (off', t') => pathD t' r off'
    | none => none
  | _, _ :: _, _ => none
def pathIs (rt : DT) (js : List Nat) (off : Nat) (dt : DT) : Bool := match pathD rt js 0 with
  | some (off', dt') => Nat.beq off off' && dt.beq dt'
  | none => false
def evLoad (P : Program) (st : Stt) (t : TypeId) (a : AV) : Option AV := match a with
  | .pe l i sz off js dt => match st.h.get l with
    | some (.q _ rt xs) => bif Nat.beq sz rt.sz && pathIs rt js off dt then readD P t true dt ((nthD xs i).at js) else none
    | _ => none
  | a => evRead P st t a
/-- a bound of a slice, given or not -/
def bnd (A : AE) (x : Option Operand) (d : Int) : Option Int := match x with
  | none => some d
  | some x => match opd A x with
    | some (.v (.int _ n)) => some n
    | _ => none
def bndN (A : AE) (x : Option Operand) (d : Nat) : Option Nat := match x with
  | none => some d
  | some x => match opd A x with
    | some a => natOf a
    | none => none
abbrev RA := Option (Ps × AV)
def putA (A : AE) (d : Option Nat) (a : AV) : AE := match d with
  | some d => A.set d (some a)
  | none => A
def dstB (n : Nat) : Option Nat → Bool
  | none => true
  | some d => Nat.blt d n
def pure0 (a : Option AV) : RA := match a with | some a => some ([], a) | none => none
def lowOf (xs : List D) : Option Operand → Int → List D
  | none, _ => xs
  | some _, lo => xs.drop lo.toNat
def cutOf (xs : List D) : Option Operand → Int → Int → List D
  | none, _, _ => xs
  | some _, lo, hi => xs.take (hi - lo).toNat
def evSlice (P : Program) (st : Stt) (A : AE) (t : TypeId) (x : Operand) (lo hi mx : Option Operand) : RA := match opd A x, P.underlying t with
  | some (.v (.string s)), some .string => match bnd A lo 0, bnd A hi s.size, mx with
    | some a, some b, none => some ((match lo with | none => [] | some _ => [0 ≤ a]) ++ [a ≤ b] ++ (match hi with | none => [] | some _ => [b ≤ s.size]), .v (.string (s.extract a.toNat b.toNat)))
    | _, _, _ => none
  | some (.dl m dt xs), some (.slice e) => match szOf P e, bnd A lo 0, bnd A hi xs.length, mx with
    | some sz, some a, some b, none => bif Nat.beq sz dt.sz && Nat.ble 1 sz then some ((match lo with | none => [] | some _ => [0 ≤ a]) ++ [a ≤ b] ++ (match hi with | none => [] | some _ => [b ≤ xs.length]), .dl m dt (cutOf (lowOf xs lo a) hi a b)) else none
    | some sz, some a, some b, some y => match hi, opd A y with
      | some _, some (.v (.int _ c)) => bif Nat.beq sz dt.sz && Nat.ble 1 sz then some ((match lo with | none => [] | some _ => [0 ≤ a]) ++ [a ≤ b, b ≤ c, c ≤ xs.length], .dl m dt (cutOf (lowOf xs lo a) hi a b)) else none
      | _, _ => none
    | _, _, _, _ => none
  | some (.ow l n), some (.slice e) => match lo, szOf P e, bnd A hi n, mx, st.h.get l with
    | none, some sz, some b, none, some (.q _ dt xs) => bif Nat.beq sz dt.sz && Nat.ble 1 sz then some ([0 ≤ b, b ≤ n], .ow l b.toNat) else none
    | none, some sz, some b, some y, some (.q _ dt xs) => match hi, opd A y with
      | some _, some (.v (.int _ c)) => bif Nat.beq sz dt.sz && Nat.ble 1 sz then some ([0 ≤ b, b ≤ n, c = b], .oc l b.toNat) else none
      | _, _ => none
    | some _, some sz, some b, none, some (.q _ dt xs) => match bnd A lo 0 with
      | some a => bif Nat.beq sz dt.sz && Nat.ble 1 sz then some ([0 ≤ a, a ≤ b, b ≤ n], .vw l a.toNat (b - a).toNat sz) else none
      | none => none
    | _, _, _, _, _ => none
  | some (.ptr l k), some (.array n e) => match szOf P e, bnd A lo 0, bnd A hi n, mx, st.h.get l with
    | some sz, some a, some b, none, some (.q _ dt xs) => bif Nat.beq k 0 && Nat.beq sz dt.sz && Nat.ble 1 sz && Nat.ble 1 n then some ([0 ≤ a, a ≤ b, b ≤ n, n ≤ xs.length], .vw l a.toNat (b - a).toNat sz) else none
    | _, _, _, _, _ => none
  | some (.sl l o n c), some (.slice e) => match szOf P e, bndN A lo 0, bndN A hi n with
    | some sz, some a, some b => match mx with
      | none => bif Nat.ble a b && Nat.ble b c && Nat.ble n c then some ([], .sl l (bif Nat.beq c a then o else o + a * sz) (b - a) (c - a)) else none
      | some m => match hi, bndN A (some m) 0 with
        | some _, some m => bif Nat.ble a b && Nat.ble b m && Nat.ble m c then some ([], .sl l (bif Nat.beq m a then o else o + a * sz) (b - a) (m - a)) else none
        | _, _ => none
    | _, _, _ => none
  | _, _ => none
def cmpP : BinOp → Int → Int → Option Bool
  | .eql, x, y => some (decide (x = y))
  | .neq, x, y => some (!decide (x = y))
  | .lss, x, y => some (decide (x < y))
  | .leq, x, y => some (decide (x ≤ y))
  | .gtr, x, y => some (decide (y < x))
  | .geq, x, y => some (decide (y ≤ x))
  | _, _, _ => none
def scmpP : BinOp → ByteArray → ByteArray → Option Bool
  | .eql, x, y => some (decide (x = y))
  | .neq, x, y => some (!decide (x = y))
  | .lss, x, y => some (Op.bytesLess x.toList y.toList)
  | .geq, x, y => some (!Op.bytesLess x.toList y.toList)
  | .gtr, x, y => some (!(Op.bytesLess x.toList y.toList || decide (x = y)))
  | .leq, x, y => some (Op.bytesLess x.toList y.toList || decide (x = y))
  | _, _, _ => none
def is64 : IntKind → Bool | .i64 => true | _ => false
abbrev I64 (r : Int) : Prop := -9223372036854775808 ≤ r ∧ r ≤ 9223372036854775807
/-- arithmetic: of int, with no running over -/
def arithP (k : IntKind) (r : Int) : RA := bif is64 k then some ([I64 r], .v (.int .i64 r)) else some ([], .v (.int k (k.wrap r)))
/-- bits and shifts -/
def bor (k : IntKind) (a b : Int) : Int := k.wrap ((BitVec.ofInt k.bits a ||| BitVec.ofInt k.bits b).toNat : Int)
def band (k : IntKind) (a b : Int) : Int := k.wrap ((BitVec.ofInt k.bits a &&& BitVec.ofInt k.bits b).toNat : Int)
def bxor (k : IntKind) (a b : Int) : Int := k.wrap ((BitVec.ofInt k.bits a ^^^ BitVec.ofInt k.bits b).toNat : Int)
def bshl (k : IntKind) (a n : Int) : Int := k.wrap (a * 2 ^ (min n.toNat k.bits))
def bshr (k : IntKind) (a n : Int) : Int := a.fdiv (2 ^ (min n.toNat k.bits))
def bitP : BinOp → IntKind → Int → Int → Option Int
  | .or, k, a, b => some (bor k a b)
  | .and, k, a, b => some (band k a b)
  | .xor, k, a, b => some (bxor k a b)
  | _, _, _, _ => none
def shP : BinOp → IntKind → Int → Int → Option Int
  | .shl, k, a, n => some (bshl k a n)
  | .shr, k, a, n => some (bshr k a n)
  | _, _, _, _ => none
/-- structs compared, part by part -/
def eqFs (P : Program) (q : TypeId → AV → AV → Option Bool) : List Field → List AV → List AV → Option Bool
  | [], _, _ => some true
  | f :: r, cs, ds => bif decide (f.name = "_") then none else match partA P f.type cs f.offset, partA P f.type ds f.offset with
    | some a, some b => match q f.type a b, eqFs P q r cs ds with
      | some x, some y => some (x && y)
      | _, _ => none
    | _, _ => none
def eqS (P : Program) : Nat → TypeId → AV → AV → Option Bool
  | 0, _, _, _ => none
  | n + 1, t, a, b => match P.underlying t with
    | some .bool => match a, b with
      | .v (.bool x), .v (.bool y) => some (x == y)
      | _, _ => none
    | some (.int _) => match a, b with
      | .v (.int k x), .v (.int k' y) => bif decide (k = k') then some (decide (x = y)) else none
      | _, _ => none
    | some .string => match a, b with
      | .v (.string x), .v (.string y) => some (decide (x = y))
      | _, _ => none
    | some (.struct fs) => bif !P.stoodInHeld t && isAggA a && isAggA b then eqFs P (eqS P n) fs.toList (cellsA a) (cellsA b) else none
    | _ => none
def evEq (P : Program) (t : TypeId) (op : BinOp) (a b : AV) : RA := bif isAggA a && isAggA b && !P.eqGuardType P.depth t then (match eqS P 9 t a b with
  | some r => match op with
    | .eql => some ([], .v (.bool r))
    | .neq => some ([], .v (.bool (!r)))
    | _ => none
  | none => none) else none
def evBin (P : Program) (t : TypeId) (op : BinOp) (a b : AV) : RA := match a, b with
  | .v (.int k x), .v (.int k' y) => match shP op k x y with
    | some r => some ([0 ≤ y], .v (.int k r))
    | none => bif decide (k = k') then (match cmpP op x y with
      | some r => some ([], .v (.bool r))
      | none => match op with
        | .add => arithP k (x + y)
        | .sub => arithP k (x - y)
        | .mul => arithP k (x * y)
        | .quo => some ([y ≠ 0], .v (.int k (k.wrap (x.tdiv y))))
        | .rem => some ([y ≠ 0], .v (.int k (x.tmod y)))
        | op => match bitP op k x y with
          | some r => some ([], .v (.int k r))
          | none => none) else none
  | .v (.string x), .v (.string y) => match scmpP op x y with
    | some r => some ([], .v (.bool r))
    | none => match op with
      | .add => some ([x.size + y.size ≤ 9223372036854775807], .v (.string (x ++ y)))
      | _ => none
  | .v (.bool x), .v (.bool y) => match P.underlying t, op with
    | some .bool, .eql => some ([], .v (.bool (x == y)))
    | some .bool, .neq => some ([], .v (.bool (!(x == y))))
    | _, _ => none
  | a, b => evEq P t op a b
def pickA (b : Bool) (x y : AV) : Option AV := match x, y with
  | .v (.bool p), .v (.bool q) => some (.v (.bool (bif b then p else q)))
  | .v (.int k p), .v (.int k' q) => bif decide (k = k') then some (.v (.int k (bif b then p else q))) else none
  | .v (.string p), .v (.string q) => some (.v (.string (bif b then p else q)))
  | _, _ => none
def constB : Operand → Option Bool
  | .const (.bool b) => some b
  | _ => none
def evRdS (P : Program) (st : Stt) (A : AE) : Op → RA
  | .move x => pure0 (opd A x)
  | .assign x => pure0 (opd A x)
  | .extract x i => match opd A x with
    | some (.tup cs) => pure0 cs[i]?
    | some (.v (.tuple vs)) => match vs[i]? with | some a => some ([], .v a) | none => none
    | _ => none
  | .makeFunc (.func f) fs cs => bif Nat.beq fs.size 0 then (match opds A cs.toList with | some l => some ([], .fn f l) | none => none) else none
  | .nilCheck x => match opd A x with
    | some (.ptr l k) => some ([], .ptr l k)
    | some (.pd m t d) => some ([], .pd m t d)
    | some (.fn f cs) => some ([], .fn f cs)
    | _ => none
  | .fieldAddr t x i => match P.underlying t with
    | some (.struct fs) => match fs[i]? with
      | some f => match szOf P f.type with
        | some n => bif Nat.beq n 0 then none else match opd A x with
          | some (.ptr l k) => some ([], .ptr l (k + f.offset))
          | some (.pd m (.t ts) d) => match fieldD ts i 0 with
            | some (off, dt) => bif Nat.beq off f.offset then some ([], .pd m dt (d.fld i)) else none
            | none => none
          | some (.pe l j sz off js (.t ts)) => match fieldD ts i 0 with
            | some (off', dt) => bif Nat.beq off' f.offset then some ([], .pe l j sz (off + off') (js ++ [i]) dt) else none
            | none => none
          | _ => none
        | none => none
      | none => none
    | _ => none
  | .indexAddr t x i => match opd A x, opd A i, P.underlying t with
    | some (.dl m dt xs), some (.v (.int _ j)), some (.slice e) => match szOf P e with
      | some sz => bif Nat.beq sz dt.sz && Nat.ble 1 sz then some ([Idx j xs.length], .pd m dt (nthD xs j.toNat)) else none
      | none => none
    | some (.ow l n), some (.v (.int _ j)), some (.slice e) => match szOf P e, st.h.get l with
      | some sz, some (.q _ dt xs) => bif Nat.beq sz dt.sz && Nat.ble 1 sz then some ([Idx j n], .pe l j.toNat sz 0 [] dt) else none
      | _, _ => none
    | some (.sl l k n _), some i, some (.slice e) => match natOf i, szOf P e with
      | some j, some sz => bif Nat.blt j n then some ([], .ptr l (k + j * sz)) else none
      | _, _ => none
    | some (.vw l lo n sz'), some (.v (.int _ j)), some (.slice e) => match szOf P e, st.h.get l with
      | some sz, some (.q _ dt xs) => bif Nat.beq sz dt.sz && Nat.ble 1 sz && Nat.beq sz sz' then some ([Idx j n], .pe l (lo + j.toNat) sz 0 [] dt) else none
      | _, _ => none
    | some (.ptr l k), some i, some (.array n e) => match st.h.get l with
      | some (.q _ dt xs) => match i, szOf P e with
        | .v (.int _ j), some sz => bif Nat.beq k 0 && Nat.beq sz dt.sz && Nat.ble 1 sz then some ([Idx j n, n ≤ xs.length], .pe l j.toNat sz 0 [] dt) else none
        | _, _ => none
      | _ => match natOf i, szOf P e with
        | some j, some sz => bif Nat.blt j n then some ([], .ptr l (k + j * sz)) else none
        | _, _ => none
    | _, _, _ => none
  | .index t x i => match opd A x, opd A i, P.underlying t with
    | some (.v (.string s)), some (.v (.int _ j)), some .string => some ([Idx j s.size], .v (.int .u8 (byteAt' s j.toNat)))
    | _, _, _ => none
  | .field t x i => match opd A x, P.underlying t with
    | some (.agg cs), some (.struct fs) => match fs[i]? with
      | some f => pure0 (partA P f.type cs f.offset)
      | none => none
    | _, _ => none
  | .build t ps => match partsA A ps.toList, P.info? t, P.underlying t with
    | some L, some it, some (.struct fs) => match it.zero, fs.toList.mapM (fun f => (P.info? f.type).map fun i => (f.offset, i.size)) with
      | some z, some places => match fillA (places.toArray[·]?) (cellsA (.v z)) L with | some cs => some ([], .agg cs) | none => none
      | _, _ => none
    | _, _, _ => none
  | .load t x => match opd A x with
    | some a => pure0 (evLoad P st t a)
    | none => none
  | .slice t x lo hi mx => evSlice P st A t x lo hi mx
  | .unOp .not _ x => match opd A x with
    | some (.v (.bool b)) => some ([], .v (.bool (!b)))
    | _ => none
  | .binOp op t x y _ => match opd A x, opd A y with
    | some a, some b => evBin P t op a b
    | _, _ => none
  | .pick c x y => match opd A c with
    | some (.v (.bool b)) => match constB x, constB y with
      | none, some false => match opd A x with | some (.v (.bool p)) => some ([], .v (.bool (b && p))) | _ => none
      | some true, none => match opd A y with | some (.v (.bool q)) => some ([], .v (.bool (b || q))) | _ => none
      | _, _ => match opd A x, opd A y with
        | some p, some q => pure0 (pickA b p q)
        | _, _ => none
    | _ => none
  | .convert s d x => match opd A x, P.underlying s, P.underlying d with
    | some (.v (.int _ n)), some (.int _), some (.int k') => some ([], .v (.int k' (k'.wrap n)))
    | some (.v (.string x)), some .string, some .string => some ([], .v (.string x))
    | some (.dl _ (.i .u8) xs), some (.slice e), some .string => match P.underlying e with
      | some (.int .u8) => some ([], .v (.string (strOfD xs)))
      | _ => none
    | some (.ow l n), some (.slice e), some .string => match P.underlying e, st.h.get l with
      | some (.int .u8), some (.q _ (.i .u8) xs) => some ([], .v (.string (strOfD (xs.take n))))
      | _, _ => none
    | some (.vw l lo n sz), some (.slice e), some .string => match P.underlying e, st.h.get l with
      | some (.int .u8), some (.q _ (.i .u8) xs) => bif Nat.beq sz 1 then some ([], .v (.string (strOfD ((xs.drop lo).take n)))) else none
      | _, _ => none
    | _, _, _ => none
  | .call ⟨.builtin .len, xs, ts⟩ => match xs.toList, ts.toList with
    | [x], [t] => match opd A x, P.underlying t with
      | some (.v (.string s)), some .string => some ([], .v (.int .i64 s.size))
      | some (.dl _ _ xs), some (.slice _) => some ([], .v (.int .i64 xs.length))
      | some (.ow _ n), some (.slice _) => some ([], .v (.int .i64 n))
      | some (.oc _ n), some (.slice _) => some ([], .v (.int .i64 n))
      | some (.vw _ _ n _), some (.slice _) => some ([], .v (.int .i64 n))
      | some (.sl _ _ n _), some (.slice _) => some ([], .v (.int .i64 n))
      | some (.v (.slice none 0 0)), some (.slice _) => some ([], .v (.int .i64 0))
      | some .e0, some (.slice _) => some ([], .v (.int .i64 0))
      | _, _ => none
    | _, _ => none
  | .call ⟨.builtin .min, xs, ts⟩ => match xs.toList, ts.toList with
    | [x, y], t :: _ => match opd A x, opd A y, P.underlying t with
      | some (.v (.int k a)), some (.v (.int k' b)), some (.int k'') => bif decide (k = k') && decide (k = k'') then some ([], .v (.int k (min a b))) else none
      | _, _, _ => none
    | _, _ => none
  | .call ⟨.builtin .max, xs, ts⟩ => match xs.toList, ts.toList with
    | [x, y], t :: _ => match opd A x, opd A y, P.underlying t with
      | some (.v (.int k a)), some (.v (.int k' b)), some (.int k'') => bif decide (k = k') && decide (k = k'') then some ([], .v (.int k (max a b))) else none
      | _, _, _ => none
    | _, _ => none
  | _ => none
/-- does what it reads hang on its operands alone? -/
def noMem : Op → Bool
  | .move _ => true
  | .assign _ => true
  | .extract _ _ => true
  | .nilCheck _ => true
  | .fieldAddr _ _ _ => true
  | .index _ _ _ => true
  | .field _ _ _ => true
  | .build _ _ => true
  | .unOp _ _ _ => true
  | .binOp _ _ _ _ _ => true
  | .pick _ _ _ => true
  | _ => false

/-! ### Operations that make or write memory -/
def evStore (P : Program) (st : Stt) (t : TypeId) (a y : AV) : Option Stt := match a with
  | .ptr l k => match st.h.get l, szOf P t with
    | some (.c et cs), some sz => bif Nat.beq (cellsA y).length sz && Nat.ble (k + sz) cs.length && (cellsA y).all oneCellA then some (setX st l (.c et (spliceA cs k (cellsA y)))) else none
    | _, _ => none
  | .pe l i sz off js dt => match freezeL st (cellsA y) with
    | some (ys, st1) => match st1.h.get l, szOf P t with
      | some (.q et rt xs), some n => bif Nat.beq n dt.sz && Nat.beq sz rt.sz && pathIs rt js off dt then (match toD true st1 dt ys with
        | some (d, []) => some (setX st1 l (.q et rt (setD xs i ((nthD xs i).put js d))))
        | _ => none) else none
      | _, _ => none
    | none => none
  | _ => none
/-- what is appended, as data -/
def srcD (st : Stt) (dt : DT) (y : AV) : Option (List D × Stt) := match y with
  | .v (.slice none 0 0) => some ([], st)
  | .e0 => some ([], st)
  | .sl l 0 n _ => match st.h.get l with
    | some (.c _ cs) => bif Nat.beq cs.length (n * dt.sz) then (match freezeL st cs with
      | some (ys, st') => match toDn true st' dt n ys with
        | some ds => some (ds, st')
        | none => none
      | none => none) else none
    | _ => none
  | .dl true e xs => bif dt.beq e then some (xs, st) else none
  | .ow l n => match st.h.get l with
    | some (.q _ e xs) => bif dt.beq e then some (xs.take n, st) else none
    | _ => none
  | .vw l lo n sz => match st.h.get l with
    | some (.q _ e xs) => bif dt.beq e && Nat.beq sz dt.sz then some ((xs.drop lo).take n, st) else none
    | _ => none
  | _ => none
mutual
/-- the data type of a type -/
def dtOf (P : Program) : Nat → TypeId → Option DT
  | 0, _ => none
  | n + 1, t => match P.underlying t with
    | some (.int k) => some (.i k)
    | some .bool => some .b
    | some .string => some .s
    | some (.slice e) => match dtOf P n e with | some d => some (.l d) | none => none
    | some (.struct fs) => match dtOfs P n (fs.toList.map (·.type)) with | some ds => some (.t ds) | none => none
    | _ => none
def dtOfs (P : Program) : Nat → List TypeId → Option (List DT)
  | 0, _ => none
  | _ + 1, [] => some []
  | n + 1, t :: r => match dtOf P n t with
    | some d => match dtOfs P n r with
      | some ds => some (d :: ds)
      | none => none
    | none => none
end
def evAppend (P : Program) (st : Stt) (t : TypeId) (x y : AV) : Option (Ps × AV × Stt) := match P.underlying t with
  | some (.slice e) => match P.info? e, zeroA P e, dtOf P 9 e with
    | some i, some z, some dt => bif Nat.ble 1 i.size && Nat.beq i.size dt.sz && Nat.beq z.length i.size && z.all oneCellA then (match srcD st dt y with
      | some (ys, st1) =>
        match x with
        | .v (.slice none 0 0) => some ([ys.length * i.bytes ≤ 140737488355328, ys.length ≤ 9223372036854775807], .ow st1.nx ys.length, newX st1 (.q e dt ys))
        | .e0 => some ([ys.length * i.bytes ≤ 140737488355328, ys.length ≤ 9223372036854775807], .ow st1.nx ys.length, newX st1 (.q e dt ys))
        | .ow l n => match st1.h.get l with
          | some (.q e' dt' xs) => bif Nat.beq e e' && dt.beq dt' then some ([(n + ys.length) * i.bytes ≤ 140737488355328, n + ys.length ≤ 9223372036854775807], .ow st1.nx (n + ys.length), newX (delX st1 l) (.q e dt (xs.take n ++ ys))) else none
          | _ => none
        | .oc l n => match st1.h.get l with
          | some (.q e' dt' xs) => bif Nat.beq e e' && dt.beq dt' then some ([(n + ys.length) * i.bytes ≤ 140737488355328, n + ys.length ≤ 9223372036854775807], .ow st1.nx (n + ys.length), newX (delX st1 l) (.q e dt (xs.take n ++ ys))) else none
          | _ => none
        | _ => none
      | none => none) else none
    | _, _, _ => none
  | _ => none
/-- a new row: of data, or of cells -/
def newRowA (P : Program) (st : Stt) (e : TypeId) (len sz : Nat) (cs : List AV) : AV × Stt := match dtOf P 9 e with
  | some dt => bif Nat.beq dt.sz sz then (match toDn true st dt len cs with
    | some ds => (.ow st.nx len, newX st (.q e dt ds))
    | none => (.sl st.nx 0 len len, newX st (.c e cs))) else (.sl st.nx 0 len len, newX st (.c e cs))
  | none => (.sl st.nx 0 len len, newX st (.c e cs))
/-- an array of one's own, as a row -/
def arrA (P : Program) (t : TypeId) (z : List AV) : Option (DT × List D) := match P.underlying t with
  | some (.array n e) => match dtOf P 9 e with
    | some dt => bif !dt.isT && Nat.beq dt.sz 1 && Nat.ble 1 n && Nat.ble n 4096 then (match toDn true ⟨[], 0⟩ dt n z with
      | some ds => some (dt, ds)
      | none => none) else none
    | none => none
  | _ => none
def newArrA (P : Program) (st : Stt) (t : TypeId) (z : List AV) : Stt := match arrA P t z with
  | some (dt, ds) => newX st (.q t dt ds)
  | none => newX st (.c t z)
/-- a text's bytes, as data -/
def bytesD (x : ByteArray) : List D := x.data.toList.map fun b => .i b.toNat
def evWrS (P : Program) (st : Stt) (A : AE) : Op → Option (Ps × AV × Stt)
  | .buildSlice t len ps => match partsA A ps.toList, P.underlying t with
    | some L, some (.slice e) => match szOf P e, zeroA P e with
      | some sz, some z => bif Nat.ble (len * sz) 1024 && Nat.beq z.length sz && Nat.ble 1 sz then match fillA (fun i => some (i * sz, sz)) (repZ z len) L with
          | some cs => some ([], (newRowA P st e len sz cs).1, (newRowA P st e len sz cs).2)
          | none => none
        else none
      | _, _ => none
    | _, _ => none
  | .alloc t => match zeroA P t with
    | some z => some ([], .ptr st.nx 0, newArrA P st t z)
    | none => none
  | .makeSlice t x y => match opd A x, opd A y, P.underlying t with
    | some (.v (.int _ n)), some (.v (.int _ n')), some (.slice e) => match P.info? e, zeroA P e, dtOf P 9 e with
      | some i, some z, some dt => bif Nat.ble 1 i.size && Nat.beq i.size dt.sz && Nat.beq z.length i.size && z.all oneCellA then (match toD true ⟨[], 0⟩ dt z with
        | some (d0, []) => some ([0 ≤ n, n' = n, n * i.size ≤ 16777216, n * i.bytes ≤ 281474976710656, n ≤ 9223372036854775807], .ow st.nx n.toNat, newX st (.q e dt (List.replicate n.toNat d0)))
        | _ => none) else none
      | _, _, _ => none
    | _, _, _ => none
  | .box t x => match opd A x with
    | some a => some ([], .ptr st.nx 0, newX st (.c t (cellsA a)))
    | none => none
  | .store t x y => match opd A x, opd A y with
    | some a, some b => match evStore P st t a b with | some st' => some ([], .v undef, st') | none => none
    | _, _ => none
  | .call ⟨.builtin .append, xs, ts⟩ => match xs.toList, ts.toList with
    | [x, y], [t, u] => match opd A x, opd A y with
      | some a, some b => bif Nat.beq t u then evAppend P st t a b else none
      | _, _ => none
    | _, _ => none
  | .convert s d x => match opd A x, P.underlying s, P.underlying d with
    | some (.v (.string x)), some .string, some (.slice e) => match P.underlying e with
      | some (.int .u8) => some ([x.size ≤ 140737488355328], .dl true (.i .u8) (bytesD x), st)
      | _ => none
    | _, _, _ => none
  | _ => none
def callableB (P : Program) (f : FuncId) : Bool := match P.funcs[f]? with
  | some fn => !(fn.name == "runtime.NumGoroutine") && fn.body.isSome
  | none => false
def evCallS (P : Program) (A : AE) : Op → Option (FuncId × List AV)
  | .call ⟨.value g, xs, _⟩ => match opd A g, opds A xs.toList with
    | some (.v (.func (.func f) fs cs)), some l => bif Nat.beq fs.size 0 && callableB P f then some (f, l ++ cs.toList.map .v) else none
    | some (.fn f cs), some l => bif callableB P f then some (f, l ++ cs) else none
    | _, _ => none
  | _ => none
def pureRun {α : Type} (P : Program) : Sem α → Option α
  | .pure a => some a
  | .program k => pureRun P (k P)
  | .mark _ k => pureRun P k
  | _ => none
def evPure (P : Program) (A : AE) (o : Oper) : Option AV := match o.op with
  | .select _ _ => none
  | _ => bif allV A o.op.operands.toList then match pureRun P (execOp (rho A) o) with
    | some (.value v) => some (.v v)
    | _ => none
  else none
end Go.Proofs.YtbbjonjhaoeidaaDoor.Sv
