/- The symbolic evaluator: contracts, regions, code. Definitions. Program-agnostic. -/
import Derived.Test.YtbbjonjhaoeidaaDoorOS1
set_option linter.unusedVariables false
set_option linter.unusedSimpArgs false
namespace Go.Proofs.YtbbjonjhaoeidaaDoor.Sv
open Go.RowKit Go.Proofs.YtbbjonjhaoeidaaDoor.W

/-! ### Contracts -/
inductive AK where
  /-- data; w: what is handed back may lead into them -/
  | d (w : Bool) (t : DT)
  /-- a pointer to a whole variable of cells that are data -/
  | box (et : TypeId) (ts : List DT)
inductive RK where
  | d (t : DT)
  /-- a row of one's own -/
  | own (et : TypeId) (t : DT)
  | agg (ks : List RK)
def RK.isAgg : RK → Bool
  | .d t => t.isT
  | .own _ _ => false
  | .agg _ => true
structure Con where
  args : List AK
  pre : List D → Ps
  res : List RK
  out : List D → List D
  boxes : List D → List D
abbrev Sums := FuncId → Option Con
def matchArgs (st : Stt) : List AK → List AV → Option (List D × List Nat)
  | [], [] => some ([], [])
  | .d w t :: r, a :: as => match toD1 w st t a with
    | some d => match matchArgs st r as with
      | some (ds, bs) => some (d :: ds, bs)
      | none => none
    | none => none
  | .box et ts :: r, .ptr l 0 :: as => match st.h.get l with
    | some (.c et' cs) => bif Nat.beq et et' then (match toDs true st ts cs with
      | some (ds0, []) => match matchArgs st r as with
        | some (ds, bs) => some (.t ds0 :: ds, l :: bs)
        | none => none
      | _ => none) else none
    | _ => none
  | _, _ => none
mutual
def mkRes (st : Stt) : RK → D → AV × Stt
  | .d t, d => (oneD true t d, st)
  | .own et t, d => (.ow st.nx d.list.length, newX st (.q et t d.list))
  | .agg ks, d => match mkRess st ks d.tup with | (cs, st') => (.agg cs, st')
def mkRess (st : Stt) : List RK → List D → List AV × Stt
  | [], _ => ([], st)
  | k :: ks, ds => match mkRes st k (nthD ds 0) with
    | (a, st') => match mkRess st' ks (tailD ds) with
      | (r, st'') => (cellsA a ++ r, st'')
end
def mkOuts (st : Stt) : List RK → List D → List AV × Stt
  | [], _ => ([], st)
  | k :: ks, ds => match mkRes st k (nthD ds 0) with
    | (a, st') => match mkOuts st' ks (tailD ds) with
      | (r, st'') => (a :: r, st'')
def tup1 : List AV → AV
  | [a] => a
  | as => .tup as
def setBoxes (st : Stt) : List AK → List Nat → List D → Stt
  | .box et ts :: r, l :: ls, ds => setBoxes (setX st l (.c et (cellsDs true ts (nthD ds 0) 0))) r ls (tailD ds)
  | .d _ _ :: r, ls, ds => setBoxes st r ls ds
  | _, _, _ => st
def noDup : List Nat → Bool
  | [] => true
  | x :: r => !r.contains x && noDup r
def scalar : RK → Bool
  | .d (.i _) => true
  | .d .b => true
  | .d .s => true
  | _ => false
/-- a call, by its contract; does it leave all as it was? -/
def conStep (c : Con) (as : List AV) (st : Stt) : Option (Ps × AV × Stt × Bool) := match matchArgs st c.args as with
  | some (ds, bs) => bif noDup bs then (match mkOuts (setBoxes st c.args bs (c.boxes ds)) c.res (c.out ds) with
    | (r, st') => some (c.pre ds, tup1 r, st', bs.isEmpty && c.res.all scalar)) else none
  | none => none

/-! ### Operations -/
inductive Rs where
  | rd (ps : Ps) (a : AV)
  | wr (ps : Ps) (a : AV) (st : Stt)
def evOp (P : Program) (S : Sums) (st : Stt) (A : AE) (o : Oper) : Option Rs := match evRdS P st A o.op with
  | some (ps, a) => some (.rd ps a)
  | none => match evWrS P st A o.op with
    | some (ps, a, st') => some (.wr ps a st')
    | none => match evCallS P A o.op with
      | some (f, l) => match S f with
        | some c => match conStep c l st with
          | some (ps, a, st', p) => some (bif p then .rd ps a else .wr ps a st')
          | none => none
        | none => none
      | none => match evPure P A o with
        | some a => some (.rd [] a)
        | none => none

/-! ### Blocks behind a guard -/
abbrev Cx := Option (Nat × Bool)
def cxIs : Cx → Cx → Bool
  | none, none => true
  | some (i, a), some (j, b) => Nat.beq i j && (a == b)
  | _, _ => false
def cxTop : Cx → Bool
  | none => true
  | some _ => false
/-- the guard's slot, and what it holds -/
def gslot (ops : Array Oper) (A : AE) (g : Nat × Bool) : Option (Nat × Bool) := match ops[g.1]? with
  | some q => match q.dst with
    | some d => match A.get d with
      | some (.v (.bool b)) => some (d, b)
      | _ => none
    | none => none
  | none => none
def dsts (l : List Oper) : List Nat := l.filterMap (·.dst)
def killA (A : AE) : List Nat → AE
  | [] => A
  | d :: r => killA (A.set d none) r
/-- what stands behind a guarded block: a choice by the guard's own slot -/
def evPick (A A1 : AE) (d : Nat) (b w : Bool) : Op → Option AV
  | .pick (.tmp d') x y => bif Nat.beq d d' then (bif w then (match opd A1 x, opd A y with
      | some (.v (.bool p)), some q => match constB y with
        | some false => some (.v (.bool (b && p)))
        | _ => pickA b (.v (.bool p)) q
      | some p, some q => pickA b p q
      | _, _ => none) else (match opd A x, opd A1 y with
      | some p, some (.v (.bool q)) => match constB x with
        | some true => some (.v (.bool (b || q)))
        | _ => pickA b p (.v (.bool q))
      | some p, some q => pickA b p q
      | _, _ => none)) else none
  | _ => none
def guardP (b w : Bool) (ps qs : Ps) : Ps := match ps with
  | [] => qs
  | _ => (b = w → conj ps) :: qs
def ahead (cx : Cx) : List Oper → List Oper
  | [] => []
  | o :: r => bif cxIs o.guard cx then [] else o :: ahead cx r
def behind (cx : Cx) : List Oper → List Oper
  | [] => []
  | o :: r => bif cxIs o.guard cx then o :: r else behind cx r
/-- operations of which none makes or writes, guarded by cx; dl: the slots written so far -/
def evBlk (P : Program) (S : Sums) (N : Nat) (ops : Array Oper) (st : Stt) : Nat → Cx → List Nat → List Oper → AE → Option (Ps × AE)
  | 0, _, _, _, _ => none
  | _ + 1, _, _, [], A => some ([], A)
  | n + 1, cx, dl, o :: r, A => bif cxIs o.guard cx then (bif dstB N o.dst then (match evOp P S st A o with
      | some (.rd ps a) => match evBlk P S N ops st n cx (dsts [o] ++ dl) r (putA A o.dst a) with
        | some (qs, A') => some (ps ++ qs, A')
        | none => none
      | _ => none) else none)
    else match o.guard with
      | none => none
      | some g => match gslot ops A g, behind cx (o :: r) with
        | some (d, b), p :: r' => bif (cxTop cx || dl.contains d) && !(dsts (ahead cx (o :: r))).contains d && dstB N p.dst then (match evBlk P S N ops st n (some g) [] (ahead cx (o :: r)) A with
          | some (ps, A1) => match evPick (killA A (dsts (ahead cx (o :: r)))) A1 d b g.2 p.op with
            | some a => match evBlk P S N ops st n cx (dsts (ahead cx (o :: r)) ++ dsts [p] ++ dl) r' (putA (killA A (dsts (ahead cx (o :: r)))) p.dst a) with
              | some (qs, A') => some (guardP b g.2 ps qs, A')
              | none => none
            | none => none
          | none => none) else none
        | _, _ => none

/-! ### Values that are alike -/
def eqNs : List Nat → List Nat → Bool
  | [], [] => true
  | a :: r, b :: s => Nat.beq a b && eqNs r s
  | _, _ => false
mutual
/-- what must hold that b is a, whose names stand for other ones -/
def eqA (ρ : Nat → Nat) : AV → AV → Option Ps
  | .v x, .v y => match x, y with
    | .int k a, .int k' b => bif decide (k = k') then some [b = a] else none
    | .bool a, .bool b => some [b = a]
    | .string a, .string b => some [b = a]
    | .slice none 0 0, .slice none 0 0 => some []
    | .pointer none, .pointer none => some []
    | .nilFunc, .nilFunc => some []
    | x, y => some [y = x]
  | .ptr l o, .ptr l' o' => bif Nat.beq (ρ l) l' && Nat.beq o o' then some [] else none
  | .sl l o n c, .sl l' o' n' c' => bif Nat.beq (ρ l) l' && Nat.beq o o' && Nat.beq n n' && Nat.beq c c' then some [] else none
  | .agg cs, .agg cs' => eqAs ρ cs cs'
  | .tup cs, .tup cs' => eqAs ρ cs cs'
  | .fn f cs, .fn f' cs' => bif Nat.beq f f' then eqAs ρ cs cs' else none
  | .dl m t xs, .dl m' t' xs' => bif (m == m') && t.beq t' then some [xs' = xs] else none
  | .e0, .e0 => some []
  | .pd m t d, .pd m' t' d' => bif (m == m') && t.beq t' then some [d' = d] else none
  | .ow l n, .ow l' n' => bif Nat.beq (ρ l) l' then some [n' = n] else none
  | .oc l n, .oc l' n' => bif Nat.beq (ρ l) l' then some [n' = n] else none
  | .vw l lo n sz, .vw l' lo' n' sz' => bif Nat.beq (ρ l) l' && Nat.beq sz sz' then some [lo' = lo, n' = n] else none
  | .pe l i sz off js t, .pe l' i' sz' off' js' t' => bif Nat.beq (ρ l) l' && Nat.beq sz sz' && Nat.beq off off' && eqNs js js' && t.beq t' then some [i' = i] else none
  | _, _ => none
def eqAs (ρ : Nat → Nat) : List AV → List AV → Option Ps
  | [], [] => some []
  | a :: r, b :: s => match eqA ρ a b, eqAs ρ r s with
    | some ps, some qs => some (ps ++ qs)
    | _, _ => none
  | _, _ => none
end
def eqX (ρ : Nat → Nat) : AX → AX → Option Ps
  | .c e cs, .c e' cs' => bif Nat.beq e e' then eqAs ρ cs cs' else none
  | .q e t xs, .q e' t' xs' => bif Nat.beq e e' && t.beq t' then some [xs' = xs] else none
  | _, _ => none

/-! ### Regions that draw their order, and make or write -/
structure Inf where
  mak : Bool
  num : Nat
  lo : Nat
  aft : Nat
  ps : Ps
  u : AV
  env : AE
def preds (o : Oper) : List Nat := (o.after.toList.filter (Region.binds .any)).map (·.on)
def predEnv (ops : Array Oper) (infs : Tr Inf) : List Nat → AE → AE
  | [], A => A
  | p :: r, A => match infs.get p, ops[p]? with
    | some i, some q => predEnv ops infs r (putA A q.dst i.u)
    | _, _ => predEnv ops infs r A
def loOf (infs : Tr Inf) : List Nat → Nat
  | [] => 0
  | p :: r => match infs.get p with
    | some i => Nat.max i.aft (loOf infs r)
    | none => loOf infs r
/-- of the operands: what the frame says ahead of the region, where it is written behind this operation alone -/
def restore (A : AE) (l : List Oper) (i : Nat) : List Operand → AE → AE
  | [], E => E
  | .tmp t :: r, E => restore A l i r (match E.get t with
    | some _ => E
    | none => match l.find? (fun q => match q.dst with | some d => Nat.beq d t | none => false) with
      | some q => bif (preds q).contains i then E.set t (A.get t) else E
      | none => E)
  | _ :: r, E => restore A l i r E
def pass1 (P : Program) (S : Sums) (ops : Array Oper) (A A0 : AE) : List Oper → Nat → Tr Inf → Stt → Nat → Option (List Inf × List Stt)
  | [], _, _, st, _ => some ([], [st])
  | o :: r, i, infs, st, m =>
    let env := restore A ops.toList i o.op.operands.toList (predEnv ops infs (preds o) A0)
    let lo := loOf infs (preds o)
    match evOp P S st env o with
      | none => none
      | some (.rd ps a) => match pass1 P S ops A A0 r (i + 1) (infs.set 12 i (some ⟨false, m, lo, lo, ps, a, env⟩)) st m with
        | some (xs, ss) => some (⟨false, m, lo, lo, ps, a, env⟩ :: xs, ss)
        | none => none
      | some (.wr ps a st') => match pass1 P S ops A A0 r (i + 1) (infs.set 12 i (some ⟨true, m, lo, m + 1, ps, a, env⟩)) st' (m + 1) with
        | some (xs, ss) => some (⟨true, m, lo, m + 1, ps, a, env⟩ :: xs, st :: ss)
        | none => none
def hiOf (i : Nat) (M : Nat) : List Oper → List Inf → Nat
  | o :: r, x :: xs => bif x.mak && (preds o).contains i then Nat.min x.num (hiOf i M r xs) else hiOf i M r xs
  | _, _ => M
def evRd (P : Program) (S : Sums) (st : Stt) (A : AE) (o : Oper) : RA := match evOp P S st A o with
  | some (.rd ps a) => some (ps, a)
  | _ => none
/-- what must hold that a reader reads the same at other states -/
def rdAt (P : Program) (S : Sums) (o : Oper) (x : Inf) (hi : Nat) : Nat → List Stt → Option Ps
  | _, [] => some []
  | k, st :: r => match rdAt P S o x hi (k + 1) r with
    | none => none
    | some qs => bif Nat.ble x.lo k && Nat.ble k hi && !Nat.beq k x.num then (match evRd P S st x.env o with
      | some (ps, a) => match eqA (fun l => l) x.u a with
        | some es => some (ps ++ es ++ qs)
        | none => none
      | none => none) else some qs
def pass2 (P : Program) (S : Sums) (ops : Array Oper) (all : List Inf) (sts : List Stt) (M : Nat) : List Oper → List Inf → Nat → Option Ps
  | [], [], _ => some []
  | o :: r, x :: xs, i => match pass2 P S ops all sts M r xs (i + 1) with
    | none => none
    | some qs => bif x.mak then (bif Nat.beq x.lo x.num then some (x.ps ++ qs) else none)
      else bif Nat.beq M 0 || noMem o.op then some (x.ps ++ qs) else match rdAt P S o x (hiOf i M ops.toList all) 0 sts with
        | some es => some (x.ps ++ es ++ qs)
        | none => none
  | _, _, _ => none
def putAll (A : AE) : List Oper → List Inf → AE
  | o :: r, x :: xs => putAll (putA A o.dst x.u) r xs
  | _, _ => A
def backOk : List Oper → Nat → Bool
  | [], _ => true
  | o :: r, i => (preds o).all (fun j => Nat.blt j i) && backOk r (i + 1)
def isNone : Option (Nat × Bool) → Bool | none => true | _ => false
def evDrawn (P : Program) (S : Sums) (N : Nat) (ops : Array Oper) (A : AE) (st : Stt) : Option (Ps × AE × Stt) :=
  let l := ops.toList
  bif Nat.ble l.length 4000 && l.all (fun o => dstB N o.dst) && noDup (dsts l) && backOk l 0 && l.all (fun o => isNone o.guard) then
    match pass1 P S ops A (killA A (dsts l)) l 0 .nil st 0 with
    | none => none
    | some (infs, sts) =>
      match pass2 P S ops infs sts (sts.length - 1) l infs 0, sts.getLast? with
      | some ps, some st' => some (ps, putAll (killA A (dsts l)) l infs, st')
      | _, _ => none
  else none

/-! ### Regions in the text's order -/
abbrev KV := AV → Stt → Prop
abbrev CallF := FuncId → List AV → Stt → KV → Prop
def evList (P : Program) (S : Sums) (cf : CallF) (N : Nat) (ops : Array Oper) : List Oper → Nat → AE → Stt → (AE → Stt → Prop) → Prop
  | [], _, A, st, k => k A st
  | _ :: r, n + 1, A, st, k => evList P S cf N ops r n A st k
  | o :: r, 0, A, st, k => bif dstB N o.dst then (match o.guard with
    | none => match evOp P S st A o with
      | some (.rd ps a) => obs ps (evList P S cf N ops r 0 (putA A o.dst a) st k)
      | some (.wr ps a st') => obs ps (evList P S cf N ops r 0 (putA A o.dst a) st' k)
      | none => match evCallS P A o.op with
        | some (f, l) => cf f l st fun a st' => evList P S cf N ops r 0 (putA A o.dst a) st' k
        | none => False
    | some g => match gslot ops A g with
      | none => False
      | some (d, b) => match behind none (o :: r), evBlk P S N ops st 400 (some g) [] (ahead none (o :: r)) A with
        | p :: _, some (ps, A1) => bif !(dsts (ahead none (o :: r))).contains d && dstB N p.dst then (match evPick (killA A (dsts (ahead none (o :: r)))) A1 d b g.2 p.op with
          | some a => obs (guardP b g.2 ps []) (evList P S cf N ops r (ahead none (o :: r)).length (putA (killA A (dsts (ahead none (o :: r)))) p.dst a) st k)
          | none => False) else False
        | _, _ => False) else False

/-! ### Code -/
inductive Out where
  | norm (A : AE) (st : Stt)
  | exit (id : Nat) (A : AE) (st : Stt)
  | ret (A : AE) (st : Stt)
def resA (P : Program) (A : AE) (st : Stt) : ResultVar → Option AV
  | .tmp t => A.get t
  | .cell a t => match A.get a with
    | some p => evRead P st t p
    | none => none
def resAs (P : Program) (A : AE) (st : Stt) : List ResultVar → Option (List AV)
  | [] => some []
  | r :: rs => match resA P A st r with
    | some a => match resAs P A st rs with
      | some as => some (a :: as)
      | none => none
    | none => none
def argsA : List AV → Nat → AE
  | [], _ => [.nil]
  | a :: r, k => (argsA r (k + 1)).set k (some a)
/-- what a loop's rounds begin with, or what two roads meet in -/
structure LAnn where
  β : Type
  sl : β → List (Nat × AV)
  ob : β → List (Nat × AX)
  inv : β → Prop
  mu : β → Nat
def writesL (l : List Oper) : List Nat := dsts l
def writesC : Code → List Nat
  | .region _ ops _ => dsts ops.toList
  | .seq a b => writesC a ++ writesC b
  | .cond _ a b => writesC a ++ writesC b
  | .block _ b => writesC b
  | .loop b => writesC b
  | _ => []
def firstReg : Code → Option Nat
  | .region i _ _ => some i
  | .seq a b => match firstReg a with | some i => some i | none => firstReg b
  | .cond _ a b => match firstReg a with | some i => some i | none => firstReg b
  | .block _ b => firstReg b
  | .loop b => firstReg b
  | _ => none
def delsT {α : Type} (t : Tr (Option α)) : List Nat → Tr (Option α)
  | [] => t
  | k :: r => delsT (Tr.set 24 t k (some none)) r
def setsT {α : Type} (t : Tr (Option α)) : List (Nat × α) → Tr (Option α)
  | [] => t
  | (k, x) :: r => setsT (Tr.set 24 t k (some (some x))) r
def small (l : List Nat) : Bool := l.all fun k => Nat.blt k 1000000
mutual
/-- every name is below n -/
def idsA (n : Nat) : AV → Bool
  | .ptr l _ => Nat.blt l n
  | .sl l _ _ _ => Nat.blt l n
  | .agg cs => idsAs n cs
  | .tup cs => idsAs n cs
  | .fn _ cs => idsAs n cs
  | .ow l _ => Nat.blt l n
  | .oc l _ => Nat.blt l n
  | .pe l _ _ _ _ _ => Nat.blt l n
  | .vw l _ _ _ => Nat.blt l n
  | _ => true
def idsAs (n : Nat) : List AV → Bool
  | [] => true
  | a :: r => idsA n a && idsAs n r
end
def idsX (n : Nat) : AX → Bool
  | .c _ cs => idsAs n cs
  | .q _ _ _ => true
/-- the names of a pattern, and those that they stand for -/
def mapA : AV → AV → List (Nat × Nat)
  | .ow l _, .ow l' _ => [(l, l')]
  | .oc l _, .oc l' _ => [(l, l')]
  | .vw l _ _ _, .vw l' _ _ _ => [(l, l')]
  | .ptr l _, .ptr l' _ => [(l, l')]
  | _, _ => []
def mapAs : List AV → List AV → List (Nat × Nat)
  | a :: r, b :: s => mapA a b ++ mapAs r s
  | _, _ => []
def mapSl (A : AE) : List (Nat × AV) → List (Nat × Nat)
  | [] => []
  | (t, h) :: r => (match A.get t with | some c => mapAs (cellsA h) (cellsA c) | none => []) ++ mapSl A r
def mapOb (st : Stt) : List (Nat × AX) → List (Nat × Nat)
  | [] => []
  | (l, .c _ cs) :: r => (match st.h.get l with | some (.c _ cs') => mapAs cs cs' | _ => []) ++ mapOb st r
  | _ :: r => mapOb st r
def mapAll (nx : Nat) (A : AE) (st : Stt) (sl : List (Nat × AV)) (ob : List (Nat × AX)) : List (Nat × Nat) := (mapSl A sl ++ mapOb st ob).filter fun x => Nat.ble nx x.1
def mapTo (nx : Nat) (m : List (Nat × Nat)) (l : Nat) : Nat := bif Nat.blt l nx then l else match m.find? (fun x => Nat.beq x.1 l) with
  | some x => x.2
  | none => l
def eqSl (ρ : Nat → Nat) (A : AE) : List (Nat × AV) → Option Ps
  | [] => some []
  | (t, h) :: r => match A.get t with
    | some c => match eqA ρ h c, eqSl ρ A r with
      | some ps, some qs => some (ps ++ qs)
      | _, _ => none
    | none => none
def eqOb (ρ : Nat → Nat) (st : Stt) : List (Nat × AX) → Option Ps
  | [] => some []
  | (l, h) :: r => match st.h.get (ρ l) with
    | some c => match eqX ρ h c, eqOb ρ st r with
      | some ps, some qs => some (ps ++ qs)
      | _, _ => none
    | none => none
def news (nx : Nat) (ob : List (Nat × AX)) : List Nat := (ob.map (·.1)).filter fun l => Nat.ble nx l
/-- a frame and a state meet a pattern; low: the rows' names may be elder ones -/
def meets (nx : Nat) (low : Bool) (sl : List (Nat × AV)) (ob : List (Nat × AX)) (A : AE) (st : Stt) : Option Ps :=
  let ρ := mapTo nx (mapAll nx A st sl ob)
  let n := nx + (news nx ob).length
  bif noDup (ob.map (·.1)) && noDup ((ob.map (·.1)).map ρ) && ob.all (fun x => Nat.blt x.1 n && idsX n x.2) && sl.all (fun x => idsA n x.2) && (low || (news nx ob).all fun l => Nat.ble nx (ρ l)) && small (sl.map (·.1)) && small (ob.map (·.1)) then
    (match eqSl ρ A sl, eqOb ρ st ob with
    | some ps, some qs => some (ps ++ qs)
    | _, _ => none) else none
/-- the elder rows that get new names -/
def elder (nx : Nat) (sl : List (Nat × AV)) (ob : List (Nat × AX)) (A : AE) (st : Stt) : List Nat :=
  ((news nx ob).map (mapTo nx (mapAll nx A st sl ob))).filter fun l => Nat.blt l nx
def headA (A : AE) (kill : List Nat) (sl : List (Nat × AV)) : AE := .nil :: setsT (delsT .nil kill) sl :: A
def headS (st : Stt) (del : List Nat) (ob : List (Nat × AX)) : Stt := ⟨.nil :: setsT (delsT .nil del) ob :: st.h, st.nx + (news st.nx ob).length⟩
def allBare {α : Type} (ks : List Nat) : Ly α → Bool
  | [] => true
  | t :: r => (t.clear ks).bare && allBare ks r
/-- nothing else has been written since -/
def only {α : Type} (L L' : Ly α) (ks : List Nat) : Bool := small ks && Nat.ble L.length L'.length && allBare ks (L'.take (L'.length - L.length))
abbrev Anns := FuncId → Nat → Option (AE → Stt → LAnn)
def annOf (an : Anns) (f : FuncId) : Option Nat → Option (AE → Stt → LAnn)
  | some i => an f i
  | none => none
/-- slices of nothing, taken for rows of one's own -/
def nilsA : List (Nat × AX) → AE → Stt → Option (AE × Stt)
  | [], A, st => some (A, st)
  | (t, .q e dt []) :: r, A, st => match A.get t with
    | some (.v (.slice none 0 0)) => nilsA r (putA A (some t) (.ow st.nx 0)) (newX st (.q e dt []))
    | _ => none
  | _, _, _ => none
def evNils (o : Option (AE → Stt → LAnn)) (A : AE) (st : Stt) (go : AE → Stt → Prop) : Prop := match o with
  | none => go A st
  | some M => ∃ g : (M A st).β, match nilsA ((M A st).ob g) A st with
    | some x => go x.1 x.2
    | none => False
def nilKey (b : Code) : Option Nat := match firstReg b with
  | some i => some (i + 2000000)
  | none => none
def cutKey (b : Code) : Option Nat := match firstReg b with
  | some i => some (i + 1000000)
  | none => none
abbrev CodeF := Nat → Code → AE → Stt → (Out → Prop) → Prop
def evLoop (f : AE → Stt → (Out → Prop) → Prop) : Nat → AE → Stt → (Out → Prop) → Prop
  | 0, _, _, _ => False
  | m + 1, A, st, k => f A st fun o => match o with
    | .norm A' st' => evLoop f m A' st' k
    | r => k r
/-- a loop by its pattern -/
def evAnn (ev : AE → Stt → (Out → Prop) → Prop) (kill : List Nat) (L : LAnn) (A : AE) (st : Stt) (k : Out → Prop) : Prop :=
  ∃ g0 : L.β, match meets st.nx true (L.sl g0) (L.ob g0) A st with
    | none => False
    | some ps => bif small kill && small (elder st.nx (L.sl g0) (L.ob g0) A st) then obs ps (L.inv g0 ∧ ∀ g : L.β, L.inv g → ev (headA A kill (L.sl g)) (headS st (elder st.nx (L.sl g0) (L.ob g0) A st) (L.ob g)) fun o => match o with
      | .norm A' st' => bif only A A' (kill ++ (L.sl g).map (·.1)) && only st.h st'.h ((L.ob g).map (·.1) ++ elder st.nx (L.sl g0) (L.ob g0) A st ++ List.range' st.nx (st'.nx - st.nx)) then (∃ g' : L.β, match meets st.nx false (L.sl g') (L.ob g') A' st' with
        | none => False
        | some qs => bif eqNs ((L.sl g).map (·.1)) ((L.sl g').map (·.1)) && eqNs ((L.ob g).map (·.1)) ((L.ob g').map (·.1)) then obs qs (L.inv g' ∧ L.mu g' < L.mu g) else False) else False
      | r => k r) else False
/-- what two roads meet in, behind the first code; mu is of no moment -/
def evCut (eva evb : AE → Stt → (Out → Prop) → Prop) (kill : List Nat) (L : LAnn) (A : AE) (st : Stt) (k : Out → Prop) : Prop :=
  (eva (.nil :: .nil :: A) ⟨.nil :: .nil :: st.h, st.nx⟩ fun o => match o with
    | .norm A' st' => ∃ g : L.β, match meets st.nx true (L.sl g) (L.ob g) A' st' with
      | none => False
      | some ps => bif small kill && small (elder st.nx (L.sl g) (L.ob g) A st) && only A A' (kill ++ (L.sl g).map (·.1)) && only st.h st'.h ((L.ob g).map (·.1) ++ elder st.nx (L.sl g) (L.ob g) A st ++ List.range' st.nx (st'.nx - st.nx)) && (elder st.nx (L.sl g) (L.ob g) A' st').all (fun l => (elder st.nx (L.sl g) (L.ob g) A st).contains l) then obs ps (L.inv g) else False
    | r => k r) ∧ ∀ g : L.β, L.inv g → evb (headA A kill (L.sl g)) (headS st (elder st.nx (L.sl g) (L.ob g) A st) (L.ob g)) k
def retA (P : Program) (fn : Func) (A : AE) (st : Stt) (k : KV) : Prop := match resAs P A st fn.results.toList with
  | some as => k (tup1 as) st
  | none => False
def callInl (P : Program) (ev : FuncId → Nat → Code → AE → Stt → (Out → Prop) → Prop) : CallF := fun f as st k => match P.funcs[f]? with
  | none => False
  | some fn => bif Nat.blt fn.ntmps as.length then False else match fn.body with
    | none => False
    | some c => ev f fn.ntmps c (argsA as 0) st fun o => match o with
      | .norm A' st' => retA P fn A' st' k
      | .ret A' st' => retA P fn A' st' k
      | _ => False
def evReg (P : Program) (S : Sums) (cf : CallF) (N : Nat) (ops : Array Oper) (d : Bool) (A : AE) (st : Stt) (k : AE → Stt → Prop) : Prop :=
  match (bif d && !Region.lexB .any ops then none else evBlk P S N ops st 400 none [] ops.toList A) with
  | some (ps, A') => obs ps (k A' st)
  | none => bif d then (match evDrawn P S N ops A st with
    | some (ps, A', st') => obs ps (k A' st')
    | none => False) else evList P S cf N ops ops.toList 0 A st k
def evCode (P : Program) (S : Sums) (an : Anns) : Nat → FuncId → Nat → Code → AE → Stt → (Out → Prop) → Prop
  | 0, _, _, _, _, _, _ => False
  | n + 1, f, N, c, A, st, k =>
    match c with
    | .skip => k (.norm A st)
    | .label _ => k (.norm A st)
    | .region _ ops d => evReg P S (callInl P (evCode P S an n)) N ops d A st fun A' st' => k (.norm A' st')
    | .seq a b => match annOf an f (cutKey b) with
      | some L => evCut (evCode P S an n f N a) (evCode P S an n f N b) (writesC a) (L A st) A st k
      | none => evCode P S an n f N a A st fun o => match o with
        | .norm A' st' => evCode P S an n f N b A' st' k
        | r => k r
    | .cond x a b => match opd A x with
      | some (.v (.bool t)) => bif t then evCode P S an n f N a A st k else evCode P S an n f N b A st k
      | _ => False
    | .block id b => evCode P S an n f N b A st fun o => match o with
      | .exit i A' st' => bif Nat.beq i id then k (.norm A' st') else k (.exit i A' st')
      | r => k r
    | .loop b => match annOf an f (firstReg b) with
      | some L => evNils (annOf an f (nilKey b)) A st fun A' st' => evAnn (evCode P S an n f N b) (writesC b) (L A' st') A' st' k
      | none => evLoop (evCode P S an n f N b) n A st k
    | .exit id => k (.exit id A st)
    | .ret => k (.ret A st)
    | _ => False

/-! ### A contract, as a proposition of its function's code -/
mutual
def eqD : DT → D → D → Ps
  | .i _, d, e => [d.int = e.int]
  | .b, d, e => [d.bool = e.bool]
  | .s, d, e => [d.str = e.str]
  | .l _, d, e => [d.list = e.list]
  | .t fs, d, e => eqDs fs d.tup e.tup
def eqDs : List DT → List D → List D → Ps
  | [], _, _ => []
  | t :: r, ds, es => eqD t (nthD ds 0) (nthD es 0) ++ eqDs r (tailD ds) (tailD es)
end
mutual
def RK.sz : RK → Nat
  | .d t => t.sz
  | .own _ _ => 1
  | .agg ks => RK.szs ks
def RK.szs : List RK → Nat
  | [] => 0
  | k :: r => k.sz + RK.szs r
end
mutual
/-- what must hold that cells are what is promised; the rows that are handed over -/
def retRes (st : Stt) : RK → List AV → D → Option (Ps × Stt)
  | .d t, cs, e => match freezeL st cs with
    | some (cs', st') => match toD true st' t cs' with
      | some (d, []) => some (eqD t d e, st')
      | _ => none
    | none => none
  | .own et t, [a], e => match a with
    | .ow l n => match st.h.get l with
      | some (.q et' t' xs) => bif Nat.beq et et' && t.beq t' then some ([xs.take n = e.list], delX st l) else none
      | _ => none
    | .oc l n => match st.h.get l with
      | some (.q et' t' xs) => bif Nat.beq et et' && t.beq t' then some ([xs.take n = e.list], delX st l) else none
      | _ => none
    | .v (.slice none 0 0) => some ([([] : List D) = e.list], st)
    | .e0 => some ([([] : List D) = e.list], st)
    | _ => none
  | .agg ks, cs, e => retRess st ks cs e.tup
  | _, _, _ => none
def retRess (st : Stt) : List RK → List AV → List D → Option (Ps × Stt)
  | [], [], _ => some ([], st)
  | [], _ :: _, _ => none
  | k :: ks, cs, es => match retRes st k (cs.take k.sz) (nthD es 0) with
    | some (ps, st') => match retRess st' ks (cs.drop k.sz) (tailD es) with
      | some (qs, st'') => some (ps ++ qs, st'')
      | none => none
    | none => none
end
def retOuts (st : Stt) : List RK → List AV → List D → Option (Ps × Stt)
  | [], [], _ => some ([], st)
  | k :: ks, a :: as, es => bif isAggA a == k.isAgg then (match retRes st k (cellsA a) (nthD es 0) with
    | some (ps, st') => match retOuts st' ks as (tailD es) with
      | some (qs, st'') => some (ps ++ qs, st'')
      | none => none
    | none => none) else none
  | _, _, _ => none
def retBoxes (st : Stt) : List AK → Nat → List D → Option (Ps × Stt)
  | [], _, _ => some ([], st)
  | .d _ _ :: r, k, es => retBoxes st r k es
  | .box et ts :: r, k, es => match st.h.get k with
    | some (.c et' cs) => match freezeL st cs with
      | some (cs', st') => match toDs true st' ts cs' with
        | some (ds, []) => match retBoxes st' r (k + 1) (tailD es) with
          | some (qs, st'') => bif Nat.beq et et' then some (eqDs ts ds (nthD es 0).tup ++ qs, st'') else none
          | none => none
        | _ => none
      | none => none
    | _ => none
def outsOf (n : Nat) (a : AV) : Option (List AV) := match n with
  | 1 => some [a]
  | _ => match a with
    | .tup as => some as
    | _ => none
def retOK (c : Con) (ds : List D) (a : AV) (st : Stt) : Prop := match outsOf c.res.length a with
  | none => False
  | some as => match retBoxes st c.args 0 (c.boxes ds) with
    | none => False
    | some (ps, st') => match retOuts st' c.res as (c.out ds) with
      | some (qs, _) => conj (ps ++ qs)
      | none => False
def startAs : List AK → List D → Nat → List AV
  | [], _, _ => []
  | .d w t :: r, ds, k => oneD w t (nthD ds 0) :: startAs r (tailD ds) k
  | .box _ _ :: r, ds, k => .ptr k 0 :: startAs r (tailD ds) (k + 1)
def startSt : List AK → List D → Stt → Stt
  | [], _, st => st
  | .d _ _ :: r, ds, st => startSt r (tailD ds) st
  | .box et ts :: r, ds, st => startSt r (tailD ds) (newX st (.c et (cellsDs true ts (nthD ds 0) 0)))
/-- what must hold of a function's code that it does what the contract says -/
def conGoal (P : Program) (S : Sums) (an : Anns) (n : Nat) (f : FuncId) (c : Con) (ds : List D) : Prop :=
  callInl P (evCode P S an n) f (startAs c.args ds 0) (startSt c.args ds ⟨[.nil], 0⟩) (retOK c ds)
end Go.Proofs.YtbbjonjhaoeidaaDoor.Sv
