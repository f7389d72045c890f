/- The evaluator: regions that draw their order, and code. Program-agnostic. -/
import Derived.Test.YtkcnljgennehaaaE1
namespace Go.Proofs.Ytkcnljgennehaaa.Ev
open Go.RowKit Go.Proofs.Ytkcnljgennehaaa.W

def eqVs (f : Value → Value → Bool) : List Value → List Value → Bool
  | [], [] => true
  | a :: r, b :: s => f a b && eqVs f r s
  | _, _ => false
def eqV : Nat → Value → Value → Bool
  | 0, _, _ => false
  | _ + 1, .int j a, .int k b => decide (j = k) && decide (a = b)
  | _ + 1, .bool a, .bool b => a == b
  | _ + 1, .string a, .string b => decide (a.data.toList = b.data.toList)
  | _ + 1, .pointer none, .pointer none => true
  | _ + 1, .slice none a b, .slice none c d => Nat.beq a c && Nat.beq b d
  | _ + 1, .nilFunc, .nilFunc => true
  | _ + 1, .nilIface, .nilIface => true
  | _ + 1, .map none, .map none => true
  | n + 1, .agg a, .agg b => eqVs (eqV n) a.toList b.toList
  | n + 1, .tuple a, .tuple b => eqVs (eqV n) a.toList b.toList
  | _, _, _ => false
def eqAs (f : AV → AV → Bool) : List AV → List AV → Bool
  | [], [] => true
  | a :: r, b :: s => f a b && eqAs f r s
  | _, _ => false
def eqA : Nat → AV → AV → Bool
  | 0, _, _ => false
  | n + 1, .v a, .v b => eqV n a b
  | _ + 1, .ptr a b, .ptr c d => Nat.beq a c && Nat.beq b d
  | _ + 1, .sl a b c d e, .sl a' b' c' d' e' => Nat.beq a a' && Nat.beq b b' && Nat.beq c c' && Nat.beq d d' && (e == e')
  | n + 1, .agg a, .agg b => eqAs (eqA n) a b
  | n + 1, .tup a, .tup b => eqAs (eqA n) a b
  | n + 1, .fn f a, .fn g b => Nat.beq f g && eqAs (eqA n) a b
  | _ + 1, .opq a, .opq b => Nat.beq a b
  | _ + 1, .str a, .str b => Nat.beq a b
  | _ + 1, .mp a, .mp b => Nat.beq a b
  | _ + 1, .txt a, .txt b => Nat.beq a b
  | _ + 1, .sl0, .sl0 => true
  | _ + 1, .unk, .unk => true
  | _ + 1, .cap a b, .cap c d => Nat.beq a c && Nat.beq b d
  | _, _, _ => false

/-- what the evaluation says of one operation of a drawn region: does it make or write (then: the how manieth), at which states it may be carried out, its value, the frame that it was shown -/
structure Inf where
  mak : Bool
  num : Nat
  lo : Nat
  aft : Nat
  u : AV
  env : AE
def preds (o : Oper) : List Nat := (o.after.toList.filter (Region.binds .any)).map (·.on)
def clear (A : AE) : List Oper → AE
  | [] => A
  | o :: r => match o.dst with
    | some d => clear (Tr.set 12 A d none) r
    | none => clear A r
def predEnv (ops : Array Oper) (infs : Tr Inf) : List Nat → AE → AE
  | [], A => A
  | p :: r, A => match infs.get p, ops[p]? with
    | some i, some q => predEnv ops infs r (putA A q.dst i.u)
    | _, _ => predEnv ops infs r A
def loOf (infs : Tr Inf) : List Nat → Nat
  | [] => 0
  | p :: r => match infs.get p with
    | some i => Nat.max i.aft (loOf infs r)
    | none => loOf infs r
/-- of the operands: what the frame says ahead of the region, where it is written behind this operation alone -/
def restore (A : AE) (l : List Oper) (i : Nat) : List Operand → AE → AE
  | [], E => E
  | .tmp t :: r, E => restore A l i r (match E.get t with
    | some _ => E
    | none => match l.find? (fun q => match q.dst with | some d => Nat.beq d t | none => false) with
      | some q => bif (preds q).contains i then Tr.set 12 E t (A.get t) else E
      | none => E)
  | _ :: r, E => restore A l i r E
/-- the first pass: in the text's order; and the states, from this one on -/
def pass1 (P : Program) (cf : CallF) (rf : RndF) (ops : Array Oper) (A A0 : AE) : List Oper → Nat → Tr Inf → Stt → Nat → Option (List Inf × List Stt)
  | [], _, _, st, _ => some ([], [st])
  | o :: r, i, infs, st, m =>
    let env := restore A ops.toList i o.op.operands.toList (predEnv ops infs (preds o) A0)
    let lo := loOf infs (preds o)
    match guardA env ops o with
    | none => none
    | some .skip => match pass1 P cf rf ops A A0 r (i + 1) (infs.set 12 i (some ⟨false, m, lo, lo, .v undef, env⟩)) st m with
      | some (xs, ss) => some (⟨false, m, lo, lo, .v undef, env⟩ :: xs, ss)
      | none => none
    | some .run => match evOp P st env o with
      | none => none
      | some (.rd a) => match pass1 P cf rf ops A A0 r (i + 1) (infs.set 12 i (some ⟨false, m, lo, lo, a, env⟩)) st m with
        | some (xs, ss) => some (⟨false, m, lo, lo, a, env⟩ :: xs, ss)
        | none => none
      | some (.wr a st') => match pass1 P cf rf ops A A0 r (i + 1) (infs.set 12 i (some ⟨true, m, lo, m + 1, a, env⟩)) st' (m + 1) with
        | some (xs, ss) => some (⟨true, m, lo, m + 1, a, env⟩ :: xs, st :: ss)
        | none => none
      | some (.call f l) => match cf f l st with
        | none => none
        | some (a, st') => match pass1 P cf rf ops A A0 r (i + 1) (infs.set 12 i (some ⟨true, m, lo, m + 1, a, env⟩)) st' (m + 1) with
          | some (xs, ss) => some (⟨true, m, lo, m + 1, a, env⟩ :: xs, st :: ss)
          | none => none
      | some (.rnd f l) => match rf f l st with
        | none => none
        | some (a, st') => match pass1 P cf rf ops A A0 r (i + 1) (infs.set 12 i (some ⟨true, m, lo, m + 1, a, env⟩)) st' (m + 1) with
          | some (xs, ss) => some (⟨true, m, lo, m + 1, a, env⟩ :: xs, st :: ss)
          | none => none
/-- up to which state operation i may wait: until the first maker that must come behind it -/
def hiOf (i : Nat) (M : Nat) : List Oper → List Inf → Nat
  | o :: r, x :: xs => bif x.mak && (preds o).contains i then Nat.min x.num (hiOf i M r xs) else hiOf i M r xs
  | _, _ => M
/-- a reading operation, at a state -/
def evRd (P : Program) (ops : Array Oper) (st : Stt) (A : AE) (o : Oper) : Option AV := match guardA A ops o with
  | some .skip => some (.v undef)
  | some .run => match evOp P st A o with
    | some (.rd a) => some a
    | _ => none
  | none => none
def rdAt (P : Program) (ops : Array Oper) (o : Oper) (x : Inf) (hi : Nat) : Nat → List Stt → Bool
  | _, [] => true
  | k, st :: r => (bif Nat.ble x.lo k && Nat.ble k hi && !Nat.beq k x.num then match evRd P ops st x.env o with | some a => eqA 30 a x.u | none => false else true) && rdAt P ops o x hi (k + 1) r
/-- of each operation: a reader reads the same wherever it may be carried out; a maker comes behind all makers ahead of it -/
def pass2 (P : Program) (ops : Array Oper) (all : List Inf) (sts : List Stt) (M : Nat) : List Oper → List Inf → Nat → Option Nat → Bool
  | [], [], _, _ => true
  | o :: r, x :: xs, i, last =>
    (bif x.mak then Nat.beq x.lo x.num
     else (bif Nat.beq M 0 then true else rdAt P ops o x (hiOf i M ops.toList all) 0 sts)) && pass2 P ops all sts M r xs (i + 1) (bif x.mak then some i else last)
  | _, _, _, _ => false
def putAll (A : AE) : List Oper → List Inf → AE
  | o :: r, x :: xs => putAll (putA A o.dst x.u) r xs
  | _, _ => A
def noDup : List Nat → Bool
  | [] => true
  | x :: r => !r.contains x && noDup r
def backOk : List Oper → Nat → Bool
  | [], _ => true
  | o :: r, i => (preds o).all (fun j => Nat.blt j i) && backOk r (i + 1)
def evDrawn (P : Program) (cf : CallF) (rf : RndF) (N : Nat) (ops : Array Oper) (A : AE) (st : Stt) : Option (AE × Stt) :=
  let l := ops.toList
  bif Nat.ble l.length 4000 && l.all (fun o => dstB N o.dst) && noDup (l.filterMap (·.dst)) && backOk l 0 then
    match pass1 P cf rf ops A (clear A l) l 0 .nil st 0 with
    | none => none
    | some (infs, sts) =>
      bif pass2 P ops infs sts (sts.length - 1) l infs 0 none then (match sts.getLast? with | some st' => some (putAll (clear A l) l infs, st') | none => none) else none
  else none

/-! ### Two roads that meet -/
def optEq : Option Nat → Option Nat → Bool
  | none, none => true
  | some a, some b => Nat.beq a b
  | _, _ => false
def eqEs : List (Value × AV × Nat) → List (Value × AV × Nat) → Bool
  | [], [] => true
  | (k, a, n) :: r, (k', a', n') :: s => eqV 30 k k' && eqA 30 a a' && Nat.beq n n' && eqEs r s
  | _, _ => false
def eqNs : List Nat → List Nat → Bool
  | [], [] => true
  | a :: r, b :: s => Nat.beq a b && eqNs r s
  | _, _ => false
def eqX : AX → AX → Bool
  | .c a, .c b => Nat.beq a.et b.et && Nat.beq a.sz b.sz && (a.row == b.row) && optEq a.hi b.hi && eqAs (eqA 30) a.cs b.cs
  | .d, .d => true
  | .z e x n, .z e' x' n' => Nat.beq e e' && eqV 30 x x' && Nat.beq n n'
  | .m es c, .m es' c' => Nat.beq c c' && eqEs es es'
  | .mi m a l b, .mi m' a' l' b' => optEq m m' && Nat.beq a a' && eqNs l l' && Nat.beq b b'
  | _, _ => false
def mergeT : Tr AX → Tr AX → Tr AX
  | .nil, _ => .nil
  | .node l v r, t => .node (mergeT l t.left) (match v, t.val with | some x, some y => bif eqX x y then some x else none | _, _ => none) (mergeT r t.right)
def joinR (r1 r2 : AV × Stt) : Option (AV × Stt) :=
  let h := mergeT r1.2.h r2.2.h
  let nx := Nat.max r1.2.nx r2.2.nx
  bif eqA 30 r1.1 r2.1 then some (r1.1, ⟨h, nx⟩) else match r1.1, r2.1 with
    | .sl l1 0 n1 0 false, .sl l2 0 n2 0 false => match r1.2.h.get l1, r2.2.h.get l2 with
      | some (.c b1), some (.c b2) =>
        bif Nat.beq n1 n2 && b1.row && b2.row && Nat.beq b1.et b2.et && Nat.beq b1.sz b2.sz && Nat.ble 1 b1.sz && Nat.ble (n1 * b1.sz) b1.cs.length && Nat.ble (n1 * b1.sz) b2.cs.length && eqAs (eqA 30) (b1.cs.take (n1 * b1.sz)) (b2.cs.take (n1 * b1.sz)) && Nat.ble nx 1000000 then
          some (.sl nx 0 n1 0 false, ⟨((h.set 24 l1 none).set 24 l2 none).set 24 nx (some (.c { b1 with cs := b1.cs.take (n1 * b1.sz), hi := none })), nx + 1⟩) else none
      | _, _ => none
    | _, _ => none
def padA (N : Nat) (cs : List AV) : List AV := cs ++ List.replicate (N - cs.length) .unk
/-- a row with no room for what is laid in, and with room -/
def splitOn (as' : List AV) (st : Stt) : Option (Stt × Stt) := match as' with
  | [.sl l 0 n 0 false, _, y] => match lenA y, st.h.get l with
    | some m, some (.c o) => bif o.row && Nat.ble 1 o.sz && Nat.ble (n * o.sz) o.cs.length then some (setX st l (.c { o with hi := some (n + m) }), setX st l (.c { o with cs := padA ((n + m) * o.sz) o.cs })) else none
    | _, _ => none
  | _ => none
abbrev Sums := FuncId → List AV → Stt → Option (AV × Stt)
/-- yield's arguments laid into the frame -/
def putPs (N : Nat) (A : AE) : List Nat → List AV → Option AE
  | [], [] => some A
  | p :: ps, a :: r => bif Nat.blt p N then putPs N (Tr.set 12 A p (some a)) ps r else none
  | _, _ => none
def isReady : LoopState → Bool | .ready => true | _ => false
def isBusy : LoopState → Bool | .busy => true | _ => false
def jumpOk : Code → Bool | .ret => true | .exit _ => true | _ => false
abbrev CodeF := Nat → Code → AE → List Nat → Stt → Option Out
/-- each mark's block is there, each once -/
def marksB (st : Stt) (D : List Nat) : Bool := noDup D && D.all fun l => Nat.blt l 1000000 && match st.h.get l with | some .d => true | _ => false
/-- a call, by what code gives -/
def callPlain (P : Program) (ec : CodeF) : CallF := fun f as' st => match P.funcs[f]? with
    | none => none
    | some fn => bif Nat.blt fn.ntmps as'.length then none else match fn.body with
      | none => none
      | some c => match ec fn.ntmps c (argsA as' 0) [] st with
        | some (.norm A' D st') => bif marksB st' D then retA P fn A' D st' else none
        | some (.ret A' D st') => bif marksB st' D then retA P fn A' D st' else none
        | _ => none
def callBy (P : Program) (S : Sums) (ec : CodeF) : CallF := fun f as' st => match S f as' st with
  | some r => some r
  | none => match callPlain P ec f as' st with
    | some r => some r
    | none => match splitOn as' st with
      | none => none
      | some (a, b) => match callPlain P ec f as' a, callPlain P ec f as' b with
        | some r, some q => joinR r q
        | _, _ => none
/-- a round, by what code gives -/
def roundBy (ec : CodeF) : RndF := fun l as' st => match st.h.get l with
  | some (.l lo) => bif isReady lo.state then (match putPs lo.N lo.A lo.ps as' with
    | some A1 => match ec lo.N lo.asg A1 [] st with
      | some (.norm A2 [] st2) => match st2.h.get l with
        | some (.l lo2) => bif isReady lo2.state then (match ec lo.N lo.body A2 [] (setX st2 l (.l { lo2 with state := .busy })) with
          | some (.norm _ [] st3) => match st3.h.get l with
            | some (.l lo3) => some (.v (.bool true), setX st3 l (.l { lo3 with state := .ready, jump := none }))
            | _ => none
          | some (.ret _ [] st3) => match st3.h.get l with
            | some (.l lo3) => some (.v (.bool false), setX st3 l (.l { lo3 with state := .done, jump := some .ret }))
            | _ => none
          | some (.exit id _ [] st3) => match st3.h.get l with
            | some (.l lo3) => some (.v (.bool false), setX st3 l (.l { lo3 with state := .done, jump := some (.exit id) }))
            | _ => none
          | _ => none) else none
        | _ => none
      | _ => none
    | none => none) else none
  | _ => none
/-- the function that is ranged over -/
def seqOf (P : Program) (A : AE) (g : Operand) : Option (FuncId × List AV) := match opd A g with
  | some (.v (.func (.func f) fs cs)) => bif Nat.beq fs.size 0 && callableB P f then some (f, cs.toList.map .v) else none
  | some (.fn f cs) => bif callableB P f then some (f, cs) else none
  | _ => none
def evRange (P : Program) (cf : CallF) (N : Nat) (g : Operand) (ps : List Nat) (asg body : Code) (A : AE) (D : List Nat) (st : Stt) : Option Out := match seqOf P A g with
  | none => none
  | some (f, cs) =>
    let l := st.nx + 1
    match cf f (.yld l :: cs) (newX (newX st .d) (.l ⟨.ready, N, A, ps, asg, body, none⟩)) with
    | none => none
    | some (_, st2) => match st2.h.get l, st2.h.get st.nx with
      | some (.l lo), some .d => bif isBusy lo.state then none else match lo.jump with
        | none => some (.norm A (st.nx :: D) (delO st2 l))
        | some .ret => some (.ret A (st.nx :: D) (delO st2 l))
        | some (.exit id) => some (.exit id A (st.nx :: D) (delO st2 l))
        | some _ => none
      | _, _ => none
def evLoop (f : AE → List Nat → Stt → Option Out) : Nat → AE → List Nat → Stt → Option Out
  | 0, _, _, _ => none
  | m + 1, A, D, st => match f A D st with
    | some (.norm A' D' st') => evLoop f m A' D' st'
    | r => r
/-- inr: within a round -/
def evCode (P : Program) (S : Sums) : Nat → Bool → CodeF
  | 0, _, _, _, _, _, _ => none
  | n + 1, inr, N, c, A, D, st =>
    match c with
    | .skip => some (.norm A D st)
    | .label _ => some (.norm A D st)
    | .region _ ops d => match (bif d then evDrawn P (callBy P S (evCode P S n false)) (roundBy (evCode P S n true)) N ops A st else evList P (callBy P S (evCode P S n false)) (roundBy (evCode P S n true)) N ops ops.toList A st) with
      | some (A', st') => some (.norm A' D st')
      | none => none
    | .seq a b => match evCode P S n inr N a A D st with
      | some (.norm A' D' st') => evCode P S n inr N b A' D' st'
      | r => r
    | .cond x a b => match opd A x with
      | some (.v (.bool t)) => bif t then evCode P S n inr N a A D st else evCode P S n inr N b A D st
      | _ => none
    | .block id b => match evCode P S n inr N b A D st with
      | some (.exit i A' D' st') => bif Nat.beq i id then some (.norm A' D' st') else some (.exit i A' D' st')
      | r => r
    | .loop b => evLoop (evCode P S n inr N b) n A D st
    | .exit id => some (.exit id A D st)
    | .ret => some (.ret A D st)
    | .rangeFunc g ps asg body => bif inr then none else evRange P (callBy P S (evCode P S n false)) N g ps.toList asg body A D st
    | _ => none
def evFn (P : Program) (S : Sums) (n : Nat) : CallF := callBy P S (evCode P S n false)
end Go.Proofs.Ytkcnljgennehaaa.Ev
