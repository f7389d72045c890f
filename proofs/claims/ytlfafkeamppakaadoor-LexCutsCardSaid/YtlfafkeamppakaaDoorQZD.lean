/- LexCuts' pieces of code. -/
import Derived.Test.YtlfafkeamppakaaDoorQYK
import Derived.Test.YtlfafkeamppakaaDoorQS23
import Derived.Test.YtlfafkeamppakaaDoorProg
set_option linter.unusedVariables false
set_option linter.unusedSimpArgs false
namespace Go.Proofs.YtlfafkeamppakaaDoor.XT
open Go Go.RowKit Go.Proofs.YtlfafkeamppakaaDoor.Sv Go.Proofs.YtlfafkeamppakaaDoor.W
set_option maxRecDepth 100000
noncomputable section
def sqL : Code → Code
  | .seq x _ => x
  | c => c
def sqR : Code → Code
  | .seq _ y => y
  | c => c
def code4 : Code := Tryd.f4.body.getD .skip
def q1 : Code := sqR code4
def q2 : Code := sqR q1
def q3 : Code := sqR q2
def q4 : Code := sqR q3
def q5 : Code := sqR q4
def q6 : Code := sqR q5
def q7 : Code := sqR q6
def pre4 : List Code := [sqL code4, sqL q1, sqL q2, sqL q3, sqL q4, sqL q5, sqL q6]
def ask4 : Code := sqL (sqL q7)
def rng4 : Code := sqR (sqL q7)
def end4 : Code := sqR q7
def bodyOf : Code → Code
  | .block _ (.rangeFunc _ _ _ b) => b
  | c => c
def asgOf : Code → Code
  | .block _ (.rangeFunc _ _ a _) => a
  | c => c
def noAn : Anns := fun _ _ => none
def S4 : Sums := addS 7 lvC (addS 8 lxcC (addS 9 rfcC (addS 10 rfeC (addS 11 lxiC noS))))
theorem S4_ok : SumsOK Tryd.prog gl S4 := addS_ok lvC_ok (addS_ok lxcC_ok (addS_ok rfcC_ok (addS_ok rfeC_ok (addS_ok lxiC_ok (noS_ok _)))))
def ks4 : List AK := [.box 4 [.b], .box 24 [.l tokT], .box 3 [.i .i64], .box 9 [.s]]
def es4 (a : D) : List D := [.t [.b false], .t [.l (cuT a.str).1], .t [.i 0], .t [.s a.str]]
def is4 (A : AE) : Bool := match A.get 2, A.get 6, A.get 9, A.get 55 with
  | some (.ptr a 0), some (.ptr b 0), some (.ptr c 0), some (.fn f [.ptr d 0]) => Nat.beq a 0 && Nat.beq b 1 && Nat.beq c 2 && Nat.beq f 25 && Nat.beq d 3
  | _, _, _, _ => false
def k5 (a : D) : Out → Prop
  | .norm A st => bif is4 A then segB ks4 (es4 a) st else False
  | _ => False
def k4 (a : D) : Out → Prop
  | .norm A st => evCode Tryd.prog S4 noAn 200 4 75 ask4 A st (k5 a)
  | .ret A st => match resAs Tryd.prog A st [.cell 2 4] with
    | some [.v (.bool b)] => b = true
    | _ => False
  | _ => False
def g1 (a : D) : Prop := evPre Tryd.prog S4 noAn 200 4 75 pre4 (putTs [0] (startAs [.d true .s] [a] 0)) (startSt [.d true .s] [a] ⟨[.nil], 0⟩) (k4 a)
def ksB : List AK := [.box 4 [.b], .box 24 [.l tokT], .box 3 [.i .i64], .box 37 [.i .u8, .s, .i .i64, .i .i64]]
def tk4 (t : D) : D := .t [.i (t.fld 0).int, .s (t.fld 1).str, .i (t.fld 2).int, .i (t.fld 3).int]
def dsB (l : D) (n : Int) (t : D) : List D := [.t [.b false], .t [.l l.list], .t [.i n], tk4 t]
def g2 (l a t : D) : Prop := evCode Tryd.prog S4 noAn 200 4 75 (bodyOf rng4) (putTs [2, 6, 9, 10] (startAs ksB (dsB l a.int t) 0)) (startSt ksB (dsB l a.int t) ⟨[.nil], 0⟩) (segN ksB (dsB l (a.int + 1) t))
end
end Go.Proofs.YtlfafkeamppakaaDoor.XT
