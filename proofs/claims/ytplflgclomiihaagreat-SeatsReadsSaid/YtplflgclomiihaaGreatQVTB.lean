/- Contracts. -/
import Derived.Test.YtplflgclomiihaaGreatQVTA
import Derived.Test.YtplflgclomiihaaGreatQVTC
set_option linter.unusedVariables false
set_option linter.unusedSimpArgs false
namespace Go.Proofs.YtplflgclomiihaaGreat.XT
open Go Go.RowKit Go.Proofs.YtplflgclomiihaaGreat.Sv Go.Proofs.YtplflgclomiihaaGreat.W
set_option maxRecDepth 100000
def memL (base:List D) (es:List D):Nat → List D
 | 0=>base
 | m + 1=>if ((nthD es m).fld 1).int=2 then ((nthD es m).fld 3).list else memL base es m
def upTo (p:D) (i:Int):List D:=(p.fld 10).list.take (i - (p.fld 6).int).toNat
def mems (p:D) (i:Int):List D:=bif termB p i then memL (p.fld 8).list (upTo p i) (upTo p i).length else []
noncomputable section
def c20:Code:=Tryz.f70.body.getD .skip
def pre20:List Code:=[sqL c20,sqL (sqR c20),sqL (sqR (sqR c20))]
def t20:Code:=sqR (sqR (sqR c20))
def ask20:Code:=sqL (sqL t20)
def rng20:Code:=sqR (sqL t20)
def end20:Code:=sqR t20
def bodyOf:Code → Code
 | .block _ (.rangeFunc _ _ _ b)=>b
 | c=>c
def asgOf:Code → Code
 | .block _ (.rangeFunc _ _ a _)=>a
 | c=>c
def S20:Sums:=addS 57 termC (addS 42 cloneC noS)
theorem S20_ok:SumsOK Tryz.prog Gl.none S20:=addS_ok termC_ok (addS_ok (cloneC_ok mo) (noS_ok _))
def fieldsOf:DT → List DT
 | .t fs=>fs
 | _=>[]
def resM:List RK:=[.d (.l (.i .i64))]
def ksM:List AK:=[.d true peerT,.d true (.i .u64)]
def ksQ:List AK:=[.box 29 (fieldsOf peerT),.box 22 [.l (.i .i64)],.box 25 [.l entT]]
def esQ (a:D) (i:Int):List D:=[etaD peerT a,.t [.l (a.fld 8).list],.t [.l (upTo a i)]]
def isM (A:AE):Bool:=match A.get 7,A.get 27 with
 | some (.ptr a 0),some (.fn f [.ptr d 0])=>Nat.beq a 1 && Nat.beq f 95 && Nat.beq d 2
 | _,_=>false
def kQ (a:D) (i:Int):Out → Prop
 | .norm A st=>bif isM A then (bif termB a i then segB ksQ (esQ a i) st else False) else False
 | _=>False
def kP (a:D) (i:Int):Out → Prop
 | .norm A st=>evCode Tryz.prog S20 noAn 200 70 38 ask20 A st (kQ a i)
 | .ret A st=>finA Tryz.f70.results.toList Tryz.prog ksM [] resM [.l (mems a i)] A st
 | _=>False
def gP (a b:D):Prop:=evPre Tryz.prog S20 noAn 200 70 38 pre20 (putTs [0,1] (startAs ksM [a,b] 0)) (startSt ksM [a,b] ⟨[.nil],0⟩) (kP a b.int)
def ksR:List AK:=[.box 22 [.l (.i .i64)],.box 88 (fieldsOf entT)]
def dsR (l e:D):List D:=[.t [.l l.list],etaD entT e]
def gB1 (l e:D):Prop:=evCode Tryz.prog S20 noAn 200 70 38 (bodyOf rng20) (putTs [7,9] (startAs ksR (dsR l e) 0)) (startSt ksR (dsR l e) ⟨[.nil],0⟩) (segX ksR (some (dsR l e)) (fun i=>none))
def gB2 (l e:D):Prop:=evCode Tryz.prog S20 noAn 200 70 38 (bodyOf rng20) (putTs [7,9] (startAs ksR (dsR l e) 0)) (startSt ksR (dsR l e) ⟨[.nil],0⟩) (segX ksR none (fun i=>bif Nat.beq i 0 then some (dsR (e.fld 3) e) else none))
def ksE:List AK:=[.box 22 [.l (.i .i64)]]
def gE (l:D):Prop:=evCode Tryz.prog S20 noAn 200 70 38 end20 (putTs [7] (startAs ksE [.t [.l l.list]] 0)) (startSt ksE [.t [.l l.list]] ⟨[.nil],0⟩) (segR Tryz.f70.results.toList Tryz.prog resM [.l l.list])
end
end Go.Proofs.YtplflgclomiihaaGreat.XT
