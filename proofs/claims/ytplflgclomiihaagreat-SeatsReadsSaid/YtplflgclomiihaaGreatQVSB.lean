/- Contracts. -/
import Derived.Test.YtplflgclomiihaaGreatQVSM
import Derived.Test.YtplflgclomiihaaGreatProg
set_option linter.unusedVariables false
set_option linter.unusedSimpArgs false
namespace Go.Proofs.YtplflgclomiihaaGreat.XT
open Go Go.RowKit Go.Proofs.YtplflgclomiihaaGreat.Sv
set_option maxRecDepth 100000
def srB (a:D):Bool:=decide (termI a (a.fld 11).int=(a.fld 2).int) && !decide (4611686018427387904 ≤ (a.fld 16).int)
def srA (a:D):Bool:=mayB a && decide ((a.fld 4).int=2) && srB a
def outSR (a:D):D:=bif srA a then rdP a else DT.zero peerT
def outSRN (a:D):Int:=bif srA a then u64 ((a.fld 16).int + 1) else 0
def outSRL (a:D):List D:=bif srA a then (a.fld 15).list.map fun f=>etaD msgT (outSend (rdP a) (f.fld 0).int) else []
def outSRE (a:D):Int:=bif mayB a then (bif decide ((a.fld 4).int=2) then (bif srB a then 0 else 7) else 140) else 2
theorem sr_no {a:D} (h:srA a=false):outSR a=DT.zero peerT∧outSRN a=0∧outSRL a=[]:=⟨by unfold outSR; rw [h,cond_false],by unfold outSRN; rw [h,cond_false],by unfold outSRL; rw [h,cond_false]⟩
noncomputable def SReadC:Con:=⟨[.d true peerT],fun ds=>(fun (a:D)=>[FitP a,∀ f ∈ (a.fld 15).list,U64 (f.fld 2).int,(a.fld 17).list.length ≤ 1000]) (nthD ds 0),[.d peerT,.d (.i .u64),.d (.l msgT),.d (.i .i64)],fun ds=>(fun (a:D)=>[etaD peerT (outSR a),.i (outSRN a),.l (outSRL a),.i (outSRE a)]) (nthD ds 0),fun ds=>[]⟩
noncomputable def SReadC_an:Anns:=fun f i=>match f,i with
 | 7,4000011=>some fun A st=>match A.get 1 with
  | some (.ptr l _)=>match st.h.get l with
   | some (.c et cs)=>⟨Unit,fun _=>[],fun _=>[(l,.c et cs)],fun _=>True,fun _=>0⟩
   | _=>LAnn.bad
  | _=>LAnn.bad
 | 7,2000012=>some fun A st=>⟨Unit,fun _=>[],fun _=>[(4,.q 60 msgT [])],fun _=>True,fun _=>0⟩
 | 7,12=>some fun A st=>match A.get 1,A.get 53 with
  | some (.ptr l _),some (.dl _ _ xs)=>match st.h.get l with
   | some (.c et cs)=>match toD false st peerT cs with
    | some (d,[])=>⟨Nat,fun g=>[(55,.v (.int .i64 g)),(4,.ow st.nx g)],fun g=>[(st.nx,.q 60 msgT ((xs.take g).map fun f=>etaD msgT (outSend d (f.fld 0).int)))],fun g=>g ≤ xs.length,fun g=>xs.length - g⟩
    | _=>LAnn.bad
   | _=>LAnn.bad
  | _,_=>LAnn.bad
 | _,_=>none
theorem SReadC_vc (a:D):((a.fld 10).list.length < 4611686018427387904∧(0 ≤ (a.fld 6).int∧(a.fld 6).int ≤ 18446744073709551615)∧(a.fld 8).list.length ≤ 17592186044416∧(∀ (e:D),e ∈ (a.fld 10).list → (e.fld 3).list.length ≤ 17592186044416)∧(a.fld 1).list.length ≤ 17592186044416∧(a.fld 14).list.length ≤ 17592186044416∧(a.fld 15).list.length ≤ 17592186044416∧(a.fld 17).list.length ≤ 17592186044416∧(∀ (r:D),r ∈ (a.fld 17).list → (r.fld 2).list.length ≤ 17592186044416)∧0 ≤ (a.fld 7).int∧(∀ (e:D),e ∈ (a.fld 10).list → 0 ≤ (e.fld 0).int∧0 ≤ (e.fld 1).int)∧0 ≤ (a.fld 4).int∧bif !decide (condI (mayB a) 0 2=0) then EqI 0 ((outSR a).fld 0).int∧[]=((outSR a).fld 1).list∧EqI 0 ((outSR a).fld 2).int∧EqI 0 ((outSR a).fld 3).int∧EqI 0 ((outSR a).fld 4).int∧EqI 0 ((outSR a).fld 5).int∧EqI 0 ((outSR a).fld 6).int∧EqI 0 ((outSR a).fld 7).int∧[]=((outSR a).fld 8).list∧ByteArray.mk #[]=((outSR a).fld 9).str∧[]=((outSR a).fld 10).list∧EqI 0 ((outSR a).fld 11).int∧EqI 0 ((outSR a).fld 12).int∧EqI 0 ((outSR a).fld 13).int∧[]=((outSR a).fld 14).list∧[]=((outSR a).fld 15).list∧EqI 0 ((outSR a).fld 16).int∧[]=((outSR a).fld 17).list∧EqI 0 (outSRN a)∧[]=outSRL a∧condI (mayB a) 0 2=outSRE a else bif !decide ((a.fld 4).int=2) then EqI 0 ((outSR a).fld 0).int∧[]=((outSR a).fld 1).list∧EqI 0 ((outSR a).fld 2).int∧EqI 0 ((outSR a).fld 3).int∧EqI 0 ((outSR a).fld 4).int∧EqI 0 ((outSR a).fld 5).int∧EqI 0 ((outSR a).fld 6).int∧EqI 0 ((outSR a).fld 7).int∧[]=((outSR a).fld 8).list∧ByteArray.mk #[]=((outSR a).fld 9).str∧[]=((outSR a).fld 10).list∧EqI 0 ((outSR a).fld 11).int∧EqI 0 ((outSR a).fld 12).int∧EqI 0 ((outSR a).fld 13).int∧[]=((outSR a).fld 14).list∧[]=((outSR a).fld 15).list∧EqI 0 ((outSR a).fld 16).int∧[]=((outSR a).fld 17).list∧EqI 0 (outSRN a)∧[]=outSRL a∧EqI 140 (outSRE a) else (a.fld 10).list.length < 4611686018427387904∧(0 ≤ (a.fld 6).int∧(a.fld 6).int ≤ 18446744073709551615)∧(0 ≤ (a.fld 11).int∧(a.fld 11).int ≤ 18446744073709551615)∧bif !decide (termI a (a.fld 11).int=(a.fld 2).int) || decide (4611686018427387904 ≤ (a.fld 16).int) then EqI 0 ((outSR a).fld 0).int∧[]=((outSR a).fld 1).list∧EqI 0 ((outSR a).fld 2).int∧EqI 0 ((outSR a).fld 3).int∧EqI 0 ((outSR a).fld 4).int∧EqI 0 ((outSR a).fld 5).int∧EqI 0 ((outSR a).fld 6).int∧EqI 0 ((outSR a).fld 7).int∧[]=((outSR a).fld 8).list∧ByteArray.mk #[]=((outSR a).fld 9).str∧[]=((outSR a).fld 10).list∧EqI 0 ((outSR a).fld 11).int∧EqI 0 ((outSR a).fld 12).int∧EqI 0 ((outSR a).fld 13).int∧[]=((outSR a).fld 14).list∧[]=((outSR a).fld 15).list∧EqI 0 ((outSR a).fld 16).int∧[]=((outSR a).fld 17).list∧EqI 0 (outSRN a)∧[]=outSRL a∧EqI 7 (outSRE a) else FitP (putF peerT a [])∧(∀ (f:D),f ∈ (a.fld 15).list → 0 ≤ (f.fld 2).int∧(f.fld 2).int ≤ 18446744073709551615)∧mayB a=true∧((a.fld 17).list.length + 1) * 40 ≤ 140737488355328∧(a.fld 17).list.length + 1 ≤ 9223372036854775807∧∃ (g:Unit),∃ (g:Unit),∃ (g:Unit),∃ (g:Nat),EqI 0 (↑g:Int)∧0=g∧[]=List.map (fun (f:D) ↦ etaD msgT (outSend (putF peerT a [(1,D.l (List.take (a.fld 1).list.length (a.fld 1).list)),(8,D.l (List.take (a.fld 8).list.length (a.fld 8).list)),(10,D.l (List.take (a.fld 10).list.length (a.fld 10).list)),(14,D.l (List.take (a.fld 14).list.length (a.fld 14).list)),(15,D.l (List.take (a.fld 15).list.length (a.fld 15).list)),(16,D.i (IntKind.u64.wrap ((a.fld 16).int + 1))),(17,D.l (List.take ((a.fld 17).list.length + 1) (List.take (a.fld 17).list.length (a.fld 17).list ++ [D.t [D.i (IntKind.u64.wrap ((a.fld 16).int + 1)),D.i (a.fld 11).int,D.l [D.i (a.fld 0).int]]])))]) (f.fld 0).int)) (List.take g (List.take (a.fld 15).list.length (a.fld 15).list))∧g ≤ (List.take (a.fld 15).list.length (a.fld 15).list).length∧∀ (g:Nat),g ≤ (List.take (a.fld 15).list.length (a.fld 15).list).length → bif decide ((↑g:Int) < (↑(List.take (a.fld 15).list.length (a.fld 15).list).length:Int)) then Idx (↑g:Int) (List.take (a.fld 15).list.length (a.fld 15).list).length∧FitP (putF peerT a [(1,D.l (List.take (a.fld 1).list.length (a.fld 1).list)),(8,D.l (List.take (a.fld 8).list.length (a.fld 8).list)),(10,D.l (List.take (a.fld 10).list.length (a.fld 10).list)),(14,D.l (List.take (a.fld 14).list.length (a.fld 14).list)),(15,D.l (List.take (a.fld 15).list.length (a.fld 15).list)),(16,D.i (IntKind.u64.wrap ((a.fld 16).int + 1))),(17,D.l (List.take ((a.fld 17).list.length + 1) (List.take (a.fld 17).list.length (a.fld 17).list ++ [D.t [D.i (IntKind.u64.wrap ((a.fld 16).int + 1)),D.i (a.fld 11).int,D.l [D.i (a.fld 0).int]]])))])∧(g + [putF msgT (outSend (putF peerT a [(1,D.l (List.take (a.fld 1).list.length (a.fld 1).list)),(8,D.l (List.take (a.fld 8).list.length (a.fld 8).list)),(10,D.l (List.take (a.fld 10).list.length (a.fld 10).list)),(14,D.l (List.take (a.fld 14).list.length (a.fld 14).list)),(15,D.l (List.take (a.fld 15).list.length (a.fld 15).list)),(16,D.i (IntKind.u64.wrap ((a.fld 16).int + 1))),(17,D.l (List.take ((a.fld 17).list.length + 1) (List.take (a.fld 17).list.length (a.fld 17).list ++ [D.t [D.i (IntKind.u64.wrap ((a.fld 16).int + 1)),D.i (a.fld 11).int,D.l [D.i (a.fld 0).int]]])))]) ((nthD (List.take (a.fld 15).list.length (a.fld 15).list) g).fld 0).int) []].length) * 136 ≤ 140737488355328∧g + [putF msgT (outSend (putF peerT a [(1,D.l (List.take (a.fld 1).list.length (a.fld 1).list)),(8,D.l (List.take (a.fld 8).list.length (a.fld 8).list)),(10,D.l (List.take (a.fld 10).list.length (a.fld 10).list)),(14,D.l (List.take (a.fld 14).list.length (a.fld 14).list)),(15,D.l (List.take (a.fld 15).list.length (a.fld 15).list)),(16,D.i (IntKind.u64.wrap ((a.fld 16).int + 1))),(17,D.l (List.take ((a.fld 17).list.length + 1) (List.take (a.fld 17).list.length (a.fld 17).list ++ [D.t [D.i (IntKind.u64.wrap ((a.fld 16).int + 1)),D.i (a.fld 11).int,D.l [D.i (a.fld 0).int]]])))]) ((nthD (List.take (a.fld 15).list.length (a.fld 15).list) g).fld 0).int) []].length ≤ 9223372036854775807∧I64 ((↑g:Int) + 1)∧∃ (g_1:Nat),(↑g:Int) + 1=(↑g_1:Int)∧g + [putF msgT (outSend (putF peerT a [(1,D.l (List.take (a.fld 1).list.length (a.fld 1).list)),(8,D.l (List.take (a.fld 8).list.length (a.fld 8).list)),(10,D.l (List.take (a.fld 10).list.length (a.fld 10).list)),(14,D.l (List.take (a.fld 14).list.length (a.fld 14).list)),(15,D.l (List.take (a.fld 15).list.length (a.fld 15).list)),(16,D.i (IntKind.u64.wrap ((a.fld 16).int + 1))),(17,D.l (List.take ((a.fld 17).list.length + 1) (List.take (a.fld 17).list.length (a.fld 17).list ++ [D.t [D.i (IntKind.u64.wrap ((a.fld 16).int + 1)),D.i (a.fld 11).int,D.l [D.i (a.fld 0).int]]])))]) ((nthD (List.take (a.fld 15).list.length (a.fld 15).list) g).fld 0).int) []].length=g_1∧List.take g (List.map (fun (f:D) ↦ etaD msgT (outSend (putF peerT a [(1,D.l (List.take (a.fld 1).list.length (a.fld 1).list)),(8,D.l (List.take (a.fld 8).list.length (a.fld 8).list)),(10,D.l (List.take (a.fld 10).list.length (a.fld 10).list)),(14,D.l (List.take (a.fld 14).list.length (a.fld 14).list)),(15,D.l (List.take (a.fld 15).list.length (a.fld 15).list)),(16,D.i (IntKind.u64.wrap ((a.fld 16).int + 1))),(17,D.l (List.take ((a.fld 17).list.length + 1) (List.take (a.fld 17).list.length (a.fld 17).list ++ [D.t [D.i (IntKind.u64.wrap ((a.fld 16).int + 1)),D.i (a.fld 11).int,D.l [D.i (a.fld 0).int]]])))]) (f.fld 0).int)) (List.take g (List.take (a.fld 15).list.length (a.fld 15).list))) ++ [putF msgT (outSend (putF peerT a [(1,D.l (List.take (a.fld 1).list.length (a.fld 1).list)),(8,D.l (List.take (a.fld 8).list.length (a.fld 8).list)),(10,D.l (List.take (a.fld 10).list.length (a.fld 10).list)),(14,D.l (List.take (a.fld 14).list.length (a.fld 14).list)),(15,D.l (List.take (a.fld 15).list.length (a.fld 15).list)),(16,D.i (IntKind.u64.wrap ((a.fld 16).int + 1))),(17,D.l (List.take ((a.fld 17).list.length + 1) (List.take (a.fld 17).list.length (a.fld 17).list ++ [D.t [D.i (IntKind.u64.wrap ((a.fld 16).int + 1)),D.i (a.fld 11).int,D.l [D.i (a.fld 0).int]]])))]) ((nthD (List.take (a.fld 15).list.length (a.fld 15).list) g).fld 0).int) []]=List.map (fun (f:D) ↦ etaD msgT (outSend (putF peerT a [(1,D.l (List.take (a.fld 1).list.length (a.fld 1).list)),(8,D.l (List.take (a.fld 8).list.length (a.fld 8).list)),(10,D.l (List.take (a.fld 10).list.length (a.fld 10).list)),(14,D.l (List.take (a.fld 14).list.length (a.fld 14).list)),(15,D.l (List.take (a.fld 15).list.length (a.fld 15).list)),(16,D.i (IntKind.u64.wrap ((a.fld 16).int + 1))),(17,D.l (List.take ((a.fld 17).list.length + 1) (List.take (a.fld 17).list.length (a.fld 17).list ++ [D.t [D.i (IntKind.u64.wrap ((a.fld 16).int + 1)),D.i (a.fld 11).int,D.l [D.i (a.fld 0).int]]])))]) (f.fld 0).int)) (List.take g_1 (List.take (a.fld 15).list.length (a.fld 15).list))∧g_1 ≤ (List.take (a.fld 15).list.length (a.fld 15).list).length∧(List.take (a.fld 15).list.length (a.fld 15).list).length - g_1 < (List.take (a.fld 15).list.length (a.fld 15).list).length - g else IntKind.u64.wrap ((a.fld 16).int + 1)=IntKind.u64.wrap ((a.fld 16).int + 1)∧(a.fld 0).int=((outSR a).fld 0).int∧List.take (a.fld 1).list.length (a.fld 1).list=((outSR a).fld 1).list∧(a.fld 2).int=((outSR a).fld 2).int∧(a.fld 3).int=((outSR a).fld 3).int∧(a.fld 4).int=((outSR a).fld 4).int∧(a.fld 5).int=((outSR a).fld 5).int∧(a.fld 6).int=((outSR a).fld 6).int∧(a.fld 7).int=((outSR a).fld 7).int∧List.take (a.fld 8).list.length (a.fld 8).list=((outSR a).fld 8).list∧(a.fld 9).str=((outSR a).fld 9).str∧List.take (a.fld 10).list.length (a.fld 10).list=((outSR a).fld 10).list∧(a.fld 11).int=((outSR a).fld 11).int∧(a.fld 12).int=((outSR a).fld 12).int∧(a.fld 13).int=((outSR a).fld 13).int∧List.take (a.fld 14).list.length (a.fld 14).list=((outSR a).fld 14).list∧List.take (a.fld 15).list.length (a.fld 15).list=((outSR a).fld 15).list∧IntKind.u64.wrap ((a.fld 16).int + 1)=((outSR a).fld 16).int∧List.take ((a.fld 17).list.length + 1) (List.take (a.fld 17).list.length (a.fld 17).list ++ [D.t [D.i (IntKind.u64.wrap ((a.fld 16).int + 1)),D.i (a.fld 11).int,D.l [D.i (a.fld 0).int]]])=((outSR a).fld 17).list∧IntKind.u64.wrap ((a.fld 16).int + 1)=outSRN a∧List.take g (List.map (fun (f:D) ↦ etaD msgT (outSend (putF peerT a [(1,D.l (List.take (a.fld 1).list.length (a.fld 1).list)),(8,D.l (List.take (a.fld 8).list.length (a.fld 8).list)),(10,D.l (List.take (a.fld 10).list.length (a.fld 10).list)),(14,D.l (List.take (a.fld 14).list.length (a.fld 14).list)),(15,D.l (List.take (a.fld 15).list.length (a.fld 15).list)),(16,D.i (IntKind.u64.wrap ((a.fld 16).int + 1))),(17,D.l (List.take ((a.fld 17).list.length + 1) (List.take (a.fld 17).list.length (a.fld 17).list ++ [D.t [D.i (IntKind.u64.wrap ((a.fld 16).int + 1)),D.i (a.fld 11).int,D.l [D.i (a.fld 0).int]]])))]) (f.fld 0).int)) (List.take g (List.take (a.fld 15).list.length (a.fld 15).list)))=outSRL a∧EqI 0 (outSRE a))=conGoal Tryz.prog (addS 24 SendC (addS 23 sownC (addS 57 termC (addS 21 MayC noS)))) SReadC_an 200 7 SReadC [a]:=by kernel_rfl
theorem SReadC_ok:ConOK Tryz.prog Gl.none 7 SReadC:=con_of mo (addS_ok SendC_ok (addS_ok sownC_ok (addS_ok termC_ok (addS_ok MayC_ok (noS_ok _))))) (an:=SReadC_an) 200 fun ds hl hp=>by
 obtain ⟨a,rfl⟩:=len1 hl
 rw [← SReadC_vc]
 have p0:FitP a:=hp _ (.head _)
 have p1:∀ f ∈ (a.fld 15).list,U64 (f.fld 2).int:=hp _ (.tail _ (.head _))
 have p2:(a.fld 17).list.length ≤ 1000:=hp _ (.tail _ (.tail _ (.head _)))
 have h15:=p0.l15
 rw [c02]
 refine FitP.pre p0 (cond_of (fun c=>?_) (fun c=>cond_of (fun r=>?_) (fun r=>⟨by have:=p0.l10; omega,p0.base,p0.com,cond_of (fun s=>?_) (fun s=>?_)⟩)))
 ·have hm:mayB a=false:=(Bool.not_eq_true' _).mp c
  obtain ⟨ho,hN,hL⟩:=sr_no (a:=a) (by unfold srA; rw [hm]; rfl)
  have hE:outSRE a=2:=by unfold outSRE; rw [hm]; rfl
  rw [ho,hN,hL,hE,hm]
  exact ⟨rfl,rfl,rfl,rfl,rfl,rfl,rfl,rfl,rfl,rfl,rfl,rfl,rfl,rfl,rfl,rfl,rfl,rfl,rfl,rfl,rfl⟩
 ·have hm:mayB a=true:=(Bool.not_eq_false' _).mp c
  have r:=(Bool.not_eq_true' _).mp r
  obtain ⟨ho,hN,hL⟩:=sr_no (a:=a) (by unfold srA; rw [hm,r]; rfl)
  have hE:outSRE a=140:=by unfold outSRE; rw [hm,r]; rfl
  rw [ho,hN,hL,hE]
  exact ⟨rfl,rfl,rfl,rfl,rfl,rfl,rfl,rfl,rfl,rfl,rfl,rfl,rfl,rfl,rfl,rfl,rfl,rfl,rfl,rfl,rfl⟩
 ·have hm:mayB a=true:=(Bool.not_eq_false' _).mp c
  have hr:=(Bool.not_eq_false' _).mp r
  have hB:srB a=false:=not_or_eq s
  obtain ⟨ho,hN,hL⟩:=sr_no (a:=a) (by unfold srA; rw [hB,Bool.and_false])
  have hE:outSRE a=7:=by unfold outSRE; rw [hm,hr,hB]; rfl
  rw [ho,hN,hL,hE]
  exact ⟨rfl,rfl,rfl,rfl,rfl,rfl,rfl,rfl,rfl,rfl,rfl,rfl,rfl,rfl,rfl,rfl,rfl,rfl,rfl,rfl,rfl⟩
 have hm:mayB a=true:=(Bool.not_eq_false' _).mp c
 have hr:=(Bool.not_eq_false' _).mp r
 obtain ⟨s1,s2⟩:=not_or_ne s
 have hB:srB a=true:=by unfold srB; rw [s1,s2]; rfl
 have hA:srA a=true:=by unfold srA; rw [hm,hr,hB]; rfl
 have ho:outSR a=rdP a:=by unfold outSR; rw [hA,cond_true]
 have hN:outSRN a=u64 ((a.fld 16).int + 1):=by unfold outSRN; rw [hA,cond_true]
 have hL:outSRL a=(a.fld 15).list.map fun f=>etaD msgT (outSend (rdP a) (f.fld 0).int):=by unfold outSRL; rw [hA,cond_true]
 have hE:outSRE a=0:=by unfold outSRE; rw [hm,hr,hB]; rfl
 have hF:FitP (rdP a):=fitP_rd p0 p2
 have hM:=mayB_iff.1 hm
 simp only [List.take_length,take_app1,-eq_self]
 refine ⟨FitP.eta p0,p1,hm,by omega,by omega,(),(),(),0,rfl,rfl,rfl,Nat.zero_le _,fun g hg=>cond_of (fun d=>?_) (fun d=>?_)⟩
 ·have d:g < (a.fld 15).list.length:=by simpa using d
  exact ⟨⟨by omega,by omega⟩,hF,(by show (g + 1) * 136 ≤ _; omega),(by show g + 1 ≤ _; omega),⟨by omega,by omega⟩,g + 1,by omega,rfl,map_at (f:=fun (f:D)=>etaD msgT (outSend (rdP a) (f.fld 0).int)) d,by omega,by omega⟩
 ·have d:g=(a.fld 15).list.length:=by have:=of_decide_eq_false d; omega
  subst d
  rw [map_end,ho,hN,hL,hE]
  exact ⟨rfl,rfl,rfl,rfl,rfl,rfl,rfl,rfl,rfl,rfl,rfl,rfl,rfl,rfl,rfl,rfl,rfl,rfl,rfl,rfl,rfl,rfl⟩
noncomputable def readrC:Con:=⟨[.d true peerT],fun ds=>(fun (a:D)=>[FitP a,∀ f ∈ (a.fld 15).list,U64 (f.fld 2).int,(a.fld 17).list.length ≤ 1000]) (nthD ds 0),[.d peerT,.d (.i .u64),.d (.l msgT),.d (.i .i64)],fun ds=>(fun (a:D)=>[etaD peerT (outSR a),.i (outSRN a),.l (outSRL a),.i (outSRE a)]) (nthD ds 0),fun ds=>[]⟩
noncomputable def readrC_an:Anns:=fun f i=>match f,i with
 | 8,4000010=>some fun A st=>match A.get 1 with
  | some (.ptr l _)=>match st.h.get l with
   | some (.c et cs)=>⟨Unit,fun _=>[],fun _=>[(l,.c et cs)],fun _=>True,fun _=>0⟩
   | _=>LAnn.bad
  | _=>LAnn.bad
 | _,_=>none
theorem readrC_vc (a:D):((a.fld 10).list.length < 4611686018427387904∧(0 ≤ (a.fld 6).int∧(a.fld 6).int ≤ 18446744073709551615)∧(a.fld 8).list.length ≤ 17592186044416∧(∀ (e:D),e ∈ (a.fld 10).list → (e.fld 3).list.length ≤ 17592186044416)∧(a.fld 1).list.length ≤ 17592186044416∧(a.fld 14).list.length ≤ 17592186044416∧(a.fld 15).list.length ≤ 17592186044416∧(a.fld 17).list.length ≤ 17592186044416∧(∀ (r:D),r ∈ (a.fld 17).list → (r.fld 2).list.length ≤ 17592186044416)∧0 ≤ (a.fld 7).int∧(∀ (e:D),e ∈ (a.fld 10).list → 0 ≤ (e.fld 0).int∧0 ≤ (e.fld 1).int)∧0 ≤ (a.fld 4).int∧bif !mayB a then EqI 0 ((outSR a).fld 0).int∧[]=((outSR a).fld 1).list∧EqI 0 ((outSR a).fld 2).int∧EqI 0 ((outSR a).fld 3).int∧EqI 0 ((outSR a).fld 4).int∧EqI 0 ((outSR a).fld 5).int∧EqI 0 ((outSR a).fld 6).int∧EqI 0 ((outSR a).fld 7).int∧[]=((outSR a).fld 8).list∧ByteArray.mk #[]=((outSR a).fld 9).str∧[]=((outSR a).fld 10).list∧EqI 0 ((outSR a).fld 11).int∧EqI 0 ((outSR a).fld 12).int∧EqI 0 ((outSR a).fld 13).int∧[]=((outSR a).fld 14).list∧[]=((outSR a).fld 15).list∧EqI 0 ((outSR a).fld 16).int∧[]=((outSR a).fld 17).list∧EqI 0 (outSRN a)∧[]=outSRL a∧EqI 2 (outSRE a) else bif !decide ((a.fld 4).int=2) then EqI 0 ((outSR a).fld 0).int∧[]=((outSR a).fld 1).list∧EqI 0 ((outSR a).fld 2).int∧EqI 0 ((outSR a).fld 3).int∧EqI 0 ((outSR a).fld 4).int∧EqI 0 ((outSR a).fld 5).int∧EqI 0 ((outSR a).fld 6).int∧EqI 0 ((outSR a).fld 7).int∧[]=((outSR a).fld 8).list∧ByteArray.mk #[]=((outSR a).fld 9).str∧[]=((outSR a).fld 10).list∧EqI 0 ((outSR a).fld 11).int∧EqI 0 ((outSR a).fld 12).int∧EqI 0 ((outSR a).fld 13).int∧[]=((outSR a).fld 14).list∧[]=((outSR a).fld 15).list∧EqI 0 ((outSR a).fld 16).int∧[]=((outSR a).fld 17).list∧EqI 0 (outSRN a)∧[]=outSRL a∧EqI 140 (outSRE a) else (a.fld 10).list.length ≤ 1000000∧(0 ≤ (a.fld 6).int∧(a.fld 6).int ≤ 18446744073709551615)∧(a.fld 6).int ≤ 4611686018427387904∧(0 ≤ (a.fld 11).int∧(a.fld 11).int ≤ 18446744073709551615)∧bif !decide (termI a (a.fld 11).int=(a.fld 2).int) || decide (4611686018427387904 ≤ (a.fld 16).int) then EqI 0 ((outSR a).fld 0).int∧[]=((outSR a).fld 1).list∧EqI 0 ((outSR a).fld 2).int∧EqI 0 ((outSR a).fld 3).int∧EqI 0 ((outSR a).fld 4).int∧EqI 0 ((outSR a).fld 5).int∧EqI 0 ((outSR a).fld 6).int∧EqI 0 ((outSR a).fld 7).int∧[]=((outSR a).fld 8).list∧ByteArray.mk #[]=((outSR a).fld 9).str∧[]=((outSR a).fld 10).list∧EqI 0 ((outSR a).fld 11).int∧EqI 0 ((outSR a).fld 12).int∧EqI 0 ((outSR a).fld 13).int∧[]=((outSR a).fld 14).list∧[]=((outSR a).fld 15).list∧EqI 0 ((outSR a).fld 16).int∧[]=((outSR a).fld 17).list∧EqI 0 (outSRN a)∧[]=outSRL a∧EqI 7 (outSRE a) else FitP (putF peerT a [])∧((a.fld 17).list.length + 1) * 40 ≤ 140737488355328∧(a.fld 17).list.length + 1 ≤ 9223372036854775807∧∃ (g:Unit),(a.fld 0).int=(a.fld 0).int∧List.take (a.fld 1).list.length (a.fld 1).list=List.take (a.fld 1).list.length (a.fld 1).list∧(a.fld 2).int=(a.fld 2).int∧(a.fld 3).int=(a.fld 3).int∧(a.fld 4).int=(a.fld 4).int∧(a.fld 5).int=(a.fld 5).int∧(a.fld 6).int=(a.fld 6).int∧(a.fld 7).int=(a.fld 7).int∧List.take (a.fld 8).list.length (a.fld 8).list=List.take (a.fld 8).list.length (a.fld 8).list∧(a.fld 9).str=(a.fld 9).str∧List.take (a.fld 10).list.length (a.fld 10).list=List.take (a.fld 10).list.length (a.fld 10).list∧(a.fld 11).int=(a.fld 11).int∧(a.fld 12).int=(a.fld 12).int∧(a.fld 13).int=(a.fld 13).int∧List.take (a.fld 14).list.length (a.fld 14).list=List.take (a.fld 14).list.length (a.fld 14).list∧List.take (a.fld 15).list.length (a.fld 15).list=List.take (a.fld 15).list.length (a.fld 15).list∧IntKind.u64.wrap ((a.fld 16).int + 1)=IntKind.u64.wrap ((a.fld 16).int + 1)∧List.take ((a.fld 17).list.length + 1) (List.take (a.fld 17).list.length (a.fld 17).list ++ [D.t [D.i (IntKind.u64.wrap ((a.fld 16).int + 1)),D.i (a.fld 11).int,D.l [D.i (a.fld 0).int]]])=List.take ((a.fld 17).list.length + 1) (List.take (a.fld 17).list.length (a.fld 17).list ++ [D.t [D.i (IntKind.u64.wrap ((a.fld 16).int + 1)),D.i (a.fld 11).int,D.l [D.i (a.fld 0).int]]])∧IntKind.u64.wrap ((a.fld 16).int + 1)=IntKind.u64.wrap ((a.fld 16).int + 1)∧IntKind.u64.wrap ((a.fld 16).int + 1)=IntKind.u64.wrap ((a.fld 16).int + 1)∧FitP (putF peerT a [(1,D.l (List.take (a.fld 1).list.length (a.fld 1).list)),(8,D.l (List.take (a.fld 8).list.length (a.fld 8).list)),(10,D.l (List.take (a.fld 10).list.length (a.fld 10).list)),(14,D.l (List.take (a.fld 14).list.length (a.fld 14).list)),(15,D.l (List.take (a.fld 15).list.length (a.fld 15).list)),(16,D.i (IntKind.u64.wrap ((a.fld 16).int + 1))),(17,D.l (List.take ((a.fld 17).list.length + 1) (List.take (a.fld 17).list.length (a.fld 17).list ++ [D.t [D.i (IntKind.u64.wrap ((a.fld 16).int + 1)),D.i (a.fld 11).int,D.l [D.i (a.fld 0).int]]])))])∧(a.fld 6).int ≤ 4611686018427387904∧(a.fld 0).int=((outSR a).fld 0).int∧List.take (a.fld 1).list.length (a.fld 1).list=((outSR a).fld 1).list∧(a.fld 2).int=((outSR a).fld 2).int∧(a.fld 3).int=((outSR a).fld 3).int∧(a.fld 4).int=((outSR a).fld 4).int∧(a.fld 5).int=((outSR a).fld 5).int∧(a.fld 6).int=((outSR a).fld 6).int∧(a.fld 7).int=((outSR a).fld 7).int∧List.take (a.fld 8).list.length (a.fld 8).list=((outSR a).fld 8).list∧(a.fld 9).str=((outSR a).fld 9).str∧List.take (a.fld 10).list.length (a.fld 10).list=((outSR a).fld 10).list∧(a.fld 11).int=((outSR a).fld 11).int∧(a.fld 12).int=((outSR a).fld 12).int∧(a.fld 13).int=((outSR a).fld 13).int∧List.take (a.fld 14).list.length (a.fld 14).list=((outSR a).fld 14).list∧List.take (a.fld 15).list.length (a.fld 15).list=((outSR a).fld 15).list∧IntKind.u64.wrap ((a.fld 16).int + 1)=((outSR a).fld 16).int∧List.take ((a.fld 17).list.length + 1) (List.take (a.fld 17).list.length (a.fld 17).list ++ [D.t [D.i (IntKind.u64.wrap ((a.fld 16).int + 1)),D.i (a.fld 11).int,D.l [D.i (a.fld 0).int]]])=((outSR a).fld 17).list∧IntKind.u64.wrap ((a.fld 16).int + 1)=outSRN a∧allL (putF peerT a [(1,D.l (List.take (a.fld 1).list.length (a.fld 1).list)),(8,D.l (List.take (a.fld 8).list.length (a.fld 8).list)),(10,D.l (List.take (a.fld 10).list.length (a.fld 10).list)),(14,D.l (List.take (a.fld 14).list.length (a.fld 14).list)),(15,D.l (List.take (a.fld 15).list.length (a.fld 15).list)),(16,D.i (IntKind.u64.wrap ((a.fld 16).int + 1))),(17,D.l (List.take ((a.fld 17).list.length + 1) (List.take (a.fld 17).list.length (a.fld 17).list ++ [D.t [D.i (IntKind.u64.wrap ((a.fld 16).int + 1)),D.i (a.fld 11).int,D.l [D.i (a.fld 0).int]]])))])=outSRL a∧EqI 0 (outSRE a))=conGoal Tryz.prog (addS 26 allC (addS 6 ownrC (addS 61 termrC (addS 12 mayrC noS)))) readrC_an 200 8 readrC [a]:=by kernel_rfl
theorem readrC_ok:ConOK Tryz.prog Gl.none 8 readrC:=con_of mo (addS_ok allC_ok (addS_ok ownrC_ok (addS_ok termrC_ok (addS_ok mayrC_ok (noS_ok _))))) (an:=readrC_an) 200 fun ds hl hp=>by
 obtain ⟨a,rfl⟩:=len1 hl
 rw [← readrC_vc]
 have p0:FitP a:=hp _ (.head _)
 have p1:∀ f ∈ (a.fld 15).list,U64 (f.fld 2).int:=hp _ (.tail _ (.head _))
 have p2:(a.fld 17).list.length ≤ 1000:=hp _ (.tail _ (.tail _ (.head _)))
 refine FitP.pre p0 (cond_of (fun c=>?_) (fun c=>cond_of (fun r=>?_) (fun r=>⟨p0.l10,p0.base,(mayB_iff.1 ((Bool.not_eq_false' _).mp c)).base,p0.com,cond_of (fun s=>?_) (fun s=>?_)⟩)))
 ·have hm:mayB a=false:=(Bool.not_eq_true' _).mp c
  obtain ⟨ho,hN,hL⟩:=sr_no (a:=a) (by unfold srA; rw [hm]; rfl)
  have hE:outSRE a=2:=by unfold outSRE; rw [hm]; rfl
  rw [ho,hN,hL,hE]
  exact ⟨rfl,rfl,rfl,rfl,rfl,rfl,rfl,rfl,rfl,rfl,rfl,rfl,rfl,rfl,rfl,rfl,rfl,rfl,rfl,rfl,rfl⟩
 ·have hm:mayB a=true:=(Bool.not_eq_false' _).mp c
  have r:=(Bool.not_eq_true' _).mp r
  obtain ⟨ho,hN,hL⟩:=sr_no (a:=a) (by unfold srA; rw [hm,r]; rfl)
  have hE:outSRE a=140:=by unfold outSRE; rw [hm,r]; rfl
  rw [ho,hN,hL,hE]
  exact ⟨rfl,rfl,rfl,rfl,rfl,rfl,rfl,rfl,rfl,rfl,rfl,rfl,rfl,rfl,rfl,rfl,rfl,rfl,rfl,rfl,rfl⟩
 ·have hm:mayB a=true:=(Bool.not_eq_false' _).mp c
  have hr:=(Bool.not_eq_false' _).mp r
  have hB:srB a=false:=not_or_eq s
  obtain ⟨ho,hN,hL⟩:=sr_no (a:=a) (by unfold srA; rw [hB,Bool.and_false])
  have hE:outSRE a=7:=by unfold outSRE; rw [hm,hr,hB]; rfl
  rw [ho,hN,hL,hE]
  exact ⟨rfl,rfl,rfl,rfl,rfl,rfl,rfl,rfl,rfl,rfl,rfl,rfl,rfl,rfl,rfl,rfl,rfl,rfl,rfl,rfl,rfl⟩
 have hm:mayB a=true:=(Bool.not_eq_false' _).mp c
 have hr:=(Bool.not_eq_false' _).mp r
 obtain ⟨s1,s2⟩:=not_or_ne s
 have hB:srB a=true:=by unfold srB; rw [s1,s2]; rfl
 have hA:srA a=true:=by unfold srA; rw [hm,hr,hB]; rfl
 have ho:outSR a=rdP a:=by unfold outSR; rw [hA,cond_true]
 have hN:outSRN a=u64 ((a.fld 16).int + 1):=by unfold outSRN; rw [hA,cond_true]
 have hL:outSRL a=(a.fld 15).list.map fun f=>etaD msgT (outSend (rdP a) (f.fld 0).int):=by unfold outSRL; rw [hA,cond_true]
 have hE:outSRE a=0:=by unfold outSRE; rw [hm,hr,hB]; rfl
 have hF:FitP (rdP a):=fitP_rd p0 p2
 have hM:=mayB_iff.1 hm
 simp only [List.take_length,take_app1,-eq_self]
 have hq:mayB (rdP a)=true:=mayB_iff.2 (rd_may p0 hM (of_decide_eq_true hr) (by have:=of_decide_eq_false s2; omega))
 have hall:=all_send hq (of_decide_eq_true hr)
 rw [ho,hN,hL,hE]
 exact ⟨FitP.eta p0,by omega,by omega,(),rfl,rfl,rfl,rfl,rfl,rfl,rfl,rfl,rfl,rfl,rfl,rfl,rfl,rfl,rfl,rfl,rfl,rfl,rfl,rfl,hF,hM.base,rfl,rfl,rfl,rfl,rfl,rfl,rfl,rfl,rfl,rfl,rfl,rfl,rfl,rfl,rfl,rfl,rfl,rfl,rfl,hall,rfl⟩
end Go.Proofs.YtplflgclomiihaaGreat.XT
