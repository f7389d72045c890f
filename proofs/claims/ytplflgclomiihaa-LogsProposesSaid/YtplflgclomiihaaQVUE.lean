/- Contracts. -/
import Derived.Test.YtplflgclomiihaaQVUC
import Derived.Test.YtplflgclomiihaaProg
import Derived.Test.YtplflgclomiihaaQVUG
set_option linter.unusedVariables false
set_option linter.unusedSimpArgs false
namespace Go.Proofs.Ytplflgclomiihaa.XT
open Go Go.RowKit Go.Proofs.Ytplflgclomiihaa.Sv
set_option maxRecDepth 100000
def setIdle (a:D) (i:Int):D:=.t [.i (a.fld 0).int,.l (a.fld 1).list,.i (a.fld 2).int,.i (a.fld 3).int,.i (a.fld 4).int,.i (a.fld 5).int,.i (a.fld 6).int,.i (a.fld 7).int,.l (a.fld 8).list,.s (a.fld 9).str,.l (a.fld 10).list,.i (a.fld 11).int,.i i,.i (a.fld 13).int,.l (a.fld 14).list,.l (a.fld 15).list,.i (a.fld 16).int,.l (a.fld 17).list]
noncomputable def beatP (a:D):D:=comP (setIdle a 0) (advN a)
noncomputable def ltP (a:D) (b:Int):D:=bif decide ((a.fld 4).int=2) then (bif decide (idleI a < 3) then comP (idleP a) (advN a) else beatP a) else comP (tickP a b) (advN (tickP a b))
noncomputable def ltL (a:D) (b:Int):List D:=bif decide ((a.fld 4).int=2) then (bif decide (idleI a < 3) then [] else (a.fld 15).list.map fun f=>etaD msgT (sndM (beatP a) f)) else tickL a b
noncomputable def ltLr (a:D) (b:Int):List D:=bif decide ((a.fld 4).int=2) then (bif decide (idleI a < 3) then [] else allL (beatP a)) else tickL a b
noncomputable def outLT (a:D) (b:Int):D:=bif mayB a && !decide (b < 0) then ltP a b else zeroP
noncomputable def outLL (a:D) (b:Int):List D:=bif mayB a && !decide (b < 0) then ltL a b else []
theorem fitP_set {a:D} {i:Int} (p:FitP a):FitP (setIdle a i):=⟨p.l1,p.l8,p.l14,p.l10,p.l15,p.l17,p.log,p.rd,p.fol,p.i1,p.i14,p.base,p.bt,p.term,p.round,p.com,p.role⟩
noncomputable def advbC:Con:=⟨[.box 31 peerTs],fun ds=>(fun (a:D)=>[FitP a,∀ f ∈ (a.fld 15).list,U64 (f.fld 2).int]) (nthD ds 0),[],fun ds=>[],fun ds=>(fun (a:D)=>[comP a (advN a)]) (nthD ds 0)⟩
noncomputable def advbC_an:Anns:=fun f i=>match f,i with
 | 54,2000004=>some fun A st=>⟨Unit,fun _=>[],fun _=>[(4,.q 25 (.i .u64) [])],fun _=>True,fun _=>0⟩
 | 54,4=>some fun A st=>match seqO A st 25 with
  | some xs=>⟨Nat,fun g=>[(27,.v (.int .i64 g)),(4,.ow st.nx g)],fun g=>[(st.nx,.q 25 (.i .u64) ((xs.take g).map mtE))],fun g=>g ≤ xs.length,fun g=>xs.length - g⟩
  | _=>LAnn.bad
 | 54,1000010=>some fun A st=>match seqO A st 4,boxMem A st 0,A.get 2 with
  | some xs,some (id,ms),some (.v (.int _ last))=>⟨List D,fun g=>[(4,.ow st.nx g.length)],fun g=>[(st.nx,.q 25 (.i .u64) g)],fun g=>g=bif inL ms id then xs ++ [.i last] else xs,fun _=>0⟩
  | _,_,_=>LAnn.bad
 | _,_=>none
theorem advbC_vc (a:D):(bif !decide ((a.fld 4).int=2) then (a.fld 0).int=(a.fld 0).int∧(a.fld 1).list=(a.fld 1).list∧(a.fld 2).int=(a.fld 2).int∧(a.fld 3).int=(a.fld 3).int∧(a.fld 4).int=(a.fld 4).int∧(a.fld 5).int=(a.fld 5).int∧(a.fld 6).int=(a.fld 6).int∧(a.fld 7).int=(a.fld 7).int∧(a.fld 8).list=(a.fld 8).list∧(a.fld 9).str=(a.fld 9).str∧(a.fld 10).list=(a.fld 10).list∧(a.fld 11).int=advN a∧(a.fld 12).int=(a.fld 12).int∧(a.fld 13).int=(a.fld 13).int∧(a.fld 14).list=(a.fld 14).list∧(a.fld 15).list=(a.fld 15).list∧(a.fld 16).int=(a.fld 16).int∧(a.fld 17).list=(a.fld 17).list else (a.fld 10).list.length < 4611686018427387904∧∃ (g:Unit),∃ (g:Nat),EqI 0 (↑g:Int)∧0=g∧[]=List.map mtE (List.take g (a.fld 15).list)∧g ≤ (a.fld 15).list.length∧∀ (g:Nat),g ≤ (a.fld 15).list.length → bif decide ((↑g:Int) < (↑(a.fld 15).list.length:Int)) then Idx (↑g:Int) (a.fld 15).list.length∧(g + [D.i ((nthD (a.fld 15).list g).fld 2).int].length) * 8 ≤ 140737488355328∧g + [D.i ((nthD (a.fld 15).list g).fld 2).int].length ≤ 9223372036854775807∧I64 ((↑g:Int) + 1)∧∃ (g_1:Nat),(↑g:Int) + 1=(↑g_1:Int)∧g + [D.i ((nthD (a.fld 15).list g).fld 2).int].length=g_1∧List.take g (List.map mtE (List.take g (a.fld 15).list)) ++ [D.i ((nthD (a.fld 15).list g).fld 2).int]=List.map mtE (List.take g_1 (a.fld 15).list)∧g_1 ≤ (a.fld 15).list.length∧(a.fld 15).list.length - g_1 < (a.fld 15).list.length - g else ((a.fld 1).list.length < 4611686018427387904∧bif inL (a.fld 1).list (a.fld 0).int then (g + [D.i (lastIf (a.fld 6).int (a.fld 10).list)].length) * 8 ≤ 140737488355328∧g + [D.i (lastIf (a.fld 6).int (a.fld 10).list)].length ≤ 9223372036854775807∧∃ (g_1:List D),g + [D.i (lastIf (a.fld 6).int (a.fld 10).list)].length=g_1.length∧List.take g (List.map mtE (List.take g (a.fld 15).list)) ++ [D.i (lastIf (a.fld 6).int (a.fld 10).list)]=g_1∧g_1=bif inL (a.fld 1).list (a.fld 0).int then List.map mtE (List.take g (a.fld 15).list) ++ [D.i (lastIf (a.fld 6).int (a.fld 10).list)] else List.map mtE (List.take g (a.fld 15).list) else ∃ (g_1:List D),g=g_1.length∧List.map mtE (List.take g (a.fld 15).list)=g_1∧g_1=bif inL (a.fld 1).list (a.fld 0).int then List.map mtE (List.take g (a.fld 15).list) ++ [D.i (lastIf (a.fld 6).int (a.fld 10).list)] else List.map mtE (List.take g (a.fld 15).list))∧∀ (g_1:List D),(g_1=bif inL (a.fld 1).list (a.fld 0).int then List.map mtE (List.take g (a.fld 15).list) ++ [D.i (lastIf (a.fld 6).int (a.fld 10).list)] else List.map mtE (List.take g (a.fld 15).list)) → g_1.length=g_1.length∧g_1.length < 4611686018427387904∧¬EqI 2 0∧bif decide ((↑g_1.length:Int) ≤ IntKind.i64.wrap ((↑(a.fld 1).list.length:Int).tdiv 2)) then (a.fld 0).int=(a.fld 0).int∧(a.fld 1).list=(a.fld 1).list∧(a.fld 2).int=(a.fld 2).int∧(a.fld 3).int=(a.fld 3).int∧(a.fld 4).int=(a.fld 4).int∧(a.fld 5).int=(a.fld 5).int∧(a.fld 6).int=(a.fld 6).int∧(a.fld 7).int=(a.fld 7).int∧(a.fld 8).list=(a.fld 8).list∧(a.fld 9).str=(a.fld 9).str∧(a.fld 10).list=(a.fld 10).list∧(a.fld 11).int=advN a∧(a.fld 12).int=(a.fld 12).int∧(a.fld 13).int=(a.fld 13).int∧(a.fld 14).list=(a.fld 14).list∧(a.fld 15).list=(a.fld 15).list∧(a.fld 16).int=(a.fld 16).int∧(a.fld 17).list=(a.fld 17).list else Idx (IntKind.i64.wrap ((↑(a.fld 1).list.length:Int).tdiv 2)) g_1.length∧(a.fld 10).list.length < 4611686018427387904∧(0 ≤ (a.fld 6).int∧(a.fld 6).int ≤ 18446744073709551615)∧(0 ≤ (nthD (descL g_1) (IntKind.i64.wrap ((↑(a.fld 1).list.length:Int).tdiv 2)).toNat).int∧(nthD (descL g_1) (IntKind.i64.wrap ((↑(a.fld 1).list.length:Int).tdiv 2)).toNat).int ≤ 18446744073709551615)∧Idx (IntKind.i64.wrap ((↑(a.fld 1).list.length:Int).tdiv 2)) g_1.length∧bif decide ((a.fld 11).int < (nthD (descL g_1) (IntKind.i64.wrap ((↑(a.fld 1).list.length:Int).tdiv 2)).toNat).int) && decide (termI a (nthD (descL g_1) (IntKind.i64.wrap ((↑(a.fld 1).list.length:Int).tdiv 2)).toNat).int=(a.fld 2).int) then Idx (IntKind.i64.wrap ((↑(a.fld 1).list.length:Int).tdiv 2)) g_1.length∧(a.fld 0).int=(a.fld 0).int∧(a.fld 1).list=(a.fld 1).list∧(a.fld 2).int=(a.fld 2).int∧(a.fld 3).int=(a.fld 3).int∧(a.fld 4).int=(a.fld 4).int∧(a.fld 5).int=(a.fld 5).int∧(a.fld 6).int=(a.fld 6).int∧(a.fld 7).int=(a.fld 7).int∧(a.fld 8).list=(a.fld 8).list∧(a.fld 9).str=(a.fld 9).str∧(a.fld 10).list=(a.fld 10).list∧(nthD (descL g_1) (IntKind.i64.wrap ((↑(a.fld 1).list.length:Int).tdiv 2)).toNat).int=advN a∧(a.fld 12).int=(a.fld 12).int∧(a.fld 13).int=(a.fld 13).int∧(a.fld 14).list=(a.fld 14).list∧(a.fld 15).list=(a.fld 15).list∧(a.fld 16).int=(a.fld 16).int∧(a.fld 17).list=(a.fld 17).list else (a.fld 0).int=(a.fld 0).int∧(a.fld 1).list=(a.fld 1).list∧(a.fld 2).int=(a.fld 2).int∧(a.fld 3).int=(a.fld 3).int∧(a.fld 4).int=(a.fld 4).int∧(a.fld 5).int=(a.fld 5).int∧(a.fld 6).int=(a.fld 6).int∧(a.fld 7).int=(a.fld 7).int∧(a.fld 8).list=(a.fld 8).list∧(a.fld 9).str=(a.fld 9).str∧(a.fld 10).list=(a.fld 10).list∧(a.fld 11).int=advN a∧(a.fld 12).int=(a.fld 12).int∧(a.fld 13).int=(a.fld 13).int∧(a.fld 14).list=(a.fld 14).list∧(a.fld 15).list=(a.fld 15).list∧(a.fld 16).int=(a.fld 16).int∧(a.fld 17).list=(a.fld 17).list)=conGoal Try.prog (addS 44 termC (addS 98 sortC (addS 97 contC (addS 37 lastC noS)))) advbC_an 200 54 advbC [a]:=by kernel_rfl
theorem advbC_ok:ConOK Try.prog Gl.none 54 advbC:=con_of mo (addS_ok termC_ok (addR_ok sortC_ok (addS_ok contC_ok (addS_ok lastC_ok (noS_ok _))))) (an:=advbC_an) 200 fun ds hl hp=>by
 obtain ⟨a,rfl⟩:=len1 hl
 rw [← advbC_vc]
 have p0:FitP a:=hp _ (.head _)
 have p1:∀ f ∈ (a.fld 15).list,U64 (f.fld 2).int:=hp _ (.tail _ (.head _))
 have h1:=p0.l1; have h10:=p0.l10; have h15:=p0.l15
 refine cond_of (fun r=>?_) (fun r=>⟨by omega,(),0,rfl,rfl,rfl,Nat.zero_le _,fun g hg=>cond_of (fun d=>?_) (fun d=>?_)⟩)
 ·have hn:advN a=(a.fld 11).int:=by unfold advN; rw [(Bool.not_eq_true' _).mp r]; rfl
  rw [hn]
  exact ⟨rfl,rfl,rfl,rfl,rfl,rfl,rfl,rfl,rfl,rfl,rfl,rfl,rfl,rfl,rfl,rfl,rfl,rfl⟩
 ·have d:g < (a.fld 15).list.length:=by simpa using d
  exact ⟨⟨by omega,by omega⟩,(by show (g + 1) * 8 ≤ 140737488355328; omega),(by show g + 1 ≤ 9223372036854775807; omega),⟨by omega,by omega⟩,g + 1,by omega,rfl,mapE_at (f:=mtE) d,by omega,by omega⟩
 ·have d:g=(a.fld 15).list.length:=by have:=of_decide_eq_false d; omega
  subst d
  have hr:decide ((a.fld 4).int=2)=true:=(Bool.not_eq_false' _).mp r
  simp only [List.take_length,mapE_end,-eq_self]
  refine ⟨⟨by omega,cond_of (fun m=>⟨(by show ((a.fld 15).list.length + 1) * 8 ≤ 140737488355328; omega),(by show (a.fld 15).list.length + 1 ≤ 9223372036854775807; omega),_,(by simp),rfl,(by rw [m]; rfl)⟩) (fun m=>⟨_,(by simp),rfl,(by rw [m]; rfl)⟩)⟩,fun L hL=>?_⟩
  have hL:L=haveL a:=by
   rw [hL]; unfold haveL
   cases inL (a.fld 1).list (a.fld 0).int with
   | true=>rfl
   | false=>rw [cond_false,cond_false,List.append_nil]
  subst hL
  have hlen:(haveL a).length ≤ 1000001:=by
   unfold haveL
   rw [List.length_append,List.length_map]
   cases inL (a.fld 1).list (a.fld 0).int with
   | true=>simp; omega
   | false=>simp; omega
  rw [half_id h1]
  refine ⟨rfl,by omega,by decide,cond_of (fun e=>?_) (fun e=>?_)⟩
  ·have e:=of_decide_eq_true e
   have hn:advN a=(a.fld 11).int:=by unfold advN; rw [hr,decide_eq_false (show ¬ (a.fld 1).list.length / 2 < (haveL a).length by omega)]; rfl
   rw [hn]
   exact ⟨rfl,rfl,rfl,rfl,rfl,rfl,rfl,rfl,rfl,rfl,rfl,rfl,rfl,rfl,rfl,rfl,rfl,rfl⟩
  ·have e:=of_decide_eq_false e
   have hlt:(a.fld 1).list.length / 2 < (haveL a).length:=by omega
   have hmid:(nthD (descL (haveL a)) ((((a.fld 1).list.length / 2:Nat):Int)).toNat).int=midN a:=rfl
   rw [hmid]
   have hU:U64 (midN a):=by
    have hl':(a.fld 1).list.length / 2 < (descL (haveL a)).length:=by rw [descL_len]; exact hlt
    obtain ⟨x,hx,hxe⟩:=descL_mem (List.mem_of_getElem? (get_nthD hl'))
    unfold midN
    rw [hxe]
    exact haveL_U p0 p1 x hx
   refine ⟨⟨by omega,by omega⟩,by omega,p0.base,hU,⟨by omega,by omega⟩,cond_of (fun k=>?_) (fun k=>?_)⟩
   ·have hn:advN a=midN a:=by unfold advN; rw [hr,decide_eq_true hlt,Bool.and_assoc,k]; rfl
    rw [hn]
    exact ⟨⟨by omega,by omega⟩,rfl,rfl,rfl,rfl,rfl,rfl,rfl,rfl,rfl,rfl,rfl,rfl,rfl,rfl,rfl,rfl,rfl,rfl⟩
   ·have hn:advN a=(a.fld 11).int:=by unfold advN; rw [hr,decide_eq_true hlt,Bool.and_assoc,k]; rfl
    rw [hn]
    exact ⟨rfl,rfl,rfl,rfl,rfl,rfl,rfl,rfl,rfl,rfl,rfl,rfl,rfl,rfl,rfl,rfl,rfl,rfl⟩
noncomputable def LTickC:Con:=⟨[.d true peerT,.d false (.i .i64)],fun ds=>(fun (a:D) (b:D)=>[FitP a,∀ f ∈ (a.fld 15).list,U64 (f.fld 2).int,(a.fld 10).list.length ≤ 1000]) (nthD ds 0) (nthD ds 1),[.d peerT,.d (.l msgT),.d (.i .i64)],fun ds=>(fun (a:D) (b:D)=>[etaD peerT (outLT a b.int),.l (outLL a b.int),.i (bif mayB a && !decide (b.int < 0) then 0 else 2)]) (nthD ds 0) (nthD ds 1),fun ds=>[]⟩
noncomputable def LTickC_an:Anns:=fun f i=>match f,i with
 | 19,2000017=>some fun A st=>⟨Unit,fun _=>[],fun _=>[(11,.q 69 msgT [])],fun _=>True,fun _=>0⟩
 | 19,17=>some fun A st=>match A.get 2,A.get 53 with
  | some (.ptr l _),some (.dl _ _ xs)=>match st.h.get l with
   | some (.c et cs)=>match toDs true st peerTs cs with
    | some (ds,[])=>⟨Nat,fun g=>[(55,.v (.int .i64 g)),(11,.ow st.nx g)],fun g=>[(l,.c et cs),(st.nx,.q 69 msgT ((xs.take g).map fun f=>etaD msgT (sndM (.t ds) f)))],fun g=>g ≤ xs.length,fun g=>xs.length - g⟩
    | _=>LAnn.bad
   | _=>LAnn.bad
  | _,_=>LAnn.bad
 | _,_=>none
theorem LTickC_vc (a b:D):(bif !decide ((a.fld 4).int=2) then FitP (putF peerT a [])∧bif decide (condI (mayB a && !decide (b.int < 0)) 0 2=0) then FitP (putF peerT (outTick a b.int) [])∧(∀ (f:D),f ∈ ((outTick a b.int).fld 15).list → 0 ≤ (f.fld 2).int∧(f.fld 2).int ≤ 18446744073709551615)∧((outTick a b.int).fld 0).int=((outLT a b.int).fld 0).int∧((outTick a b.int).fld 1).list=((outLT a b.int).fld 1).list∧((outTick a b.int).fld 2).int=((outLT a b.int).fld 2).int∧((outTick a b.int).fld 3).int=((outLT a b.int).fld 3).int∧((outTick a b.int).fld 4).int=((outLT a b.int).fld 4).int∧((outTick a b.int).fld 5).int=((outLT a b.int).fld 5).int∧((outTick a b.int).fld 6).int=((outLT a b.int).fld 6).int∧((outTick a b.int).fld 7).int=((outLT a b.int).fld 7).int∧((outTick a b.int).fld 8).list=((outLT a b.int).fld 8).list∧((outTick a b.int).fld 9).str=((outLT a b.int).fld 9).str∧((outTick a b.int).fld 10).list=((outLT a b.int).fld 10).list∧advN (outTick a b.int)=((outLT a b.int).fld 11).int∧((outTick a b.int).fld 12).int=((outLT a b.int).fld 12).int∧((outTick a b.int).fld 13).int=((outLT a b.int).fld 13).int∧((outTick a b.int).fld 14).list=((outLT a b.int).fld 14).list∧((outTick a b.int).fld 15).list=((outLT a b.int).fld 15).list∧((outTick a b.int).fld 16).int=((outLT a b.int).fld 16).int∧((outTick a b.int).fld 17).list=((outLT a b.int).fld 17).list∧outTickL a b.int=outLL a b.int∧condI (mayB a && !decide (b.int < 0)) 0 2=condI (mayB a && !decide (b.int < 0)) 0 2 else ((outTick a b.int).fld 0).int=((outLT a b.int).fld 0).int∧((outTick a b.int).fld 1).list=((outLT a b.int).fld 1).list∧((outTick a b.int).fld 2).int=((outLT a b.int).fld 2).int∧((outTick a b.int).fld 3).int=((outLT a b.int).fld 3).int∧((outTick a b.int).fld 4).int=((outLT a b.int).fld 4).int∧((outTick a b.int).fld 5).int=((outLT a b.int).fld 5).int∧((outTick a b.int).fld 6).int=((outLT a b.int).fld 6).int∧((outTick a b.int).fld 7).int=((outLT a b.int).fld 7).int∧((outTick a b.int).fld 8).list=((outLT a b.int).fld 8).list∧((outTick a b.int).fld 9).str=((outLT a b.int).fld 9).str∧((outTick a b.int).fld 10).list=((outLT a b.int).fld 10).list∧((outTick a b.int).fld 11).int=((outLT a b.int).fld 11).int∧((outTick a b.int).fld 12).int=((outLT a b.int).fld 12).int∧((outTick a b.int).fld 13).int=((outLT a b.int).fld 13).int∧((outTick a b.int).fld 14).list=((outLT a b.int).fld 14).list∧((outTick a b.int).fld 15).list=((outLT a b.int).fld 15).list∧((outTick a b.int).fld 16).int=((outLT a b.int).fld 16).int∧((outTick a b.int).fld 17).list=((outLT a b.int).fld 17).list∧outTickL a b.int=outLL a b.int∧condI (mayB a && !decide (b.int < 0)) 0 2=condI (mayB a && !decide (b.int < 0)) 0 2 else (a.fld 10).list.length < 4611686018427387904∧(0 ≤ (a.fld 6).int∧(a.fld 6).int ≤ 18446744073709551615)∧(a.fld 8).list.length ≤ 17592186044416∧(∀ (e:D),e ∈ (a.fld 10).list → (e.fld 3).list.length ≤ 17592186044416)∧(a.fld 1).list.length ≤ 17592186044416∧(a.fld 14).list.length ≤ 17592186044416∧(a.fld 15).list.length ≤ 17592186044416∧(a.fld 17).list.length ≤ 17592186044416∧(∀ (r:D),r ∈ (a.fld 17).list → (r.fld 2).list.length ≤ 17592186044416)∧0 ≤ (a.fld 7).int∧(∀ (e:D),e ∈ (a.fld 10).list → 0 ≤ (e.fld 0).int∧0 ≤ (e.fld 1).int)∧0 ≤ (a.fld 4).int∧bif !decide (condI (mayB a) 0 2=0) || decide (b.int < 0) then EqI 0 ((outLT a b.int).fld 0).int∧[]=((outLT a b.int).fld 1).list∧EqI 0 ((outLT a b.int).fld 2).int∧EqI 0 ((outLT a b.int).fld 3).int∧EqI 0 ((outLT a b.int).fld 4).int∧EqI 0 ((outLT a b.int).fld 5).int∧EqI 0 ((outLT a b.int).fld 6).int∧EqI 0 ((outLT a b.int).fld 7).int∧[]=((outLT a b.int).fld 8).list∧ByteArray.mk #[]=((outLT a b.int).fld 9).str∧[]=((outLT a b.int).fld 10).list∧EqI 0 ((outLT a b.int).fld 11).int∧EqI 0 ((outLT a b.int).fld 12).int∧EqI 0 ((outLT a b.int).fld 13).int∧[]=((outLT a b.int).fld 14).list∧[]=((outLT a b.int).fld 15).list∧EqI 0 ((outLT a b.int).fld 16).int∧[]=((outLT a b.int).fld 17).list∧[]=outLL a b.int∧EqI 2 (condI (mayB a && !decide (b.int < 0)) 0 2) else FitP (putF peerT a [])∧I64 ((a.fld 12).int + 1)∧FitP (putF peerT a [(12,D.i (min ((a.fld 12).int + 1) 1073741824))])∧(∀ (f:D),f ∈ (a.fld 15).list → 0 ≤ (f.fld 2).int∧(f.fld 2).int ≤ 18446744073709551615)∧bif decide (min ((a.fld 12).int + 1) 1073741824 < 3) then (a.fld 0).int=((outLT a b.int).fld 0).int∧(a.fld 1).list=((outLT a b.int).fld 1).list∧(a.fld 2).int=((outLT a b.int).fld 2).int∧(a.fld 3).int=((outLT a b.int).fld 3).int∧(a.fld 4).int=((outLT a b.int).fld 4).int∧(a.fld 5).int=((outLT a b.int).fld 5).int∧(a.fld 6).int=((outLT a b.int).fld 6).int∧(a.fld 7).int=((outLT a b.int).fld 7).int∧(a.fld 8).list=((outLT a b.int).fld 8).list∧(a.fld 9).str=((outLT a b.int).fld 9).str∧(a.fld 10).list=((outLT a b.int).fld 10).list∧advN (putF peerT a [(12,D.i (min ((a.fld 12).int + 1) 1073741824))])=((outLT a b.int).fld 11).int∧min ((a.fld 12).int + 1) 1073741824=((outLT a b.int).fld 12).int∧(a.fld 13).int=((outLT a b.int).fld 13).int∧(a.fld 14).list=((outLT a b.int).fld 14).list∧(a.fld 15).list=((outLT a b.int).fld 15).list∧(a.fld 16).int=((outLT a b.int).fld 16).int∧(a.fld 17).list=((outLT a b.int).fld 17).list∧[]=outLL a b.int∧EqI 0 (condI (mayB a && !decide (b.int < 0)) 0 2) else ∃ (g:Unit),∃ (g:Nat),EqI 0 (↑g:Int)∧0=g∧(a.fld 0).int=(a.fld 0).int∧(a.fld 1).list=(a.fld 1).list∧(a.fld 2).int=(a.fld 2).int∧(a.fld 3).int=(a.fld 3).int∧(a.fld 4).int=(a.fld 4).int∧(a.fld 5).int=(a.fld 5).int∧(a.fld 6).int=(a.fld 6).int∧(a.fld 7).int=(a.fld 7).int∧(a.fld 8).list=(a.fld 8).list∧(a.fld 9).str=(a.fld 9).str∧(a.fld 10).list=(a.fld 10).list∧advN (putF peerT a [(12,D.i (min ((a.fld 12).int + 1) 1073741824))])=advN (putF peerT a [(12,D.i (min ((a.fld 12).int + 1) 1073741824))])∧EqI 0 0∧(a.fld 13).int=(a.fld 13).int∧(a.fld 14).list=(a.fld 14).list∧(a.fld 15).list=(a.fld 15).list∧(a.fld 16).int=(a.fld 16).int∧(a.fld 17).list=(a.fld 17).list∧[]=List.map (fun (f:D) ↦ etaD msgT (sndM (putF peerT a [(11,D.i (advN (putF peerT a [(12,D.i (min ((a.fld 12).int + 1) 1073741824))]))),(12,D.i 0)]) f)) (List.take g (a.fld 15).list)∧g ≤ (a.fld 15).list.length∧∀ (g:Nat),g ≤ (a.fld 15).list.length → bif decide ((↑g:Int) < (↑(a.fld 15).list.length:Int)) then Idx (↑g:Int) (a.fld 15).list.length∧FitP (putF peerT a [(11,D.i (advN (putF peerT a [(12,D.i (min ((a.fld 12).int + 1) 1073741824))]))),(12,D.i 0)])∧(a.fld 6).int ≤ 4611686018427387904∧(g + [putF msgT (sndM (putF peerT a [(11,D.i (advN (putF peerT a [(12,D.i (min ((a.fld 12).int + 1) 1073741824))]))),(12,D.i 0)]) (putF folT (nthD (a.fld 15).list g) [])) []].length) * 136 ≤ 140737488355328∧g + [putF msgT (sndM (putF peerT a [(11,D.i (advN (putF peerT a [(12,D.i (min ((a.fld 12).int + 1) 1073741824))]))),(12,D.i 0)]) (putF folT (nthD (a.fld 15).list g) [])) []].length ≤ 9223372036854775807∧I64 ((↑g:Int) + 1)∧∃ (g_1:Nat),(↑g:Int) + 1=(↑g_1:Int)∧g + [putF msgT (sndM (putF peerT a [(11,D.i (advN (putF peerT a [(12,D.i (min ((a.fld 12).int + 1) 1073741824))]))),(12,D.i 0)]) (putF folT (nthD (a.fld 15).list g) [])) []].length=g_1∧(a.fld 0).int=(a.fld 0).int∧(a.fld 1).list=(a.fld 1).list∧(a.fld 2).int=(a.fld 2).int∧(a.fld 3).int=(a.fld 3).int∧(a.fld 4).int=(a.fld 4).int∧(a.fld 5).int=(a.fld 5).int∧(a.fld 6).int=(a.fld 6).int∧(a.fld 7).int=(a.fld 7).int∧(a.fld 8).list=(a.fld 8).list∧(a.fld 9).str=(a.fld 9).str∧(a.fld 10).list=(a.fld 10).list∧advN (putF peerT a [(12,D.i (min ((a.fld 12).int + 1) 1073741824))])=advN (putF peerT a [(12,D.i (min ((a.fld 12).int + 1) 1073741824))])∧EqI 0 0∧(a.fld 13).int=(a.fld 13).int∧(a.fld 14).list=(a.fld 14).list∧(a.fld 15).list=(a.fld 15).list∧(a.fld 16).int=(a.fld 16).int∧(a.fld 17).list=(a.fld 17).list∧List.take g (List.map (fun (f:D) ↦ etaD msgT (sndM (putF peerT a [(11,D.i (advN (putF peerT a [(12,D.i (min ((a.fld 12).int + 1) 1073741824))]))),(12,D.i 0)]) f)) (List.take g (a.fld 15).list)) ++ [putF msgT (sndM (putF peerT a [(11,D.i (advN (putF peerT a [(12,D.i (min ((a.fld 12).int + 1) 1073741824))]))),(12,D.i 0)]) (putF folT (nthD (a.fld 15).list g) [])) []]=List.map (fun (f:D) ↦ etaD msgT (sndM (putF peerT a [(11,D.i (advN (putF peerT a [(12,D.i (min ((a.fld 12).int + 1) 1073741824))]))),(12,D.i 0)]) f)) (List.take g_1 (a.fld 15).list)∧g_1 ≤ (a.fld 15).list.length∧(a.fld 15).list.length - g_1 < (a.fld 15).list.length - g else (a.fld 0).int=((outLT a b.int).fld 0).int∧(a.fld 1).list=((outLT a b.int).fld 1).list∧(a.fld 2).int=((outLT a b.int).fld 2).int∧(a.fld 3).int=((outLT a b.int).fld 3).int∧(a.fld 4).int=((outLT a b.int).fld 4).int∧(a.fld 5).int=((outLT a b.int).fld 5).int∧(a.fld 6).int=((outLT a b.int).fld 6).int∧(a.fld 7).int=((outLT a b.int).fld 7).int∧(a.fld 8).list=((outLT a b.int).fld 8).list∧(a.fld 9).str=((outLT a b.int).fld 9).str∧(a.fld 10).list=((outLT a b.int).fld 10).list∧advN (putF peerT a [(12,D.i (min ((a.fld 12).int + 1) 1073741824))])=((outLT a b.int).fld 11).int∧EqI 0 ((outLT a b.int).fld 12).int∧(a.fld 13).int=((outLT a b.int).fld 13).int∧(a.fld 14).list=((outLT a b.int).fld 14).list∧(a.fld 15).list=((outLT a b.int).fld 15).list∧(a.fld 16).int=((outLT a b.int).fld 16).int∧(a.fld 17).list=((outLT a b.int).fld 17).list∧List.take g (List.map (fun (f:D) ↦ etaD msgT (sndM (putF peerT a [(11,D.i (advN (putF peerT a [(12,D.i (min ((a.fld 12).int + 1) 1073741824))]))),(12,D.i 0)]) f)) (List.take g (a.fld 15).list))=outLL a b.int∧EqI 0 (condI (mayB a && !decide (b.int < 0)) 0 2))=conGoal Try.prog (addS 67 sndC (addS 53 lowndC (addS 47 MayC (addS 54 advbC (addS 66 TickC noS))))) LTickC_an 200 19 LTickC [a,b]:=by kernel_rfl
theorem LTickC_ok:ConOK Try.prog Gl.none 19 LTickC:=con_of mo (addS_ok sndC_ok (addS_ok lowndC_ok (addS_ok MayC_ok (addS_ok advbC_ok (addS_ok TickC_ok (noS_ok _)))))) (an:=LTickC_an) 200 fun ds hl hp=>by
 obtain ⟨a,b,rfl⟩:=len2 hl
 rw [← LTickC_vc]
 have p0:FitP a:=hp _ (.head _)
 have p1:∀ f ∈ (a.fld 15).list,U64 (f.fld 2).int:=hp _ (.tail _ (.head _))
 have p2:(a.fld 10).list.length ≤ 1000:=hp _ (.tail _ (.tail _ (.head _)))
 have h15:=p0.l15
 rw [c02,c02]
 refine cond_of (fun r=>⟨FitP.eta p0,cond_of (fun c=>?_) (fun c=>?_)⟩) (fun r=>FitP.pre p0 (cond_of (fun c=>?_) (fun c=>⟨FitP.eta p0,?_⟩)))
 ·have r':decide ((a.fld 4).int=2)=false:=(Bool.not_eq_true' _).mp r
  have hm:mayB a=true:=by rw [Bool.and_eq_true] at c; exact c.1
  have hT:outTick a b.int=tickP a b.int:=by unfold outTick; rw [c,cond_true]
  have hTL:outTickL a b.int=tickL a b.int:=by unfold outTickL; rw [c,cond_true]
  have hP:outLT a b.int=comP (tickP a b.int) (advN (tickP a b.int)):=by unfold outLT ltP; rw [c,r',cond_true,cond_false]
  have hL:outLL a b.int=tickL a b.int:=by unfold outLL ltL; rw [c,r',cond_true,cond_false]
  obtain ⟨F,U,hb6,H⟩:=tick_H (b:=b.int) p0 p1 hm p2 (of_decide_eq_false r')
  rw [hT,hTL,hP,hL]
  clear hT hTL hP hL H
  generalize tickP a b.int=q at F U hb6 ⊢
  exact ⟨FitP.eta F,U,rfl,rfl,rfl,rfl,rfl,rfl,rfl,rfl,rfl,rfl,rfl,rfl,rfl,rfl,rfl,rfl,rfl,rfl,rfl,rfl⟩
 ·have hT:outTick a b.int=zeroP:=by unfold outTick; rw [c,cond_false]
  have hTL:outTickL a b.int=[]:=by unfold outTickL; rw [c,cond_false]
  have hP:outLT a b.int=zeroP:=by unfold outLT; rw [c,cond_false]
  have hL:outLL a b.int=[]:=by unfold outLL; rw [c,cond_false]
  rw [hT,hTL,hP,hL]
  exact ⟨rfl,rfl,rfl,rfl,rfl,rfl,rfl,rfl,rfl,rfl,rfl,rfl,rfl,rfl,rfl,rfl,rfl,rfl,rfl,rfl⟩
 ·have h:=not_or_eq c
  have hP:outLT a b.int=zeroP:=by unfold outLT; rw [h,cond_false]
  have hL:outLL a b.int=[]:=by unfold outLL; rw [h,cond_false]
  rw [hP,hL,h]
  exact ⟨rfl,rfl,rfl,rfl,rfl,rfl,rfl,rfl,rfl,rfl,rfl,rfl,rfl,rfl,rfl,rfl,rfl,rfl,rfl,rfl⟩
 obtain ⟨hm,hb⟩:=not_or_ne c
 have hM:=mayB_iff.1 hm
 have hr:decide ((a.fld 4).int=2)=true:=(Bool.not_eq_false' _).mp r
 have h:(mayB a && !decide (b.int < 0))=true:=by rw [hm,hb]; rfl
 have i0:=hM.idle0; have i1:=hM.idle1
 have ha:advN (putF peerT a [(12,D.i (min ((a.fld 12).int + 1) 1073741824))])=advN a:=rfl
 have F1:FitP (putF peerT a [(12,D.i (min ((a.fld 12).int + 1) 1073741824))]):=fitP_set p0
 have F2:FitP (putF peerT a [(11,D.i (advN a)),(12,D.i 0)]):=fitP_com (fitP_set (i:=0) p0) (advN_U p0 p1)
 rw [ha]
 refine ⟨⟨by omega,by omega⟩,F1,p1,cond_of (fun q=>?_) (fun q=>?_)⟩
 ·have q':decide (idleI a < 3)=true:=q
  have hP:outLT a b.int=comP (idleP a) (advN a):=by unfold outLT ltP; rw [h,hr,q',cond_true,cond_true,cond_true]
  have hL:outLL a b.int=[]:=by unfold outLL ltL; rw [h,hr,q',cond_true,cond_true,cond_true]
  rw [hP,hL,h]
  exact ⟨rfl,rfl,rfl,rfl,rfl,rfl,rfl,rfl,rfl,rfl,rfl,rfl,rfl,rfl,rfl,rfl,rfl,rfl,rfl,rfl⟩
 ·have q':decide (idleI a < 3)=false:=q
  have hP:outLT a b.int=beatP a:=by unfold outLT ltP; rw [h,hr,q',cond_true,cond_true,cond_false]
  have hL:outLL a b.int=(a.fld 15).list.map fun f=>etaD msgT (sndM (beatP a) f):=by unfold outLL ltL; rw [h,hr,q',cond_true,cond_true,cond_false]
  refine ⟨(),0,rfl,rfl,rfl,rfl,rfl,rfl,rfl,rfl,rfl,rfl,rfl,rfl,rfl,rfl,rfl,rfl,rfl,rfl,rfl,rfl,rfl,Nat.zero_le _,fun g hg=>cond_of (fun d=>?_) (fun d=>?_)⟩
  ·have d:g < (a.fld 15).list.length:=by simpa using d
   have he:putF folT (nthD (a.fld 15).list g) []=nthD (a.fld 15).list g:=p0.fol _ (List.mem_of_getElem? (get_nthD d))
   rw [he]
   exact ⟨⟨by omega,by omega⟩,F2,hM.base,(by show (g + 1) * 136 ≤ _; omega),(by show g + 1 ≤ _; omega),⟨by omega,by omega⟩,g + 1,by omega,rfl,rfl,rfl,rfl,rfl,rfl,rfl,rfl,rfl,rfl,rfl,rfl,rfl,rfl,rfl,rfl,rfl,rfl,rfl,map_at (f:=fun (f:D)=>etaD msgT (sndM (putF peerT a [(11,D.i (advN a)),(12,D.i 0)]) f)) d,by omega,by omega⟩
  ·have d:g=(a.fld 15).list.length:=by have:=of_decide_eq_false d; omega
   subst d
   rw [map_end,hP,hL,h]
   exact ⟨rfl,rfl,rfl,rfl,rfl,rfl,rfl,rfl,rfl,rfl,rfl,rfl,rfl,rfl,rfl,rfl,rfl,rfl,rfl,rfl⟩
noncomputable def rTickC:Con:=⟨[.d true peerT,.d false (.i .i64)],fun ds=>(fun (a:D) (b:D)=>[FitP a,∀ f ∈ (a.fld 15).list,U64 (f.fld 2).int,(a.fld 10).list.length ≤ 1000,mayB a=true,0 ≤ b.int]) (nthD ds 0) (nthD ds 1),[.d peerT,.d (.l msgT)],fun ds=>(fun (a:D) (b:D)=>[etaD peerT (ltP a b.int),.l (ltLr a b.int)]) (nthD ds 0) (nthD ds 1),fun ds=>[]⟩
noncomputable def rTickC_an:Anns:=fun f i=>match f,i with
 | 20,1000007=>some fun A st=>match st.h.get 0 with
  | some (.c et cs)=>match cs.drop 12 with
   | .v (.int _ i) :: _=>⟨Int,fun _=>[],fun g=>[(0,.c et (spliceA cs 12 [.v (.int .i64 g)]))],fun g=>g=min (i + 1) 1073741824,fun _=>0⟩
   | _=>LAnn.bad
  | _=>LAnn.bad
 | _,_=>none
theorem rTickC_vc (a b:D):(bif !decide ((a.fld 4).int=2) then FitP (putF peerT a [])∧mayB a=true∧0 ≤ b.int∧FitP (putF peerT (tickP a b.int) [])∧(∀ (f:D),f ∈ ((tickP a b.int).fld 15).list → 0 ≤ (f.fld 2).int∧(f.fld 2).int ≤ 18446744073709551615)∧((tickP a b.int).fld 6).int ≤ 4611686018427387904∧((tickP a b.int).fld 0).int=((ltP a b.int).fld 0).int∧((tickP a b.int).fld 1).list=((ltP a b.int).fld 1).list∧((tickP a b.int).fld 2).int=((ltP a b.int).fld 2).int∧((tickP a b.int).fld 3).int=((ltP a b.int).fld 3).int∧((tickP a b.int).fld 4).int=((ltP a b.int).fld 4).int∧((tickP a b.int).fld 5).int=((ltP a b.int).fld 5).int∧((tickP a b.int).fld 6).int=((ltP a b.int).fld 6).int∧((tickP a b.int).fld 7).int=((ltP a b.int).fld 7).int∧((tickP a b.int).fld 8).list=((ltP a b.int).fld 8).list∧((tickP a b.int).fld 9).str=((ltP a b.int).fld 9).str∧((tickP a b.int).fld 10).list=((ltP a b.int).fld 10).list∧advR (tickP a b.int)=((ltP a b.int).fld 11).int∧((tickP a b.int).fld 12).int=((ltP a b.int).fld 12).int∧((tickP a b.int).fld 13).int=((ltP a b.int).fld 13).int∧((tickP a b.int).fld 14).list=((ltP a b.int).fld 14).list∧((tickP a b.int).fld 15).list=((ltP a b.int).fld 15).list∧((tickP a b.int).fld 16).int=((ltP a b.int).fld 16).int∧((tickP a b.int).fld 17).list=((ltP a b.int).fld 17).list∧tickL a b.int=ltLr a b.int else FitP (putF peerT a [])∧(bif decide ((a.fld 12).int < 1073741824) then I64 ((a.fld 12).int + 1)∧∃ (g:Int),(a.fld 0).int=(a.fld 0).int∧(a.fld 1).list=(a.fld 1).list∧(a.fld 2).int=(a.fld 2).int∧(a.fld 3).int=(a.fld 3).int∧(a.fld 4).int=(a.fld 4).int∧(a.fld 5).int=(a.fld 5).int∧(a.fld 6).int=(a.fld 6).int∧(a.fld 7).int=(a.fld 7).int∧(a.fld 8).list=(a.fld 8).list∧(a.fld 9).str=(a.fld 9).str∧(a.fld 10).list=(a.fld 10).list∧(a.fld 11).int=(a.fld 11).int∧(a.fld 12).int + 1=g∧(a.fld 13).int=(a.fld 13).int∧(a.fld 14).list=(a.fld 14).list∧(a.fld 15).list=(a.fld 15).list∧(a.fld 16).int=(a.fld 16).int∧(a.fld 17).list=(a.fld 17).list∧g=min ((a.fld 12).int + 1) 1073741824 else ∃ (g:Int),(a.fld 0).int=(a.fld 0).int∧(a.fld 1).list=(a.fld 1).list∧(a.fld 2).int=(a.fld 2).int∧(a.fld 3).int=(a.fld 3).int∧(a.fld 4).int=(a.fld 4).int∧(a.fld 5).int=(a.fld 5).int∧(a.fld 6).int=(a.fld 6).int∧(a.fld 7).int=(a.fld 7).int∧(a.fld 8).list=(a.fld 8).list∧(a.fld 9).str=(a.fld 9).str∧(a.fld 10).list=(a.fld 10).list∧(a.fld 11).int=(a.fld 11).int∧(a.fld 12).int=g∧(a.fld 13).int=(a.fld 13).int∧(a.fld 14).list=(a.fld 14).list∧(a.fld 15).list=(a.fld 15).list∧(a.fld 16).int=(a.fld 16).int∧(a.fld 17).list=(a.fld 17).list∧g=min ((a.fld 12).int + 1) 1073741824)∧∀ (g:Int),g=min ((a.fld 12).int + 1) 1073741824 → FitP (putF peerT a [(12,D.i g)])∧(∀ (f:D),f ∈ (a.fld 15).list → 0 ≤ (f.fld 2).int∧(f.fld 2).int ≤ 18446744073709551615)∧(a.fld 6).int ≤ 4611686018427387904∧bif decide (g < 3) then (a.fld 0).int=((ltP a b.int).fld 0).int∧(a.fld 1).list=((ltP a b.int).fld 1).list∧(a.fld 2).int=((ltP a b.int).fld 2).int∧(a.fld 3).int=((ltP a b.int).fld 3).int∧(a.fld 4).int=((ltP a b.int).fld 4).int∧(a.fld 5).int=((ltP a b.int).fld 5).int∧(a.fld 6).int=((ltP a b.int).fld 6).int∧(a.fld 7).int=((ltP a b.int).fld 7).int∧(a.fld 8).list=((ltP a b.int).fld 8).list∧(a.fld 9).str=((ltP a b.int).fld 9).str∧(a.fld 10).list=((ltP a b.int).fld 10).list∧advR (putF peerT a [(12,D.i g)])=((ltP a b.int).fld 11).int∧g=((ltP a b.int).fld 12).int∧(a.fld 13).int=((ltP a b.int).fld 13).int∧(a.fld 14).list=((ltP a b.int).fld 14).list∧(a.fld 15).list=((ltP a b.int).fld 15).list∧(a.fld 16).int=((ltP a b.int).fld 16).int∧(a.fld 17).list=((ltP a b.int).fld 17).list∧[]=ltLr a b.int else (a.fld 0).int=(a.fld 0).int∧(a.fld 1).list=(a.fld 1).list∧(a.fld 2).int=(a.fld 2).int∧(a.fld 3).int=(a.fld 3).int∧(a.fld 4).int=(a.fld 4).int∧(a.fld 5).int=(a.fld 5).int∧(a.fld 6).int=(a.fld 6).int∧(a.fld 7).int=(a.fld 7).int∧(a.fld 8).list=(a.fld 8).list∧(a.fld 9).str=(a.fld 9).str∧(a.fld 10).list=(a.fld 10).list∧advR (putF peerT a [(12,D.i g)])=advR (putF peerT a [(12,D.i g)])∧EqI 0 0∧(a.fld 13).int=(a.fld 13).int∧(a.fld 14).list=(a.fld 14).list∧(a.fld 15).list=(a.fld 15).list∧(a.fld 16).int=(a.fld 16).int∧(a.fld 17).list=(a.fld 17).list∧FitP (putF peerT a [(11,D.i (advR (putF peerT a [(12,D.i g)]))),(12,D.i 0)])∧(a.fld 6).int ≤ 4611686018427387904∧(a.fld 0).int=((ltP a b.int).fld 0).int∧(a.fld 1).list=((ltP a b.int).fld 1).list∧(a.fld 2).int=((ltP a b.int).fld 2).int∧(a.fld 3).int=((ltP a b.int).fld 3).int∧(a.fld 4).int=((ltP a b.int).fld 4).int∧(a.fld 5).int=((ltP a b.int).fld 5).int∧(a.fld 6).int=((ltP a b.int).fld 6).int∧(a.fld 7).int=((ltP a b.int).fld 7).int∧(a.fld 8).list=((ltP a b.int).fld 8).list∧(a.fld 9).str=((ltP a b.int).fld 9).str∧(a.fld 10).list=((ltP a b.int).fld 10).list∧advR (putF peerT a [(12,D.i g)])=((ltP a b.int).fld 11).int∧EqI 0 ((ltP a b.int).fld 12).int∧(a.fld 13).int=((ltP a b.int).fld 13).int∧(a.fld 14).list=((ltP a b.int).fld 14).list∧(a.fld 15).list=((ltP a b.int).fld 15).list∧(a.fld 16).int=((ltP a b.int).fld 16).int∧(a.fld 17).list=((ltP a b.int).fld 17).list∧allL (putF peerT a [(11,D.i (advR (putF peerT a [(12,D.i g)]))),(12,D.i 0)])=ltLr a b.int)=conGoal Try.prog (addS 69 allC (addS 13 ownrdC (addS 18 advrC (addS 68 tickrC noS)))) rTickC_an 200 20 rTickC [a,b]:=by kernel_rfl
theorem rTickC_ok:ConOK Try.prog Gl.none 20 rTickC:=con_of mo (addS_ok allC_ok (addS_ok ownrdC_ok (addS_ok advrC_ok (addS_ok tickrC_ok (noS_ok _))))) (an:=rTickC_an) 200 fun ds hl hp=>by
 obtain ⟨a,b,rfl⟩:=len2 hl
 rw [← rTickC_vc]
 have p0:FitP a:=hp _ (.head _)
 have p1:∀ f ∈ (a.fld 15).list,U64 (f.fld 2).int:=hp _ (.tail _ (.head _))
 have p2:(a.fld 10).list.length ≤ 1000:=hp _ (.tail _ (.tail _ (.head _)))
 have p3:mayB a=true:=hp _ (.tail _ (.tail _ (.tail _ (.head _))))
 have p4:0 ≤ b.int:=hp _ (.tail _ (.tail _ (.tail _ (.tail _ (.head _)))))
 refine cond_of (fun r=>?_) (fun r=>?_)
 ·have r':decide ((a.fld 4).int=2)=false:=(Bool.not_eq_true' _).mp r
  have hP:ltP a b.int=comP (tickP a b.int) (advN (tickP a b.int)):=by unfold ltP; rw [r',cond_false]
  have hL:ltLr a b.int=tickL a b.int:=by unfold ltLr; rw [r',cond_false]
  obtain ⟨F,U,hb6,H⟩:=tick_H (b:=b.int) p0 p1 p3 p2 (of_decide_eq_false r')
  rw [advR_eq' H,hP,hL]
  clear hP hL H
  generalize tickP a b.int=q at F U hb6 ⊢
  exact ⟨FitP.eta p0,p3,p4,FitP.eta F,U,hb6,rfl,rfl,rfl,rfl,rfl,rfl,rfl,rfl,rfl,rfl,rfl,rfl,rfl,rfl,rfl,rfl,rfl,rfl,rfl⟩
 have hM:=mayB_iff.1 p3
 have hr:decide ((a.fld 4).int=2)=true:=(Bool.not_eq_false' _).mp r
 have i0:=hM.idle0; have i1:=hM.idle1
 have H:=advH_may p0 hM (of_decide_eq_true hr)
 have hA:∀ i,advR (putF peerT a [(12,D.i i)])=advN a:=fun i=>advR_eq (a:=putF peerT a [(12,D.i i)]) ⟨H.ids,H.dist,H.mt,H.mono⟩
 have F2:FitP (putF peerT a [(11,D.i (advN a)),(12,D.i 0)]):=fitP_com (fitP_set (i:=0) p0) (advN_U p0 p1)
 refine ⟨FitP.eta p0,cond_of (fun k=>?_) (fun k=>?_),fun g hg=>?_⟩
 ·have k:=of_decide_eq_true k
  exact ⟨⟨by omega,by omega⟩,(a.fld 12).int + 1,rfl,rfl,rfl,rfl,rfl,rfl,rfl,rfl,rfl,rfl,rfl,rfl,rfl,rfl,rfl,rfl,rfl,rfl,by omega⟩
 ·have k:=of_decide_eq_false k
  exact ⟨(a.fld 12).int,rfl,rfl,rfl,rfl,rfl,rfl,rfl,rfl,rfl,rfl,rfl,rfl,rfl,rfl,rfl,rfl,rfl,rfl,by omega⟩
 subst hg
 rw [hA]
 have F1:FitP (putF peerT a [(12,D.i (min ((a.fld 12).int + 1) 1073741824))]):=fitP_set p0
 refine ⟨F1,p1,hM.base,cond_of (fun q=>?_) (fun q=>?_)⟩
 ·have q':decide (idleI a < 3)=true:=q
  have hP:ltP a b.int=comP (idleP a) (advN a):=by unfold ltP; rw [hr,q',cond_true,cond_true]
  have hL:ltLr a b.int=[]:=by unfold ltLr; rw [hr,q',cond_true,cond_true]
  rw [hP,hL]
  exact ⟨rfl,rfl,rfl,rfl,rfl,rfl,rfl,rfl,rfl,rfl,rfl,rfl,rfl,rfl,rfl,rfl,rfl,rfl,rfl⟩
 ·have q':decide (idleI a < 3)=false:=q
  have hP:ltP a b.int=beatP a:=by unfold ltP; rw [hr,q',cond_true,cond_false]
  have hL:ltLr a b.int=allL (beatP a):=by unfold ltLr; rw [hr,q',cond_true,cond_false]
  rw [hP,hL]
  exact ⟨rfl,rfl,rfl,rfl,rfl,rfl,rfl,rfl,rfl,rfl,rfl,rfl,rfl,rfl,rfl,rfl,rfl,rfl,F2,hM.base,rfl,rfl,rfl,rfl,rfl,rfl,rfl,rfl,rfl,rfl,rfl,rfl,rfl,rfl,rfl,rfl,rfl,rfl,rfl⟩
end Go.Proofs.Ytplflgclomiihaa.XT
