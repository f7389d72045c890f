/- Contracts. -/
import Derived.Test.YtplflgclomiihaaGreatQVTX
import Derived.Test.YtplflgclomiihaaGreatProg
set_option linter.unusedVariables false
set_option linter.unusedSimpArgs false
namespace Go.Proofs.YtplflgclomiihaaGreat.XT
open Go Go.RowKit Go.Proofs.YtplflgclomiihaaGreat.Sv
set_option maxRecDepth 100000
noncomputable def advaC:Con:=⟨[.d true peerT],fun ds=>(fun (a:D)=>[FitP a,∀ f ∈ (a.fld 15).list,U64 (f.fld 2).int]) (nthD ds 0),[.agg [.d (.i .i64),.own 3 (.i .i64),.d (.i .u64),.d (.i .i64),.d (.i .u8),.d (.i .i64),.d (.i .u64),.d (.i .u64),.own 3 (.i .i64),.d .s,.own 88 entT,.d (.i .u64),.d (.i .i64),.d (.i .i64),.own 3 (.i .i64),.own 57 folT,.d (.i .u64),.own 54 rdT],.d (.i .i64)],fun ds=>(fun (a:D)=>[etaD peerT (outAdv a),.i (bif mayB a then 0 else 2)]) (nthD ds 0),fun ds=>[]⟩
noncomputable def advaC_an:Anns:=fun f i=>match f,i with
 | 45,2000004=>some fun A st=>⟨Unit,fun _=>[],fun _=>[(4,.q 23 (.i .u64) [])],fun _=>True,fun _=>0⟩
 | 45,4=>some fun A st=>match seqO A st 25 with
  | some xs=>⟨Nat,fun g=>[(27,.v (.int .i64 g)),(4,.ow st.nx g)],fun g=>[(st.nx,.q 23 (.i .u64) ((xs.take g).map mtE))],fun g=>g ≤ xs.length,fun g=>xs.length - g⟩
  | _=>LAnn.bad
 | 45,1000010=>some fun A st=>match seqO A st 4,boxMem A st 0,A.get 2 with
  | some xs,some (id,ms),some (.v (.int _ last))=>⟨List D,fun g=>[(4,.ow st.nx g.length)],fun g=>[(st.nx,.q 23 (.i .u64) g)],fun g=>g=bif inL ms id then xs ++ [.i last] else xs,fun _=>0⟩
  | _,_,_=>LAnn.bad
 | _,_=>none
theorem advaC_vc (a:D):((a.fld 10).list.length < 4611686018427387904∧(0 ≤ (a.fld 6).int∧(a.fld 6).int ≤ 18446744073709551615)∧(a.fld 8).list.length ≤ 17592186044416∧(∀ (e:D),e ∈ (a.fld 10).list → (e.fld 3).list.length ≤ 17592186044416)∧(a.fld 1).list.length ≤ 17592186044416∧(a.fld 14).list.length ≤ 17592186044416∧(a.fld 15).list.length ≤ 17592186044416∧(a.fld 17).list.length ≤ 17592186044416∧(∀ (r:D),r ∈ (a.fld 17).list → (r.fld 2).list.length ≤ 17592186044416)∧0 ≤ (a.fld 7).int∧(∀ (e:D),e ∈ (a.fld 10).list → 0 ≤ (e.fld 0).int∧0 ≤ (e.fld 1).int)∧0 ≤ (a.fld 4).int∧bif !decide (condI (mayB a) 0 2=0) then EqI 0 ((outAdv a).fld 0).int∧[]=((outAdv a).fld 1).list∧EqI 0 ((outAdv a).fld 2).int∧EqI 0 ((outAdv a).fld 3).int∧EqI 0 ((outAdv a).fld 4).int∧EqI 0 ((outAdv a).fld 5).int∧EqI 0 ((outAdv a).fld 6).int∧EqI 0 ((outAdv a).fld 7).int∧[]=((outAdv a).fld 8).list∧ByteArray.mk #[]=((outAdv a).fld 9).str∧[]=((outAdv a).fld 10).list∧EqI 0 ((outAdv a).fld 11).int∧EqI 0 ((outAdv a).fld 12).int∧EqI 0 ((outAdv a).fld 13).int∧[]=((outAdv a).fld 14).list∧[]=((outAdv a).fld 15).list∧EqI 0 ((outAdv a).fld 16).int∧[]=((outAdv a).fld 17).list∧condI (mayB a) 0 2=condI (mayB a) 0 2 else FitP (putF peerT a [])∧bif !decide ((a.fld 4).int=2) then (a.fld 0).int=((outAdv a).fld 0).int∧List.take (a.fld 1).list.length (a.fld 1).list=((outAdv a).fld 1).list∧(a.fld 2).int=((outAdv a).fld 2).int∧(a.fld 3).int=((outAdv a).fld 3).int∧(a.fld 4).int=((outAdv a).fld 4).int∧(a.fld 5).int=((outAdv a).fld 5).int∧(a.fld 6).int=((outAdv a).fld 6).int∧(a.fld 7).int=((outAdv a).fld 7).int∧List.take (a.fld 8).list.length (a.fld 8).list=((outAdv a).fld 8).list∧(a.fld 9).str=((outAdv a).fld 9).str∧List.take (a.fld 10).list.length (a.fld 10).list=((outAdv a).fld 10).list∧(a.fld 11).int=((outAdv a).fld 11).int∧(a.fld 12).int=((outAdv a).fld 12).int∧(a.fld 13).int=((outAdv a).fld 13).int∧List.take (a.fld 14).list.length (a.fld 14).list=((outAdv a).fld 14).list∧List.take (a.fld 15).list.length (a.fld 15).list=((outAdv a).fld 15).list∧(a.fld 16).int=((outAdv a).fld 16).int∧List.take (a.fld 17).list.length (a.fld 17).list=((outAdv a).fld 17).list∧EqI 0 (condI (mayB a) 0 2) else (List.take (a.fld 10).list.length (a.fld 10).list).length < 4611686018427387904∧∃ (g:Unit),∃ (g:Nat),EqI 0 (↑g:Int)∧0=g∧[]=List.map mtE (List.take g (a.fld 15).list)∧g ≤ (a.fld 15).list.length∧∀ (g:Nat),g ≤ (a.fld 15).list.length → bif decide ((↑g:Int) < (↑(a.fld 15).list.length:Int)) then Idx (↑g:Int) (a.fld 15).list.length∧(g + [D.i ((nthD (a.fld 15).list g).fld 2).int].length) * 8 ≤ 140737488355328∧g + [D.i ((nthD (a.fld 15).list g).fld 2).int].length ≤ 9223372036854775807∧I64 ((↑g:Int) + 1)∧∃ (g_1:Nat),(↑g:Int) + 1=(↑g_1:Int)∧g + [D.i ((nthD (a.fld 15).list g).fld 2).int].length=g_1∧List.take g (List.map mtE (List.take g (a.fld 15).list)) ++ [D.i ((nthD (a.fld 15).list g).fld 2).int]=List.map mtE (List.take g_1 (a.fld 15).list)∧g_1 ≤ (a.fld 15).list.length∧(a.fld 15).list.length - g_1 < (a.fld 15).list.length - g else ((List.take (a.fld 1).list.length (a.fld 1).list).length < 4611686018427387904∧bif inL (List.take (a.fld 1).list.length (a.fld 1).list) (a.fld 0).int then (g + [D.i (lastIf (a.fld 6).int (List.take (a.fld 10).list.length (a.fld 10).list))].length) * 8 ≤ 140737488355328∧g + [D.i (lastIf (a.fld 6).int (List.take (a.fld 10).list.length (a.fld 10).list))].length ≤ 9223372036854775807∧∃ (g_1:List D),g + [D.i (lastIf (a.fld 6).int (List.take (a.fld 10).list.length (a.fld 10).list))].length=g_1.length∧List.take g (List.map mtE (List.take g (a.fld 15).list)) ++ [D.i (lastIf (a.fld 6).int (List.take (a.fld 10).list.length (a.fld 10).list))]=g_1∧g_1=bif inL (List.take (a.fld 1).list.length (a.fld 1).list) (a.fld 0).int then List.map mtE (List.take g (a.fld 15).list) ++ [D.i (lastIf (a.fld 6).int (List.take (a.fld 10).list.length (a.fld 10).list))] else List.map mtE (List.take g (a.fld 15).list) else ∃ (g_1:List D),g=g_1.length∧List.map mtE (List.take g (a.fld 15).list)=g_1∧g_1=bif inL (List.take (a.fld 1).list.length (a.fld 1).list) (a.fld 0).int then List.map mtE (List.take g (a.fld 15).list) ++ [D.i (lastIf (a.fld 6).int (List.take (a.fld 10).list.length (a.fld 10).list))] else List.map mtE (List.take g (a.fld 15).list))∧∀ (g_1:List D),(g_1=bif inL (List.take (a.fld 1).list.length (a.fld 1).list) (a.fld 0).int then List.map mtE (List.take g (a.fld 15).list) ++ [D.i (lastIf (a.fld 6).int (List.take (a.fld 10).list.length (a.fld 10).list))] else List.map mtE (List.take g (a.fld 15).list)) → g_1.length=g_1.length∧g_1.length < 4611686018427387904∧¬EqI 2 0∧bif decide ((↑g_1.length:Int) ≤ IntKind.i64.wrap ((↑(a.fld 1).list.length:Int).tdiv 2)) then (a.fld 0).int=((outAdv a).fld 0).int∧List.take (a.fld 1).list.length (a.fld 1).list=((outAdv a).fld 1).list∧(a.fld 2).int=((outAdv a).fld 2).int∧(a.fld 3).int=((outAdv a).fld 3).int∧(a.fld 4).int=((outAdv a).fld 4).int∧(a.fld 5).int=((outAdv a).fld 5).int∧(a.fld 6).int=((outAdv a).fld 6).int∧(a.fld 7).int=((outAdv a).fld 7).int∧List.take (a.fld 8).list.length (a.fld 8).list=((outAdv a).fld 8).list∧(a.fld 9).str=((outAdv a).fld 9).str∧List.take (a.fld 10).list.length (a.fld 10).list=((outAdv a).fld 10).list∧(a.fld 11).int=((outAdv a).fld 11).int∧(a.fld 12).int=((outAdv a).fld 12).int∧(a.fld 13).int=((outAdv a).fld 13).int∧List.take (a.fld 14).list.length (a.fld 14).list=((outAdv a).fld 14).list∧List.take (a.fld 15).list.length (a.fld 15).list=((outAdv a).fld 15).list∧(a.fld 16).int=((outAdv a).fld 16).int∧List.take (a.fld 17).list.length (a.fld 17).list=((outAdv a).fld 17).list∧EqI 0 (condI (mayB a) 0 2) else Idx (IntKind.i64.wrap ((↑(a.fld 1).list.length:Int).tdiv 2)) g_1.length∧(List.take (a.fld 10).list.length (a.fld 10).list).length < 4611686018427387904∧(0 ≤ (a.fld 6).int∧(a.fld 6).int ≤ 18446744073709551615)∧(0 ≤ (nthD (descL g_1) (IntKind.i64.wrap ((↑(a.fld 1).list.length:Int).tdiv 2)).toNat).int∧(nthD (descL g_1) (IntKind.i64.wrap ((↑(a.fld 1).list.length:Int).tdiv 2)).toNat).int ≤ 18446744073709551615)∧Idx (IntKind.i64.wrap ((↑(a.fld 1).list.length:Int).tdiv 2)) g_1.length∧bif decide ((a.fld 11).int < (nthD (descL g_1) (IntKind.i64.wrap ((↑(a.fld 1).list.length:Int).tdiv 2)).toNat).int) && decide (termI (putF peerT a [(1,D.l (List.take (a.fld 1).list.length (a.fld 1).list)),(8,D.l (List.take (a.fld 8).list.length (a.fld 8).list)),(10,D.l (List.take (a.fld 10).list.length (a.fld 10).list)),(14,D.l (List.take (a.fld 14).list.length (a.fld 14).list)),(15,D.l (List.take (a.fld 15).list.length (a.fld 15).list)),(17,D.l (List.take (a.fld 17).list.length (a.fld 17).list))]) (nthD (descL g_1) (IntKind.i64.wrap ((↑(a.fld 1).list.length:Int).tdiv 2)).toNat).int=(a.fld 2).int) then Idx (IntKind.i64.wrap ((↑(a.fld 1).list.length:Int).tdiv 2)) g_1.length∧(a.fld 0).int=((outAdv a).fld 0).int∧List.take (a.fld 1).list.length (a.fld 1).list=((outAdv a).fld 1).list∧(a.fld 2).int=((outAdv a).fld 2).int∧(a.fld 3).int=((outAdv a).fld 3).int∧(a.fld 4).int=((outAdv a).fld 4).int∧(a.fld 5).int=((outAdv a).fld 5).int∧(a.fld 6).int=((outAdv a).fld 6).int∧(a.fld 7).int=((outAdv a).fld 7).int∧List.take (a.fld 8).list.length (a.fld 8).list=((outAdv a).fld 8).list∧(a.fld 9).str=((outAdv a).fld 9).str∧List.take (a.fld 10).list.length (a.fld 10).list=((outAdv a).fld 10).list∧(nthD (descL g_1) (IntKind.i64.wrap ((↑(a.fld 1).list.length:Int).tdiv 2)).toNat).int=((outAdv a).fld 11).int∧(a.fld 12).int=((outAdv a).fld 12).int∧(a.fld 13).int=((outAdv a).fld 13).int∧List.take (a.fld 14).list.length (a.fld 14).list=((outAdv a).fld 14).list∧List.take (a.fld 15).list.length (a.fld 15).list=((outAdv a).fld 15).list∧(a.fld 16).int=((outAdv a).fld 16).int∧List.take (a.fld 17).list.length (a.fld 17).list=((outAdv a).fld 17).list∧EqI 0 (condI (mayB a) 0 2) else (a.fld 0).int=((outAdv a).fld 0).int∧List.take (a.fld 1).list.length (a.fld 1).list=((outAdv a).fld 1).list∧(a.fld 2).int=((outAdv a).fld 2).int∧(a.fld 3).int=((outAdv a).fld 3).int∧(a.fld 4).int=((outAdv a).fld 4).int∧(a.fld 5).int=((outAdv a).fld 5).int∧(a.fld 6).int=((outAdv a).fld 6).int∧(a.fld 7).int=((outAdv a).fld 7).int∧List.take (a.fld 8).list.length (a.fld 8).list=((outAdv a).fld 8).list∧(a.fld 9).str=((outAdv a).fld 9).str∧List.take (a.fld 10).list.length (a.fld 10).list=((outAdv a).fld 10).list∧(a.fld 11).int=((outAdv a).fld 11).int∧(a.fld 12).int=((outAdv a).fld 12).int∧(a.fld 13).int=((outAdv a).fld 13).int∧List.take (a.fld 14).list.length (a.fld 14).list=((outAdv a).fld 14).list∧List.take (a.fld 15).list.length (a.fld 15).list=((outAdv a).fld 15).list∧(a.fld 16).int=((outAdv a).fld 16).int∧List.take (a.fld 17).list.length (a.fld 17).list=((outAdv a).fld 17).list∧EqI 0 (condI (mayB a) 0 2))=conGoal Tryz.prog (addS 57 termC (addS 77 sortC (addS 64 contC (addS 68 lastC (addS 46 lownC (addS 21 MayC noS)))))) advaC_an 200 58 advaC [a]:=by kernel_rfl
theorem advaC_ok:ConOK Tryz.prog Gl.none 58 advaC:=con_of mo (addS_ok termC_ok (addR_ok sortC_ok (addS_ok contC_ok (addS_ok lastC_ok (addS_ok lownC_ok (addS_ok MayC_ok (noS_ok _))))))) (an:=advaC_an) 200 fun ds hl hp=>by
 obtain ⟨a,rfl⟩:=len1 hl
 rw [← advaC_vc]
 have p0:FitP a:=hp _ (.head _)
 have p1:∀ f ∈ (a.fld 15).list,U64 (f.fld 2).int:=hp _ (.tail _ (.head _))
 have h1:=p0.l1; have h8:=p0.l8; have h14:=p0.l14; have h10:=p0.l10; have h15:=p0.l15; have h17:=p0.l17
 rw [c02]
 refine FitP.pre p0 (cond_of (fun c=>?_) (fun c=>⟨FitP.eta p0,cond_of (fun r=>?_) (fun r=>⟨by rw [List.take_length]; omega,(),0,rfl,rfl,rfl,Nat.zero_le _,fun g hg=>cond_of (fun d=>?_) (fun d=>?_)⟩)⟩))
 ·have hm:mayB a=false:=(Bool.not_eq_true' _).mp c
  have ho:outAdv a=DT.zero peerT:=by unfold outAdv; rw [hm]; rfl
  rw [ho]
  exact ⟨rfl,rfl,rfl,rfl,rfl,rfl,rfl,rfl,rfl,rfl,rfl,rfl,rfl,rfl,rfl,rfl,rfl,rfl,rfl⟩
 ·have hm:mayB a=true:=(Bool.not_eq_false' _).mp c
  have hn:advN a=(a.fld 11).int:=by unfold advN; rw [(Bool.not_eq_true' _).mp r]; rfl
  rw [outAdv_eq hm hn,hm]
  simp only [List.take_length]
  exact ⟨rfl,rfl,rfl,rfl,rfl,rfl,rfl,rfl,rfl,rfl,rfl,rfl,rfl,rfl,rfl,rfl,rfl,rfl,rfl⟩
 ·have d:g < (a.fld 15).list.length:=by simpa using d
  exact ⟨⟨by omega,by omega⟩,(by show (g + 1) * 8 ≤ 140737488355328; omega),(by show g + 1 ≤ 9223372036854775807; omega),⟨by omega,by omega⟩,g + 1,by omega,rfl,mapE_at (f:=mtE) d,by omega,by omega⟩
 ·have d:g=(a.fld 15).list.length:=by have:=of_decide_eq_false d; omega
  subst d
  have hm:mayB a=true:=(Bool.not_eq_false' _).mp c
  have hr:decide ((a.fld 4).int=2)=true:=(Bool.not_eq_false' _).mp r
  simp only [List.take_length,mapE_end]
  refine ⟨⟨by omega,cond_of (fun m=>⟨(by show ((a.fld 15).list.length + 1) * 8 ≤ 140737488355328; omega),(by show (a.fld 15).list.length + 1 ≤ 9223372036854775807; omega),_,(by simp),rfl,(by rw [m]; rfl)⟩) (fun m=>⟨_,(by simp),rfl,(by rw [m]; rfl)⟩)⟩,fun L hL=>?_⟩
  have hL:L=haveL a:=by
   rw [hL]; unfold haveL
   cases inL (a.fld 1).list (a.fld 0).int with
   | true=>rfl
   | false=>rw [cond_false,cond_false,List.append_nil]
  subst hL
  have hlen:(haveL a).length ≤ 1000001:=by
   unfold haveL
   rw [List.length_append,List.length_map]
   cases inL (a.fld 1).list (a.fld 0).int with
   | true=>simp; omega
   | false=>simp; omega
  rw [half_id h1]
  refine ⟨trivial,by omega,by decide,cond_of (fun e=>?_) (fun e=>?_)⟩
  ·have e:=of_decide_eq_true e
   have hn:advN a=(a.fld 11).int:=by unfold advN; rw [hr,decide_eq_false (show ¬ (a.fld 1).list.length / 2 < (haveL a).length by omega)]; rfl
   rw [outAdv_eq hm hn,hm]
   exact ⟨rfl,rfl,rfl,rfl,rfl,rfl,rfl,rfl,rfl,rfl,rfl,rfl,rfl,rfl,rfl,rfl,rfl,rfl,rfl⟩
  ·have e:=of_decide_eq_false e
   have hlt:(a.fld 1).list.length / 2 < (haveL a).length:=by omega
   have hmid:(nthD (descL (haveL a)) ((((a.fld 1).list.length / 2:Nat):Int)).toNat).int=midN a:=rfl
   rw [hmid]
   have hU:U64 (midN a):=by
    have hl':(a.fld 1).list.length / 2 < (descL (haveL a)).length:=by rw [descL_len]; exact hlt
    obtain ⟨x,hx,hxe⟩:=descL_mem (List.mem_of_getElem? (get_nthD hl'))
    unfold midN
    rw [hxe]
    exact haveL_U p0 p1 x hx
   refine ⟨⟨by omega,by omega⟩,by omega,p0.base,hU,⟨by omega,by omega⟩,?_⟩
   have ht:termI (putF peerT a [(1,D.l (a.fld 1).list),(8,D.l (a.fld 8).list),(10,D.l (a.fld 10).list),(14,D.l (a.fld 14).list),(15,D.l (a.fld 15).list),(17,D.l (a.fld 17).list)]) (midN a)=termI a (midN a):=rfl
   rw [ht]
   refine cond_of (fun k=>?_) (fun k=>?_)
   ·have hn:advN a=midN a:=by unfold advN; rw [hr,decide_eq_true hlt,Bool.and_assoc,k]; rfl
    rw [outAdv_eq hm hn,hm]
    exact ⟨⟨by omega,by omega⟩,rfl,rfl,rfl,rfl,rfl,rfl,rfl,rfl,rfl,rfl,rfl,rfl,rfl,rfl,rfl,rfl,rfl,rfl,rfl⟩
   ·have hn:advN a=(a.fld 11).int:=by unfold advN; rw [hr,decide_eq_true hlt,Bool.and_assoc,k]; rfl
    rw [outAdv_eq hm hn,hm]
    exact ⟨rfl,rfl,rfl,rfl,rfl,rfl,rfl,rfl,rfl,rfl,rfl,rfl,rfl,rfl,rfl,rfl,rfl,rfl,rfl⟩
noncomputable def sownC:Con:=⟨[.d true peerT],fun ds=>(fun (a:D)=>[FitP a,∀ f ∈ (a.fld 15).list,U64 (f.fld 2).int,mayB a=true]) (nthD ds 0),[.agg [.d (.i .i64),.own 3 (.i .i64),.d (.i .u64),.d (.i .i64),.d (.i .u8),.d (.i .i64),.d (.i .u64),.d (.i .u64),.own 3 (.i .i64),.d .s,.own 88 entT,.d (.i .u64),.d (.i .i64),.d (.i .i64),.own 3 (.i .i64),.own 57 folT,.d (.i .u64),.own 54 rdT]],fun ds=>(fun (a:D)=>[etaD peerT a]) (nthD ds 0),fun ds=>[]⟩
noncomputable def sownC_an:Anns:=fun _ _=>none
theorem sownC_vc (a:D):(FitP (putF peerT a [])∧(∀ (f:D),f ∈ (a.fld 15).list → 0 ≤ (f.fld 2).int∧(f.fld 2).int ≤ 18446744073709551615)∧((outAdv a).fld 0).int=(a.fld 0).int∧List.take ((outAdv a).fld 1).list.length ((outAdv a).fld 1).list=(a.fld 1).list∧((outAdv a).fld 2).int=(a.fld 2).int∧((outAdv a).fld 3).int=(a.fld 3).int∧((outAdv a).fld 4).int=(a.fld 4).int∧((outAdv a).fld 5).int=(a.fld 5).int∧((outAdv a).fld 6).int=(a.fld 6).int∧((outAdv a).fld 7).int=(a.fld 7).int∧List.take ((outAdv a).fld 8).list.length ((outAdv a).fld 8).list=(a.fld 8).list∧((outAdv a).fld 9).str=(a.fld 9).str∧List.take ((outAdv a).fld 10).list.length ((outAdv a).fld 10).list=(a.fld 10).list∧(a.fld 11).int=(a.fld 11).int∧((outAdv a).fld 12).int=(a.fld 12).int∧((outAdv a).fld 13).int=(a.fld 13).int∧List.take ((outAdv a).fld 14).list.length ((outAdv a).fld 14).list=(a.fld 14).list∧List.take ((outAdv a).fld 15).list.length ((outAdv a).fld 15).list=(a.fld 15).list∧((outAdv a).fld 16).int=(a.fld 16).int∧List.take ((outAdv a).fld 17).list.length ((outAdv a).fld 17).list=(a.fld 17).list)=conGoal Tryz.prog (addS 58 advaC noS) sownC_an 200 23 sownC [a]:=by kernel_rfl
theorem sownC_ok:ConOK Tryz.prog Gl.none 23 sownC:=con_of mo (addS_ok advaC_ok (noS_ok _)) (an:=sownC_an) 200 fun ds hl hp=>by
 obtain ⟨a,rfl⟩:=len1 hl
 rw [← sownC_vc]
 have p0:FitP a:=hp _ (.head _)
 have p1:∀ f ∈ (a.fld 15).list,U64 (f.fld 2).int:=hp _ (.tail _ (.head _))
 have p2:mayB a=true:=hp _ (.tail _ (.tail _ (.head _)))
 refine ⟨FitP.eta p0,p1,?_⟩
 rw [outAdv_eq p2 rfl]
 simp only [List.take_length,-eq_self]
 exact ⟨rfl,rfl,rfl,rfl,rfl,rfl,rfl,rfl,rfl,rfl,rfl,rfl,rfl,rfl,rfl,rfl,rfl,rfl⟩
end Go.Proofs.YtplflgclomiihaaGreat.XT
