/- Contracts. -/
import Derived.Test.YtplflgclomiihaaGreatQVTP
import Derived.Test.YtplflgclomiihaaGreatProg
set_option linter.unusedVariables false
set_option linter.unusedSimpArgs false
namespace Go.Proofs.YtplflgclomiihaaGreat.XT
open Go Go.RowKit Go.Proofs.YtplflgclomiihaaGreat.Sv
set_option maxRecDepth 100000
def folT:DT:=.t [(.i .i64),(.i .u64),(.i .u64)]
def rdT:DT:=.t [(.i .u64),(.i .u64),(.l (.i .i64))]
structure FitE (e:D):Prop where
 eta:etaD entT e=e
 mem:(e.fld 3).list.length ≤ 17592186044416
 term:U64 (e.fld 0).int
 kind:0 ≤ (e.fld 1).int
structure FitR (r:D):Prop where
 eta:etaD rdT r=r
 acks:(r.fld 2).list.length ≤ 17592186044416
structure FitP (a:D):Prop where
 l1:(a.fld 1).list.length ≤ 17592186044416
 l8:(a.fld 8).list.length ≤ 17592186044416
 l14:(a.fld 14).list.length ≤ 17592186044416
 l10:(a.fld 10).list.length ≤ 1000000
 l15:(a.fld 15).list.length ≤ 1000000
 l17:(a.fld 17).list.length ≤ 1000000
 log:∀ e ∈ (a.fld 10).list,FitE e
 rd:∀ r ∈ (a.fld 17).list,FitR r
 fol:∀ f ∈ (a.fld 15).list,etaD folT f=f
 i1:∀ d ∈ (a.fld 1).list,D.i d.int=d
 i14:∀ d ∈ (a.fld 14).list,D.i d.int=d
 base:U64 (a.fld 6).int
 bt:U64 (a.fld 7).int
 term:U64 (a.fld 2).int
 round:U64 (a.fld 16).int
 com:U64 (a.fld 11).int
 role:0 ≤ (a.fld 4).int
theorem FitP.eta {a:D} (h:FitP a):FitP (putF peerT a []):=⟨h.l1,h.l8,h.l14,h.l10,h.l15,h.l17,h.log,h.rd,h.fol,h.i1,h.i14,h.base,h.bt,h.term,h.round,h.com,h.role⟩
theorem eta_take {xs:List D} {g:Nat} {t:DT} (h:∀ e ∈ xs,etaD t e=e) (c:g < xs.length):xs.take g ++ [etaD t (nthD xs g)]=xs.take (g + 1):=by
 have e:nthD xs g=xs[g]:=nthD_get (List.getElem?_eq_getElem c)
 rw [h _ (List.mem_of_getElem? (get_nthD c)),List.take_succ_eq_append_getElem c,e]
def oweC:Con:=⟨[.d true (.l entT)],fun ds=>(fun (a:D)=>[a.list.length ≤ 1000000,∀ e ∈ a.list,FitE e]) (nthD ds 0),[.own 88 entT],fun ds=>(fun (a:D)=>[.l a.list]) (nthD ds 0),fun ds=>[]⟩
def oweC_an:Anns:=fun f i=>match f,i with
 | 20,2000003=>some fun A st=>⟨Unit,fun _=>[],fun _=>[(3,.q 88 entT [])],fun _=>True,fun _=>0⟩
 | 20,3=>some fun A st=>match A.get 0 with
  | some (.dl _ _ xs)=>⟨Nat,fun g=>[(4,.v (.int .i64 g)),(3,.ow st.nx g)],fun g=>[(st.nx,.q 88 entT (xs.take g))],fun g=>g ≤ xs.length,fun g=>xs.length - g⟩
  | _=>LAnn.bad
 | _,_=>none
theorem oweC_vc (a:D):(∃ (g:Unit),∃ (g:Nat),EqI 0 (↑g:Int)∧0=g∧[]=List.take g a.list∧g ≤ a.list.length∧∀ (g:Nat),g ≤ a.list.length → bif decide ((↑g:Int) < (↑a.list.length:Int)) then Idx (↑g:Int) a.list.length∧(0 + ((nthD a.list g).fld 3).list.length) * 8 ≤ 140737488355328∧0 + ((nthD a.list g).fld 3).list.length ≤ 9223372036854775807∧(g + 1) * 56 ≤ 140737488355328∧g + 1 ≤ 9223372036854775807∧I64 ((↑g:Int) + 1)∧∃ (g_1:Nat),(↑g:Int) + 1=(↑g_1:Int)∧g + 1=g_1∧List.take g (List.take g a.list) ++ [putF entT (nthD a.list g) [(3,D.l (List.take (0 + ((nthD a.list g).fld 3).list.length) ([] ++ ((nthD a.list g).fld 3).list)))]]=List.take g_1 a.list∧g_1 ≤ a.list.length∧a.list.length - g_1 < a.list.length - g else List.take g (List.take g a.list)=a.list)=conGoal Tryz.prog noS oweC_an 200 20 oweC [a]:=by kernel_rfl
theorem oweC_ok:ConOK Tryz.prog Gl.none 20 oweC:=con_of mo (noS_ok _) (an:=oweC_an) 200 fun ds hl hp=>by
 obtain ⟨a,rfl⟩:=len1 hl
 rw [← oweC_vc]
 have p0:a.list.length ≤ 1000000:=hp _ (.head _)
 have p1:∀ e ∈ a.list,FitE e:=hp _ (.tail _ (.head _))
 refine ⟨(),0,rfl,rfl,rfl,Nat.zero_le _,fun g h1=>cond_of (fun c=>?_) (fun c=>?_)⟩
 ·have c:g < a.list.length:=by simpa using c
  have hm:=(p1 _ (List.mem_of_getElem? (get_nthD c))).mem
  simp only [Nat.zero_add,List.nil_append,List.take_length,List.take_take,Nat.min_self]
  exact ⟨⟨by omega,by omega⟩,by omega,by omega,by omega,by omega,⟨by omega,by omega⟩,g + 1,by omega,rfl,eta_take (fun e he=>(p1 e he).eta) c,by omega,by omega⟩
 ·have c:g=a.list.length:=by simp at c; omega
  rw [c,List.take_length,List.take_length]
def ownrdC:Con:=⟨[.d true peerT],fun ds=>(fun (a:D)=>[FitP a]) (nthD ds 0),[.d peerT],fun ds=>(fun (a:D)=>[etaD peerT a]) (nthD ds 0),fun ds=>[]⟩
def ownrdC_an:Anns:=fun f i=>match f,i with
 | 6,2000008=>some fun A st=>⟨Unit,fun _=>[],fun _=>[(3,.q 54 rdT [])],fun _=>True,fun _=>0⟩
 | 6,8=>some fun A st=>match st.h.get 0 with
  | some (.c _ cs)=>match cs.drop 17 with
   | .dl _ _ xs :: _=>⟨Nat,fun g=>[(4,.v (.int .i64 g)),(3,.ow st.nx g)],fun g=>[(st.nx,.q 54 rdT (xs.take g))],fun g=>g ≤ xs.length,fun g=>xs.length - g⟩
   | _=>LAnn.bad
  | _=>LAnn.bad
 | _,_=>none
theorem ownrdC_vc (a:D):((0 + (a.fld 1).list.length) * 8 ≤ 140737488355328∧0 + (a.fld 1).list.length ≤ 9223372036854775807∧(0 + (a.fld 8).list.length) * 8 ≤ 140737488355328∧0 + (a.fld 8).list.length ≤ 9223372036854775807∧(0 + (a.fld 14).list.length) * 8 ≤ 140737488355328∧0 + (a.fld 14).list.length ≤ 9223372036854775807∧(a.fld 10).list.length ≤ 1000000∧(∀ (e:D),e ∈ (a.fld 10).list → FitE e)∧(0 + (a.fld 15).list.length) * 24 ≤ 140737488355328∧0 + (a.fld 15).list.length ≤ 9223372036854775807∧∃ (g:Unit),∃ (g:Nat),EqI 0 (↑g:Int)∧0=g∧[]=List.take g (a.fld 17).list∧g ≤ (a.fld 17).list.length∧∀ (g:Nat),g ≤ (a.fld 17).list.length → bif decide ((↑g:Int) < (↑(a.fld 17).list.length:Int)) then Idx (↑g:Int) (a.fld 17).list.length∧(0 + ((nthD (a.fld 17).list g).fld 2).list.length) * 8 ≤ 140737488355328∧0 + ((nthD (a.fld 17).list g).fld 2).list.length ≤ 9223372036854775807∧(g + 1) * 40 ≤ 140737488355328∧g + 1 ≤ 9223372036854775807∧I64 ((↑g:Int) + 1)∧∃ (g_1:Nat),(↑g:Int) + 1=(↑g_1:Int)∧g + 1=g_1∧List.take g (List.take g (a.fld 17).list) ++ [putF rdT (nthD (a.fld 17).list g) [(2,D.l (List.take (0 + ((nthD (a.fld 17).list g).fld 2).list.length) ([] ++ ((nthD (a.fld 17).list g).fld 2).list)))]]=List.take g_1 (a.fld 17).list∧g_1 ≤ (a.fld 17).list.length∧(a.fld 17).list.length - g_1 < (a.fld 17).list.length - g else (a.fld 0).int=(a.fld 0).int∧List.take (0 + (a.fld 1).list.length) ([] ++ (a.fld 1).list)=(a.fld 1).list∧(a.fld 2).int=(a.fld 2).int∧(a.fld 3).int=(a.fld 3).int∧(a.fld 4).int=(a.fld 4).int∧(a.fld 5).int=(a.fld 5).int∧(a.fld 6).int=(a.fld 6).int∧(a.fld 7).int=(a.fld 7).int∧List.take (0 + (a.fld 8).list.length) ([] ++ (a.fld 8).list)=(a.fld 8).list∧(a.fld 9).str=(a.fld 9).str∧List.take (a.fld 10).list.length (a.fld 10).list=(a.fld 10).list∧(a.fld 11).int=(a.fld 11).int∧(a.fld 12).int=(a.fld 12).int∧(a.fld 13).int=(a.fld 13).int∧List.take (0 + (a.fld 14).list.length) ([] ++ (a.fld 14).list)=(a.fld 14).list∧List.take (0 + (a.fld 15).list.length) ([] ++ (a.fld 15).list)=(a.fld 15).list∧(a.fld 16).int=(a.fld 16).int∧List.take g (List.take g (a.fld 17).list)=(a.fld 17).list)=conGoal Tryz.prog (addS 20 oweC noS) ownrdC_an 200 6 ownrdC [a]:=by kernel_rfl
theorem ownrdC_ok:ConOK Tryz.prog Gl.none 6 ownrdC:=con_of mo (addS_ok oweC_ok (noS_ok _)) (an:=ownrdC_an) 200 fun ds hl hp=>by
 obtain ⟨a,rfl⟩:=len1 hl
 rw [← ownrdC_vc]
 have p0:FitP a:=hp _ (.head _)
 have h1:=p0.l1; have h8:=p0.l8; have h14:=p0.l14; have h10:=p0.l10; have h15:=p0.l15; have h17:=p0.l17
 refine ⟨by omega,by omega,by omega,by omega,by omega,by omega,h10,p0.log,by omega,by omega,(),0,rfl,rfl,rfl,Nat.zero_le _,fun g h1=>cond_of (fun c=>?_) (fun c=>?_)⟩
 ·have c:g < (a.fld 17).list.length:=by simpa using c
  have hm:=(p0.rd _ (List.mem_of_getElem? (get_nthD c))).acks
  simp only [Nat.zero_add,List.nil_append,List.take_length,List.take_take,Nat.min_self]
  exact ⟨⟨by omega,by omega⟩,by omega,by omega,by omega,by omega,⟨by omega,by omega⟩,g + 1,by omega,rfl,eta_take (fun e he=>(p0.rd e he).eta) c,by omega,by omega⟩
 ·have c:g=(a.fld 17).list.length:=by simp at c; omega
  subst c
  simp only [Nat.zero_add,List.nil_append,List.take_length,and_self]
def ownrC:Con:=⟨[.d true peerT],fun ds=>(fun (a:D)=>[FitP a]) (nthD ds 0),[.agg [.d (.i .i64),.own 3 (.i .i64),.d (.i .u64),.d (.i .i64),.d (.i .u8),.d (.i .i64),.d (.i .u64),.d (.i .u64),.own 3 (.i .i64),.d .s,.own 88 entT,.d (.i .u64),.d (.i .i64),.d (.i .i64),.own 3 (.i .i64),.own 57 folT,.d (.i .u64),.own 54 rdT]],fun ds=>(fun (a:D)=>[etaD peerT a]) (nthD ds 0),fun ds=>[]⟩
def ownrC_an:Anns:=fun f i=>match f,i with
 | 6,2000008=>some fun A st=>⟨Unit,fun _=>[],fun _=>[(3,.q 54 rdT [])],fun _=>True,fun _=>0⟩
 | 6,8=>some fun A st=>match st.h.get 0 with
  | some (.c _ cs)=>match cs.drop 17 with
   | .dl _ _ xs :: _=>⟨Nat,fun g=>[(4,.v (.int .i64 g)),(3,.ow st.nx g)],fun g=>[(st.nx,.q 54 rdT (xs.take g))],fun g=>g ≤ xs.length,fun g=>xs.length - g⟩
   | _=>LAnn.bad
  | _=>LAnn.bad
 | _,_=>none
theorem ownrC_vc (a:D):((0 + (a.fld 1).list.length) * 8 ≤ 140737488355328∧0 + (a.fld 1).list.length ≤ 9223372036854775807∧(0 + (a.fld 8).list.length) * 8 ≤ 140737488355328∧0 + (a.fld 8).list.length ≤ 9223372036854775807∧(0 + (a.fld 14).list.length) * 8 ≤ 140737488355328∧0 + (a.fld 14).list.length ≤ 9223372036854775807∧(a.fld 10).list.length ≤ 1000000∧(∀ (e:D),e ∈ (a.fld 10).list → FitE e)∧(0 + (a.fld 15).list.length) * 24 ≤ 140737488355328∧0 + (a.fld 15).list.length ≤ 9223372036854775807∧∃ (g:Unit),∃ (g:Nat),EqI 0 (↑g:Int)∧0=g∧[]=List.take g (a.fld 17).list∧g ≤ (a.fld 17).list.length∧∀ (g:Nat),g ≤ (a.fld 17).list.length → bif decide ((↑g:Int) < (↑(a.fld 17).list.length:Int)) then Idx (↑g:Int) (a.fld 17).list.length∧(0 + ((nthD (a.fld 17).list g).fld 2).list.length) * 8 ≤ 140737488355328∧0 + ((nthD (a.fld 17).list g).fld 2).list.length ≤ 9223372036854775807∧(g + 1) * 40 ≤ 140737488355328∧g + 1 ≤ 9223372036854775807∧I64 ((↑g:Int) + 1)∧∃ (g_1:Nat),(↑g:Int) + 1=(↑g_1:Int)∧g + 1=g_1∧List.take g (List.take g (a.fld 17).list) ++ [putF rdT (nthD (a.fld 17).list g) [(2,D.l (List.take (0 + ((nthD (a.fld 17).list g).fld 2).list.length) ([] ++ ((nthD (a.fld 17).list g).fld 2).list)))]]=List.take g_1 (a.fld 17).list∧g_1 ≤ (a.fld 17).list.length∧(a.fld 17).list.length - g_1 < (a.fld 17).list.length - g else (a.fld 0).int=(a.fld 0).int∧List.take (0 + (a.fld 1).list.length) ([] ++ (a.fld 1).list)=(a.fld 1).list∧(a.fld 2).int=(a.fld 2).int∧(a.fld 3).int=(a.fld 3).int∧(a.fld 4).int=(a.fld 4).int∧(a.fld 5).int=(a.fld 5).int∧(a.fld 6).int=(a.fld 6).int∧(a.fld 7).int=(a.fld 7).int∧List.take (0 + (a.fld 8).list.length) ([] ++ (a.fld 8).list)=(a.fld 8).list∧(a.fld 9).str=(a.fld 9).str∧List.take (a.fld 10).list.length (a.fld 10).list=(a.fld 10).list∧(a.fld 11).int=(a.fld 11).int∧(a.fld 12).int=(a.fld 12).int∧(a.fld 13).int=(a.fld 13).int∧List.take (0 + (a.fld 14).list.length) ([] ++ (a.fld 14).list)=(a.fld 14).list∧List.take (0 + (a.fld 15).list.length) ([] ++ (a.fld 15).list)=(a.fld 15).list∧(a.fld 16).int=(a.fld 16).int∧List.take g (List.take g (a.fld 17).list)=(a.fld 17).list)=conGoal Tryz.prog (addS 20 oweC noS) ownrC_an 200 6 ownrC [a]:=by kernel_rfl
theorem ownrC_ok:ConOK Tryz.prog Gl.none 6 ownrC:=con_of mo (addS_ok oweC_ok (noS_ok _)) (an:=ownrC_an) 200 fun ds hl hp=>by
 obtain ⟨a,rfl⟩:=len1 hl
 rw [← ownrC_vc]
 have p0:FitP a:=hp _ (.head _)
 have h1:=p0.l1; have h8:=p0.l8; have h14:=p0.l14; have h10:=p0.l10; have h15:=p0.l15; have h17:=p0.l17
 refine ⟨by omega,by omega,by omega,by omega,by omega,by omega,h10,p0.log,by omega,by omega,(),0,rfl,rfl,rfl,Nat.zero_le _,fun g h1=>cond_of (fun c=>?_) (fun c=>?_)⟩
 ·have c:g < (a.fld 17).list.length:=by simpa using c
  have hm:=(p0.rd _ (List.mem_of_getElem? (get_nthD c))).acks
  simp only [Nat.zero_add,List.nil_append,List.take_length,List.take_take,Nat.min_self]
  exact ⟨⟨by omega,by omega⟩,by omega,by omega,by omega,by omega,⟨by omega,by omega⟩,g + 1,by omega,rfl,eta_take (fun e he=>(p0.rd e he).eta) c,by omega,by omega⟩
 ·have c:g=(a.fld 17).list.length:=by simp at c; omega
  subst c
  simp only [Nat.zero_add,List.nil_append,List.take_length,and_self]
end Go.Proofs.YtplflgclomiihaaGreat.XT
