/- Contracts. -/
import Derived.Test.YtplflgclomiihaaGreatQVSM
import Derived.Test.YtplflgclomiihaaGreatProg
set_option linter.unusedVariables false
set_option linter.unusedSimpArgs false
namespace Go.Proofs.YtplflgclomiihaaGreat.XT
open Go Go.RowKit Go.Proofs.YtplflgclomiihaaGreat.Sv
set_option maxRecDepth 100000
def rdyB (ms:List D) (r:D):Bool:=decide ((ms.length:Int) < 2 * (cntL ms (r.fld 2).list:Int))
def rdyL (ms xs:List D):List D:=xs.filter fun r=>rdyB ms r
def stayL (ms xs:List D):List D:=xs.filter fun r=>!rdyB ms r
def ryP (a:D):D:=.t [.i (a.fld 0).int,.l (a.fld 1).list,.i (a.fld 2).int,.i (a.fld 3).int,.i (a.fld 4).int,.i (a.fld 5).int,.i (a.fld 6).int,.i (a.fld 7).int,.l (a.fld 8).list,.s (a.fld 9).str,.l (a.fld 10).list,.i (a.fld 11).int,.i (a.fld 12).int,.i (a.fld 13).int,.l (a.fld 14).list,.l (a.fld 15).list,.i (a.fld 16).int,.l (stayL (a.fld 1).list (a.fld 17).list)]
def outSY (a:D):D:=bif mayB a then ryP a else DT.zero peerT
def outSYL (a:D):List D:=bif mayB a then rdyL (a.fld 1).list (a.fld 17).list else []
theorem sy_yes {a:D} (h:mayB a=true):outSY a=ryP a∧outSYL a=rdyL (a.fld 1).list (a.fld 17).list:=⟨by unfold outSY; rw [h,cond_true],by unfold outSYL; rw [h,cond_true]⟩
theorem rdy_at {ms xs:List D} {g:Nat} (c:g < xs.length):rdyL ms (xs.take (g + 1))=rdyL ms (xs.take g) ++ (bif rdyB ms (nthD xs g) then [nthD xs g] else []):=by
 have e:nthD xs g=xs[g]:=nthD_get (List.getElem?_eq_getElem c)
 unfold rdyL
 rw [List.take_succ_eq_append_getElem c,List.filter_append,e]
 rw [List.filter_cons,List.filter_nil]
 cases rdyB ms xs[g] <;> rfl
theorem stay_at {ms xs:List D} {g:Nat} (c:g < xs.length):stayL ms (xs.take (g + 1))=stayL ms (xs.take g) ++ (bif rdyB ms (nthD xs g) then [] else [nthD xs g]):=by
 have e:nthD xs g=xs[g]:=nthD_get (List.getElem?_eq_getElem c)
 unfold stayL
 rw [List.take_succ_eq_append_getElem c,List.filter_append,e]
 rw [List.filter_cons,List.filter_nil]
 cases rdyB ms xs[g] <;> rfl
theorem rdy_none {ms xs:List D}:∀ {g:Nat},g ≤ xs.length → (∀ j,j < g → rdyB ms (nthD xs j)=false) → rdyL ms (xs.take g)=[]∧stayL ms (xs.take g)=xs.take g
 | 0,_,_=>⟨rfl,rfl⟩
 | g + 1,h,hj=>by
  obtain ⟨h1,h2⟩:=rdy_none (g:=g) (by omega) fun j hh=>hj j (by omega)
  have c:g < xs.length:=by omega
  have e:nthD xs g=xs[g]:=nthD_get (List.getElem?_eq_getElem c)
  have hb:=hj g (by omega)
  refine ⟨by rw [rdy_at c,hb,h1]; rfl,?_⟩
  rw [stay_at c,hb,h2,cond_false,e,List.take_succ_eq_append_getElem c]
theorem rdy_len (ms xs:List D) (g:Nat):(rdyL ms (xs.take g)).length ≤ g:=by
 have:=List.length_filter_le (fun r=>rdyB ms r) (xs.take g)
 rw [List.length_take] at this
 unfold rdyL; omega
theorem stay_len (ms xs:List D) (g:Nat):(stayL ms (xs.take g)).length ≤ g:=by
 have:=List.length_filter_le (fun r=>!rdyB ms r) (xs.take g)
 rw [List.length_take] at this
 unfold stayL; omega
noncomputable def SReadyC:Con:=⟨[.d true peerT],fun ds=>(fun (a:D)=>[FitP a,∀ f ∈ (a.fld 15).list,U64 (f.fld 2).int]) (nthD ds 0),[.d peerT,.d (.l rdT),.d (.i .i64)],fun ds=>(fun (a:D)=>[etaD peerT (outSY a),.l (outSYL a),.i (bif mayB a then 0 else 2)]) (nthD ds 0),fun ds=>[]⟩
noncomputable def SReadyC_an:Anns:=fun f i=>match f,i with
 | 63,2=>some fun A st=>match A.get 0,A.get 1 with
  | some (.ow l m),some (.fn _ (.ptr pb _ :: .ptr lb _ :: _))=>match st.h.get l,st.h.get pb,st.h.get lb with
   | some (.q _ _ xs),some (.c _ (_ :: mm :: _)),some (.c et _)=>match seqC st mm with
    | some ms=>⟨Nat,fun g=>[(8,.v (.int .i64 g))],fun _=>[],fun g=>g ≤ xs.length∧∀ j,j < g → rdyB ms (nthD xs j)=false,fun g=>xs.length - g⟩
    | _=>LAnn.bad
   | _,_,_=>LAnn.bad
  | _,_=>LAnn.bad
 | 30,5=>some fun A st=>match A.get 0,A.get 1 with
  | some (.ow l m),some (.fn _ (.ptr pb _ :: .ptr lb _ :: _))=>match st.h.get l,st.h.get pb,st.h.get lb with
   | some (.q _ _ xs),some (.c _ (_ :: mm :: _)),some (.c et _)=>match seqC st mm with
    | some ms=>⟨Nat × List D,fun g=>[(5,.v (.int .i64 (stayL ms (xs.take g.1)).length)),(6,.v (.int .i64 g.1))],fun g=>[(l,.q 54 rdT g.2),(lb,.c et [.ow st.nx (rdyL ms (xs.take g.1)).length]),(st.nx,.q 54 rdT (rdyL ms (xs.take g.1)))],fun g=>(stayL ms (xs.take g.1)).length < g.1∧g.1 ≤ xs.length∧g.2.length=xs.length∧g.2.take (stayL ms (xs.take g.1)).length=stayL ms (xs.take g.1)∧g.2.drop g.1=xs.drop g.1,fun g=>xs.length - g.1⟩
    | _=>LAnn.bad
   | _,_,_=>LAnn.bad
  | _,_=>LAnn.bad
 | _,_=>none
theorem SReadyC_vc (a:D):((a.fld 10).list.length < 4611686018427387904∧(0 ≤ (a.fld 6).int∧(a.fld 6).int ≤ 18446744073709551615)∧(a.fld 8).list.length ≤ 17592186044416∧(∀ (e:D),e ∈ (a.fld 10).list → (e.fld 3).list.length ≤ 17592186044416)∧(a.fld 1).list.length ≤ 17592186044416∧(a.fld 14).list.length ≤ 17592186044416∧(a.fld 15).list.length ≤ 17592186044416∧(a.fld 17).list.length ≤ 17592186044416∧(∀ (r:D),r ∈ (a.fld 17).list → (r.fld 2).list.length ≤ 17592186044416)∧0 ≤ (a.fld 7).int∧(∀ (e:D),e ∈ (a.fld 10).list → 0 ≤ (e.fld 0).int∧0 ≤ (e.fld 1).int)∧0 ≤ (a.fld 4).int∧bif !decide (condI (mayB a) 0 2=0) then EqI 0 ((outSY a).fld 0).int∧[]=((outSY a).fld 1).list∧EqI 0 ((outSY a).fld 2).int∧EqI 0 ((outSY a).fld 3).int∧EqI 0 ((outSY a).fld 4).int∧EqI 0 ((outSY a).fld 5).int∧EqI 0 ((outSY a).fld 6).int∧EqI 0 ((outSY a).fld 7).int∧[]=((outSY a).fld 8).list∧ByteArray.mk #[]=((outSY a).fld 9).str∧[]=((outSY a).fld 10).list∧EqI 0 ((outSY a).fld 11).int∧EqI 0 ((outSY a).fld 12).int∧EqI 0 ((outSY a).fld 13).int∧[]=((outSY a).fld 14).list∧[]=((outSY a).fld 15).list∧EqI 0 ((outSY a).fld 16).int∧[]=((outSY a).fld 17).list∧[]=outSYL a∧condI (mayB a) 0 2=condI (mayB a) 0 2 else FitP (putF peerT a [])∧(∀ (f:D),f ∈ (a.fld 15).list → 0 ≤ (f.fld 2).int∧(f.fld 2).int ≤ 18446744073709551615)∧mayB a=true∧∃ (g:Nat),EqI 0 (↑g:Int)∧(g ≤ (a.fld 17).list.length∧∀ (j:Nat),j < g → rdyB (List.take (a.fld 1).list.length (a.fld 1).list) (nthD (a.fld 17).list j)=false)∧∀ (g:Nat),(g ≤ (a.fld 17).list.length∧∀ (j:Nat),j < g → rdyB (List.take (a.fld 1).list.length (a.fld 1).list) (nthD (a.fld 17).list j)=false) → bif decide ((↑g:Int) < (↑(a.fld 17).list.length:Int)) then Idx (↑g:Int) (a.fld 17).list.length∧(List.take (a.fld 1).list.length (a.fld 1).list).length < 2305843009213693952∧((nthD (a.fld 17).list g).fld 2).list.length < 4611686018427387904∧bif decide ((↑(List.take (a.fld 1).list.length (a.fld 1).list).length:Int) < 2 * (↑(cntL (List.take (a.fld 1).list.length (a.fld 1).list) ((nthD (a.fld 17).list g).fld 2).list):Int)) then [putF rdT (nthD (a.fld 17).list g) []].length * 40 ≤ 140737488355328∧[putF rdT (nthD (a.fld 17).list g) []].length ≤ 9223372036854775807∧bif decide ((↑(List.take (a.fld 1).list.length (a.fld 1).list).length:Int) < 2 * (↑(cntL (List.take (a.fld 1).list.length (a.fld 1).list) ((nthD (a.fld 17).list g).fld 2).list):Int)) then I64 ((↑g:Int) + 1)∧∃ (g_1:Nat × List D),(↑g:Int)=(↑(stayL (List.take (a.fld 1).list.length (a.fld 1).list) (List.take g_1.fst (a.fld 17).list)).length:Int)∧(↑g:Int) + 1=(↑g_1.fst:Int)∧(a.fld 17).list=g_1.snd∧[putF rdT (nthD (a.fld 17).list g) []].length=(rdyL (List.take (a.fld 1).list.length (a.fld 1).list) (List.take g_1.fst (a.fld 17).list)).length∧[putF rdT (nthD (a.fld 17).list g) []]=rdyL (List.take (a.fld 1).list.length (a.fld 1).list) (List.take g_1.fst (a.fld 17).list)∧((stayL (List.take (a.fld 1).list.length (a.fld 1).list) (List.take g_1.fst (a.fld 17).list)).length < g_1.fst∧g_1.fst ≤ (a.fld 17).list.length∧g_1.snd.length=(a.fld 17).list.length∧List.take (stayL (List.take (a.fld 1).list.length (a.fld 1).list) (List.take g_1.fst (a.fld 17).list)).length g_1.snd=stayL (List.take (a.fld 1).list.length (a.fld 1).list) (List.take g_1.fst (a.fld 17).list)∧List.drop g_1.fst g_1.snd=List.drop g_1.fst (a.fld 17).list)∧∀ (g:Nat × List D),(stayL (List.take (a.fld 1).list.length (a.fld 1).list) (List.take g.fst (a.fld 17).list)).length < g.fst∧g.fst ≤ (a.fld 17).list.length∧g.snd.length=(a.fld 17).list.length∧List.take (stayL (List.take (a.fld 1).list.length (a.fld 1).list) (List.take g.fst (a.fld 17).list)).length g.snd=stayL (List.take (a.fld 1).list.length (a.fld 1).list) (List.take g.fst (a.fld 17).list)∧List.drop g.fst g.snd=List.drop g.fst (a.fld 17).list → bif decide ((↑g.fst:Int) < (↑(a.fld 17).list.length:Int)) then Idx (↑g.fst:Int) (a.fld 17).list.length∧(List.take (a.fld 1).list.length (a.fld 1).list).length < 2305843009213693952∧((nthD g.snd g.fst).fld 2).list.length < 4611686018427387904∧bif decide ((↑(List.take (a.fld 1).list.length (a.fld 1).list).length:Int) < 2 * (↑(cntL (List.take (a.fld 1).list.length (a.fld 1).list) ((nthD g.snd g.fst).fld 2).list):Int)) then ((rdyL (List.take (a.fld 1).list.length (a.fld 1).list) (List.take g.fst (a.fld 17).list)).length + [putF rdT (nthD g.snd g.fst) []].length) * 40 ≤ 140737488355328∧(rdyL (List.take (a.fld 1).list.length (a.fld 1).list) (List.take g.fst (a.fld 17).list)).length + [putF rdT (nthD g.snd g.fst) []].length ≤ 9223372036854775807∧bif !decide ((↑(List.take (a.fld 1).list.length (a.fld 1).list).length:Int) < 2 * (↑(cntL (List.take (a.fld 1).list.length (a.fld 1).list) ((nthD g.snd g.fst).fld 2).list):Int)) then Idx (↑(stayL (List.take (a.fld 1).list.length (a.fld 1).list) (List.take g.fst (a.fld 17).list)).length:Int) (a.fld 17).list.length∧I64 ((↑(stayL (List.take (a.fld 1).list.length (a.fld 1).list) (List.take g.fst (a.fld 17).list)).length:Int) + 1)∧I64 ((↑g.fst:Int) + 1)∧∃ (g_2:Nat × List D),(↑(stayL (List.take (a.fld 1).list.length (a.fld 1).list) (List.take g.fst (a.fld 17).list)).length:Int) + 1=(↑(stayL (List.take (a.fld 1).list.length (a.fld 1).list) (List.take g_2.fst (a.fld 17).list)).length:Int)∧(↑g.fst:Int) + 1=(↑g_2.fst:Int)∧setD g.snd (stayL (List.take (a.fld 1).list.length (a.fld 1).list) (List.take g.fst (a.fld 17).list)).length (putF rdT (nthD g.snd g.fst) [])=g_2.snd∧(rdyL (List.take (a.fld 1).list.length (a.fld 1).list) (List.take g.fst (a.fld 17).list)).length + [putF rdT (nthD g.snd g.fst) []].length=(rdyL (List.take (a.fld 1).list.length (a.fld 1).list) (List.take g_2.fst (a.fld 17).list)).length∧List.take (rdyL (List.take (a.fld 1).list.length (a.fld 1).list) (List.take g.fst (a.fld 17).list)).length (rdyL (List.take (a.fld 1).list.length (a.fld 1).list) (List.take g.fst (a.fld 17).list)) ++ [putF rdT (nthD g.snd g.fst) []]=rdyL (List.take (a.fld 1).list.length (a.fld 1).list) (List.take g_2.fst (a.fld 17).list)∧((stayL (List.take (a.fld 1).list.length (a.fld 1).list) (List.take g_2.fst (a.fld 17).list)).length < g_2.fst∧g_2.fst ≤ (a.fld 17).list.length∧g_2.snd.length=(a.fld 17).list.length∧List.take (stayL (List.take (a.fld 1).list.length (a.fld 1).list) (List.take g_2.fst (a.fld 17).list)).length g_2.snd=stayL (List.take (a.fld 1).list.length (a.fld 1).list) (List.take g_2.fst (a.fld 17).list)∧List.drop g_2.fst g_2.snd=List.drop g_2.fst (a.fld 17).list)∧(a.fld 17).list.length - g_2.fst < (a.fld 17).list.length - g.fst else I64 ((↑g.fst:Int) + 1)∧∃ (g_2:Nat × List D),(↑(stayL (List.take (a.fld 1).list.length (a.fld 1).list) (List.take g.fst (a.fld 17).list)).length:Int)=(↑(stayL (List.take (a.fld 1).list.length (a.fld 1).list) (List.take g_2.fst (a.fld 17).list)).length:Int)∧(↑g.fst:Int) + 1=(↑g_2.fst:Int)∧g.snd=g_2.snd∧(rdyL (List.take (a.fld 1).list.length (a.fld 1).list) (List.take g.fst (a.fld 17).list)).length + [putF rdT (nthD g.snd g.fst) []].length=(rdyL (List.take (a.fld 1).list.length (a.fld 1).list) (List.take g_2.fst (a.fld 17).list)).length∧List.take (rdyL (List.take (a.fld 1).list.length (a.fld 1).list) (List.take g.fst (a.fld 17).list)).length (rdyL (List.take (a.fld 1).list.length (a.fld 1).list) (List.take g.fst (a.fld 17).list)) ++ [putF rdT (nthD g.snd g.fst) []]=rdyL (List.take (a.fld 1).list.length (a.fld 1).list) (List.take g_2.fst (a.fld 17).list)∧((stayL (List.take (a.fld 1).list.length (a.fld 1).list) (List.take g_2.fst (a.fld 17).list)).length < g_2.fst∧g_2.fst ≤ (a.fld 17).list.length∧g_2.snd.length=(a.fld 17).list.length∧List.take (stayL (List.take (a.fld 1).list.length (a.fld 1).list) (List.take g_2.fst (a.fld 17).list)).length g_2.snd=stayL (List.take (a.fld 1).list.length (a.fld 1).list) (List.take g_2.fst (a.fld 17).list)∧List.drop g_2.fst g_2.snd=List.drop g_2.fst (a.fld 17).list)∧(a.fld 17).list.length - g_2.fst < (a.fld 17).list.length - g.fst else bif !decide ((↑(List.take (a.fld 1).list.length (a.fld 1).list).length:Int) < 2 * (↑(cntL (List.take (a.fld 1).list.length (a.fld 1).list) ((nthD g.snd g.fst).fld 2).list):Int)) then Idx (↑(stayL (List.take (a.fld 1).list.length (a.fld 1).list) (List.take g.fst (a.fld 17).list)).length:Int) (a.fld 17).list.length∧I64 ((↑(stayL (List.take (a.fld 1).list.length (a.fld 1).list) (List.take g.fst (a.fld 17).list)).length:Int) + 1)∧I64 ((↑g.fst:Int) + 1)∧∃ (g_2:Nat × List D),(↑(stayL (List.take (a.fld 1).list.length (a.fld 1).list) (List.take g.fst (a.fld 17).list)).length:Int) + 1=(↑(stayL (List.take (a.fld 1).list.length (a.fld 1).list) (List.take g_2.fst (a.fld 17).list)).length:Int)∧(↑g.fst:Int) + 1=(↑g_2.fst:Int)∧setD g.snd (stayL (List.take (a.fld 1).list.length (a.fld 1).list) (List.take g.fst (a.fld 17).list)).length (putF rdT (nthD g.snd g.fst) [])=g_2.snd∧(rdyL (List.take (a.fld 1).list.length (a.fld 1).list) (List.take g.fst (a.fld 17).list)).length=(rdyL (List.take (a.fld 1).list.length (a.fld 1).list) (List.take g_2.fst (a.fld 17).list)).length∧rdyL (List.take (a.fld 1).list.length (a.fld 1).list) (List.take g.fst (a.fld 17).list)=rdyL (List.take (a.fld 1).list.length (a.fld 1).list) (List.take g_2.fst (a.fld 17).list)∧((stayL (List.take (a.fld 1).list.length (a.fld 1).list) (List.take g_2.fst (a.fld 17).list)).length < g_2.fst∧g_2.fst ≤ (a.fld 17).list.length∧g_2.snd.length=(a.fld 17).list.length∧List.take (stayL (List.take (a.fld 1).list.length (a.fld 1).list) (List.take g_2.fst (a.fld 17).list)).length g_2.snd=stayL (List.take (a.fld 1).list.length (a.fld 1).list) (List.take g_2.fst (a.fld 17).list)∧List.drop g_2.fst g_2.snd=List.drop g_2.fst (a.fld 17).list)∧(a.fld 17).list.length - g_2.fst < (a.fld 17).list.length - g.fst else I64 ((↑g.fst:Int) + 1)∧∃ (g_2:Nat × List D),(↑(stayL (List.take (a.fld 1).list.length (a.fld 1).list) (List.take g.fst (a.fld 17).list)).length:Int)=(↑(stayL (List.take (a.fld 1).list.length (a.fld 1).list) (List.take g_2.fst (a.fld 17).list)).length:Int)∧(↑g.fst:Int) + 1=(↑g_2.fst:Int)∧g.snd=g_2.snd∧(rdyL (List.take (a.fld 1).list.length (a.fld 1).list) (List.take g.fst (a.fld 17).list)).length=(rdyL (List.take (a.fld 1).list.length (a.fld 1).list) (List.take g_2.fst (a.fld 17).list)).length∧rdyL (List.take (a.fld 1).list.length (a.fld 1).list) (List.take g.fst (a.fld 17).list)=rdyL (List.take (a.fld 1).list.length (a.fld 1).list) (List.take g_2.fst (a.fld 17).list)∧((stayL (List.take (a.fld 1).list.length (a.fld 1).list) (List.take g_2.fst (a.fld 17).list)).length < g_2.fst∧g_2.fst ≤ (a.fld 17).list.length∧g_2.snd.length=(a.fld 17).list.length∧List.take (stayL (List.take (a.fld 1).list.length (a.fld 1).list) (List.take g_2.fst (a.fld 17).list)).length g_2.snd=stayL (List.take (a.fld 1).list.length (a.fld 1).list) (List.take g_2.fst (a.fld 17).list)∧List.drop g_2.fst g_2.snd=List.drop g_2.fst (a.fld 17).list)∧(a.fld 17).list.length - g_2.fst < (a.fld 17).list.length - g.fst else 0 ≤ (↑(stayL (List.take (a.fld 1).list.length (a.fld 1).list) (List.take g.fst (a.fld 17).list)).length:Int)∧(↑(stayL (List.take (a.fld 1).list.length (a.fld 1).list) (List.take g.fst (a.fld 17).list)).length:Int) ≤ (↑(a.fld 17).list.length:Int)∧(↑(a.fld 17).list.length:Int) ≤ (↑(a.fld 17).list.length:Int)∧0 ≤ (↑(stayL (List.take (a.fld 1).list.length (a.fld 1).list) (List.take g.fst (a.fld 17).list)).length:Int)∧(↑(stayL (List.take (a.fld 1).list.length (a.fld 1).list) (List.take g.fst (a.fld 17).list)).length:Int) ≤ (↑(a.fld 17).list.length:Int)∧(rdyL (List.take (a.fld 1).list.length (a.fld 1).list) (List.take g.fst (a.fld 17).list)).length=(rdyL (List.take (a.fld 1).list.length (a.fld 1).list) (List.take g.fst (a.fld 17).list)).length∧(a.fld 0).int=((outSY a).fld 0).int∧List.take (a.fld 1).list.length (a.fld 1).list=((outSY a).fld 1).list∧(a.fld 2).int=((outSY a).fld 2).int∧(a.fld 3).int=((outSY a).fld 3).int∧(a.fld 4).int=((outSY a).fld 4).int∧(a.fld 5).int=((outSY a).fld 5).int∧(a.fld 6).int=((outSY a).fld 6).int∧(a.fld 7).int=((outSY a).fld 7).int∧List.take (a.fld 8).list.length (a.fld 8).list=((outSY a).fld 8).list∧(a.fld 9).str=((outSY a).fld 9).str∧List.take (a.fld 10).list.length (a.fld 10).list=((outSY a).fld 10).list∧(a.fld 11).int=((outSY a).fld 11).int∧(a.fld 12).int=((outSY a).fld 12).int∧(a.fld 13).int=((outSY a).fld 13).int∧List.take (a.fld 14).list.length (a.fld 14).list=((outSY a).fld 14).list∧List.take (a.fld 15).list.length (a.fld 15).list=((outSY a).fld 15).list∧(a.fld 16).int=((outSY a).fld 16).int∧List.take (stayL (List.take (a.fld 1).list.length (a.fld 1).list) (List.take g.fst (a.fld 17).list)).length (List.take (stayL (List.take (a.fld 1).list.length (a.fld 1).list) (List.take g.fst (a.fld 17).list)).length g.snd ++ (List.replicate ((↑(a.fld 17).list.length:Int) - (↑(stayL (List.take (a.fld 1).list.length (a.fld 1).list) (List.take g.fst (a.fld 17).list)).length:Int)).toNat (D.t [D.i 0,D.i 0,D.l []]) ++ List.drop ((stayL (List.take (a.fld 1).list.length (a.fld 1).list) (List.take g.fst (a.fld 17).list)).length + ((↑(a.fld 17).list.length:Int) - (↑(stayL (List.take (a.fld 1).list.length (a.fld 1).list) (List.take g.fst (a.fld 17).list)).length:Int)).toNat) g.snd))=((outSY a).fld 17).list∧List.take (rdyL (List.take (a.fld 1).list.length (a.fld 1).list) (List.take g.fst (a.fld 17).list)).length (rdyL (List.take (a.fld 1).list.length (a.fld 1).list) (List.take g.fst (a.fld 17).list))=outSYL a∧EqI 0 (condI (mayB a) 0 2) else I64 ((↑g:Int) + 1)∧False else bif decide ((↑(List.take (a.fld 1).list.length (a.fld 1).list).length:Int) < 2 * (↑(cntL (List.take (a.fld 1).list.length (a.fld 1).list) ((nthD (a.fld 17).list g).fld 2).list):Int)) then I64 ((↑g:Int) + 1)∧∃ (g:Nat × List D),False else I64 ((↑g:Int) + 1)∧∃ (g_1:Nat),(↑g:Int) + 1=(↑g_1:Int)∧(g_1 ≤ (a.fld 17).list.length∧∀ (j:Nat),j < g_1 → rdyB (List.take (a.fld 1).list.length (a.fld 1).list) (nthD (a.fld 17).list j)=false)∧(a.fld 17).list.length - g_1 < (a.fld 17).list.length - g else (a.fld 0).int=((outSY a).fld 0).int∧List.take (a.fld 1).list.length (a.fld 1).list=((outSY a).fld 1).list∧(a.fld 2).int=((outSY a).fld 2).int∧(a.fld 3).int=((outSY a).fld 3).int∧(a.fld 4).int=((outSY a).fld 4).int∧(a.fld 5).int=((outSY a).fld 5).int∧(a.fld 6).int=((outSY a).fld 6).int∧(a.fld 7).int=((outSY a).fld 7).int∧List.take (a.fld 8).list.length (a.fld 8).list=((outSY a).fld 8).list∧(a.fld 9).str=((outSY a).fld 9).str∧List.take (a.fld 10).list.length (a.fld 10).list=((outSY a).fld 10).list∧(a.fld 11).int=((outSY a).fld 11).int∧(a.fld 12).int=((outSY a).fld 12).int∧(a.fld 13).int=((outSY a).fld 13).int∧List.take (a.fld 14).list.length (a.fld 14).list=((outSY a).fld 14).list∧List.take (a.fld 15).list.length (a.fld 15).list=((outSY a).fld 15).list∧(a.fld 16).int=((outSY a).fld 16).int∧List.take (a.fld 17).list.length (a.fld 17).list=((outSY a).fld 17).list∧[]=outSYL a∧EqI 0 (condI (mayB a) 0 2))=conGoal Tryz.prog (addS 32 majC (addS 23 sownC (addS 21 MayC noS))) SReadyC_an 200 11 SReadyC [a]:=by kernel_rfl
theorem SReadyC_ok:ConOK Tryz.prog Gl.none 11 SReadyC:=con_of mo (addS_ok majC_ok (addS_ok sownC_ok (addS_ok MayC_ok (noS_ok _)))) (an:=SReadyC_an) 200 fun ds hl hp=>by
 obtain ⟨a,rfl⟩:=len1 hl
 rw [← SReadyC_vc]
 have p0:FitP a:=hp _ (.head _)
 have p1:∀ f ∈ (a.fld 15).list,U64 (f.fld 2).int:=hp _ (.tail _ (.head _))
 have h17:=p0.l17; have h1:=p0.l1
 rw [c02]
 refine FitP.pre p0 (cond_of (fun c=>?_) (fun c=>?_))
 ·have hm:mayB a=false:=(Bool.not_eq_true' _).mp c
  have ho:outSY a=DT.zero peerT:=by unfold outSY; rw [hm,cond_false]
  have hL:outSYL a=[]:=by unfold outSYL; rw [hm,cond_false]
  rw [ho,hL]
  exact ⟨rfl,rfl,rfl,rfl,rfl,rfl,rfl,rfl,rfl,rfl,rfl,rfl,rfl,rfl,rfl,rfl,rfl,rfl,rfl,rfl⟩
 have hm:mayB a=true:=(Bool.not_eq_false' _).mp c
 obtain ⟨ho,hL⟩:=sy_yes hm
 have hE:condI (mayB a) 0 2=0:=by rw [hm]; rfl
 simp only [List.take_length,-eq_self]
 have hfit:∀ j,j < (a.fld 17).list.length → FitR (nthD (a.fld 17).list j):=fun j h=>p0.rd _ (List.mem_of_getElem? (get_nthD h))
 have hput:∀ j,j < (a.fld 17).list.length → putF rdT (nthD (a.fld 17).list j) []=nthD (a.fld 17).list j:=fun j h=>(hfit j h).eta
 refine ⟨FitP.eta p0,p1,hm,0,rfl,⟨Nat.zero_le _,fun j h=>absurd h (Nat.not_lt_zero _)⟩,fun g ⟨h2,h3⟩=>cond_of (fun d=>?_) (fun d=>?_)⟩
 ·have d:g < (a.fld 17).list.length:=by simpa using d
  rw [hput g d]
  refine ⟨⟨by omega,by omega⟩,by omega,(by have:=(hfit g d).acks; omega),cond_of (fun r=>⟨(by show 1 * 40 ≤ 140737488355328; omega),(by show 1 ≤ 9223372036854775807; omega),cond_of (fun _=>?_) (fun k=>by rw [r] at k; cases k)⟩) (fun r=>cond_of (fun k=>by rw [r] at k; cases k) (fun _=>?_))⟩
  ·have hr:rdyB (a.fld 1).list (nthD (a.fld 17).list g)=true:=r
   obtain ⟨n1,n2⟩:=rdy_none h2 h3
   have e1:stayL (a.fld 1).list ((a.fld 17).list.take (g + 1))=(a.fld 17).list.take g:=by rw [stay_at d,hr,n2,cond_true,List.append_nil]
   have e2:rdyL (a.fld 1).list ((a.fld 17).list.take (g + 1))=[nthD (a.fld 17).list g]:=by rw [rdy_at d,hr,n1,cond_true,List.nil_append]
   have e3:((a.fld 17).list.take g).length=g:=by rw [List.length_take]; omega
   refine ⟨⟨by omega,by omega⟩,(g + 1,(a.fld 17).list),?_,by simp,rfl,?_,e2.symm,⟨?_,?_,rfl,?_,rfl⟩,?_⟩
   ·show (g:Int)=((stayL (a.fld 1).list ((a.fld 17).list.take (g + 1))).length:Int)
    rw [e1,e3]
   ·show _=(rdyL (a.fld 1).list ((a.fld 17).list.take (g + 1))).length
    rw [e2]
   ·show (stayL (a.fld 1).list ((a.fld 17).list.take (g + 1))).length < g + 1
    rw [e1,e3]; omega
   ·show g + 1 ≤ _; omega
   ·show List.take (stayL (a.fld 1).list ((a.fld 17).list.take (g + 1))).length (a.fld 17).list=stayL (a.fld 1).list ((a.fld 17).list.take (g + 1))
    rw [e1,e3]
   rintro ⟨j,ys⟩ ⟨i1,i2,i3,i4,i5⟩
   simp only at i1 i2 i3 i4 i5 ⊢
   have hrl:=rdy_len (a.fld 1).list (a.fld 17).list j
   refine cond_of (fun d2=>?_) (fun d2=>?_)
   ·have d2:j < (a.fld 17).list.length:=by simpa using d2
    have hy:nthD ys j=nthD (a.fld 17).list j:=nthD_drop i5
    rw [hy,hput j d2]
    refine ⟨⟨by omega,by omega⟩,by omega,(by have:=(hfit j d2).acks; omega),cond_of (fun r2=>⟨(by show (_ + 1) * 40 ≤ 140737488355328; omega),(by show _ + 1 ≤ 9223372036854775807; omega),cond_of (fun k=>by rw [r2] at k; cases k) (fun _=>?_)⟩) (fun r2=>cond_of (fun _=>?_) (fun k=>by rw [r2] at k; cases k))⟩
    ·have hr2:rdyB (a.fld 1).list (nthD (a.fld 17).list j)=true:=r2
     have e3:rdyL (a.fld 1).list ((a.fld 17).list.take (j + 1))=rdyL (a.fld 1).list ((a.fld 17).list.take j) ++ [nthD (a.fld 17).list j]:=by rw [rdy_at d2,hr2,cond_true]
     have e4:stayL (a.fld 1).list ((a.fld 17).list.take (j + 1))=stayL (a.fld 1).list ((a.fld 17).list.take j):=by rw [stay_at d2,hr2,cond_true,List.append_nil]
     refine ⟨⟨by omega,by omega⟩,(j + 1,ys),?_,by simp,rfl,?_,e3.symm,⟨?_,?_,i3,?_,?_⟩,?_⟩
     ·show _=((stayL (a.fld 1).list ((a.fld 17).list.take (j + 1))).length:Int)
      rw [e4]
     ·show _=(rdyL (a.fld 1).list ((a.fld 17).list.take (j + 1))).length
      rw [e3,List.length_append]
     ·show (stayL (a.fld 1).list ((a.fld 17).list.take (j + 1))).length < j + 1
      rw [e4]; omega
     ·show j + 1 ≤ _; omega
     ·show List.take (stayL (a.fld 1).list ((a.fld 17).list.take (j + 1))).length ys=stayL (a.fld 1).list ((a.fld 17).list.take (j + 1))
      rw [e4]; exact i4
     ·show List.drop (j + 1) ys=List.drop (j + 1) (a.fld 17).list
      have:=congrArg (List.drop 1) i5
      rwa [List.drop_drop,List.drop_drop] at this
     ·show _ - (j + 1) < _ - j; omega
    ·have hr2:rdyB (a.fld 1).list (nthD (a.fld 17).list j)=false:=r2
     have e3:rdyL (a.fld 1).list ((a.fld 17).list.take (j + 1))=rdyL (a.fld 1).list ((a.fld 17).list.take j):=by rw [rdy_at d2,hr2,cond_false,List.append_nil]
     have e4:stayL (a.fld 1).list ((a.fld 17).list.take (j + 1))=stayL (a.fld 1).list ((a.fld 17).list.take j) ++ [nthD (a.fld 17).list j]:=by rw [stay_at d2,hr2,cond_false]
     have e5:(stayL (a.fld 1).list ((a.fld 17).list.take (j + 1))).length=(stayL (a.fld 1).list ((a.fld 17).list.take j)).length + 1:=by rw [e4,List.length_append]; rfl
     refine ⟨⟨by omega,by omega⟩,⟨by omega,by omega⟩,⟨by omega,by omega⟩,(j + 1,setD ys (stayL (a.fld 1).list ((a.fld 17).list.take j)).length (nthD (a.fld 17).list j)),?_,by simp,rfl,?_,e3.symm,⟨?_,?_,?_,?_,?_⟩,?_⟩
     ·show _=((stayL (a.fld 1).list ((a.fld 17).list.take (j + 1))).length:Int)
      rw [e5]; omega
     ·show _=(rdyL (a.fld 1).list ((a.fld 17).list.take (j + 1))).length
      rw [e3]
     ·show (stayL (a.fld 1).list ((a.fld 17).list.take (j + 1))).length < j + 1
      rw [e5]; omega
     ·show j + 1 ≤ _; omega
     ·show (setD ys _ _).length=_
      rw [setD_len (by omega)]; exact i3
     ·show List.take (stayL (a.fld 1).list ((a.fld 17).list.take (j + 1))).length (setD ys _ _)=stayL (a.fld 1).list ((a.fld 17).list.take (j + 1))
      rw [e5,setD_take (by omega),i4,e4]
     ·show List.drop (j + 1) (setD ys _ _)=List.drop (j + 1) (a.fld 17).list
      rw [setD_drop (by omega) (by omega)]
      have:=congrArg (List.drop 1) i5
      rwa [List.drop_drop,List.drop_drop] at this
     ·show _ - (j + 1) < _ - j; omega
   ·have d2:j=(a.fld 17).list.length:=by have:=of_decide_eq_false d2; omega
    subst d2
    simp only [List.take_length,-eq_self] at i1 i4 ⊢
    rw [ho,hL]
    refine ⟨by omega,by omega,Int.le_refl _,by omega,by omega,by trivial,rfl,rfl,rfl,rfl,rfl,rfl,rfl,rfl,rfl,rfl,rfl,rfl,rfl,rfl,rfl,rfl,rfl,?_,rfl,hE.symm⟩
    rw [List.take_append_of_le_length (by rw [List.length_take]; omega),List.take_take,Nat.min_self]
    exact i4
  ·refine ⟨⟨by omega,by omega⟩,g + 1,by omega,⟨by omega,fun j hj=>?_⟩,by omega⟩
   by_cases hj':j=g
   ·rw [hj']; exact r
   ·exact h3 j (by omega)
 ·have d:g=(a.fld 17).list.length:=by have:=of_decide_eq_false d; omega
  subst d
  obtain ⟨n1,n2⟩:=rdy_none h2 h3
  rw [List.take_length] at n1 n2
  rw [ho,hL,n1]
  exact ⟨rfl,rfl,rfl,rfl,rfl,rfl,rfl,rfl,rfl,rfl,rfl,rfl,rfl,rfl,rfl,rfl,rfl,n2.symm,rfl,hE.symm⟩
noncomputable def readyrC:Con:=⟨[.d true peerT],fun ds=>(fun (a:D)=>[FitP a,mayB a=true]) (nthD ds 0),[.d peerT,.d (.l rdT)],fun ds=>(fun (a:D)=>[etaD peerT (outSY a),.l (outSYL a)]) (nthD ds 0),fun ds=>[]⟩
noncomputable def readyrC_an:Anns:=fun f i=>match f,i with
 | 13,2000006=>some fun A st=>⟨Unit,fun _=>[],fun _=>[(4,.q 54 rdT []),(5,.q 54 rdT [])],fun _=>True,fun _=>0⟩
 | 13,6=>some fun A st=>match A.get 1 with
  | some (.ptr l _)=>match st.h.get l with
   | some (.c et (_ :: .dl _ _ ms :: r))=>match r.drop 15 with
    | .dl _ _ xs :: _=>⟨Nat,fun g=>[(6,.v (.int .i64 g)),(4,.ow st.nx (rdyL ms (xs.take g)).length),(5,.ow (st.nx + 1) (stayL ms (xs.take g)).length)],fun g=>[(st.nx,.q 54 rdT (rdyL ms (xs.take g))),(st.nx + 1,.q 54 rdT (stayL ms (xs.take g)))],fun g=>g ≤ xs.length,fun g=>xs.length - g⟩
    | _=>LAnn.bad
   | _=>LAnn.bad
  | _=>LAnn.bad
 | _,_=>none
theorem readyrC_vc (a:D):(FitP (putF peerT a [])∧bif !decide ((a.fld 4).int=2) then (a.fld 0).int=((outSY a).fld 0).int∧(a.fld 1).list=((outSY a).fld 1).list∧(a.fld 2).int=((outSY a).fld 2).int∧(a.fld 3).int=((outSY a).fld 3).int∧(a.fld 4).int=((outSY a).fld 4).int∧(a.fld 5).int=((outSY a).fld 5).int∧(a.fld 6).int=((outSY a).fld 6).int∧(a.fld 7).int=((outSY a).fld 7).int∧(a.fld 8).list=((outSY a).fld 8).list∧(a.fld 9).str=((outSY a).fld 9).str∧(a.fld 10).list=((outSY a).fld 10).list∧(a.fld 11).int=((outSY a).fld 11).int∧(a.fld 12).int=((outSY a).fld 12).int∧(a.fld 13).int=((outSY a).fld 13).int∧(a.fld 14).list=((outSY a).fld 14).list∧(a.fld 15).list=((outSY a).fld 15).list∧(a.fld 16).int=((outSY a).fld 16).int∧(a.fld 17).list=((outSY a).fld 17).list∧[]=outSYL a else ∃ (g:Unit),∃ (g:Nat),EqI 0 (↑g:Int)∧0=(rdyL (a.fld 1).list (List.take g (a.fld 17).list)).length∧0=(stayL (a.fld 1).list (List.take g (a.fld 17).list)).length∧[]=rdyL (a.fld 1).list (List.take g (a.fld 17).list)∧[]=stayL (a.fld 1).list (List.take g (a.fld 17).list)∧g ≤ (a.fld 17).list.length∧∀ (g:Nat),g ≤ (a.fld 17).list.length → bif decide ((↑g:Int) < (↑(a.fld 17).list.length:Int)) then Idx (↑g:Int) (a.fld 17).list.length∧(a.fld 1).list.length < 2305843009213693952∧((nthD (a.fld 17).list g).fld 2).list.length < 4611686018427387904∧bif decide ((↑(a.fld 1).list.length:Int) < 2 * (↑(cntL (a.fld 1).list ((nthD (a.fld 17).list g).fld 2).list):Int)) then Idx (↑g:Int) (a.fld 17).list.length∧((rdyL (a.fld 1).list (List.take g (a.fld 17).list)).length + [putF rdT (nthD (a.fld 17).list g) []].length) * 40 ≤ 140737488355328∧(rdyL (a.fld 1).list (List.take g (a.fld 17).list)).length + [putF rdT (nthD (a.fld 17).list g) []].length ≤ 9223372036854775807∧I64 ((↑g:Int) + 1)∧∃ (g_1:Nat),(↑g:Int) + 1=(↑g_1:Int)∧(rdyL (a.fld 1).list (List.take g (a.fld 17).list)).length + [putF rdT (nthD (a.fld 17).list g) []].length=(rdyL (a.fld 1).list (List.take g_1 (a.fld 17).list)).length∧(stayL (a.fld 1).list (List.take g (a.fld 17).list)).length=(stayL (a.fld 1).list (List.take g_1 (a.fld 17).list)).length∧List.take (rdyL (a.fld 1).list (List.take g (a.fld 17).list)).length (rdyL (a.fld 1).list (List.take g (a.fld 17).list)) ++ [putF rdT (nthD (a.fld 17).list g) []]=rdyL (a.fld 1).list (List.take g_1 (a.fld 17).list)∧stayL (a.fld 1).list (List.take g (a.fld 17).list)=stayL (a.fld 1).list (List.take g_1 (a.fld 17).list)∧g_1 ≤ (a.fld 17).list.length∧(a.fld 17).list.length - g_1 < (a.fld 17).list.length - g else Idx (↑g:Int) (a.fld 17).list.length∧((stayL (a.fld 1).list (List.take g (a.fld 17).list)).length + [putF rdT (nthD (a.fld 17).list g) []].length) * 40 ≤ 140737488355328∧(stayL (a.fld 1).list (List.take g (a.fld 17).list)).length + [putF rdT (nthD (a.fld 17).list g) []].length ≤ 9223372036854775807∧I64 ((↑g:Int) + 1)∧∃ (g_1:Nat),(↑g:Int) + 1=(↑g_1:Int)∧(rdyL (a.fld 1).list (List.take g (a.fld 17).list)).length=(rdyL (a.fld 1).list (List.take g_1 (a.fld 17).list)).length∧(stayL (a.fld 1).list (List.take g (a.fld 17).list)).length + [putF rdT (nthD (a.fld 17).list g) []].length=(stayL (a.fld 1).list (List.take g_1 (a.fld 17).list)).length∧rdyL (a.fld 1).list (List.take g (a.fld 17).list)=rdyL (a.fld 1).list (List.take g_1 (a.fld 17).list)∧List.take (stayL (a.fld 1).list (List.take g (a.fld 17).list)).length (stayL (a.fld 1).list (List.take g (a.fld 17).list)) ++ [putF rdT (nthD (a.fld 17).list g) []]=stayL (a.fld 1).list (List.take g_1 (a.fld 17).list)∧g_1 ≤ (a.fld 17).list.length∧(a.fld 17).list.length - g_1 < (a.fld 17).list.length - g else (a.fld 0).int=((outSY a).fld 0).int∧(a.fld 1).list=((outSY a).fld 1).list∧(a.fld 2).int=((outSY a).fld 2).int∧(a.fld 3).int=((outSY a).fld 3).int∧(a.fld 4).int=((outSY a).fld 4).int∧(a.fld 5).int=((outSY a).fld 5).int∧(a.fld 6).int=((outSY a).fld 6).int∧(a.fld 7).int=((outSY a).fld 7).int∧(a.fld 8).list=((outSY a).fld 8).list∧(a.fld 9).str=((outSY a).fld 9).str∧(a.fld 10).list=((outSY a).fld 10).list∧(a.fld 11).int=((outSY a).fld 11).int∧(a.fld 12).int=((outSY a).fld 12).int∧(a.fld 13).int=((outSY a).fld 13).int∧(a.fld 14).list=((outSY a).fld 14).list∧(a.fld 15).list=((outSY a).fld 15).list∧(a.fld 16).int=((outSY a).fld 16).int∧List.take (stayL (a.fld 1).list (List.take g (a.fld 17).list)).length (stayL (a.fld 1).list (List.take g (a.fld 17).list))=((outSY a).fld 17).list∧List.take (rdyL (a.fld 1).list (List.take g (a.fld 17).list)).length (rdyL (a.fld 1).list (List.take g (a.fld 17).list))=outSYL a)=conGoal Tryz.prog (addS 41 majrC (addS 6 ownrdC noS)) readyrC_an 200 13 readyrC [a]:=by kernel_rfl
theorem readyrC_ok:ConOK Tryz.prog Gl.none 13 readyrC:=con_of mo (addS_ok majrC_ok (addS_ok ownrdC_ok (noS_ok _))) (an:=readyrC_an) 200 fun ds hl hp=>by
 obtain ⟨a,rfl⟩:=len1 hl
 rw [← readyrC_vc]
 have p0:FitP a:=hp _ (.head _)
 have p1:mayB a=true:=hp _ (.tail _ (.head _))
 have h17:=p0.l17; have h1:=p0.l1
 obtain ⟨ho,hL⟩:=sy_yes p1
 have hfit:∀ j,j < (a.fld 17).list.length → FitR (nthD (a.fld 17).list j):=fun j h=>p0.rd _ (List.mem_of_getElem? (get_nthD h))
 have hput:∀ j,j < (a.fld 17).list.length → putF rdT (nthD (a.fld 17).list j) []=nthD (a.fld 17).list j:=fun j h=>(hfit j h).eta
 refine ⟨FitP.eta p0,cond_of (fun r=>?_) (fun r=>⟨(),0,rfl,rfl,rfl,rfl,rfl,Nat.zero_le _,fun g hg=>cond_of (fun d=>?_) (fun d=>?_)⟩)⟩
 ·have r':¬ (a.fld 4).int=2:=of_decide_eq_false ((Bool.not_eq_true' _).mp r)
  have h0:(a.fld 17).list=[]:=by
   rcases (mayB_iff.1 p1).role with ⟨_,k⟩ | ⟨_,k⟩ | ⟨k,_⟩
   ·unfold mayL0 at k
    simp only [Bool.and_eq_true,decide_eq_true_eq] at k
    exact List.eq_nil_of_length_eq_zero (by omega)
   ·unfold mayL1 at k
    simp only [Bool.and_eq_true,decide_eq_true_eq] at k
    exact List.eq_nil_of_length_eq_zero (by omega)
   ·exact absurd k r'
  have e17:(a.fld 17).list=((ryP a).fld 17).list:=by show (a.fld 17).list=stayL (a.fld 1).list (a.fld 17).list; rw [h0]; rfl
  rw [ho,hL]
  exact ⟨rfl,rfl,rfl,rfl,rfl,rfl,rfl,rfl,rfl,rfl,rfl,rfl,rfl,rfl,rfl,rfl,rfl,e17,by rw [h0]; rfl⟩
 ·have d:g < (a.fld 17).list.length:=by simpa using d
  have hrl:=rdy_len (a.fld 1).list (a.fld 17).list g
  have hsl:=stay_len (a.fld 1).list (a.fld 17).list g
  rw [hput g d]
  refine ⟨⟨by omega,by omega⟩,by omega,(by have:=(hfit g d).acks; omega),cond_of (fun r2=>?_) (fun r2=>?_)⟩
  ·have hr2:rdyB (a.fld 1).list (nthD (a.fld 17).list g)=true:=r2
   have e3:rdyL (a.fld 1).list ((a.fld 17).list.take (g + 1))=rdyL (a.fld 1).list ((a.fld 17).list.take g) ++ [nthD (a.fld 17).list g]:=by rw [rdy_at d,hr2,cond_true]
   have e4:stayL (a.fld 1).list ((a.fld 17).list.take (g + 1))=stayL (a.fld 1).list ((a.fld 17).list.take g):=by rw [stay_at d,hr2,cond_true,List.append_nil]
   exact ⟨⟨by omega,by omega⟩,(by show (_ + 1) * 40 ≤ 140737488355328; omega),(by show _ + 1 ≤ 9223372036854775807; omega),⟨by omega,by omega⟩,g + 1,by omega,by rw [e3,List.length_append],by rw [e4],by rw [List.take_length,e3],e4.symm,by omega,by omega⟩
  ·have hr2:rdyB (a.fld 1).list (nthD (a.fld 17).list g)=false:=r2
   have e3:rdyL (a.fld 1).list ((a.fld 17).list.take (g + 1))=rdyL (a.fld 1).list ((a.fld 17).list.take g):=by rw [rdy_at d,hr2,cond_false,List.append_nil]
   have e4:stayL (a.fld 1).list ((a.fld 17).list.take (g + 1))=stayL (a.fld 1).list ((a.fld 17).list.take g) ++ [nthD (a.fld 17).list g]:=by rw [stay_at d,hr2,cond_false]
   exact ⟨⟨by omega,by omega⟩,(by show (_ + 1) * 40 ≤ 140737488355328; omega),(by show _ + 1 ≤ 9223372036854775807; omega),⟨by omega,by omega⟩,g + 1,by omega,by rw [e3],by rw [e4,List.length_append],e3.symm,by rw [List.take_length,e4],by omega,by omega⟩
 ·have d:g=(a.fld 17).list.length:=by have:=of_decide_eq_false d; omega
  subst d
  simp only [List.take_length,-eq_self]
  rw [ho,hL]
  exact ⟨rfl,rfl,rfl,rfl,rfl,rfl,rfl,rfl,rfl,rfl,rfl,rfl,rfl,rfl,rfl,rfl,rfl,rfl,rfl⟩
end Go.Proofs.YtplflgclomiihaaGreat.XT
