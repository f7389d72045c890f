/- Contracts. -/
import Derived.Test.YtplflgclomiihaaQVTK
import Derived.Test.YtplflgclomiihaaProg
set_option linter.unusedVariables false
set_option linter.unusedSimpArgs false
namespace Go.Proofs.Ytplflgclomiihaa.XT
open Go Go.RowKit Go.Proofs.Ytplflgclomiihaa.Sv
set_option maxRecDepth 100000
def othL (xs:List D) (n:Int):List D:=(xs.filter fun d=>!decide (d.int=n)).map fun d=>.i d.int
theorem oth_at {xs:List D} {n:Int} {g:Nat} (c:g < xs.length):othL (xs.take (g + 1)) n=othL (xs.take g) n ++ (if (nthD xs g).int=n then [] else [.i (nthD xs g).int]):=by
 have e:nthD xs g=xs[g]:=nthD_get (List.getElem?_eq_getElem c)
 rw [othL,List.take_succ_eq_append_getElem c,List.filter_append,List.map_append,e]
 congr 1
 by_cases h:(xs[g]).int=n
 ·simp [h]
 ·simp [h]
theorem oth_le (xs:List D) (n:Int):(othL xs n).length ≤ xs.length:=by
 rw [othL,List.length_map]; exact List.length_filter_le _ _
def othrC:Con:=⟨[.d false peerT],fun ds=>(fun (a:D)=>[(a.fld 1).list.length ≤ 1099511627776]) (nthD ds 0),[.own 3 (.i .i64)],fun ds=>(fun (a:D)=>[.l (othL (a.fld 1).list (a.fld 0).int)]) (nthD ds 0),fun ds=>[]⟩
def othrC_an:Anns:=fun f i=>match f,i with
 | 103,2000003=>some fun A st=>⟨Unit,fun _=>[],fun _=>[(3,.q 3 (.i .i64) [])],fun _=>True,fun _=>0⟩
 | 103,3=>some fun A st=>match st.h.get 0 with
  | some (.c _ (.v (.int _ n) :: .dl _ _ xs :: _))=>⟨Nat,fun g=>[(4,.v (.int .i64 g)),(3,.ow st.nx (othL (xs.take g) n).length)],fun g=>[(st.nx,.q 3 (.i .i64) (othL (xs.take g) n))],fun g=>g ≤ xs.length,fun g=>xs.length - g⟩
  | _=>LAnn.bad
 | _,_=>none
theorem othrC_vc (a:D):(∃ (g:Unit),∃ (g:Nat),EqI 0 (↑g:Int)∧0=(othL (List.take g (a.fld 1).list) (a.fld 0).int).length∧[]=othL (List.take g (a.fld 1).list) (a.fld 0).int∧g ≤ (a.fld 1).list.length∧∀ (g:Nat),g ≤ (a.fld 1).list.length → bif decide ((↑g:Int) < (↑(a.fld 1).list.length:Int)) then Idx (↑g:Int) (a.fld 1).list.length∧bif !decide ((nthD (a.fld 1).list g).int=(a.fld 0).int) then Idx (↑g:Int) (a.fld 1).list.length∧((othL (List.take g (a.fld 1).list) (a.fld 0).int).length + [D.i (nthD (a.fld 1).list g).int].length) * 8 ≤ 140737488355328∧(othL (List.take g (a.fld 1).list) (a.fld 0).int).length + [D.i (nthD (a.fld 1).list g).int].length ≤ 9223372036854775807∧I64 ((↑g:Int) + 1)∧∃ (g_1:Nat),(↑g:Int) + 1=(↑g_1:Int)∧(othL (List.take g (a.fld 1).list) (a.fld 0).int).length + [D.i (nthD (a.fld 1).list g).int].length=(othL (List.take g_1 (a.fld 1).list) (a.fld 0).int).length∧List.take (othL (List.take g (a.fld 1).list) (a.fld 0).int).length (othL (List.take g (a.fld 1).list) (a.fld 0).int) ++ [D.i (nthD (a.fld 1).list g).int]=othL (List.take g_1 (a.fld 1).list) (a.fld 0).int∧g_1 ≤ (a.fld 1).list.length∧(a.fld 1).list.length - g_1 < (a.fld 1).list.length - g else I64 ((↑g:Int) + 1)∧∃ (g_1:Nat),(↑g:Int) + 1=(↑g_1:Int)∧(othL (List.take g (a.fld 1).list) (a.fld 0).int).length=(othL (List.take g_1 (a.fld 1).list) (a.fld 0).int).length∧othL (List.take g (a.fld 1).list) (a.fld 0).int=othL (List.take g_1 (a.fld 1).list) (a.fld 0).int∧g_1 ≤ (a.fld 1).list.length∧(a.fld 1).list.length - g_1 < (a.fld 1).list.length - g else List.take (othL (List.take g (a.fld 1).list) (a.fld 0).int).length (othL (List.take g (a.fld 1).list) (a.fld 0).int)=othL (a.fld 1).list (a.fld 0).int)=conGoal Try.prog noS othrC_an 200 103 othrC [a]:=by kernel_rfl
theorem othrC_ok:ConOK Try.prog Gl.none 103 othrC:=con_of mo (noS_ok _) (an:=othrC_an) 200 fun ds hl hp=>by
 obtain ⟨a,rfl⟩:=len1 hl
 rw [← othrC_vc]
 have p0:(a.fld 1).list.length ≤ 1099511627776:=hp _ (.head _)
 refine ⟨(),0,rfl,rfl,rfl,Nat.zero_le _,fun g h1=>cond_of (fun c=>?_) (fun c=>?_)⟩
 ·have c:g < (a.fld 1).list.length:=by simpa using c
  have hn:=oth_at (n:=(a.fld 0).int) c
  have hl:=oth_le ((a.fld 1).list.take g) (a.fld 0).int
  rw [List.length_take] at hl
  refine ⟨⟨by omega,by omega⟩,cond_of (fun e=>?_) (fun e=>?_)⟩
  ·have e:¬ (nthD (a.fld 1).list g).int=(a.fld 0).int:=by simpa using e
   rw [if_neg e] at hn
   rw [List.take_length,← hn]
   have hs:([D.i (nthD (a.fld 1).list g).int]:List D).length=1:=rfl
   rw [hs]
   refine ⟨⟨by omega,by omega⟩,by omega,by omega,⟨by omega,by omega⟩,g + 1,by omega,?_,rfl,by omega,by omega⟩
   rw [hn,List.length_append]; rfl
  ·have e:(nthD (a.fld 1).list g).int=(a.fld 0).int:=by simpa using e
   rw [if_pos e,List.append_nil] at hn
   exact ⟨⟨by omega,by omega⟩,g + 1,by omega,by rw [hn],hn.symm,by omega,by omega⟩
 ·have c:g=(a.fld 1).list.length:=by simp at c; omega
  rw [List.take_length,c,List.take_length]
end Go.Proofs.Ytplflgclomiihaa.XT
