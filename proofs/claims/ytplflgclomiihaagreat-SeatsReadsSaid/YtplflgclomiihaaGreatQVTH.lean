/- Contracts. -/
import Derived.Test.YtplflgclomiihaaGreatQVTG
import Derived.Test.YtplflgclomiihaaGreatProg
set_option linter.unusedVariables false
set_option linter.unusedSimpArgs false
namespace Go.Proofs.YtplflgclomiihaaGreat.XT
open Go Go.RowKit Go.Proofs.YtplflgclomiihaaGreat.Sv
set_option maxRecDepth 100000
def inL (ids:List D) (n:Int):Bool:=ids.any fun d=>decide (d.int=n)
def cntL (xs ids:List D):Nat:=xs.countP fun x=>inL ids x.int
theorem any_at {xs:List D} {n:Int} {g:Nat} (c:g < xs.length):inL (xs.drop g) n=(decide ((nthD xs g).int=n) || inL (xs.drop (g + 1)) n):=by
 have e:nthD xs g=xs[g]:=nthD_get (List.getElem?_eq_getElem c)
 rw [inL,List.drop_eq_getElem_cons c,List.any_cons,e]; rfl
theorem cnt_at {xs ids:List D} {g:Nat} (c:g < xs.length):cntL (xs.take (g + 1)) ids=cntL (xs.take g) ids + (if inL ids (nthD xs g).int then 1 else 0):=by
 have e:nthD xs g=xs[g]:=nthD_get (List.getElem?_eq_getElem c)
 rw [cntL,List.take_succ_eq_append_getElem c,List.countP_append,e,List.countP_singleton]; rfl
theorem cnt_le (xs ids:List D):cntL xs ids ≤ xs.length:=List.countP_le_length
def contC:Con:=⟨[.d false (.l (.i .i64)),.d false (.i .i64)],fun ds=>(fun (a:D) (b:D)=>[a.list.length < 4611686018427387904]) (nthD ds 0) (nthD ds 1),[.d .b],fun ds=>(fun (a:D) (b:D)=>[.b (inL a.list b.int)]) (nthD ds 0) (nthD ds 1),fun ds=>[]⟩
def contC_an:Anns:=fun f i=>match f,i with
 | 86,2=>some fun A st=>match A.get 0,A.get 1 with
  | some (.dl _ _ xs),some (.v (.int _ n))=>⟨Nat,fun g=>[(8,.v (.int .i64 g))],fun _=>[],fun g=>g ≤ xs.length∧inL xs n=inL (xs.drop g) n,fun g=>xs.length - g⟩
  | _,_=>LAnn.bad
 | _,_=>none
theorem contC_vc (a b:D):(∃ (g:Nat),EqI 0 (↑g:Int)∧(g ≤ a.list.length∧inL a.list b.int=inL (List.drop g a.list) b.int)∧∀ (g:Nat),g ≤ a.list.length∧inL a.list b.int=inL (List.drop g a.list) b.int → bif decide ((↑g:Int) < (↑a.list.length:Int)) then Idx (↑g:Int) a.list.length∧bif decide (b.int=(nthD a.list g).int) then decide (0 ≤ (↑g:Int))=inL a.list b.int else I64 ((↑g:Int) + 1)∧∃ (g_1:Nat),(↑g:Int) + 1=(↑g_1:Int)∧(g_1 ≤ a.list.length∧inL a.list b.int=inL (List.drop g_1 a.list) b.int)∧a.list.length - g_1 < a.list.length - g else decide (LeI 0 (-1))=inL a.list b.int)=conGoal Tryz.prog noS contC_an 200 64 contC [a,b]:=by kernel_rfl
theorem contC_ok:ConOK Tryz.prog Gl.none 64 contC:=con_of mo (noS_ok _) (an:=contC_an) 200 fun ds hl hp=>by
 obtain ⟨a,b,rfl⟩:=len2 hl
 rw [← contC_vc]
 have p0:a.list.length < 4611686018427387904:=hp _ (.head _)
 refine ⟨0,rfl,⟨Nat.zero_le _,by simp⟩,fun g ⟨h1,h2⟩=>cond_of (fun c=>?_) (fun c=>?_)⟩
 ·have c:g < a.list.length:=by simpa using c
  refine ⟨⟨by omega,by omega⟩,cond_of (fun e=>?_) (fun e=>⟨⟨by omega,by omega⟩,g + 1,by omega,⟨by omega,?_⟩,by omega⟩)⟩
  ·have e:b.int=(nthD a.list g).int:=by simpa using e
   rw [h2,any_at c,decide_eq_true e.symm,Bool.true_or,decide_eq_true (by omega)]
  ·have e:¬ b.int=(nthD a.list g).int:=by simpa using e
   rw [h2,any_at c,decide_eq_false (fun h=>e h.symm),Bool.false_or]
 ·have c:g=a.list.length:=by simp at c; omega
  rw [h2,c,List.drop_length]; rfl
def majC:Con:=⟨[.d false (.l (.i .i64)),.d false (.l (.i .i64))],fun ds=>(fun (a:D) (b:D)=>[a.list.length < 2305843009213693952,b.list.length < 4611686018427387904]) (nthD ds 0) (nthD ds 1),[.d .b],fun ds=>(fun (a:D) (b:D)=>[.b (decide ((a.list.length:Int) < 2 * (cntL a.list b.list:Int)))]) (nthD ds 0) (nthD ds 1),fun ds=>[]⟩
def majC_an:Anns:=fun f i=>match f,i with
 | 32,3=>some fun A st=>match A.get 0,A.get 1 with
  | some (.dl _ _ xs),some (.dl _ _ ids)=>⟨Nat,fun g=>[(9,.v (.int .i64 g)),(5,.v (.int .i64 (cntL (xs.take g) ids:Int)))],fun _=>[],fun g=>g ≤ xs.length,fun g=>xs.length - g⟩
  | _,_=>LAnn.bad
 | _,_=>none
theorem majC_vc (a b:D):(∃ (g:Nat),EqI 0 (↑g:Int)∧EqI 0 (↑(cntL (List.take g a.list) b.list):Int)∧g ≤ a.list.length∧∀ (g:Nat),g ≤ a.list.length → bif decide ((↑g:Int) < (↑a.list.length:Int)) then Idx (↑g:Int) a.list.length∧b.list.length < 4611686018427387904∧bif inL b.list (nthD a.list g).int then I64 ((↑(cntL (List.take g a.list) b.list):Int) + 1)∧I64 ((↑g:Int) + 1)∧∃ (g_1:Nat),(↑g:Int) + 1=(↑g_1:Int)∧(↑(cntL (List.take g a.list) b.list):Int) + 1=(↑(cntL (List.take g_1 a.list) b.list):Int)∧g_1 ≤ a.list.length∧a.list.length - g_1 < a.list.length - g else I64 ((↑g:Int) + 1)∧∃ (g_1:Nat),(↑g:Int) + 1=(↑g_1:Int)∧(↑(cntL (List.take g a.list) b.list):Int)=(↑(cntL (List.take g_1 a.list) b.list):Int)∧g_1 ≤ a.list.length∧a.list.length - g_1 < a.list.length - g else I64 (2 * (↑(cntL (List.take g a.list) b.list):Int))∧decide ((↑a.list.length:Int) < 2 * (↑(cntL (List.take g a.list) b.list):Int))=decide ((↑a.list.length:Int) < 2 * (↑(cntL a.list b.list):Int)))=conGoal Tryz.prog (addS 64 contC noS) majC_an 200 32 majC [a,b]:=by kernel_rfl
theorem majC_ok:ConOK Tryz.prog Gl.none 32 majC:=con_of mo (addS_ok contC_ok (noS_ok _)) (an:=majC_an) 200 fun ds hl hp=>by
 obtain ⟨a,b,rfl⟩:=len2 hl
 rw [← majC_vc]
 have p0:a.list.length < 2305843009213693952:=hp _ (.head _)
 have p1:b.list.length < 4611686018427387904:=hp _ (.tail _ (.head _))
 refine ⟨0,rfl,rfl,Nat.zero_le _,fun g h1=>?_⟩
 have hc:=cnt_le (a.list.take g) b.list
 rw [List.length_take] at hc
 refine cond_of (fun c=>?_) (fun c=>?_)
 ·have c:g < a.list.length:=by simpa using c
  have hn:=cnt_at (ids:=b.list) c
  refine ⟨⟨by omega,by omega⟩,p1,cond_of (fun e=>?_) (fun e=>?_)⟩
  ·rw [if_pos e] at hn
   exact ⟨⟨by omega,by omega⟩,⟨by omega,by omega⟩,g + 1,by omega,by omega,by omega,by omega⟩
  ·rw [if_neg (by rw [e]; decide)] at hn
   exact ⟨⟨by omega,by omega⟩,g + 1,by omega,by omega,by omega,by omega⟩
 ·have c:g=a.list.length:=by simp at c; omega
  have ht:a.list.take g=a.list:=by rw [c,List.take_length]
  rw [ht] at hc ⊢
  exact ⟨⟨by omega,by omega⟩,rfl⟩
end Go.Proofs.YtplflgclomiihaaGreat.XT
