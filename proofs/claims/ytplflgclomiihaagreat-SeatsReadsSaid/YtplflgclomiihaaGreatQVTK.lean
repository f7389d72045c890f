/- Contracts. -/
import Derived.Test.YtplflgclomiihaaGreatQVTJ
import Derived.Test.YtplflgclomiihaaGreatProg
set_option linter.unusedVariables false
set_option linter.unusedSimpArgs false
namespace Go.Proofs.YtplflgclomiihaaGreat.XT
open Go Go.RowKit Go.Proofs.YtplflgclomiihaaGreat.Sv
set_option maxRecDepth 100000
def majrC:Con:=⟨[.d false (.l (.i .i64)),.d false (.l (.i .i64))],fun ds=>(fun (a:D) (b:D)=>[a.list.length < 2305843009213693952,b.list.length < 4611686018427387904]) (nthD ds 0) (nthD ds 1),[.d .b],fun ds=>(fun (a:D) (b:D)=>[.b (decide ((a.list.length:Int) < 2 * (cntL a.list b.list:Int)))]) (nthD ds 0) (nthD ds 1),fun ds=>[]⟩
def majrC_an:Anns:=fun f i=>match f,i with
 | 41,3=>some fun A st=>match A.get 0,A.get 1 with
  | some (.dl _ _ xs),some (.dl _ _ ids)=>⟨Nat,fun g=>[(6,.v (.int .i64 g)),(5,.v (.int .i64 (cntL (xs.take g) ids:Int)))],fun _=>[],fun g=>g ≤ xs.length,fun g=>xs.length - g⟩
  | _,_=>LAnn.bad
 | _,_=>none
theorem majrC_vc (a b:D):(∃ (g:Nat),EqI 0 (↑g:Int)∧EqI 0 (↑(cntL (List.take g a.list) b.list):Int)∧g ≤ a.list.length∧∀ (g:Nat),g ≤ a.list.length → bif decide ((↑g:Int) < (↑a.list.length:Int)) then Idx (↑g:Int) a.list.length∧b.list.length < 4611686018427387904∧bif b.list.any fun (d:D) ↦ decide (d.int=(nthD a.list g).int) then I64 ((↑(cntL (List.take g a.list) b.list):Int) + 1)∧I64 ((↑g:Int) + 1)∧∃ (g_1:Nat),(↑g:Int) + 1=(↑g_1:Int)∧(↑(cntL (List.take g a.list) b.list):Int) + 1=(↑(cntL (List.take g_1 a.list) b.list):Int)∧g_1 ≤ a.list.length∧a.list.length - g_1 < a.list.length - g else I64 ((↑g:Int) + 1)∧∃ (g_1:Nat),(↑g:Int) + 1=(↑g_1:Int)∧(↑(cntL (List.take g a.list) b.list):Int)=(↑(cntL (List.take g_1 a.list) b.list):Int)∧g_1 ≤ a.list.length∧a.list.length - g_1 < a.list.length - g else I64 (2 * (↑(cntL (List.take g a.list) b.list):Int))∧decide ((↑a.list.length:Int) < 2 * (↑(cntL (List.take g a.list) b.list):Int))=decide ((↑a.list.length:Int) < 2 * (↑(cntL a.list b.list):Int)))=conGoal Tryz.prog (addS 38 hasC noS) majrC_an 200 41 majrC [a,b]:=by kernel_rfl
theorem majrC_ok:ConOK Tryz.prog Gl.none 41 majrC:=con_of mo (addS_ok hasC_ok (noS_ok _)) (an:=majrC_an) 200 fun ds hl hp=>by
 obtain ⟨a,b,rfl⟩:=len2 hl
 rw [← majrC_vc]
 have p0:a.list.length < 2305843009213693952:=hp _ (.head _)
 have p1:b.list.length < 4611686018427387904:=hp _ (.tail _ (.head _))
 refine ⟨0,rfl,rfl,Nat.zero_le _,fun g h1=>?_⟩
 have hc:=cnt_le (a.list.take g) b.list
 rw [List.length_take] at hc
 refine cond_of (fun c=>?_) (fun c=>?_)
 ·have c:g < a.list.length:=by simpa using c
  have hn:=cnt_at (ids:=b.list) c
  refine ⟨⟨by omega,by omega⟩,p1,cond_of (fun e=>?_) (fun e=>?_)⟩
  ·rw [if_pos (show inL b.list (nthD a.list g).int=true from e)] at hn
   exact ⟨⟨by omega,by omega⟩,⟨by omega,by omega⟩,g + 1,by omega,by omega,by omega,by omega⟩
  ·rw [if_neg (by rw [show inL b.list (nthD a.list g).int=false from e]; decide)] at hn
   exact ⟨⟨by omega,by omega⟩,g + 1,by omega,by omega,by omega,by omega⟩
 ·have c:g=a.list.length:=by simp at c; omega
  have ht:a.list.take g=a.list:=by rw [c,List.take_length]
  rw [ht] at hc ⊢
  exact ⟨⟨by omega,by omega⟩,rfl⟩
end Go.Proofs.YtplflgclomiihaaGreat.XT
