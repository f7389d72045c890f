/- Contracts. -/
import Derived.Test.YtplflgclomiihaaGreatQVTF
import Derived.Test.YtplflgclomiihaaGreatProg
set_option linter.unusedVariables false
set_option linter.unusedSimpArgs false
namespace Go.Proofs.YtplflgclomiihaaGreat.XT
open Go Go.RowKit Go.Proofs.YtplflgclomiihaaGreat.Sv
set_option maxRecDepth 100000
def lastrC:Con:=⟨[.d false peerT],fun ds=>(fun (a:D)=>[(a.fld 10).list.length < 4611686018427387904]) (nthD ds 0),[.d (.i .u64),.d (.i .u64)],fun ds=>(fun (a:D)=>[.i (((lastIf (D.int (D.fld a 6)) (D.list (D.fld a 10))))),.i (((lastTf (D.int (D.fld a 7)) (D.list (D.fld a 10)))))]) (nthD ds 0),fun ds=>[]⟩
def lastrC_an:Anns:=fun _ _=>none
theorem lastrC_vc (a:D):(bif decide ((↑(a.fld 10).list.length:Int)=0) then (a.fld 6).int=lastIf (a.fld 6).int (a.fld 10).list∧(a.fld 7).int=lastTf (a.fld 7).int (a.fld 10).list else I64 ((↑(a.fld 10).list.length:Int) - 1)∧Idx ((↑(a.fld 10).list.length:Int) - 1) (a.fld 10).list.length∧IntKind.u64.wrap ((a.fld 6).int + IntKind.u64.wrap (↑(a.fld 10).list.length:Int))=lastIf (a.fld 6).int (a.fld 10).list∧((nthD (a.fld 10).list ((↑(a.fld 10).list.length:Int) - 1).toNat).fld 0).int=lastTf (a.fld 7).int (a.fld 10).list)=conGoal Tryz.prog noS lastrC_an 200 36 lastrC [a]:=by kernel_rfl
theorem lastrC_ok:ConOK Tryz.prog Gl.none 36 lastrC:=con_of mo (noS_ok _) (an:=lastrC_an) 200 fun ds hl hp=>by
 obtain ⟨a,rfl⟩:=len1 hl
 rw [← lastrC_vc]
 have p0:(a.fld 10).list.length < 4611686018427387904:=hp _ (.head _)
 refine cond_of (fun c=>?_) (fun c=>?_)
 ·have c:(a.fld 10).list.length=0:=by simpa using c
  exact ⟨by rw [lastIf,if_pos c],by rw [lastTf,if_pos c]⟩
 ·have hn:¬ (a.fld 10).list.length=0:=by simpa using c
  refine ⟨⟨by omega,by omega⟩,⟨by omega,by omega⟩,?_,?_⟩
  ·rw [lastIf,if_neg hn]; rfl
  ·rw [lastTf,if_neg hn]
   have:Int.toNat (((a.fld 10).list.length:Int) - 1)=(a.fld 10).list.length - 1:=by omega
   rw [this]
def hasC:Con:=⟨[.d false (.l (.i .i64)),.d false (.i .i64)],fun ds=>(fun (a:D) (b:D)=>[a.list.length < 4611686018427387904]) (nthD ds 0) (nthD ds 1),[.d .b],fun ds=>(fun (a:D) (b:D)=>[.b (a.list.any fun d=>decide (d.int=b.int))]) (nthD ds 0) (nthD ds 1),fun ds=>[]⟩
def hasC_an:Anns:=fun f i=>match f,i with
 | 38,2=>some fun A st=>match A.get 0,A.get 1 with
  | some (.dl _ _ xs),some (.v (.int _ n))=>⟨Nat,fun g=>[(5,.v (.int .i64 g))],fun _=>[],fun g=>g ≤ xs.length∧(xs.any fun d=>decide (d.int=n))=((xs.drop g).any fun d=>decide (d.int=n)),fun g=>xs.length - g⟩
  | _,_=>LAnn.bad
 | _,_=>none
theorem hasC_vc (a b:D):(∃ (g:Nat),EqI 0 (↑g:Int)∧(g ≤ a.list.length∧(a.list.any fun (d:D) ↦ decide (d.int=b.int))=(List.drop g a.list).any fun (d:D) ↦ decide (d.int=b.int))∧∀ (g:Nat),(g ≤ a.list.length∧(a.list.any fun (d:D) ↦ decide (d.int=b.int))=(List.drop g a.list).any fun (d:D) ↦ decide (d.int=b.int)) → bif decide ((↑g:Int) < (↑a.list.length:Int)) then Idx (↑g:Int) a.list.length∧bif decide ((nthD a.list g).int=b.int) then true=a.list.any fun (d:D) ↦ decide (d.int=b.int) else I64 ((↑g:Int) + 1)∧∃ (g_1:Nat),(↑g:Int) + 1=(↑g_1:Int)∧(g_1 ≤ a.list.length∧(a.list.any fun (d:D) ↦ decide (d.int=b.int))=(List.drop g_1 a.list).any fun (d:D) ↦ decide (d.int=b.int))∧a.list.length - g_1 < a.list.length - g else false=a.list.any fun (d:D) ↦ decide (d.int=b.int))=conGoal Tryz.prog noS hasC_an 200 38 hasC [a,b]:=by kernel_rfl
theorem hasC_ok:ConOK Tryz.prog Gl.none 38 hasC:=con_of mo (noS_ok _) (an:=hasC_an) 200 fun ds hl hp=>by
 obtain ⟨a,b,rfl⟩:=len2 hl
 rw [← hasC_vc]
 have p0:a.list.length < 4611686018427387904:=hp _ (.head _)
 refine ⟨0,rfl,⟨Nat.zero_le _,by simp⟩,fun g ⟨h1,h2⟩=>cond_of (fun c=>?_) (fun c=>?_)⟩
 ·have c:g < a.list.length:=by simpa using c
  have hd:((a.list.drop g).any fun d=>decide (d.int=b.int))=(decide ((nthD a.list g).int=b.int) || ((a.list.drop (g + 1)).any fun d=>decide (d.int=b.int))):=by
   have e:nthD a.list g=a.list[g]:=nthD_get (List.getElem?_eq_getElem c)
   rw [List.drop_eq_getElem_cons c,List.any_cons,e]
  refine ⟨⟨by omega,by omega⟩,cond_of (fun e=>?_) (fun e=>⟨⟨by omega,by omega⟩,g + 1,by omega,⟨by omega,?_⟩,by omega⟩)⟩
  ·rw [h2,hd,e]; rfl
  ·rw [h2,hd,e]; rfl
 ·have c:g=a.list.length:=by simp at c; omega
  rw [h2,c,List.drop_length]; rfl
theorem nthD_take:∀ {l:List D} {n m:Nat},m < n → nthD (l.take n) m=nthD l m
 | [],_,_,_=>by rw [List.take_nil]
 | _ :: _,0,_,h=>by omega
 | _ :: _,_ + 1,0,_=>rfl
 | _ :: r,n + 1,m + 1,h=>nthD_take (l:=r) (n:=n) (m:=m) (by omega)
theorem memL_take {base log:List D} {n:Nat}:∀ m,m ≤ n → memL base (log.take n) m=memL base log m
 | 0,_=>rfl
 | m + 1,h=>by
  have e:nthD (log.take n) m=nthD log m:=nthD_take (by omega)
  rw [memL,memL,e,memL_take m (by omega)]
def memrC:Con:=⟨[.d true peerT,.d true (.i .u64)],fun ds=>(fun (a:D) (b:D)=>[(a.fld 10).list.length < 4611686018427387904,U64 (a.fld 6).int,U64 b.int,(a.fld 8).list.length ≤ 17592186044416,∀ e ∈ (a.fld 10).list,(e.fld 3).list.length ≤ 17592186044416]) (nthD ds 0) (nthD ds 1),[.d (.l (.i .i64))],fun ds=>(fun (a:D) (b:D)=>[.l (mems a b.int)]) (nthD ds 0) (nthD ds 1),fun ds=>[]⟩
def memrC_an:Anns:=fun f i=>match f,i with
 | 37,6=>some fun A st=>match A.get 7,A.get 1,st.h.get 0 with
  | some (.dl _ _ base),some (.v (.int _ i)),some (.c _ cs)=>match cs.drop 6,cs.drop 10 with
   | .v (.int _ b) :: _,.dl _ _ log :: _=>⟨Nat,fun g=>[(8,.v (.int .u64 g)),(7,.dl true (.i .i64) (memL base log g))],fun _=>[],fun g=>(g:Int) ≤ i - b,fun g=>(i - b).toNat - g⟩
   | _,_=>LAnn.bad
  | _,_,_=>LAnn.bad
 | _,_=>none
theorem memrC_vc (a b:D):((a.fld 10).list.length < 4611686018427387904∧bif decide (b.int < (a.fld 6).int) || decide (lastIf (a.fld 6).int (a.fld 10).list < b.int) then []=mems a b.int else ∃ (g:Nat),EqI 0 (↑g:Int)∧(a.fld 8).list=memL (a.fld 8).list (a.fld 10).list g∧(↑g:Int) ≤ b.int - (a.fld 6).int∧∀ (g:Nat),(↑g:Int) ≤ b.int - (a.fld 6).int → bif decide ((↑g:Int) < IntKind.u64.wrap (b.int - (a.fld 6).int)) then Idx (↑g:Int) (a.fld 10).list.length∧bif decide (((nthD (a.fld 10).list g).fld 1).int=2) then Idx (↑g:Int) (a.fld 10).list.length∧∃ (g_1:Nat),IntKind.u64.wrap ((↑g:Int) + 1)=(↑g_1:Int)∧((nthD (a.fld 10).list g).fld 3).list=memL (a.fld 8).list (a.fld 10).list g_1∧(↑g_1:Int) ≤ b.int - (a.fld 6).int∧(b.int - (a.fld 6).int).toNat - g_1 < (b.int - (a.fld 6).int).toNat - g else ∃ (g_1:Nat),IntKind.u64.wrap ((↑g:Int) + 1)=(↑g_1:Int)∧memL (a.fld 8).list (a.fld 10).list g=memL (a.fld 8).list (a.fld 10).list g_1∧(↑g_1:Int) ≤ b.int - (a.fld 6).int∧(b.int - (a.fld 6).int).toNat - g_1 < (b.int - (a.fld 6).int).toNat - g else (0 + (memL (a.fld 8).list (a.fld 10).list g).length) * 8 ≤ 140737488355328∧0 + (memL (a.fld 8).list (a.fld 10).list g).length ≤ 9223372036854775807∧List.take (0 + (memL (a.fld 8).list (a.fld 10).list g).length) ([] ++ memL (a.fld 8).list (a.fld 10).list g)=mems a b.int)=conGoal Tryz.prog (addS 36 lastrC noS) memrC_an 200 37 memrC [a,b]:=by kernel_rfl
theorem memrC_ok:ConOK Tryz.prog Gl.none 37 memrC:=con_of mo (addS_ok lastrC_ok (noS_ok _)) (an:=memrC_an) 200 fun ds hl hp=>by
 obtain ⟨a,b,rfl⟩:=len2 hl
 rw [← memrC_vc]
 have p0:(a.fld 10).list.length < 4611686018427387904:=hp _ (.head _)
 have p1:U64 (a.fld 6).int:=hp _ (.tail _ (.head _))
 have p2:U64 b.int:=hp _ (.tail _ (.tail _ (.head _)))
 have p3:(a.fld 8).list.length ≤ 17592186044416:=hp _ (.tail _ (.tail _ (.tail _ (.head _))))
 have p4:∀ e ∈ (a.fld 10).list,(e.fld 3).list.length ≤ 17592186044416:=hp _ (.tail _ (.tail _ (.tail _ (.tail _ (.head _)))))
 refine ⟨p0,cond_of (fun c=>?_) (fun c=>?_)⟩
 ·have h:termB a b.int=false:=by unfold termB; exact congrArg not c
  rw [mems,h]; rfl
 ·have h:termB a b.int=true:=by unfold termB; exact congrArg not c
  obtain ⟨h1,h2⟩:=termB_in h p0 p1 p2
  have hw:IntKind.u64.wrap (b.int - (a.fld 6).int)=b.int - (a.fld 6).int:=u64_id ⟨by omega,by omega⟩
  rw [hw]
  refine ⟨0,rfl,rfl,by omega,fun g hg=>cond_of (fun e=>?_) (fun e=>?_)⟩
  ·have e:(g:Int) < b.int - (a.fld 6).int:=by simpa using e
   have hw1:IntKind.u64.wrap ((g:Int) + 1)=(g:Int) + 1:=u64_id ⟨by omega,by omega⟩
   rw [hw1]
   refine ⟨⟨by omega,by omega⟩,cond_of (fun k=>?_) (fun k=>?_)⟩
   ·have k:((nthD (a.fld 10).list g).fld 1).int=2:=by simpa using k
    exact ⟨⟨by omega,by omega⟩,g + 1,by omega,by rw [memL,if_pos k],by omega,by omega⟩
   ·have k:¬ ((nthD (a.fld 10).list g).fld 1).int=2:=by simpa using k
    exact ⟨g + 1,by omega,by rw [memL,if_neg k],by omega,by omega⟩
  ·have e:(g:Int)=b.int - (a.fld 6).int:=by simp at e; omega
   have hl:g ≤ (a.fld 10).list.length:=by omega
   have hlen:=memL_len p3 p4 g hl
   have hn:(b.int - (a.fld 6).int).toNat=g:=by omega
   have hm:mems a b.int=memL (a.fld 8).list (a.fld 10).list g:=by
    rw [mems,h,cond_true,upTo,hn,List.length_take,Nat.min_eq_left hl]
    exact memL_take g (Nat.le_refl _)
   rw [hm]
   refine ⟨by omega,by omega,by simp⟩
end Go.Proofs.YtplflgclomiihaaGreat.XT
