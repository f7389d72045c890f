/- Contracts. -/
import Derived.Test.YtplflgclomiihaaGreatQVTN
import Derived.Test.YtplflgclomiihaaGreatProg
set_option linter.unusedVariables false
set_option linter.unusedSimpArgs false
namespace Go.Proofs.YtplflgclomiihaaGreat.XT
open Go Go.RowKit Go.Proofs.YtplflgclomiihaaGreat.Sv
set_option maxRecDepth 100000
def folAt (last:Int) (f:D):Bool:=!(decide ((f.fld 1).int < 1) || decide (u64 (last + 1) < (f.fld 1).int) || decide ((f.fld 1).int ≤ (f.fld 2).int))
def fids (xs:List D):List D:=xs.map fun f=>.i (f.fld 0).int
def folB (p:D) (last:Int):Bool:=(p.fld 15).list.all (folAt last) && decide (ints (fids (p.fld 15).list)=ints (dflL (p.fld 1).list (p.fld 0).int))
theorem fids_len (xs:List D):(fids xs).length=xs.length:=by simp [fids]
theorem fids_at {xs:List D} {g:Nat} (c:g < xs.length):fids (xs.take (g + 1))=fids (xs.take g) ++ [.i ((nthD xs g).fld 0).int]:=by
 have e:nthD xs g=xs[g]:=nthD_get (List.getElem?_eq_getElem c)
 rw [fids,List.take_succ_eq_append_getElem c,List.map_append,e]; rfl
theorem nthD_map {f:D → D}:∀ {xs:List D} {j:Nat},j < xs.length → nthD (xs.map f) j=f (nthD xs j)
 | [],_,h=>absurd h (Nat.not_lt_zero _)
 | _ :: _,0,_=>rfl
 | _ :: r,j + 1,h=>nthD_map (xs:=r) (by simpa using h)
theorem all_get {p:D → Bool} {xs:List D}:xs.all p=true ↔ ∀ j,j < xs.length → p (nthD xs j)=true:=by
 rw [List.all_eq_true]
 constructor
 ·intro h j hj; exact h _ (List.mem_of_getElem? (get_nthD hj))
 ·intro h d hd
  obtain ⟨j,hj⟩:=List.mem_iff_getElem?.1 hd
  rw [← nthD_get hj]; exact h j (List.getElem?_eq_some_iff.1 hj).1
theorem folB_eq {p:D} {last:Int}:folB p last=true ↔ (∀ j,j < (p.fld 15).list.length → folAt last (nthD (p.fld 15).list j)=true)∧(p.fld 15).list.length=(othL (p.fld 1).list (p.fld 0).int).length∧∀ j,j < (p.fld 15).list.length → ((nthD (p.fld 15).list j).fld 0).int=(nthD (othL (p.fld 1).list (p.fld 0).int) j).int:=by
 unfold folB
 rw [Bool.and_eq_true,all_get,dfl_ints,ints_eq,fids_len]
 constructor
 ·rintro ⟨h1,h2,h3⟩
  exact ⟨h1,h2,fun j hj=>by rw [← h3 j hj]; unfold fids; rw [nthD_map hj]; rfl⟩
 ·rintro ⟨h1,h2,h3⟩
  exact ⟨h1,h2,fun j hj=>by rw [← h3 j hj]; unfold fids; rw [nthD_map hj]; rfl⟩
theorem oth_split {xs:List D} {n:Int} {g:Nat} (c:g < xs.length) (h:¬ (nthD xs g).int=n):othL xs n=othL (xs.take g) n ++ D.i (nthD xs g).int :: othL (xs.drop (g + 1)) n:=by
 have e:=oth_at (n:=n) c
 rw [if_neg h] at e
 have:othL xs n=othL (xs.take (g + 1)) n ++ othL (xs.drop (g + 1)) n:=by
  unfold othL
  rw [← List.map_append,← List.filter_append,List.take_append_drop]
 rw [this,e,List.append_assoc]; rfl
theorem nthD_mid {xs ys:List D} {d:D}:nthD (xs ++ d :: ys) xs.length=d:=by
 have:(xs ++ d :: ys)[xs.length]?=some d:=by simp
 exact nthD_get this
theorem bool_not {b:Bool} (h:b=true → False):false=b:=by cases b with | false=>rfl | true=>exact (h rfl).elim
def folC:Con:=⟨[.d false peerT,.d false (.i .u64)],fun ds=>(fun (a:D) (b:D)=>[(a.fld 15).list.length ≤ 17592186044416,(a.fld 1).list.length ≤ 17592186044416]) (nthD ds 0) (nthD ds 1),[.d .b],fun ds=>(fun (a:D) (b:D)=>[.b (folB a b.int)]) (nthD ds 0) (nthD ds 1),fun ds=>[]⟩
def folC_an:Anns:=fun f i=>match f,i with
 | 72,2000003=>some fun A st=>⟨Unit,fun _=>[],fun _=>[(5,.q 3 (.i .i64) [])],fun _=>True,fun _=>0⟩
 | 72,3=>some fun A st=>match A.get 9,A.get 1 with
  | some (.dl _ _ xs),some (.v (.int _ last))=>⟨Nat,fun g=>[(11,.v (.int .i64 g)),(5,.ow st.nx g)],fun g=>[(st.nx,.q 3 (.i .i64) (fids (xs.take g)))],fun g=>g ≤ xs.length∧∀ j,j < g → folAt last (nthD xs j)=true,fun g=>xs.length - g⟩
  | _,_=>LAnn.bad
 | _,_=>none
theorem folC_vc (a b:D):(∃ (g:Unit),∃ (g:Nat),EqI 0 (↑g:Int)∧0=g∧[]=fids (List.take g (a.fld 15).list)∧(g ≤ (a.fld 15).list.length∧∀ (j:Nat),j < g → folAt b.int (nthD (a.fld 15).list j)=true)∧∀ (g:Nat),(g ≤ (a.fld 15).list.length∧∀ (j:Nat),j < g → folAt b.int (nthD (a.fld 15).list j)=true) → bif decide ((↑g:Int) < (↑(a.fld 15).list.length:Int)) then Idx (↑g:Int) (a.fld 15).list.length∧bif decide (((nthD (a.fld 15).list g).fld 1).int < 1) || decide (IntKind.u64.wrap (b.int + 1) < ((nthD (a.fld 15).list g).fld 1).int) || decide (((nthD (a.fld 15).list g).fld 1).int ≤ ((nthD (a.fld 15).list g).fld 2).int) then false=folB a b.int else (g + [D.i ((nthD (a.fld 15).list g).fld 0).int].length) * 8 ≤ 140737488355328∧g + [D.i ((nthD (a.fld 15).list g).fld 0).int].length ≤ 9223372036854775807∧I64 ((↑g:Int) + 1)∧∃ (g_1:Nat),(↑g:Int) + 1=(↑g_1:Int)∧g + [D.i ((nthD (a.fld 15).list g).fld 0).int].length=g_1∧List.take g (fids (List.take g (a.fld 15).list)) ++ [D.i ((nthD (a.fld 15).list g).fld 0).int]=fids (List.take g_1 (a.fld 15).list)∧(g_1 ≤ (a.fld 15).list.length∧∀ (j:Nat),j < g_1 → folAt b.int (nthD (a.fld 15).list j)=true)∧(a.fld 15).list.length - g_1 < (a.fld 15).list.length - g else (a.fld 1).list.length ≤ 17592186044416∧(List.take g (fids (List.take g (a.fld 15).list))).length < 4611686018427387904∧decide (ints (List.take g (fids (List.take g (a.fld 15).list)))=ints (List.take (dflL (a.fld 1).list (a.fld 0).int).length (dflL (a.fld 1).list (a.fld 0).int)))=folB a b.int)=conGoal Tryz.prog (addS 69 eqC (addS 75 othC noS)) folC_an 200 72 folC [a,b]:=by kernel_rfl
theorem folC_ok:ConOK Tryz.prog Gl.none 72 folC:=con_of mo (addS_ok eqC_ok (addS_ok othC_ok (noS_ok _))) (an:=folC_an) 200 fun ds hl hp=>by
 obtain ⟨a,b,rfl⟩:=len2 hl
 rw [← folC_vc]
 have p0:(a.fld 15).list.length ≤ 17592186044416:=hp _ (.head _)
 have p1:(a.fld 1).list.length ≤ 17592186044416:=hp _ (.tail _ (.head _))
 refine ⟨(),0,rfl,rfl,rfl,⟨Nat.zero_le _,fun j h=>absurd h (Nat.not_lt_zero _)⟩,fun g ⟨h1,h2⟩=>cond_of (fun c=>?_) (fun c=>?_)⟩
 ·have c:g < (a.fld 15).list.length:=by simpa using c
  have hs:([D.i ((nthD (a.fld 15).list g).fld 0).int]:List D).length=1:=rfl
  rw [hs]
  refine ⟨⟨by omega,by omega⟩,cond_of (fun e=>?_) (fun e=>?_)⟩
  ·refine bool_not fun h=>?_
   have:=(folB_eq.1 h).1 g c
   unfold folAt u64 at this
   rw [e] at this; cases this
  ·refine ⟨by omega,by omega,⟨by omega,by omega⟩,g + 1,by omega,rfl,?_,⟨by omega,fun j hj=>?_⟩,by omega⟩
   ·rw [List.take_of_length_le (by rw [fids_len,List.length_take]; omega),fids_at c]
   ·by_cases hjg:j=g
    ·subst hjg; unfold folAt u64; rw [e]; rfl
    ·exact h2 j (by omega)
 ·have c:g=(a.fld 15).list.length:=by simp at c; omega
  subst c
  rw [List.take_length,List.take_of_length_le (by rw [fids_len]; exact Nat.le_refl _),List.take_length]
  refine ⟨p1,by rw [fids_len]; omega,?_⟩
  unfold folB
  rw [all_get.2 h2,Bool.true_and]
def folrC:Con:=⟨[.d false peerT,.d false (.i .u64)],fun ds=>(fun (a:D) (b:D)=>[(a.fld 15).list.length ≤ 17592186044416,(a.fld 1).list.length ≤ 17592186044416]) (nthD ds 0) (nthD ds 1),[.d .b],fun ds=>(fun (a:D) (b:D)=>[.b (folB a b.int)]) (nthD ds 0) (nthD ds 1),fun ds=>[]⟩
def folrC_an:Anns:=fun f i=>match f,i with
 | 39,3=>some fun A st=>match st.h.get 0,A.get 1 with
  | some (.c _ (.v (.int _ n) :: .dl _ _ xs :: cs)),some (.v (.int _ last))=>match cs.drop 13 with
   | .dl _ _ fs :: _=>⟨Nat,fun g=>[(6,.v (.int .i64 g)),(5,.v (.int .i64 (othL (xs.take g) n).length))],fun _=>[],fun g=>g ≤ xs.length∧(othL (xs.take g) n).length ≤ fs.length∧∀ j,j < (othL (xs.take g) n).length → folAt last (nthD fs j)=true∧((nthD fs j).fld 0).int=(nthD (othL xs n) j).int,fun g=>xs.length - g⟩
   | _=>LAnn.bad
  | _,_=>LAnn.bad
 | _,_=>none
theorem folrC_vc (a b:D):(∃ (g:Nat),EqI 0 (↑g:Int)∧EqI 0 (↑(othL (List.take g (a.fld 1).list) (a.fld 0).int).length:Int)∧(g ≤ (a.fld 1).list.length∧(othL (List.take g (a.fld 1).list) (a.fld 0).int).length ≤ (a.fld 15).list.length∧∀ (j:Nat),j < (othL (List.take g (a.fld 1).list) (a.fld 0).int).length → folAt b.int (nthD (a.fld 15).list j)=true∧((nthD (a.fld 15).list j).fld 0).int=(nthD (othL (a.fld 1).list (a.fld 0).int) j).int)∧∀ (g:Nat),(g ≤ (a.fld 1).list.length∧(othL (List.take g (a.fld 1).list) (a.fld 0).int).length ≤ (a.fld 15).list.length∧∀ (j:Nat),j < (othL (List.take g (a.fld 1).list) (a.fld 0).int).length → folAt b.int (nthD (a.fld 15).list j)=true∧((nthD (a.fld 15).list j).fld 0).int=(nthD (othL (a.fld 1).list (a.fld 0).int) j).int) → bif decide ((↑g:Int) < (↑(a.fld 1).list.length:Int)) then Idx (↑g:Int) (a.fld 1).list.length∧bif decide ((nthD (a.fld 1).list g).int=(a.fld 0).int) then I64 ((↑g:Int) + 1)∧∃ (g_1:Nat),(↑g:Int) + 1=(↑g_1:Int)∧(↑(othL (List.take g (a.fld 1).list) (a.fld 0).int).length:Int)=(↑(othL (List.take g_1 (a.fld 1).list) (a.fld 0).int).length:Int)∧(g_1 ≤ (a.fld 1).list.length∧(othL (List.take g_1 (a.fld 1).list) (a.fld 0).int).length ≤ (a.fld 15).list.length∧∀ (j:Nat),j < (othL (List.take g_1 (a.fld 1).list) (a.fld 0).int).length → folAt b.int (nthD (a.fld 15).list j)=true∧((nthD (a.fld 15).list j).fld 0).int=(nthD (othL (a.fld 1).list (a.fld 0).int) j).int)∧(a.fld 1).list.length - g_1 < (a.fld 1).list.length - g else bif decide ((↑(a.fld 15).list.length:Int) ≤ (↑(othL (List.take g (a.fld 1).list) (a.fld 0).int).length:Int)) then false=folB a b.int else Idx (↑(othL (List.take g (a.fld 1).list) (a.fld 0).int).length:Int) (a.fld 15).list.length∧Idx (↑g:Int) (a.fld 1).list.length∧bif !decide (((nthD (a.fld 15).list (othL (List.take g (a.fld 1).list) (a.fld 0).int).length).fld 0).int=(nthD (a.fld 1).list g).int) || decide (((nthD (a.fld 15).list (othL (List.take g (a.fld 1).list) (a.fld 0).int).length).fld 1).int < 1) || decide (IntKind.u64.wrap (b.int + 1) < ((nthD (a.fld 15).list (othL (List.take g (a.fld 1).list) (a.fld 0).int).length).fld 1).int) || decide (((nthD (a.fld 15).list (othL (List.take g (a.fld 1).list) (a.fld 0).int).length).fld 1).int ≤ ((nthD (a.fld 15).list (othL (List.take g (a.fld 1).list) (a.fld 0).int).length).fld 2).int) then false=folB a b.int else I64 ((↑(othL (List.take g (a.fld 1).list) (a.fld 0).int).length:Int) + 1)∧I64 ((↑g:Int) + 1)∧∃ (g_1:Nat),(↑g:Int) + 1=(↑g_1:Int)∧(↑(othL (List.take g (a.fld 1).list) (a.fld 0).int).length:Int) + 1=(↑(othL (List.take g_1 (a.fld 1).list) (a.fld 0).int).length:Int)∧(g_1 ≤ (a.fld 1).list.length∧(othL (List.take g_1 (a.fld 1).list) (a.fld 0).int).length ≤ (a.fld 15).list.length∧∀ (j:Nat),j < (othL (List.take g_1 (a.fld 1).list) (a.fld 0).int).length → folAt b.int (nthD (a.fld 15).list j)=true∧((nthD (a.fld 15).list j).fld 0).int=(nthD (othL (a.fld 1).list (a.fld 0).int) j).int)∧(a.fld 1).list.length - g_1 < (a.fld 1).list.length - g else decide ((↑(othL (List.take g (a.fld 1).list) (a.fld 0).int).length:Int)=(↑(a.fld 15).list.length:Int))=folB a b.int)=conGoal Tryz.prog noS folrC_an 200 39 folrC [a,b]:=by kernel_rfl
theorem folrC_ok:ConOK Tryz.prog Gl.none 39 folrC:=con_of mo (noS_ok _) (an:=folrC_an) 200 fun ds hl hp=>by
 obtain ⟨a,b,rfl⟩:=len2 hl
 rw [← folrC_vc]
 have p0:(a.fld 15).list.length ≤ 17592186044416:=hp _ (.head _)
 have p1:(a.fld 1).list.length ≤ 17592186044416:=hp _ (.tail _ (.head _))
 generalize hxs:(a.fld 1).list=xs at *
 generalize hn:(a.fld 0).int=n at *
 generalize hfs:(a.fld 15).list=fs at *
 have hB:folB a b.int=true ↔ (∀ j,j < fs.length → folAt b.int (nthD fs j)=true)∧fs.length=(othL xs n).length∧∀ j,j < fs.length → ((nthD fs j).fld 0).int=(nthD (othL xs n) j).int:=by
  rw [folB_eq,hxs,hn,hfs]
 refine ⟨0,rfl,rfl,⟨Nat.zero_le _,Nat.zero_le _,fun j h=>absurd h (Nat.not_lt_zero _)⟩,fun g ⟨h1,h2,h3⟩=>cond_of (fun c=>?_) (fun c=>?_)⟩
 ·have c:g < xs.length:=by simpa using c
  have hat:=oth_at (n:=n) c
  have hl:=oth_le (xs.take g) n
  rw [List.length_take] at hl
  refine ⟨⟨by omega,by omega⟩,cond_of (fun e=>?_) (fun e=>?_)⟩
  ·have e:(nthD xs g).int=n:=by simpa using e
   rw [if_pos e,List.append_nil] at hat
   refine ⟨⟨by omega,by omega⟩,g + 1,by omega,by rw [hat],⟨by omega,by rw [hat]; exact h2,fun j hj=>h3 j (by rwa [hat] at hj)⟩,by omega⟩
  ·have e:¬ (nthD xs g).int=n:=by simpa using e
   rw [if_neg e] at hat
   have hsp:=oth_split c e
   have hk:nthD (othL xs n) (othL (xs.take g) n).length=D.i (nthD xs g).int:=by rw [hsp]; exact nthD_mid
   have hlen:(othL xs n).length=(othL (xs.take g) n).length + 1 + (othL (xs.drop (g + 1)) n).length:=by rw [hsp,List.length_append,List.length_cons]; omega
   refine cond_of (fun f=>?_) (fun f=>?_)
   ·have f:fs.length ≤ (othL (xs.take g) n).length:=by have:=of_decide_eq_true f; omega
    refine bool_not fun h=>?_
    have:=(hB.1 h).2.1
    omega
   ·have f:(othL (xs.take g) n).length < fs.length:=by have:=of_decide_eq_false f; omega
    refine ⟨⟨by omega,by omega⟩,⟨by omega,by omega⟩,cond_of (fun d=>?_) (fun d=>?_)⟩
    ·refine bool_not fun h=>?_
     obtain ⟨q1,q2,q3⟩:=hB.1 h
     have r1:=q1 _ f
     have r3:=q3 _ f
     rw [hk] at r3
     unfold folAt u64 at r1
     have r3':((nthD fs (othL (xs.take g) n).length).fld 0).int=(nthD xs g).int:=r3
     rw [decide_eq_true r3',Bool.not_true,Bool.false_or] at d
     rw [d] at r1; cases r1
    ·rw [Bool.or_eq_false_iff,Bool.or_eq_false_iff,Bool.or_eq_false_iff] at d
     obtain ⟨⟨⟨d0,d1⟩,d2⟩,d3⟩:=d
     have d0:((nthD fs (othL (xs.take g) n).length).fld 0).int=(nthD xs g).int:=by simpa using d0
     have hl2:(othL (xs.take (g + 1)) n).length=(othL (xs.take g) n).length + 1:=by rw [hat,List.length_append]; rfl
     refine ⟨⟨by omega,by omega⟩,⟨by omega,by omega⟩,g + 1,by omega,by omega,⟨by omega,by omega,fun j hj=>?_⟩,by omega⟩
     by_cases hjk:j=(othL (xs.take g) n).length
     ·subst hjk
      refine ⟨?_,by rw [hk]; exact d0⟩
      unfold folAt u64; rw [d1,d2,d3]; rfl
     ·exact h3 j (by omega)
 ·have c:g=xs.length:=by simp at c; omega
  subst c
  rw [List.take_length] at h2 h3 ⊢
  rw [Bool.eq_iff_iff,hB,decide_eq_true_eq]
  constructor
  ·intro h
   exact ⟨fun j hj=>(h3 j (by omega)).1,by omega,fun j hj=>(h3 j (by omega)).2⟩
  ·rintro ⟨_,h,_⟩; omega
end Go.Proofs.YtplflgclomiihaaGreat.XT
