/- Contracts. -/
import Derived.Test.YtplflgclomiihaaGreatQVTL
import Derived.Test.YtplflgclomiihaaGreatProg
set_option linter.unusedVariables false
set_option linter.unusedSimpArgs false
namespace Go.Proofs.YtplflgclomiihaaGreat.XT
open Go Go.RowKit Go.Proofs.YtplflgclomiihaaGreat.Sv
set_option maxRecDepth 100000
def cloneK:Con:=cloneC
theorem cloneK_ok {Γ:Gl}:ConOK Tryz.prog Γ 42 cloneK:=cloneC_ok mo
def clone102K:Con:=clone102C
theorem clone102K_ok {Γ:Gl}:ConOK Tryz.prog Γ 79 clone102K:=clone102C_ok mo
def clone103K:Con:=clone103C
theorem clone103K_ok {Γ:Gl}:ConOK Tryz.prog Γ 89 clone103K:=clone103C_ok mo
def clone104K:Con:=clone104C
theorem clone104K_ok {Γ:Gl}:ConOK Tryz.prog Γ 80 clone104K:=clone104C_ok mo
def dflL:List D → Int → List D
 | [],_=>[]
 | d :: r,n=>if d.int=n then othL r n else d :: dflL r n
theorem dfl_none {n:Int}:∀ {xs:List D},(∀ j,j < xs.length → (nthD xs j).int ≠ n) → dflL xs n=xs
 | [],_=>rfl
 | d :: r,h=>by
  rw [dflL,if_neg (show ¬ d.int=n from h 0 (by simp)),dfl_none fun j hj=>h (j + 1) (by simpa using hj)]
theorem dfl_at {n:Int}:∀ {xs:List D} {k:Nat},k < xs.length → (∀ j,j < k → (nthD xs j).int ≠ n) → (nthD xs k).int=n → dflL xs n=xs.take k ++ othL (xs.drop (k + 1)) n
 | [],_,h,_,_=>absurd h (Nat.not_lt_zero _)
 | d :: r,0,_,_,e=>by rw [dflL,if_pos (show d.int=n from e)]; rfl
 | d :: r,k + 1,h,hj,e=>by
  rw [dflL,if_neg (show ¬ d.int=n from hj 0 (by omega)),dfl_at (k:=k) (by simpa using h) (fun j h=>hj (j + 1) (by omega)) e]; rfl
theorem dfl_ints (n:Int):∀ xs:List D,ints (dflL xs n)=ints (othL xs n)
 | []=>rfl
 | d :: r=>by
  by_cases h:d.int=n
  ·rw [dflL,if_pos h]; simp [othL,h]
  ·rw [dflL,if_neg h]
   have:=dfl_ints n r
   simp only [ints,othL] at this ⊢
   simp [h,this]
   rfl
theorem setD_len:∀ {xs:List D} {i:Nat} {d:D},i < xs.length → (setD xs i d).length=xs.length
 | [],_,_,h=>absurd h (Nat.not_lt_zero _)
 | _ :: _,0,_,_=>rfl
 | _ :: r,i + 1,d,h=>by simp only [setD,List.length_cons]; rw [setD_len (by simpa using h)]
theorem setD_drop:∀ {xs:List D} {i j:Nat} {d:D},i < j → i < xs.length → (setD xs i d).drop j=xs.drop j
 | [],_,_,_,_,h=>absurd h (Nat.not_lt_zero _)
 | _ :: _,0,j + 1,_,_,_=>rfl
 | _ :: r,i + 1,j + 1,d,h,h'=>by simp only [setD,List.drop_succ_cons]; exact setD_drop (by omega) (by simpa using h')
theorem setD_take:∀ {xs:List D} {i:Nat} {d:D},i < xs.length → (setD xs i d).take (i + 1)=xs.take i ++ [d]
 | [],_,_,h=>absurd h (Nat.not_lt_zero _)
 | _ :: _,0,_,_=>rfl
 | _ :: r,i + 1,d,h=>by simp only [setD,List.take_succ_cons,List.cons_append]; rw [setD_take (by simpa using h)]
def othS (xs:List D) (k j:Nat) (n:Int):List D:=othL ((xs.take j).drop (k + 1)) n
theorem othS_at {xs:List D} {k j:Nat} {n:Int} (hk:k < j) (c:j < xs.length):othS xs k (j + 1) n=othS xs k j n ++ (if (nthD xs j).int=n then [] else [.i (nthD xs j).int]):=by
 have e:nthD xs j=xs[j]:=nthD_get (List.getElem?_eq_getElem c)
 unfold othS
 rw [List.take_succ_eq_append_getElem c,List.drop_append_of_le_length (by rw [List.length_take]; omega),othL,List.filter_append,List.map_append,e]
 congr 1
 by_cases h:(xs[j]).int=n
 ·simp [h]
 ·simp [h]
theorem othS_le (xs:List D) (k j:Nat) (n:Int) (h:j ≤ xs.length):(othS xs k j n).length ≤ j - (k + 1):=by
 have:=oth_le ((xs.take j).drop (k + 1)) n
 rw [List.length_drop,List.length_take] at this
 unfold othS; omega
theorem nthD_drop:∀ {xs ys:List D} {j:Nat},xs.drop j=ys.drop j → nthD xs j=nthD ys j
 | [],[],_,_=>rfl
 | _ :: _,[],0,h=>by simp at h
 | [],_ :: _,0,h=>by simp at h
 | x :: r,y :: s,0,h=>by cases h; rfl
 | _ :: r,[],j + 1,h=>by
  have h:r.drop j=([]:List D).drop j:=by simpa using h
  exact (nthD_drop (xs:=r) (ys:=[]) h).trans (by cases j <;> rfl)
 | [],_ :: s,j + 1,h=>by
  have h:([]:List D).drop j=s.drop j:=by simpa using h
  exact (show nthD ([]:List D) (j + 1)=nthD [] j by cases j <;> rfl).trans (nthD_drop (xs:=[]) (ys:=s) h)
 | _ :: r,_ :: s,j + 1,h=>nthD_drop (xs:=r) (ys:=s) (by simpa using h)
def othC:Con:=⟨[.d false peerT],fun ds=>(fun (a:D)=>[(a.fld 1).list.length ≤ 17592186044416]) (nthD ds 0),[.own 3 (.i .i64)],fun ds=>(fun (a:D)=>[.l (dflL (a.fld 1).list (a.fld 0).int)]) (nthD ds 0),fun ds=>[]⟩
def othC_an:Anns:=fun f i=>match f,i with
 | 84,2=>some fun A st=>match A.get 0,st.h.get 0 with
  | some (.ow l m),some (.c _ (.v (.int _ n) :: _))=>match st.h.get l with
   | some (.q _ _ xs)=>⟨Nat,fun g=>[(8,.v (.int .i64 g))],fun _=>[],fun g=>g ≤ xs.length∧∀ j,j < g → (nthD xs j).int ≠ n,fun g=>xs.length - g⟩
   | _=>LAnn.bad
  | _,_=>LAnn.bad
 | 53,5=>some fun A st=>match A.get 0,A.get 5,st.h.get 0 with
  | some (.ow l m),some (.v (.int _ k)),some (.c _ (.v (.int _ n) :: _))=>match st.h.get l with
   | some (.q _ _ xs)=>⟨Nat × List D,fun g=>[(5,.v (.int .i64 ((k.toNat + (othL ((xs.take g.1).drop (k.toNat + 1)) n).length:Nat):Int))),(6,.v (.int .i64 g.1))],fun g=>[(l,.q 3 (.i .i64) g.2)],fun g=>k.toNat < g.1∧g.1 ≤ xs.length∧g.2.length=xs.length∧g.2.take (k.toNat + (othL ((xs.take g.1).drop (k.toNat + 1)) n).length)=xs.take k.toNat ++ othL ((xs.take g.1).drop (k.toNat + 1)) n∧g.2.drop g.1=xs.drop g.1,fun g=>xs.length - g.1⟩
   | _=>LAnn.bad
  | _,_,_=>LAnn.bad
 | _,_=>none
theorem othC_vc (a:D):((a.fld 1).list.length ≤ 17592186044416∧∃ (g:Nat),EqI 0 (↑g:Int)∧(g ≤ (a.fld 1).list.length∧∀ (j:Nat),j < g → (nthD (a.fld 1).list j).int ≠ (a.fld 0).int)∧∀ (g:Nat),(g ≤ (a.fld 1).list.length∧∀ (j:Nat),j < g → (nthD (a.fld 1).list j).int ≠ (a.fld 0).int) → bif decide ((↑g:Int) < (↑(a.fld 1).list.length:Int)) then Idx (↑g:Int) (a.fld 1).list.length∧bif decide ((nthD (a.fld 1).list g).int=(a.fld 0).int) then I64 ((↑g:Int) + 1)∧∃ (g_1:Nat × List D),(↑g:Int)=(↑(g + (othL (List.drop (g + 1) (List.take g_1.fst (a.fld 1).list)) (a.fld 0).int).length):Int)∧(↑g:Int) + 1=(↑g_1.fst:Int)∧(a.fld 1).list=g_1.snd∧(g < g_1.fst∧g_1.fst ≤ (a.fld 1).list.length∧g_1.snd.length=(a.fld 1).list.length∧List.take (g + (othL (List.drop (g + 1) (List.take g_1.fst (a.fld 1).list)) (a.fld 0).int).length) g_1.snd=List.take g (a.fld 1).list ++ othL (List.drop (g + 1) (List.take g_1.fst (a.fld 1).list)) (a.fld 0).int∧List.drop g_1.fst g_1.snd=List.drop g_1.fst (a.fld 1).list)∧∀ (g_2:Nat × List D),g < g_2.fst∧g_2.fst ≤ (a.fld 1).list.length∧g_2.snd.length=(a.fld 1).list.length∧List.take (g + (othL (List.drop (g + 1) (List.take g_2.fst (a.fld 1).list)) (a.fld 0).int).length) g_2.snd=List.take g (a.fld 1).list ++ othL (List.drop (g + 1) (List.take g_2.fst (a.fld 1).list)) (a.fld 0).int∧List.drop g_2.fst g_2.snd=List.drop g_2.fst (a.fld 1).list → bif decide ((↑g_2.fst:Int) < (↑(a.fld 1).list.length:Int)) then Idx (↑g_2.fst:Int) (a.fld 1).list.length∧bif !decide ((nthD g_2.snd g_2.fst).int=(a.fld 0).int) then Idx (↑(g + (othL (List.drop (g + 1) (List.take g_2.fst (a.fld 1).list)) (a.fld 0).int).length):Int) (a.fld 1).list.length∧I64 ((↑(g + (othL (List.drop (g + 1) (List.take g_2.fst (a.fld 1).list)) (a.fld 0).int).length):Int) + 1)∧I64 ((↑g_2.fst:Int) + 1)∧∃ (g_3:Nat × List D),(↑(g + (othL (List.drop (g + 1) (List.take g_2.fst (a.fld 1).list)) (a.fld 0).int).length):Int) + 1=(↑(g + (othL (List.drop (g + 1) (List.take g_3.fst (a.fld 1).list)) (a.fld 0).int).length):Int)∧(↑g_2.fst:Int) + 1=(↑g_3.fst:Int)∧setD g_2.snd (g + (othL (List.drop (g + 1) (List.take g_2.fst (a.fld 1).list)) (a.fld 0).int).length) (D.i (nthD g_2.snd g_2.fst).int)=g_3.snd∧(g < g_3.fst∧g_3.fst ≤ (a.fld 1).list.length∧g_3.snd.length=(a.fld 1).list.length∧List.take (g + (othL (List.drop (g + 1) (List.take g_3.fst (a.fld 1).list)) (a.fld 0).int).length) g_3.snd=List.take g (a.fld 1).list ++ othL (List.drop (g + 1) (List.take g_3.fst (a.fld 1).list)) (a.fld 0).int∧List.drop g_3.fst g_3.snd=List.drop g_3.fst (a.fld 1).list)∧(a.fld 1).list.length - g_3.fst < (a.fld 1).list.length - g_2.fst else I64 ((↑g_2.fst:Int) + 1)∧∃ (g_3:Nat × List D),(↑(g + (othL (List.drop (g + 1) (List.take g_2.fst (a.fld 1).list)) (a.fld 0).int).length):Int)=(↑(g + (othL (List.drop (g + 1) (List.take g_3.fst (a.fld 1).list)) (a.fld 0).int).length):Int)∧(↑g_2.fst:Int) + 1=(↑g_3.fst:Int)∧g_2.snd=g_3.snd∧(g < g_3.fst∧g_3.fst ≤ (a.fld 1).list.length∧g_3.snd.length=(a.fld 1).list.length∧List.take (g + (othL (List.drop (g + 1) (List.take g_3.fst (a.fld 1).list)) (a.fld 0).int).length) g_3.snd=List.take g (a.fld 1).list ++ othL (List.drop (g + 1) (List.take g_3.fst (a.fld 1).list)) (a.fld 0).int∧List.drop g_3.fst g_3.snd=List.drop g_3.fst (a.fld 1).list)∧(a.fld 1).list.length - g_3.fst < (a.fld 1).list.length - g_2.fst else 0 ≤ (↑(g + (othL (List.drop (g + 1) (List.take g_2.fst (a.fld 1).list)) (a.fld 0).int).length):Int)∧(↑(g + (othL (List.drop (g + 1) (List.take g_2.fst (a.fld 1).list)) (a.fld 0).int).length):Int) ≤ (↑(a.fld 1).list.length:Int)∧(↑(a.fld 1).list.length:Int) ≤ (↑(a.fld 1).list.length:Int)∧0 ≤ (↑(g + (othL (List.drop (g + 1) (List.take g_2.fst (a.fld 1).list)) (a.fld 0).int).length):Int)∧(↑(g + (othL (List.drop (g + 1) (List.take g_2.fst (a.fld 1).list)) (a.fld 0).int).length):Int) ≤ (↑(a.fld 1).list.length:Int)∧List.take (g + (othL (List.drop (g + 1) (List.take g_2.fst (a.fld 1).list)) (a.fld 0).int).length) (List.take (g + (othL (List.drop (g + 1) (List.take g_2.fst (a.fld 1).list)) (a.fld 0).int).length) g_2.snd ++ (List.replicate ((↑(a.fld 1).list.length:Int) - (↑(g + (othL (List.drop (g + 1) (List.take g_2.fst (a.fld 1).list)) (a.fld 0).int).length):Int)).toNat (D.i 0) ++ List.drop (g + (othL (List.drop (g + 1) (List.take g_2.fst (a.fld 1).list)) (a.fld 0).int).length + ((↑(a.fld 1).list.length:Int) - (↑(g + (othL (List.drop (g + 1) (List.take g_2.fst (a.fld 1).list)) (a.fld 0).int).length):Int)).toNat) g_2.snd))=dflL (a.fld 1).list (a.fld 0).int else I64 ((↑g:Int) + 1)∧∃ (g_1:Nat),(↑g:Int) + 1=(↑g_1:Int)∧(g_1 ≤ (a.fld 1).list.length∧∀ (j:Nat),j < g_1 → (nthD (a.fld 1).list j).int ≠ (a.fld 0).int)∧(a.fld 1).list.length - g_1 < (a.fld 1).list.length - g else List.take (a.fld 1).list.length (a.fld 1).list=dflL (a.fld 1).list (a.fld 0).int)=conGoal Tryz.prog (addS 42 cloneK noS) othC_an 200 75 othC [a]:=by kernel_rfl
theorem othC_ok:ConOK Tryz.prog Gl.none 75 othC:=con_of mo (addS_ok cloneK_ok (noS_ok _)) (an:=othC_an) 200 fun ds hl hp=>by
 obtain ⟨a,rfl⟩:=len1 hl
 rw [← othC_vc]
 have p0:(a.fld 1).list.length ≤ 17592186044416:=hp _ (.head _)
 generalize hxs:(a.fld 1).list=xs at *
 generalize hn:(a.fld 0).int=n at *
 refine ⟨p0,0,rfl,⟨Nat.zero_le _,fun j h=>absurd h (Nat.not_lt_zero _)⟩,fun g ⟨h1,h2⟩=>cond_of (fun c=>?_) (fun c=>?_)⟩
 ·have c:g < xs.length:=by simpa using c
  refine ⟨⟨by omega,by omega⟩,cond_of (fun e=>?_) (fun e=>⟨⟨by omega,by omega⟩,g + 1,by omega,⟨by omega,fun j hj=>?_⟩,by omega⟩)⟩
  ·have e:(nthD xs g).int=n:=by simpa using e
   have h0:othL (List.drop (g + 1) (List.take (g + 1) xs)) n=[]:=by
    have:=othS_le xs g (g + 1) n (by omega)
    exact List.eq_nil_of_length_eq_zero (by unfold othS at this; omega)
   refine ⟨⟨by omega,by omega⟩,(g + 1,xs),by rw [h0]; rfl,by simp,rfl,⟨by simp,by simp; omega,rfl,by rw [h0,List.append_nil]; rfl,rfl⟩,?_⟩
   rintro ⟨j,ys⟩ ⟨i1,i2,i3,i4,i5⟩
   simp only at i1 i2 i3 i4 i5 ⊢
   have hl:=othS_le xs g j n i2
   change List.take (g + (othS xs g j n).length) ys=List.take g xs ++ othS xs g j n at i4
   show bif _ then _∧bif _ then Idx (↑(g + (othS xs g j n).length):Int) xs.length∧_ else _ else _
   refine cond_of (fun d=>?_) (fun d=>?_)
   ·have d:j < xs.length:=by simpa using d
    have hat:=othS_at (n:=n) i1 d
    have hy:nthD ys j=nthD xs j:=nthD_drop i5
    rw [hy]
    refine ⟨⟨by omega,by omega⟩,cond_of (fun f=>?_) (fun f=>?_)⟩
    ·have f:¬ (nthD xs j).int=n:=by simpa using f
     rw [if_neg f] at hat
     have hlen:(othS xs g (j + 1) n).length=(othS xs g j n).length + 1:=by rw [hat,List.length_append]; rfl
     refine ⟨⟨by omega,by omega⟩,⟨by change -9223372036854775808 ≤ ((g + (othS xs g j n).length:Nat):Int) + 1; omega,by change ((g + (othS xs g j n).length:Nat):Int) + 1 ≤ _; omega⟩,⟨by omega,by omega⟩,(j + 1,setD ys (g + (othS xs g j n).length) (D.i (nthD xs j).int)),?_,by simp,rfl,⟨by simp; omega,by simp; omega,?_,?_,?_⟩,by simp; omega⟩
     ·change ((g + (othS xs g j n).length:Nat):Int) + 1=((g + (othS xs g (j + 1) n).length:Nat):Int)
      omega
     ·simp only; rw [setD_len (by omega)]; exact i3
     ·change List.take (g + (othS xs g (j + 1) n).length) _=List.take g xs ++ othS xs g (j + 1) n
      rw [hlen,← Nat.add_assoc,setD_take (by omega),i4,hat,List.append_assoc]
     ·simp only
      rw [setD_drop (by omega) (by omega)]
      have:=congrArg (List.drop 1) i5
      rwa [List.drop_drop,List.drop_drop] at this
    ·have f:(nthD xs j).int=n:=by simpa using f
     rw [if_pos f,List.append_nil] at hat
     refine ⟨⟨by omega,by omega⟩,(j + 1,ys),?_,by simp,rfl,⟨by simp; omega,by simp; omega,i3,?_,?_⟩,by simp; omega⟩
     ·change ((g + (othS xs g j n).length:Nat):Int)=((g + (othS xs g (j + 1) n).length:Nat):Int)
      rw [hat]
     ·change List.take (g + (othS xs g (j + 1) n).length) _=List.take g xs ++ othS xs g (j + 1) n
      rw [hat]; exact i4
     ·have:=congrArg (List.drop 1) i5
      rwa [List.drop_drop,List.drop_drop] at this
   ·have d:j=xs.length:=by simp at d; omega
    subst d
    have hfin:dflL xs n=List.take (g + (othS xs g xs.length n).length) ys:=by
     rw [i4,dfl_at c h2 e]; unfold othS; rw [List.take_length]
    change 0 ≤ ((g + (othS xs g xs.length n).length:Nat):Int)∧((g + (othS xs g xs.length n).length:Nat):Int) ≤ _∧_∧0 ≤ ((g + (othS xs g xs.length n).length:Nat):Int)∧((g + (othS xs g xs.length n).length:Nat):Int) ≤ _∧List.take (g + (othS xs g xs.length n).length) (List.take (g + (othS xs g xs.length n).length) ys ++ _)=_
    refine ⟨by omega,by omega,Int.le_refl _,by omega,by omega,?_⟩
    rw [hfin,List.take_append_of_le_length (by rw [List.length_take]; omega),List.take_take,Nat.min_self]
  ·have e:¬ (nthD xs g).int=n:=by simpa using e
   by_cases hj':j=g
   ·rw [hj']; exact e
   ·exact h2 j (by omega)
 ·have c:g=xs.length:=by simp at c; omega
  subst c
  rw [List.take_length,dfl_none h2]
end Go.Proofs.YtplflgclomiihaaGreat.XT
