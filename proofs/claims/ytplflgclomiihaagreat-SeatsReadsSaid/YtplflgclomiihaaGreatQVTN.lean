/- Contracts. -/
import Derived.Test.YtplflgclomiihaaGreatQVTM
import Derived.Test.YtplflgclomiihaaGreatProg
set_option linter.unusedVariables false
set_option linter.unusedSimpArgs false
namespace Go.Proofs.YtplflgclomiihaaGreat.XT
open Go Go.RowKit Go.Proofs.YtplflgclomiihaaGreat.Sv
set_option maxRecDepth 100000
def idrC:Con:=⟨[.d false (.i .i64)],fun ds=>[],[.d .b],fun ds=>(fun (a:D)=>[.b (okId a.int)]) (nthD ds 0),fun ds=>[]⟩
def idrC_an:Anns:=fun _ _=>none
theorem idrC_vc (a:D):((decide (1 ≤ a.int) && decide (a.int ≤ 64))=okId a.int)=conGoal Tryz.prog noS idrC_an 200 33 idrC [a]:=by kernel_rfl
theorem idrC_ok:ConOK Tryz.prog Gl.none 33 idrC:=con_of mo (noS_ok _) (an:=idrC_an) 200 fun ds hl hp=>by
 obtain ⟨a,rfl⟩:=len1 hl
 rw [← idrC_vc]
 rfl
def idsC:Con:=⟨[.d false (.l (.i .i64))],fun ds=>(fun (a:D)=>[a.list.length < 4611686018427387904]) (nthD ds 0),[.d .b],fun ds=>(fun (a:D)=>[.b (idsB a.list)]) (nthD ds 0),fun ds=>[]⟩
def idsC_an:Anns:=fun f i=>match f,i with
 | 34,2=>some fun A st=>match A.get 0 with
  | some (.dl _ _ xs)=>⟨Nat,fun k=>[(3,.v (.int .i64 k))],fun _=>[],fun k=>k ≤ xs.length∧∀ j,j < k → okAt xs j=true,fun k=>xs.length - k⟩
  | _=>LAnn.bad
 | _,_=>none
theorem idsC_vc (a:D):(∃ (g:Nat),EqI 0 (↑g:Int)∧(g ≤ a.list.length∧∀ (j:Nat),j < g → okAt a.list j=true)∧∀ (g:Nat),(g ≤ a.list.length∧∀ (j:Nat),j < g → okAt a.list j=true) → bif decide ((↑g:Int) < (↑a.list.length:Int)) then Idx (↑g:Int) a.list.length∧((!okId (nthD a.list g).int)=false → decide (0 < (↑g:Int))=true → I64 ((↑g:Int) - 1)∧Idx ((↑g:Int) - 1) a.list.length∧Idx (↑g:Int) a.list.length)∧bif !okId (nthD a.list g).int || decide (0 < (↑g:Int)) && decide ((nthD a.list g).int ≤ (nthD a.list ((↑g:Int) - 1).toNat).int) then false=idsB a.list else I64 ((↑g:Int) + 1)∧∃ (g_1:Nat),(↑g:Int) + 1=(↑g_1:Int)∧(g_1 ≤ a.list.length∧∀ (j:Nat),j < g_1 → okAt a.list j=true)∧a.list.length - g_1 < a.list.length - g else true=idsB a.list)=conGoal Tryz.prog (addS 33 idrC noS) idsC_an 200 34 idsC [a]:=by kernel_rfl
theorem idsC_ok:ConOK Tryz.prog Gl.none 34 idsC:=con_of mo (addS_ok idrC_ok (noS_ok _)) (an:=idsC_an) 200 fun ds hl hp=>by
 obtain ⟨a,rfl⟩:=len1 hl
 rw [← idsC_vc]
 have p0:a.list.length < 4611686018427387904:=hp _ (.head _)
 refine ⟨0,rfl,⟨Nat.zero_le _,by omega⟩,fun g ⟨h1,h2⟩=>cond_of (fun c=>?_) (fun c=>?_)⟩
 ·have c:g < a.list.length:=by simpa using c
  have e1:Int.toNat ((g:Int) - 1)=g - 1:=by omega
  rw [e1]
  refine ⟨⟨by omega,by omega⟩,fun _ d=>by have d:=of_decide_eq_true d; exact ⟨⟨by omega,by omega⟩,⟨by omega,by omega⟩,⟨by omega,by omega⟩⟩,cond_of (fun e=>?_) (fun e=>?_)⟩
  ·symm
   rw [idsB,List.all_eq_false]
   refine ⟨g,by simpa using c,?_⟩
   grind [okAt]
  ·refine ⟨⟨by omega,by omega⟩,g + 1,by omega,⟨by omega,fun j hj=>?_⟩,by omega⟩
   by_cases hjg:j=g
   ·grind [okAt]
   ·exact h2 j (by omega)
 ·have c:g=a.list.length:=by simp at c; omega
  symm
  rw [idsB,List.all_eq_true]
  intro j hj
  exact h2 j (by simpa [c] using hj)
def siC:Con:=⟨[.d false (.l (.i .i64)),.d false (.l (.i .i64))],fun ds=>(fun (a:D) (b:D)=>[a.list.length < 4611686018427387904]) (nthD ds 0) (nthD ds 1),[.d .b],fun ds=>(fun (a:D) (b:D)=>[.b (decide (ints a.list=ints b.list))]) (nthD ds 0) (nthD ds 1),fun ds=>[]⟩
def siC_an:Anns:=fun f i=>match f,i with
 | 27,4=>some fun A st=>match A.get 0,A.get 1 with
  | some (.dl _ _ xs),some (.dl _ _ ys)=>⟨Nat,fun k=>[(5,.v (.int .i64 k))],fun _=>[],fun k=>k ≤ xs.length∧∀ j,j < k → (nthD xs j).int=(nthD ys j).int,fun k=>xs.length - k⟩
  | _,_=>LAnn.bad
 | _,_=>none
theorem siC_vc (a b:D):(bif !decide ((↑a.list.length:Int)=(↑b.list.length:Int)) then false=decide (ints a.list=ints b.list) else ∃ (g:Nat),EqI 0 (↑g:Int)∧(g ≤ a.list.length∧∀ (j:Nat),j < g → (nthD a.list j).int=(nthD b.list j).int)∧∀ (g:Nat),(g ≤ a.list.length∧∀ (j:Nat),j < g → (nthD a.list j).int=(nthD b.list j).int) → bif decide ((↑g:Int) < (↑a.list.length:Int)) then Idx (↑g:Int) a.list.length∧Idx (↑g:Int) b.list.length∧bif !decide ((nthD a.list g).int=(nthD b.list g).int) then false=decide (ints a.list=ints b.list) else I64 ((↑g:Int) + 1)∧∃ (g_1:Nat),(↑g:Int) + 1=(↑g_1:Int)∧(g_1 ≤ a.list.length∧∀ (j:Nat),j < g_1 → (nthD a.list j).int=(nthD b.list j).int)∧a.list.length - g_1 < a.list.length - g else true=decide (ints a.list=ints b.list))=conGoal Tryz.prog noS siC_an 200 27 siC [a,b]:=by kernel_rfl
theorem siC_ok:ConOK Tryz.prog Gl.none 27 siC:=con_of mo (noS_ok _) (an:=siC_an) 200 fun ds hl hp=>by
 obtain ⟨a,b,rfl⟩:=len2 hl
 rw [← siC_vc]
 have p0:a.list.length < 4611686018427387904:=hp _ (.head _)
 refine cond_of (fun c=>?_) (fun c=>?_)
 ·simp at c
  have:¬ (decide (ints a.list=ints b.list)=true):=fun h=>by have:=(ints_eq.1 h).1; omega
  simpa using this
 ·simp at c
  refine ⟨0,rfl,⟨Nat.zero_le _,by omega⟩,fun g ⟨h1,h2⟩=>cond_of (fun c=>?_) (fun c=>?_)⟩
  ·simp at c
   refine ⟨⟨by omega,by omega⟩,⟨by omega,by omega⟩,cond_of (fun e=>?_) (fun e=>?_)⟩
   ·simp at e
    have:¬ (decide (ints a.list=ints b.list)=true):=fun h=>e ((ints_eq.1 h).2 g c)
    simpa using this
   ·simp at e
    refine ⟨⟨by omega,by omega⟩,g + 1,by omega,⟨by omega,fun j hj=>?_⟩,by omega⟩
    by_cases hj':j=g
    ·rw [hj']; exact e
    ·exact h2 j (by omega)
  ·simp at c
   exact (ints_eq.2 ⟨by omega,fun j hj=>h2 j (by omega)⟩).symm
theorem entR_eq (fr to:Int) (e:D) (h0:0 ≤ fr) (ht:0 ≤ (D.int (D.fld e 0))) (hk:0 ≤ (D.int (D.fld e 1))):entB (max fr 1) to e=(!(decide ((D.int (D.fld e 0))=0) || decide ((D.int (D.fld e 0)) < fr) || decide (to < (D.int (D.fld e 0))) || decide (2 < (D.int (D.fld e 1))) || !decide ((D.int (D.fld e 1))=0) && !decide ((D.str (D.fld e 2))=ByteArray.mk #[])) && !(decide ((D.int (D.fld e 1))=2) && (decide ((((D.list (D.fld e 3))).length:Int)=0) || !idsB ((D.list (D.fld e 3)))) || !decide ((D.int (D.fld e 1))=2) && decide (0 < (((D.list (D.fld e 3))).length:Int)))):=by
 have hr:(decide (max fr 1 ≤ (D.int (D.fld e 0))) && decide ((D.int (D.fld e 0)) ≤ to)) = !(decide ((D.int (D.fld e 0))=0) || decide ((D.int (D.fld e 0)) < fr) || decide (to < (D.int (D.fld e 0)))):=by
  rw [Bool.eq_iff_iff]; simp; omega
 have hl:decide (((D.list (D.fld e 3))).length=0)=decide ((((D.list (D.fld e 3))).length:Int)=0):=by
  rw [Bool.eq_iff_iff]; simp
 have hl2:decide (0 < (((D.list (D.fld e 3))).length:Int)) = !decide ((((D.list (D.fld e 3))).length:Int)=0):=by
  by_cases h:((D.list (D.fld e 3))).length=0
  ·rw [decide_eq_false (by omega),decide_eq_true (by omega)]; rfl
  ·rw [decide_eq_true (by omega),decide_eq_false (by omega)]; rfl
 have hl3:decide (0 < ((D.list (D.fld e 3))).length) = !decide ((((D.list (D.fld e 3))).length:Int)=0):=by
  by_cases h:((D.list (D.fld e 3))).length=0
  ·rw [decide_eq_false (by omega),decide_eq_true (by omega)]; rfl
  ·rw [decide_eq_true (by omega),decide_eq_false (by omega)]; rfl
 have hd:decide ((D.str (D.fld e 2))=ByteArray.empty)=decide ((D.str (D.fld e 2))=ByteArray.mk #[]):=rfl
 unfold entB entKind
 rw [hr,hl,hl2,hl3,hd]
 generalize decide ((((D.list (D.fld e 3))).length:Int)=0)=b1
 generalize decide ((D.str (D.fld e 2))=ByteArray.mk #[])=b2
 generalize idsB ((D.list (D.fld e 3)))=b3
 generalize (decide ((D.int (D.fld e 0))=0) || decide ((D.int (D.fld e 0)) < fr) || decide (to < (D.int (D.fld e 0))))=b4
 generalize (D.int (D.fld e 1))=k at *
 by_cases k0:k=0
 ·subst k0; cases b1 <;> cases b2 <;> cases b3 <;> cases b4 <;> rfl
 ·by_cases k1:k=1
  ·subst k1; cases b1 <;> cases b2 <;> cases b3 <;> cases b4 <;> rfl
  ·by_cases k2:k=2
   ·subst k2; cases b1 <;> cases b2 <;> cases b3 <;> cases b4 <;> rfl
   ·have:2 < k:=by omega
    simp [k0,k1,k2,this]
theorem entsB_at {xs:List D} {g:Nat} {fr to:Int} (c1:g < xs.length):entsB (xs.drop g) fr to=(entB fr to (nthD xs g) && entsB (xs.drop (g + 1)) ((D.int (D.fld (nthD xs g) 0))) to):=by
 rw [List.drop_eq_getElem_cons c1]
 have:xs[g]=nthD xs g:=by
  have:=get_nthD c1
  rw [List.getElem?_eq_getElem c1] at this
  exact Option.some.inj this
 rw [this]; rfl
def entrC:Con:=⟨[.d false (.l entT),.d false (.i .u64),.d false (.i .u64)],fun ds=>(fun (a:D) (b:D) (c:D)=>[a.list.length < 4611686018427387904,∀ e ∈ a.list,((D.list (D.fld e 3))).length < 4611686018427387904,0 ≤ b.int,∀ e ∈ a.list,0 ≤ (D.int (D.fld e 0))∧0 ≤ (D.int (D.fld e 1))]) (nthD ds 0) (nthD ds 1) (nthD ds 2),[.d .b],fun ds=>(fun (a:D) (b:D) (c:D)=>[.b (entsB a.list (max b.int 1) c.int)]) (nthD ds 0) (nthD ds 1) (nthD ds 2),fun ds=>[]⟩
def entrC_an:Anns:=fun f i=>match f,i with
 | 35,2=>some fun A st=>match A.get 0,A.get 1,A.get 2 with
  | some (.dl _ _ xs),some (.v (.int _ f0)),some (.v (.int _ to))=>⟨Nat × Int,fun g=>[(7,.v (.int .i64 g.1)),(1,.v (.int .u64 g.2))],fun _=>[],fun g=>g.1 ≤ xs.length∧0 ≤ g.2∧entsB xs (max f0 1) to=entsB (xs.drop g.1) (max g.2 1) to,fun g=>xs.length - g.1⟩
  | _,_,_=>LAnn.bad
 | _,_=>none
theorem entrC_vc (a b c:D):(∃ (g:Nat × Int),EqI 0 (↑g.fst:Int)∧b.int=g.snd∧(g.fst ≤ a.list.length∧0 ≤ g.snd∧entsB a.list (max b.int 1) c.int=entsB (List.drop g.fst a.list) (max g.snd 1) c.int)∧∀ (g:Nat × Int),g.fst ≤ a.list.length∧0 ≤ g.snd∧entsB a.list (max b.int 1) c.int=entsB (List.drop g.fst a.list) (max g.snd 1) c.int → bif decide ((↑g.fst:Int) < (↑a.list.length:Int)) then Idx (↑g.fst:Int) a.list.length∧bif decide (((nthD a.list g.fst).fld 0).int=0) || decide (((nthD a.list g.fst).fld 0).int < g.snd) || decide (c.int < ((nthD a.list g.fst).fld 0).int) || decide (2 < ((nthD a.list g.fst).fld 1).int) || !decide (((nthD a.list g.fst).fld 1).int=0) && !decide (((nthD a.list g.fst).fld 2).str=ByteArray.mk #[]) then false=entsB a.list (max b.int 1) c.int else (decide (((nthD a.list g.fst).fld 1).int=2)=true → decide ((↑((nthD a.list g.fst).fld 3).list.length:Int)=0)=false → ((nthD a.list g.fst).fld 3).list.length < 4611686018427387904)∧bif decide (((nthD a.list g.fst).fld 1).int=2) && (decide ((↑((nthD a.list g.fst).fld 3).list.length:Int)=0) || !idsB ((nthD a.list g.fst).fld 3).list) || !decide (((nthD a.list g.fst).fld 1).int=2) && decide (0 < (↑((nthD a.list g.fst).fld 3).list.length:Int)) then false=entsB a.list (max b.int 1) c.int else I64 ((↑g.fst:Int) + 1)∧∃ (g_1:Nat × Int),(↑g.fst:Int) + 1=(↑g_1.fst:Int)∧((nthD a.list g.fst).fld 0).int=g_1.snd∧(g_1.fst ≤ a.list.length∧0 ≤ g_1.snd∧entsB a.list (max b.int 1) c.int=entsB (List.drop g_1.fst a.list) (max g_1.snd 1) c.int)∧a.list.length - g_1.fst < a.list.length - g.fst else true=entsB a.list (max b.int 1) c.int)=conGoal Tryz.prog (addS 34 idsC noS) entrC_an 200 35 entrC [a,b,c]:=by kernel_rfl
theorem entrC_ok:ConOK Tryz.prog Gl.none 35 entrC:=con_of mo (addS_ok idsC_ok (noS_ok _)) (an:=entrC_an) 200 fun ds hl hp=>by
 obtain ⟨a,b,c,rfl⟩:=len3 hl
 rw [← entrC_vc]
 have p0:a.list.length < 4611686018427387904:=hp _ (.head _)
 have p1:∀ e ∈ a.list,((D.list (D.fld e 3))).length < 4611686018427387904:=hp _ (.tail _ (.head _))
 have p2:0 ≤ b.int:=hp _ (.tail _ (.tail _ (.head _)))
 have p3:∀ e ∈ a.list,0 ≤ (D.int (D.fld e 0))∧0 ≤ (D.int (D.fld e 1)):=hp _ (.tail _ (.tail _ (.tail _ (.head _))))
 refine ⟨(0,b.int),rfl,rfl,⟨Nat.zero_le _,p2,by simp⟩,fun g ⟨h1,h0,h2⟩=>cond_of (fun c1=>?_) (fun c1=>?_)⟩
 ·have c1:g.1 < a.list.length:=by simpa using c1
  have hmem:nthD a.list g.1 ∈ a.list:=List.mem_of_getElem? (get_nthD c1)
  have hat:=entsB_at (fr:=max g.2 1) (to:=c.int) c1
  rw [entR_eq _ _ _ h0 (p3 _ hmem).1 (p3 _ hmem).2] at hat
  refine ⟨⟨by omega,by omega⟩,cond_of (fun e1=>?_) (fun e1=>⟨fun _ _=>p1 _ hmem,cond_of (fun e2=>?_) (fun e2=>⟨⟨by omega,by omega⟩,(g.1 + 1,(D.int (D.fld (nthD a.list g.1) 0))),by simp,rfl,⟨by simp; omega,(p3 _ hmem).1,?_⟩,by simp; omega⟩)⟩)⟩
  ·rw [h2,hat,e1]; rfl
  ·rw [h2,hat,e2]; simp
  ·rw [h2,hat,e1,e2]
   have ht:¬ (D.int (D.fld (nthD a.list g.1) 0))=0:=fun h=>by simp [h] at e1
   have:=(p3 _ hmem).1
   have hmx:max ((D.int (D.fld (nthD a.list g.1) 0))) 1=(D.int (D.fld (nthD a.list g.1) 0)):=by omega
   simp only [hmx]; rfl
 ·have c1:g.1=a.list.length:=by simp at c1; omega
  rw [h2,c1,List.drop_length]; rfl
def rdrC:Con:=⟨[.d false peerT],fun ds=>(fun (a:D)=>[(a.fld 17).list.length < 4611686018427387904,∀ r ∈ (a.fld 17).list,(r.fld 2).list.length < 4611686018427387904]) (nthD ds 0),[.d .b],fun ds=>(fun (a:D)=>[.b (rdsB a)]) (nthD ds 0),fun ds=>[]⟩
def rdrC_an:Anns:=fun f i=>match f,i with
 | 40,2=>some fun A st=>match st.h.get 0 with
  | some (.c _ cs)=>match cs.drop 16,cs.drop 11,cs.drop 17 with
   | .v (.int _ R) :: _,.v (.int _ C) :: _,.dl _ _ xs :: _=>⟨Nat,fun g=>[(3,.v (.int .i64 g))],fun _=>[],fun g=>g ≤ xs.length∧∀ j,j < g → rdAt R C xs j=true,fun g=>xs.length - g⟩
   | _,_,_=>LAnn.bad
  | _=>LAnn.bad
 | _,_=>none
theorem rdrC_vc (a:D):(∃ (g:Nat),EqI 0 (↑g:Int)∧(g ≤ (a.fld 17).list.length∧∀ (j:Nat),j < g → rdAt (a.fld 16).int (a.fld 11).int (a.fld 17).list j=true)∧∀ (g:Nat),(g ≤ (a.fld 17).list.length∧∀ (j:Nat),j < g → rdAt (a.fld 16).int (a.fld 11).int (a.fld 17).list j=true) → bif decide ((↑g:Int) < (↑(a.fld 17).list.length:Int)) then Idx (↑g:Int) (a.fld 17).list.length∧((decide ((a.fld 16).int < ((nthD (a.fld 17).list g).fld 0).int) || decide ((a.fld 11).int < ((nthD (a.fld 17).list g).fld 1).int))=false → ((nthD (a.fld 17).list g).fld 2).list.length < 4611686018427387904)∧((decide ((a.fld 16).int < ((nthD (a.fld 17).list g).fld 0).int) || decide ((a.fld 11).int < ((nthD (a.fld 17).list g).fld 1).int) || !idsB ((nthD (a.fld 17).list g).fld 2).list)=false → decide (0 < (↑g:Int))=true → I64 ((↑g:Int) - 1)∧Idx ((↑g:Int) - 1) (a.fld 17).list.length)∧bif decide ((a.fld 16).int < ((nthD (a.fld 17).list g).fld 0).int) || decide ((a.fld 11).int < ((nthD (a.fld 17).list g).fld 1).int) || !idsB ((nthD (a.fld 17).list g).fld 2).list || decide (0 < (↑g:Int)) && decide (((nthD (a.fld 17).list g).fld 0).int ≤ ((nthD (a.fld 17).list ((↑g:Int) - 1).toNat).fld 0).int) then false=rdsB a else I64 ((↑g:Int) + 1)∧∃ (g_1:Nat),(↑g:Int) + 1=(↑g_1:Int)∧(g_1 ≤ (a.fld 17).list.length∧∀ (j:Nat),j < g_1 → rdAt (a.fld 16).int (a.fld 11).int (a.fld 17).list j=true)∧(a.fld 17).list.length - g_1 < (a.fld 17).list.length - g else true=rdsB a)=conGoal Tryz.prog (addS 34 idsC noS) rdrC_an 200 40 rdrC [a]:=by kernel_rfl
theorem rdrC_ok:ConOK Tryz.prog Gl.none 40 rdrC:=con_of mo (addS_ok idsC_ok (noS_ok _)) (an:=rdrC_an) 200 fun ds hl hp=>by
 obtain ⟨a,rfl⟩:=len1 hl
 rw [← rdrC_vc]
 have p0:(a.fld 17).list.length < 4611686018427387904:=hp _ (.head _)
 have p1:∀ r ∈ (a.fld 17).list,(r.fld 2).list.length < 4611686018427387904:=hp _ (.tail _ (.head _))
 refine ⟨0,rfl,⟨Nat.zero_le _,fun j h=>absurd h (Nat.not_lt_zero _)⟩,fun g ⟨h1,h2⟩=>cond_of (fun c=>?_) (fun c=>?_)⟩
 ·have c:g < (a.fld 17).list.length:=by simpa using c
  have e1:Int.toNat ((g:Int) - 1)=g - 1:=by omega
  rw [e1]
  refine ⟨⟨by omega,by omega⟩,fun _=>p1 _ (List.mem_of_getElem? (get_nthD c)),fun _ d=>?_,cond_of (fun e=>?_) (fun e=>?_)⟩
  ·have d:=of_decide_eq_true d
   exact ⟨⟨by omega,by omega⟩,⟨by omega,by omega⟩⟩
  ·rw [dec0] at e
   symm
   rw [rdsB,List.all_eq_false]
   exact ⟨g,by simpa using c,by rw [rdAt,e]; decide⟩
  ·rw [dec0] at e
   refine ⟨⟨by omega,by omega⟩,g + 1,by omega,⟨by omega,fun j hj=>?_⟩,by omega⟩
   by_cases hjg:j=g
   ·subst hjg; rw [rdAt,e]; rfl
   ·exact h2 j (by omega)
 ·have c:g=(a.fld 17).list.length:=by simp at c; omega
  symm
  rw [rdsB,List.all_eq_true]
  intro j hj
  exact h2 j (by simpa [c] using hj)
end Go.Proofs.YtplflgclomiihaaGreat.XT
