/- Contracts. -/
import Derived.Test.YtplflgclomiihaaGreatQVTS
import Derived.Test.YtplflgclomiihaaGreatProg
set_option linter.unusedVariables false
set_option linter.unusedSimpArgs false
namespace Go.Proofs.YtplflgclomiihaaGreat.XT
open Go Go.RowKit Go.Proofs.YtplflgclomiihaaGreat.Sv
set_option maxRecDepth 100000
def eqP (a b:D):Bool:=eqL eqF (a.fld 15).list (b.fld 15).list && eqL eqR (a.fld 17).list (b.fld 17).list && (decide ((a.fld 0).int=(b.fld 0).int) && decide (ints (a.fld 1).list=ints (b.fld 1).list) && decide ((a.fld 2).int=(b.fld 2).int) && decide ((a.fld 3).int=(b.fld 3).int) && decide ((a.fld 4).int=(b.fld 4).int) && decide ((a.fld 5).int=(b.fld 5).int) && decide ((a.fld 6).int=(b.fld 6).int) && decide ((a.fld 7).int=(b.fld 7).int) && decide (ints (a.fld 8).list=ints (b.fld 8).list) && decide ((a.fld 9).str=(b.fld 9).str) && eqL eqE (a.fld 10).list (b.fld 10).list && decide ((a.fld 11).int=(b.fld 11).int) && decide ((a.fld 12).int=(b.fld 12).int) && decide ((a.fld 13).int=(b.fld 13).int) && decide (ints (a.fld 14).list=ints (b.fld 14).list) && decide ((a.fld 16).int=(b.fld 16).int))
theorem eqL_self {q:D → D → Bool} (hq:∀ d,q d d=true) (xs:List D):eqL q xs xs=true:=by
 unfold eqL
 rw [decide_eq_true rfl,allJ_true fun j _=>hq _]; rfl
theorem eqE_self (d:D):eqE d d=true:=by simp [eqE]
theorem eqR_self (d:D):eqR d d=true:=by simp [eqR]
theorem eqF_self (d:D):eqF d d=true:=by simp [eqF]
theorem eqM_self (d:D):eqM d d=true:=by simp [eqM,eqL_self eqE_self]
theorem eqP_self (d:D):eqP d d=true:=by simp [eqP,eqL_self eqE_self,eqL_self eqR_self,eqL_self eqF_self]
theorem FitP.pre {a:D} (h:FitP a) {q:Prop} (hq:q):(a.fld 10).list.length < 4611686018427387904∧U64 (a.fld 6).int∧(a.fld 8).list.length ≤ 17592186044416∧(∀ e ∈ (a.fld 10).list,(e.fld 3).list.length ≤ 17592186044416)∧(a.fld 1).list.length ≤ 17592186044416∧(a.fld 14).list.length ≤ 17592186044416∧(a.fld 15).list.length ≤ 17592186044416∧(a.fld 17).list.length ≤ 17592186044416∧(∀ r ∈ (a.fld 17).list,(r.fld 2).list.length ≤ 17592186044416)∧0 ≤ (a.fld 7).int∧(∀ e ∈ (a.fld 10).list,0 ≤ (e.fld 0).int∧0 ≤ (e.fld 1).int)∧0 ≤ (a.fld 4).int∧q:=by
 have h1:=h.l10; have h2:=h.l15; have h3:=h.l17
 exact ⟨by omega,h.base,h.l8,fun e he=>(h.log e he).mem,h.l1,h.l14,by omega,by omega,fun r hr=>(h.rd r hr).acks,h.bt.1,fun e he=>⟨(h.log e he).term.1,(h.log e he).kind⟩,h.role,hq⟩
theorem not_or_eq {m c:Bool} (h:(!m || c)=true):(m && !c)=false:=by cases m <;> cases c <;> simp at h ⊢
theorem not_or_ne {m c:Bool} (h:(!m || c)=false):m=true∧c=false:=by cases m <;> cases c <;> simp at h ⊢
def sameC:Con:=⟨[.d false peerT,.d false peerT],fun ds=>(fun (a:D) (b:D)=>[FitP a]) (nthD ds 0) (nthD ds 1),[.d .b],fun ds=>(fun (a:D) (b:D)=>[.b (eqP a b)]) (nthD ds 0) (nthD ds 1),fun ds=>[]⟩
def sameC_an:Anns:=fun f i=>match f,i with
 | 9,4=>some fun A st=>match st.h.get 0,st.h.get 1 with
  | some (.c _ cs),some (.c _ ds)=>match cs.drop 15,ds.drop 15 with
   | .dl _ _ xs :: _,.dl _ _ ys :: _=>⟨Nat,fun k=>[(5,.v (.int .i64 k))],fun _=>[],fun k=>k ≤ xs.length∧∀ j,j < k → eqF (nthD xs j) (nthD ys j)=true,fun k=>xs.length - k⟩
   | _,_=>LAnn.bad
  | _,_=>LAnn.bad
 | _,_=>none
theorem sameC_vc (a b:D):(((!decide ((↑(a.fld 15).list.length:Int)=(↑(b.fld 15).list.length:Int)))=false → (a.fld 17).list.length < 4611686018427387904∧∀ (e:D),e ∈ (a.fld 17).list → (e.fld 2).list.length < 4611686018427387904)∧bif !decide ((↑(a.fld 15).list.length:Int)=(↑(b.fld 15).list.length:Int)) || !eqL eqR (a.fld 17).list (b.fld 17).list then false=eqP a b else ∃ (g:Nat),EqI 0 (↑g:Int)∧(g ≤ (a.fld 15).list.length∧∀ (j:Nat),j < g → eqF (nthD (a.fld 15).list j) (nthD (b.fld 15).list j)=true)∧∀ (g:Nat),(g ≤ (a.fld 15).list.length∧∀ (j:Nat),j < g → eqF (nthD (a.fld 15).list j) (nthD (b.fld 15).list j)=true) → bif decide ((↑g:Int) < (↑(a.fld 15).list.length:Int)) then Idx (↑g:Int) (a.fld 15).list.length∧Idx (↑g:Int) (b.fld 15).list.length∧bif !(decide (((nthD (a.fld 15).list g).fld 0).int=((nthD (b.fld 15).list g).fld 0).int) && (decide (((nthD (a.fld 15).list g).fld 1).int=((nthD (b.fld 15).list g).fld 1).int) && (decide (((nthD (a.fld 15).list g).fld 2).int=((nthD (b.fld 15).list g).fld 2).int) && true))) then false=eqP a b else I64 ((↑g:Int) + 1)∧∃ (g_1:Nat),(↑g:Int) + 1=(↑g_1:Int)∧(g_1 ≤ (a.fld 15).list.length∧∀ (j:Nat),j < g_1 → eqF (nthD (a.fld 15).list j) (nthD (b.fld 15).list j)=true)∧(a.fld 15).list.length - g_1 < (a.fld 15).list.length - g else (decide ((a.fld 0).int=(b.fld 0).int)=true → (a.fld 1).list.length < 4611686018427387904)∧((decide ((a.fld 0).int=(b.fld 0).int) && decide (ints (a.fld 1).list=ints (b.fld 1).list) && decide ((a.fld 2).int=(b.fld 2).int) && decide ((a.fld 3).int=(b.fld 3).int) && decide ((a.fld 4).int=(b.fld 4).int) && decide ((a.fld 5).int=(b.fld 5).int) && decide ((a.fld 6).int=(b.fld 6).int) && decide ((a.fld 7).int=(b.fld 7).int))=true → (a.fld 8).list.length < 4611686018427387904)∧((decide ((a.fld 0).int=(b.fld 0).int) && decide (ints (a.fld 1).list=ints (b.fld 1).list) && decide ((a.fld 2).int=(b.fld 2).int) && decide ((a.fld 3).int=(b.fld 3).int) && decide ((a.fld 4).int=(b.fld 4).int) && decide ((a.fld 5).int=(b.fld 5).int) && decide ((a.fld 6).int=(b.fld 6).int) && decide ((a.fld 7).int=(b.fld 7).int) && decide (ints (a.fld 8).list=ints (b.fld 8).list) && decide ((a.fld 9).str=(b.fld 9).str))=true → (a.fld 10).list.length < 4611686018427387904∧∀ (e:D),e ∈ (a.fld 10).list → (e.fld 3).list.length < 4611686018427387904)∧((decide ((a.fld 0).int=(b.fld 0).int) && decide (ints (a.fld 1).list=ints (b.fld 1).list) && decide ((a.fld 2).int=(b.fld 2).int) && decide ((a.fld 3).int=(b.fld 3).int) && decide ((a.fld 4).int=(b.fld 4).int) && decide ((a.fld 5).int=(b.fld 5).int) && decide ((a.fld 6).int=(b.fld 6).int) && decide ((a.fld 7).int=(b.fld 7).int) && decide (ints (a.fld 8).list=ints (b.fld 8).list) && decide ((a.fld 9).str=(b.fld 9).str) && eqL eqE (a.fld 10).list (b.fld 10).list && decide ((a.fld 11).int=(b.fld 11).int) && decide ((a.fld 12).int=(b.fld 12).int) && decide ((a.fld 13).int=(b.fld 13).int))=true → (a.fld 14).list.length < 4611686018427387904)∧(decide ((a.fld 0).int=(b.fld 0).int) && decide (ints (a.fld 1).list=ints (b.fld 1).list) && decide ((a.fld 2).int=(b.fld 2).int) && decide ((a.fld 3).int=(b.fld 3).int) && decide ((a.fld 4).int=(b.fld 4).int) && decide ((a.fld 5).int=(b.fld 5).int) && decide ((a.fld 6).int=(b.fld 6).int) && decide ((a.fld 7).int=(b.fld 7).int) && decide (ints (a.fld 8).list=ints (b.fld 8).list) && decide ((a.fld 9).str=(b.fld 9).str) && eqL eqE (a.fld 10).list (b.fld 10).list && decide ((a.fld 11).int=(b.fld 11).int) && decide ((a.fld 12).int=(b.fld 12).int) && decide ((a.fld 13).int=(b.fld 13).int) && decide (ints (a.fld 14).list=ints (b.fld 14).list) && decide ((a.fld 16).int=(b.fld 16).int))=eqP a b)=conGoal Tryz.prog (addS 28 sesC (addS 27 siC (addS 14 srsC noS))) sameC_an 200 9 sameC [a,b]:=by kernel_rfl
theorem sameC_ok:ConOK Tryz.prog Gl.none 9 sameC:=con_of mo (addS_ok sesC_ok (addS_ok siC_ok (addS_ok srsC_ok (noS_ok _)))) (an:=sameC_an) 200 fun ds hl hp=>by
 obtain ⟨a,b,rfl⟩:=len2 hl
 rw [← sameC_vc]
 have p0:FitP a:=hp _ (.head _)
 have i1:∀ e ∈ (a.fld 10).list,(e.fld 3).list.length < 4611686018427387904:=fun e he=>by have:=(p0.log e he).mem; omega
 have i2:∀ r ∈ (a.fld 17).list,(r.fld 2).list.length < 4611686018427387904:=fun e he=>by have:=(p0.rd e he).acks; omega
 have q1:=p0.l1; have q8:=p0.l8; have q10:=p0.l10; have q14:=p0.l14; have q15:=p0.l15; have q17:=p0.l17
 refine ⟨fun _=>⟨by omega,i2⟩,cond_of (fun c=>?_) (fun c=>?_)⟩
 ·rw [Bool.or_eq_true,Bool.not_eq_true',Bool.not_eq_true'] at c
  unfold eqP
  rcases c with c | c
  ·have:eqL eqF (a.fld 15).list (b.fld 15).list=false:=by unfold eqL; rw [c]; rfl
   rw [this]; rfl
  ·rw [c,Bool.and_false]; rfl
 ·rw [Bool.or_eq_false_iff,Bool.not_eq_false',Bool.not_eq_false'] at c
  obtain ⟨c1,c2⟩:=c
  have c3:((a.fld 15).list.length:Int)=((b.fld 15).list.length:Int):=of_decide_eq_true c1
  refine ⟨0,rfl,⟨Nat.zero_le _,fun j h=>absurd h (Nat.not_lt_zero _)⟩,fun g ⟨h1,h2⟩=>cond_of (fun d=>?_) (fun d=>?_)⟩
  ·have d:g < (a.fld 15).list.length:=by simpa using d
   refine ⟨⟨by omega,by omega⟩,⟨by omega,by omega⟩,cond_of (fun e=>?_) (fun e=>?_)⟩
   ·simp only [Bool.not_eq_true'] at e
    have e':eqF (nthD (a.fld 15).list g) (nthD (b.fld 15).list g)=false:=e
    have:eqL eqF (a.fld 15).list (b.fld 15).list=false:=by rw [eqL,allJ_false d e',Bool.and_false]
    unfold eqP
    rw [this]; rfl
   ·simp only [Bool.not_eq_false'] at e
    have e':eqF (nthD (a.fld 15).list g) (nthD (b.fld 15).list g)=true:=e
    refine ⟨⟨by omega,by omega⟩,g + 1,by omega,⟨by omega,fun j hj=>?_⟩,by omega⟩
    by_cases hj':j=g
    ·rw [hj']; exact e'
    ·exact h2 j (by omega)
  ·have d:g=(a.fld 15).list.length:=by simp at d; omega
   subst d
   have:eqL eqF (a.fld 15).list (b.fld 15).list=true:=by rw [eqL,allJ_true h2,c1]; rfl
   refine ⟨fun _=>by omega,fun _=>by omega,fun _=>⟨by omega,i1⟩,fun _=>by omega,?_⟩
   unfold eqP
   rw [this,c2]; rfl
end Go.Proofs.YtplflgclomiihaaGreat.XT
