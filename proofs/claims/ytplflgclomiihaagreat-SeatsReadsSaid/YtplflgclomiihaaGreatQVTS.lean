/- Contracts. -/
import Derived.Test.YtplflgclomiihaaGreatQVTR
import Derived.Test.YtplflgclomiihaaGreatProg
set_option linter.unusedVariables false
set_option linter.unusedSimpArgs false
namespace Go.Proofs.YtplflgclomiihaaGreat.XT
open Go Go.RowKit Go.Proofs.YtplflgclomiihaaGreat.Sv
set_option maxRecDepth 100000
def msgT:DT:=.t [(.i .u8),(.i .i64),(.i .i64),(.i .u64),(.i .u64),(.i .u64),(.i .u64),(.i .u64),.b,(.l entT),(.l (.i .i64)),.s]
def allJ (n:Nat) (p:Nat → Bool):Bool:=(List.range n).all p
theorem allJ_false {n g:Nat} {p:Nat → Bool} (h:g < n) (e:p g=false):allJ n p=false:=by unfold allJ; rw [List.all_eq_false]; exact ⟨g,List.mem_range.2 h,by rw [e]; decide⟩
theorem allJ_true {n:Nat} {p:Nat → Bool} (h:∀ j,j < n → p j=true):allJ n p=true:=by unfold allJ; rw [List.all_eq_true]; exact fun j hj=>h j (List.mem_range.1 hj)
def eqE (e f:D):Bool:=decide ((e.fld 0).int=(f.fld 0).int) && decide ((e.fld 1).int=(f.fld 1).int) && decide ((e.fld 2).str=(f.fld 2).str) && decide (ints (e.fld 3).list=ints (f.fld 3).list)
def eqR (e f:D):Bool:=decide ((e.fld 0).int=(f.fld 0).int) && decide ((e.fld 1).int=(f.fld 1).int) && decide (ints (e.fld 2).list=ints (f.fld 2).list)
def eqF (e f:D):Bool:=decide ((e.fld 0).int=(f.fld 0).int) && (decide ((e.fld 1).int=(f.fld 1).int) && (decide ((e.fld 2).int=(f.fld 2).int) && true))
def eqL (q:D → D → Bool) (xs ys:List D):Bool:=decide ((xs.length:Int)=(ys.length:Int)) && allJ xs.length fun j=>q (nthD xs j) (nthD ys j)
def eqM (a b:D):Bool:=decide ((a.fld 0).int=(b.fld 0).int) && decide ((a.fld 1).int=(b.fld 1).int) && decide ((a.fld 2).int=(b.fld 2).int) && decide ((a.fld 3).int=(b.fld 3).int) && decide ((a.fld 4).int=(b.fld 4).int) && decide ((a.fld 5).int=(b.fld 5).int) && decide ((a.fld 6).int=(b.fld 6).int) && decide ((a.fld 7).int=(b.fld 7).int) && ((a.fld 8).bool == (b.fld 8).bool) && eqL eqE (a.fld 9).list (b.fld 9).list && decide (ints (a.fld 10).list=ints (b.fld 10).list) && decide ((a.fld 11).str=(b.fld 11).str)
theorem nb4 (a b c d:Bool):(!a || !b || !c || !d) = !(a && b && c && d):=by cases a <;> cases b <;> cases c <;> cases d <;> rfl
theorem nb3 (a b c:Bool):(!a || !b || !c) = !(a && b && c):=by cases a <;> cases b <;> cases c <;> rfl
def sesC:Con:=⟨[.d false (.l entT),.d false (.l entT)],fun ds=>(fun (a:D) (b:D)=>[a.list.length < 4611686018427387904,∀ e ∈ a.list,(e.fld 3).list.length < 4611686018427387904]) (nthD ds 0) (nthD ds 1),[.d .b],fun ds=>(fun (a:D) (b:D)=>[.b (eqL eqE a.list b.list)]) (nthD ds 0) (nthD ds 1),fun ds=>[]⟩
def sesC_an:Anns:=fun f i=>match f,i with
 | 28,4=>some fun A st=>match A.get 0,A.get 1 with
  | some (.dl _ _ xs),some (.dl _ _ ys)=>⟨Nat,fun k=>[(5,.v (.int .i64 k))],fun _=>[],fun k=>k ≤ xs.length∧∀ j,j < k → eqE (nthD xs j) (nthD ys j)=true,fun k=>xs.length - k⟩
  | _,_=>LAnn.bad
 | _,_=>none
theorem sesC_vc (a b:D):(bif !decide ((↑a.list.length:Int)=(↑b.list.length:Int)) then false=eqL eqE a.list b.list else ∃ (g:Nat),EqI 0 (↑g:Int)∧(g ≤ a.list.length∧∀ (j:Nat),j < g → eqE (nthD a.list j) (nthD b.list j)=true)∧∀ (g:Nat),(g ≤ a.list.length∧∀ (j:Nat),j < g → eqE (nthD a.list j) (nthD b.list j)=true) → bif decide ((↑g:Int) < (↑a.list.length:Int)) then Idx (↑g:Int) a.list.length∧Idx (↑g:Int) b.list.length∧((!decide (((nthD a.list g).fld 0).int=((nthD b.list g).fld 0).int))=false → Idx (↑g:Int) a.list.length∧Idx (↑g:Int) b.list.length)∧((!decide (((nthD a.list g).fld 0).int=((nthD b.list g).fld 0).int) || !decide (((nthD a.list g).fld 1).int=((nthD b.list g).fld 1).int))=false → Idx (↑g:Int) a.list.length∧Idx (↑g:Int) b.list.length)∧((!decide (((nthD a.list g).fld 0).int=((nthD b.list g).fld 0).int) || !decide (((nthD a.list g).fld 1).int=((nthD b.list g).fld 1).int) || !decide (((nthD a.list g).fld 2).str=((nthD b.list g).fld 2).str))=false → Idx (↑g:Int) a.list.length∧Idx (↑g:Int) b.list.length∧((nthD a.list g).fld 3).list.length < 4611686018427387904)∧bif !decide (((nthD a.list g).fld 0).int=((nthD b.list g).fld 0).int) || !decide (((nthD a.list g).fld 1).int=((nthD b.list g).fld 1).int) || !decide (((nthD a.list g).fld 2).str=((nthD b.list g).fld 2).str) || !decide (ints ((nthD a.list g).fld 3).list=ints ((nthD b.list g).fld 3).list) then false=eqL eqE a.list b.list else I64 ((↑g:Int) + 1)∧∃ (g_1:Nat),(↑g:Int) + 1=(↑g_1:Int)∧(g_1 ≤ a.list.length∧∀ (j:Nat),j < g_1 → eqE (nthD a.list j) (nthD b.list j)=true)∧a.list.length - g_1 < a.list.length - g else true=eqL eqE a.list b.list)=conGoal Tryz.prog (addS 27 siC noS) sesC_an 200 28 sesC [a,b]:=by kernel_rfl
theorem sesC_ok:ConOK Tryz.prog Gl.none 28 sesC:=con_of mo (addS_ok siC_ok (noS_ok _)) (an:=sesC_an) 200 fun ds hl hp=>by
 obtain ⟨a,b,rfl⟩:=len2 hl
 rw [← sesC_vc]
 have p0:a.list.length < 4611686018427387904:=hp _ (.head _)
 have p1:∀ e ∈ a.list,(e.fld 3).list.length < 4611686018427387904:=hp _ (.tail _ (.head _))
 refine cond_of (fun c=>?_) (fun c=>?_)
 ·rw [eqL]; simp only [Bool.not_eq_true'] at c; rw [c]; rfl
 ·have c:(a.list.length:Int)=(b.list.length:Int):=by simpa using c
  refine ⟨0,rfl,⟨Nat.zero_le _,fun j h=>absurd h (Nat.not_lt_zero _)⟩,fun g ⟨h1,h2⟩=>cond_of (fun d=>?_) (fun d=>?_)⟩
  ·have d:g < a.list.length:=by simpa using d
   have ma:=List.mem_of_getElem? (get_nthD d)
   refine ⟨⟨by omega,by omega⟩,⟨by omega,by omega⟩,fun _=>⟨⟨by omega,by omega⟩,⟨by omega,by omega⟩⟩,fun _=>⟨⟨by omega,by omega⟩,⟨by omega,by omega⟩⟩,fun _=>⟨⟨by omega,by omega⟩,⟨by omega,by omega⟩,p1 _ ma⟩,cond_of (fun e=>?_) (fun e=>?_)⟩
   ·have e':eqE (nthD a.list g) (nthD b.list g)=false:=by rw [nb4] at e; simp only [Bool.not_eq_true'] at e; exact e
    rw [eqL,allJ_false d e',Bool.and_false]
   ·have e':eqE (nthD a.list g) (nthD b.list g)=true:=by rw [nb4] at e; simp only [Bool.not_eq_false'] at e; exact e
    refine ⟨⟨by omega,by omega⟩,g + 1,by omega,⟨by omega,fun j hj=>?_⟩,by omega⟩
    by_cases hj':j=g
    ·rw [hj']; exact e'
    ·exact h2 j (by omega)
  ·have d:g=a.list.length:=by simp at d; omega
   subst d
   rw [eqL,allJ_true h2,decide_eq_true c]; rfl
def srsC:Con:=⟨[.d false (.l rdT),.d false (.l rdT)],fun ds=>(fun (a:D) (b:D)=>[a.list.length < 4611686018427387904,∀ e ∈ a.list,(e.fld 2).list.length < 4611686018427387904]) (nthD ds 0) (nthD ds 1),[.d .b],fun ds=>(fun (a:D) (b:D)=>[.b (eqL eqR a.list b.list)]) (nthD ds 0) (nthD ds 1),fun ds=>[]⟩
def srsC_an:Anns:=fun f i=>match f,i with
 | 14,4=>some fun A st=>match A.get 0,A.get 1 with
  | some (.dl _ _ xs),some (.dl _ _ ys)=>⟨Nat,fun k=>[(5,.v (.int .i64 k))],fun _=>[],fun k=>k ≤ xs.length∧∀ j,j < k → eqR (nthD xs j) (nthD ys j)=true,fun k=>xs.length - k⟩
  | _,_=>LAnn.bad
 | _,_=>none
theorem srsC_vc (a b:D):(bif !decide ((↑a.list.length:Int)=(↑b.list.length:Int)) then false=eqL eqR a.list b.list else ∃ (g:Nat),EqI 0 (↑g:Int)∧(g ≤ a.list.length∧∀ (j:Nat),j < g → eqR (nthD a.list j) (nthD b.list j)=true)∧∀ (g:Nat),(g ≤ a.list.length∧∀ (j:Nat),j < g → eqR (nthD a.list j) (nthD b.list j)=true) → bif decide ((↑g:Int) < (↑a.list.length:Int)) then Idx (↑g:Int) a.list.length∧Idx (↑g:Int) b.list.length∧((!decide (((nthD a.list g).fld 0).int=((nthD b.list g).fld 0).int))=false → Idx (↑g:Int) a.list.length∧Idx (↑g:Int) b.list.length)∧((!decide (((nthD a.list g).fld 0).int=((nthD b.list g).fld 0).int) || !decide (((nthD a.list g).fld 1).int=((nthD b.list g).fld 1).int))=false → Idx (↑g:Int) a.list.length∧Idx (↑g:Int) b.list.length∧((nthD a.list g).fld 2).list.length < 4611686018427387904)∧bif !decide (((nthD a.list g).fld 0).int=((nthD b.list g).fld 0).int) || !decide (((nthD a.list g).fld 1).int=((nthD b.list g).fld 1).int) || !decide (ints ((nthD a.list g).fld 2).list=ints ((nthD b.list g).fld 2).list) then false=eqL eqR a.list b.list else I64 ((↑g:Int) + 1)∧∃ (g_1:Nat),(↑g:Int) + 1=(↑g_1:Int)∧(g_1 ≤ a.list.length∧∀ (j:Nat),j < g_1 → eqR (nthD a.list j) (nthD b.list j)=true)∧a.list.length - g_1 < a.list.length - g else true=eqL eqR a.list b.list)=conGoal Tryz.prog (addS 27 siC noS) srsC_an 200 14 srsC [a,b]:=by kernel_rfl
theorem srsC_ok:ConOK Tryz.prog Gl.none 14 srsC:=con_of mo (addS_ok siC_ok (noS_ok _)) (an:=srsC_an) 200 fun ds hl hp=>by
 obtain ⟨a,b,rfl⟩:=len2 hl
 rw [← srsC_vc]
 have p0:a.list.length < 4611686018427387904:=hp _ (.head _)
 have p1:∀ e ∈ a.list,(e.fld 2).list.length < 4611686018427387904:=hp _ (.tail _ (.head _))
 refine cond_of (fun c=>?_) (fun c=>?_)
 ·rw [eqL]; simp only [Bool.not_eq_true'] at c; rw [c]; rfl
 ·have c:(a.list.length:Int)=(b.list.length:Int):=by simpa using c
  refine ⟨0,rfl,⟨Nat.zero_le _,fun j h=>absurd h (Nat.not_lt_zero _)⟩,fun g ⟨h1,h2⟩=>cond_of (fun d=>?_) (fun d=>?_)⟩
  ·have d:g < a.list.length:=by simpa using d
   have ma:=List.mem_of_getElem? (get_nthD d)
   refine ⟨⟨by omega,by omega⟩,⟨by omega,by omega⟩,fun _=>⟨⟨by omega,by omega⟩,⟨by omega,by omega⟩⟩,fun _=>⟨⟨by omega,by omega⟩,⟨by omega,by omega⟩,p1 _ ma⟩,cond_of (fun e=>?_) (fun e=>?_)⟩
   ·have e':eqR (nthD a.list g) (nthD b.list g)=false:=by rw [nb3] at e; simp only [Bool.not_eq_true'] at e; exact e
    rw [eqL,allJ_false d e',Bool.and_false]
   ·have e':eqR (nthD a.list g) (nthD b.list g)=true:=by rw [nb3] at e; simp only [Bool.not_eq_false'] at e; exact e
    refine ⟨⟨by omega,by omega⟩,g + 1,by omega,⟨by omega,fun j hj=>?_⟩,by omega⟩
    by_cases hj':j=g
    ·rw [hj']; exact e'
    ·exact h2 j (by omega)
  ·have d:g=a.list.length:=by simp at d; omega
   subst d
   rw [eqL,allJ_true h2,decide_eq_true c]; rfl
def smC:Con:=⟨[.d false msgT,.d false msgT],fun ds=>(fun (a:D) (b:D)=>[(a.fld 9).list.length < 4611686018427387904,∀ e ∈ (a.fld 9).list,(e.fld 3).list.length < 4611686018427387904,(a.fld 10).list.length < 4611686018427387904]) (nthD ds 0) (nthD ds 1),[.d .b],fun ds=>(fun (a:D) (b:D)=>[.b (eqM a b)]) (nthD ds 0) (nthD ds 1),fun ds=>[]⟩
def smC_an:Anns:=fun _ _=>none
theorem smC_vc (a b:D):(((decide ((a.fld 0).int=(b.fld 0).int) && decide ((a.fld 1).int=(b.fld 1).int) && decide ((a.fld 2).int=(b.fld 2).int) && decide ((a.fld 3).int=(b.fld 3).int) && decide ((a.fld 4).int=(b.fld 4).int) && decide ((a.fld 5).int=(b.fld 5).int) && decide ((a.fld 6).int=(b.fld 6).int) && decide ((a.fld 7).int=(b.fld 7).int) && (a.fld 8).bool == (b.fld 8).bool)=true → (a.fld 9).list.length < 4611686018427387904∧∀ (e:D),e ∈ (a.fld 9).list → (e.fld 3).list.length < 4611686018427387904)∧((decide ((a.fld 0).int=(b.fld 0).int) && decide ((a.fld 1).int=(b.fld 1).int) && decide ((a.fld 2).int=(b.fld 2).int) && decide ((a.fld 3).int=(b.fld 3).int) && decide ((a.fld 4).int=(b.fld 4).int) && decide ((a.fld 5).int=(b.fld 5).int) && decide ((a.fld 6).int=(b.fld 6).int) && decide ((a.fld 7).int=(b.fld 7).int) && (a.fld 8).bool == (b.fld 8).bool && eqL eqE (a.fld 9).list (b.fld 9).list)=true → (a.fld 10).list.length < 4611686018427387904)∧(decide ((a.fld 0).int=(b.fld 0).int) && decide ((a.fld 1).int=(b.fld 1).int) && decide ((a.fld 2).int=(b.fld 2).int) && decide ((a.fld 3).int=(b.fld 3).int) && decide ((a.fld 4).int=(b.fld 4).int) && decide ((a.fld 5).int=(b.fld 5).int) && decide ((a.fld 6).int=(b.fld 6).int) && decide ((a.fld 7).int=(b.fld 7).int) && (a.fld 8).bool == (b.fld 8).bool && eqL eqE (a.fld 9).list (b.fld 9).list && decide (ints (a.fld 10).list=ints (b.fld 10).list) && decide ((a.fld 11).str=(b.fld 11).str))=eqM a b)=conGoal Tryz.prog (addS 27 siC (addS 28 sesC noS)) smC_an 200 29 smC [a,b]:=by kernel_rfl
theorem smC_ok:ConOK Tryz.prog Gl.none 29 smC:=con_of mo (addS_ok siC_ok (addS_ok sesC_ok (noS_ok _))) (an:=smC_an) 200 fun ds hl hp=>by
 obtain ⟨a,b,rfl⟩:=len2 hl
 rw [← smC_vc]
 have p0:(a.fld 9).list.length < 4611686018427387904:=hp _ (.head _)
 have p1:∀ e ∈ (a.fld 9).list,(e.fld 3).list.length < 4611686018427387904:=hp _ (.tail _ (.head _))
 have p2:(a.fld 10).list.length < 4611686018427387904:=hp _ (.tail _ (.tail _ (.head _)))
 exact ⟨fun _=>⟨p0,p1⟩,fun _=>p2,rfl⟩
def smsC:Con:=⟨[.d false (.l msgT),.d false (.l msgT)],fun ds=>(fun (a:D) (b:D)=>[a.list.length < 4611686018427387904,∀ m ∈ a.list,(m.fld 9).list.length < 4611686018427387904,∀ m ∈ a.list,∀ e ∈ (m.fld 9).list,(e.fld 3).list.length < 4611686018427387904,∀ m ∈ a.list,(m.fld 10).list.length < 4611686018427387904]) (nthD ds 0) (nthD ds 1),[.d .b],fun ds=>(fun (a:D) (b:D)=>[.b (eqL eqM a.list b.list)]) (nthD ds 0) (nthD ds 1),fun ds=>[]⟩
def smsC_an:Anns:=fun f i=>match f,i with
 | 10,4=>some fun A st=>match A.get 0,A.get 1 with
  | some (.dl _ _ xs),some (.dl _ _ ys)=>⟨Nat,fun k=>[(5,.v (.int .i64 k))],fun _=>[],fun k=>k ≤ xs.length∧∀ j,j < k → eqM (nthD xs j) (nthD ys j)=true,fun k=>xs.length - k⟩
  | _,_=>LAnn.bad
 | _,_=>none
theorem smsC_vc (a b:D):(bif !decide ((↑a.list.length:Int)=(↑b.list.length:Int)) then false=eqL eqM a.list b.list else ∃ (g:Nat),EqI 0 (↑g:Int)∧(g ≤ a.list.length∧∀ (j:Nat),j < g → eqM (nthD a.list j) (nthD b.list j)=true)∧∀ (g:Nat),(g ≤ a.list.length∧∀ (j:Nat),j < g → eqM (nthD a.list j) (nthD b.list j)=true) → bif decide ((↑g:Int) < (↑a.list.length:Int)) then Idx (↑g:Int) a.list.length∧Idx (↑g:Int) b.list.length∧((nthD a.list g).fld 9).list.length < 4611686018427387904∧(∀ (e:D),e ∈ ((nthD a.list g).fld 9).list → (e.fld 3).list.length < 4611686018427387904)∧((nthD a.list g).fld 10).list.length < 4611686018427387904∧bif !eqM (nthD a.list g) (nthD b.list g) then false=eqL eqM a.list b.list else I64 ((↑g:Int) + 1)∧∃ (g_1:Nat),(↑g:Int) + 1=(↑g_1:Int)∧(g_1 ≤ a.list.length∧∀ (j:Nat),j < g_1 → eqM (nthD a.list j) (nthD b.list j)=true)∧a.list.length - g_1 < a.list.length - g else true=eqL eqM a.list b.list)=conGoal Tryz.prog (addS 29 smC noS) smsC_an 200 10 smsC [a,b]:=by kernel_rfl
theorem smsC_ok:ConOK Tryz.prog Gl.none 10 smsC:=con_of mo (addS_ok smC_ok (noS_ok _)) (an:=smsC_an) 200 fun ds hl hp=>by
 obtain ⟨a,b,rfl⟩:=len2 hl
 rw [← smsC_vc]
 have p0:a.list.length < 4611686018427387904:=hp _ (.head _)
 have p1:∀ m ∈ a.list,(m.fld 9).list.length < 4611686018427387904:=hp _ (.tail _ (.head _))
 have p2:∀ m ∈ a.list,∀ e ∈ (m.fld 9).list,(e.fld 3).list.length < 4611686018427387904:=hp _ (.tail _ (.tail _ (.head _)))
 have p3:∀ m ∈ a.list,(m.fld 10).list.length < 4611686018427387904:=hp _ (.tail _ (.tail _ (.tail _ (.head _))))
 refine cond_of (fun c=>?_) (fun c=>?_)
 ·rw [eqL]; simp only [Bool.not_eq_true'] at c; rw [c]; rfl
 ·have c:(a.list.length:Int)=(b.list.length:Int):=by simpa using c
  refine ⟨0,rfl,⟨Nat.zero_le _,fun j h=>absurd h (Nat.not_lt_zero _)⟩,fun g ⟨h1,h2⟩=>cond_of (fun d=>?_) (fun d=>?_)⟩
  ·have d:g < a.list.length:=by simpa using d
   have ma:=List.mem_of_getElem? (get_nthD d)
   refine ⟨⟨by omega,by omega⟩,⟨by omega,by omega⟩,p1 _ ma,p2 _ ma,p3 _ ma,cond_of (fun e=>?_) (fun e=>?_)⟩
   ·have e':eqM (nthD a.list g) (nthD b.list g)=false:=by simpa only [Bool.not_eq_true'] using e
    rw [eqL,allJ_false d e',Bool.and_false]
   ·have e':eqM (nthD a.list g) (nthD b.list g)=true:=by simpa only [Bool.not_eq_false'] using e
    refine ⟨⟨by omega,by omega⟩,g + 1,by omega,⟨by omega,fun j hj=>?_⟩,by omega⟩
    by_cases hj':j=g
    ·rw [hj']; exact e'
    ·exact h2 j (by omega)
  ·have d:g=a.list.length:=by simp at d; omega
   subst d
   rw [eqL,allJ_true h2,decide_eq_true c]; rfl
end Go.Proofs.YtplflgclomiihaaGreat.XT
