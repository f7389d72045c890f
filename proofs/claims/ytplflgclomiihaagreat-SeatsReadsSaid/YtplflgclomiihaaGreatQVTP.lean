/- Contracts. -/
import Derived.Test.YtplflgclomiihaaGreatQVTO
import Derived.Test.YtplflgclomiihaaGreatProg
set_option linter.unusedVariables false
set_option linter.unusedSimpArgs false
namespace Go.Proofs.YtplflgclomiihaaGreat.XT
open Go Go.RowKit Go.Proofs.YtplflgclomiihaaGreat.Sv
set_option maxRecDepth 100000
theorem entsB_le {to:Int}:∀ {xs:List D} {fr:Int},entsB xs fr to=true → ∀ j,j < xs.length → (D.int (D.fld (nthD xs j) 0)) ≤ to
 | [],_,_,_,h=>absurd h (Nat.not_lt_zero _)
 | e :: r,fr,h,j,hj=>by
  rw [entsB,Bool.and_eq_true] at h
  cases j with
  | zero =>
   have h1:=h.1
   unfold entB at h1
   show (D.int (D.fld e 0)) ≤ to
   by_cases hk:(D.int (D.fld e 0)) ≤ to
   ·exact hk
   ·rw [decide_eq_false hk,Bool.and_false] at h1
    unfold entKind at h1
    simp at h1
  | succ j=>exact entsB_le (xs:=r) h.2 j (by simpa using hj)
def mayL0 (a:D):Bool:=decide (((a.fld 15).list.length:Int)=0) && decide (((a.fld 17).list.length:Int)=0) && decide (((a.fld 14).list.length:Int)=0)
def mayL1 (a:D):Bool:=decide (((a.fld 15).list.length:Int)=0) && decide (((a.fld 17).list.length:Int)=0) && decide ((a.fld 5).int=0) && decide ((a.fld 3).int=(a.fld 0).int) && idsB (a.fld 14).list && inL (a.fld 14).list (a.fld 0).int && inL (a.fld 1).list (a.fld 0).int
def mayL2 (a:D):Bool:=decide (((a.fld 14).list.length:Int)=0) && decide ((a.fld 5).int=(a.fld 0).int) && decide (0 < (a.fld 2).int) && folB a (((lastIf (D.int (D.fld a 6)) (D.list (D.fld a 10))))) && rdsB a
def mayB (a:D):Bool :=
 bif !okId (a.fld 0).int || decide ((a.fld 13).int ≤ 0) || decide (1073741824 < (a.fld 13).int) || decide ((a.fld 12).int < 0) || decide (1073741824 < (a.fld 12).int) || decide (4611686018427387904 < (a.fld 2).int) || decide (4611686018427387904 < (a.fld 6).int) || decide (4611686018427387904 < (a.fld 16).int) then false else
 bif !decide ((a.fld 3).int=0) && !okId (a.fld 3).int || !decide ((a.fld 5).int=0) && !okId (a.fld 5).int || !(decide (0 < (a.fld 8).list.length) && idsB (a.fld 8).list) then false else
 bif decide ((a.fld 2).int < (a.fld 7).int) || !(decide ((a.fld 6).int=0) == decide ((a.fld 7).int=0)) || decide ((a.fld 6).int=0) && !decide ((a.fld 9).str=ByteArray.mk #[]) || !entsB (a.fld 10).list (max (a.fld 7).int 1) (a.fld 2).int then false else
 bif !decide (ints (a.fld 1).list=ints (mems a (((lastIf (D.int (D.fld a 6)) (D.list (D.fld a 10))))))) || decide ((a.fld 11).int < (a.fld 6).int) || decide (((lastIf (D.int (D.fld a 6)) (D.list (D.fld a 10)))) < (a.fld 11).int) then false else
 bif decide ((a.fld 4).int=0) then mayL0 a else bif decide ((a.fld 4).int=1) then mayL1 a else bif decide ((a.fld 4).int=2) then mayL2 a else false
theorem lastI_U (a:D) (h:U64 (a.fld 6).int):U64 (((lastIf (D.int (D.fld a 6)) (D.list (D.fld a 10))))):=by
 unfold lastIf
 split
 ·exact h
 ·exact u64_in _
structure MayP (a:D):Prop where
 id:okId (a.fld 0).int=true
 wait0:0 < (a.fld 13).int
 wait1:(a.fld 13).int ≤ 1073741824
 idle0:0 ≤ (a.fld 12).int
 idle1:(a.fld 12).int ≤ 1073741824
 term:(a.fld 2).int ≤ 4611686018427387904
 base:(a.fld 6).int ≤ 4611686018427387904
 round:(a.fld 16).int ≤ 4611686018427387904
 vote:(a.fld 3).int=0 ∨ okId (a.fld 3).int=true
 lead:(a.fld 5).int=0 ∨ okId (a.fld 5).int=true
 bm0:0 < (a.fld 8).list.length
 bm1:idsB (a.fld 8).list=true
 bt:(a.fld 7).int ≤ (a.fld 2).int
 b0:(a.fld 6).int=0 ↔ (a.fld 7).int=0
 snap:(a.fld 6).int=0 → (a.fld 9).str=ByteArray.mk #[]
 log:entsB (a.fld 10).list (max (a.fld 7).int 1) (a.fld 2).int=true
 mem:ints (a.fld 1).list=ints (mems a (((lastIf (D.int (D.fld a 6)) (D.list (D.fld a 10))))))
 com0:(a.fld 6).int ≤ (a.fld 11).int
 com1:(a.fld 11).int ≤ ((lastIf (D.int (D.fld a 6)) (D.list (D.fld a 10))))
 role:((a.fld 4).int=0∧mayL0 a=true) ∨ ((a.fld 4).int=1∧mayL1 a=true) ∨ ((a.fld 4).int=2∧mayL2 a=true)
theorem cfx {c x:Bool}:(bif c then false else x)=true ↔ c=false∧x=true:=by cases c <;> simp
theorem mayB_iff {a:D}:mayB a=true ↔ MayP a:=by
 rw [mayB,cfx,cfx,cfx,cfx]
 constructor
 ·rintro ⟨h1,h2,h3,h4,h5⟩
  simp only [Bool.or_eq_false_iff,Bool.not_eq_false',Bool.and_eq_false_imp,decide_eq_false_iff_not,decide_eq_true_eq,Bool.not_eq_true',Bool.and_eq_true,beq_iff_eq,Int.not_le,Int.not_lt] at h1 h2 h3 h4
  obtain ⟨⟨⟨⟨⟨⟨⟨a1,a2⟩,a3⟩,a4⟩,a5⟩,a6⟩,a7⟩,a8⟩:=h1
  obtain ⟨⟨b1,b2⟩,b3,b4⟩:=h2
  obtain ⟨⟨⟨c1,c2⟩,c3⟩,c4⟩:=h3
  obtain ⟨⟨d1,d2⟩,d3⟩:=h4
  refine ⟨a1,a2,a3,a4,a5,a6,a7,a8,?_,?_,b3,b4,c1,?_,c3,c4,d1,d2,d3,?_⟩
  ·by_cases h:(a.fld 3).int=0
   ·exact .inl h
   ·exact .inr (b1 h)
  ·by_cases h:(a.fld 5).int=0
   ·exact .inl h
   ·exact .inr (b2 h)
  ·rw [← decide_eq_true_iff (p:=(a.fld 6).int=0),← decide_eq_true_iff (p:=(a.fld 7).int=0),c2]
  ·by_cases r0:(a.fld 4).int=0
   ·rw [decide_eq_true r0,cond_true] at h5; exact .inl ⟨r0,h5⟩
   ·rw [decide_eq_false r0,cond_false] at h5
    by_cases r1:(a.fld 4).int=1
    ·rw [decide_eq_true r1,cond_true] at h5; exact .inr (.inl ⟨r1,h5⟩)
    ·rw [decide_eq_false r1,cond_false] at h5
     by_cases r2:(a.fld 4).int=2
     ·rw [decide_eq_true r2,cond_true] at h5; exact .inr (.inr ⟨r2,h5⟩)
     ·rw [decide_eq_false r2,cond_false] at h5; cases h5
 ·intro h
  simp only [Bool.or_eq_false_iff,Bool.not_eq_false',Bool.and_eq_false_imp,decide_eq_false_iff_not,decide_eq_true_eq,Bool.not_eq_true',Bool.and_eq_true,beq_iff_eq,Int.not_le,Int.not_lt]
  refine ⟨⟨⟨⟨⟨⟨⟨⟨h.id,h.wait0⟩,h.wait1⟩,h.idle0⟩,h.idle1⟩,h.term⟩,h.base⟩,h.round⟩,⟨⟨fun k=>h.vote.resolve_left k,fun k=>h.lead.resolve_left k⟩,h.bm0,h.bm1⟩,⟨⟨⟨h.bt,?_⟩,h.snap⟩,h.log⟩,⟨⟨h.mem,h.com0⟩,h.com1⟩,?_⟩
  ·rw [Bool.eq_iff_iff,decide_eq_true_iff,decide_eq_true_iff]; exact h.b0
  ·rcases h.role with ⟨r,h5⟩ | ⟨r,h5⟩ | ⟨r,h5⟩
   ·rw [decide_eq_true r]; exact h5
   ·rw [r]; exact h5
   ·rw [r]; exact h5
def mayC:Con:=⟨[.d true peerT],fun ds=>(fun (a:D)=>[(a.fld 10).list.length < 4611686018427387904,U64 (a.fld 6).int,(a.fld 8).list.length ≤ 17592186044416,∀ e ∈ (a.fld 10).list,(e.fld 3).list.length ≤ 17592186044416,(a.fld 1).list.length ≤ 17592186044416,(a.fld 14).list.length ≤ 17592186044416,(a.fld 15).list.length ≤ 17592186044416,(a.fld 17).list.length ≤ 17592186044416,∀ r ∈ (a.fld 17).list,(r.fld 2).list.length ≤ 17592186044416,0 ≤ (a.fld 7).int,∀ e ∈ (a.fld 10).list,0 ≤ (D.int (D.fld e 0))∧0 ≤ (D.int (D.fld e 1)),0 ≤ (a.fld 4).int]) (nthD ds 0),[.d .b],fun ds=>(fun (a:D)=>[.b (mayB a)]) (nthD ds 0),fun ds=>[]⟩
def mayC_an:Anns:=fun _ _=>none
theorem mayC_vc (a:D):(bif !okId (a.fld 0).int || decide ((a.fld 13).int ≤ 0) || decide (1073741824 < (a.fld 13).int) || decide ((a.fld 12).int < 0) || decide (1073741824 < (a.fld 12).int) || decide (4611686018427387904 < (a.fld 2).int) || decide (4611686018427387904 < (a.fld 6).int) || decide (4611686018427387904 < (a.fld 16).int) then false=mayB a else ((!decide ((a.fld 3).int=0) && !okId (a.fld 3).int || !decide ((a.fld 5).int=0) && !okId (a.fld 5).int)=false → (a.fld 8).list.length < 4611686018427387904)∧bif !decide ((a.fld 3).int=0) && !okId (a.fld 3).int || !decide ((a.fld 5).int=0) && !okId (a.fld 5).int || !(decide (0 < (a.fld 8).list.length) && idsB (a.fld 8).list) then false=mayB a else ((decide ((a.fld 2).int < (a.fld 7).int) || !decide ((a.fld 6).int=0) == decide ((a.fld 7).int=0) || decide ((a.fld 6).int=0) && !decide ((a.fld 9).str=ByteArray.mk #[]))=false → (a.fld 10).list.length < 4611686018427387904∧∀ (e:D),e ∈ (a.fld 10).list → (e.fld 3).list.length < 4611686018427387904)∧bif decide ((a.fld 2).int < (a.fld 7).int) || !decide ((a.fld 6).int=0) == decide ((a.fld 7).int=0) || decide ((a.fld 6).int=0) && !decide ((a.fld 9).str=ByteArray.mk #[]) || !entsB (a.fld 10).list (max (a.fld 7).int 1) (a.fld 2).int then false=mayB a else (a.fld 10).list.length < 4611686018427387904∧(a.fld 1).list=(a.fld 1).list∧(a.fld 10).list.length < 4611686018427387904∧(0 ≤ (a.fld 6).int∧(a.fld 6).int ≤ 18446744073709551615)∧(0 ≤ lastIf (a.fld 6).int (a.fld 10).list∧lastIf (a.fld 6).int (a.fld 10).list ≤ 18446744073709551615)∧(a.fld 8).list.length ≤ 17592186044416∧(∀ (e:D),e ∈ (a.fld 10).list → (e.fld 3).list.length ≤ 17592186044416)∧(a.fld 1).list.length < 4611686018427387904∧bif !decide (ints (a.fld 1).list=ints (mems a (lastIf (a.fld 6).int (a.fld 10).list))) || decide ((a.fld 11).int < (a.fld 6).int) || decide (lastIf (a.fld 6).int (a.fld 10).list < (a.fld 11).int) then false=mayB a else bif decide ((a.fld 4).int=0) then (decide ((↑(a.fld 15).list.length:Int)=0) && decide ((↑(a.fld 17).list.length:Int)=0) && decide ((↑(a.fld 14).list.length:Int)=0))=mayB a else bif decide ((a.fld 4).int=1) then ((decide ((↑(a.fld 15).list.length:Int)=0) && decide ((↑(a.fld 17).list.length:Int)=0) && decide ((a.fld 5).int=0) && decide ((a.fld 3).int=(a.fld 0).int))=true → (a.fld 14).list.length < 4611686018427387904)∧((decide ((↑(a.fld 15).list.length:Int)=0) && decide ((↑(a.fld 17).list.length:Int)=0) && decide ((a.fld 5).int=0) && decide ((a.fld 3).int=(a.fld 0).int) && idsB (a.fld 14).list)=true → (a.fld 14).list.length < 4611686018427387904)∧((decide ((↑(a.fld 15).list.length:Int)=0) && decide ((↑(a.fld 17).list.length:Int)=0) && decide ((a.fld 5).int=0) && decide ((a.fld 3).int=(a.fld 0).int) && idsB (a.fld 14).list && inL (a.fld 14).list (a.fld 0).int)=true → (a.fld 1).list.length < 4611686018427387904)∧(decide ((↑(a.fld 15).list.length:Int)=0) && decide ((↑(a.fld 17).list.length:Int)=0) && decide ((a.fld 5).int=0) && decide ((a.fld 3).int=(a.fld 0).int) && idsB (a.fld 14).list && inL (a.fld 14).list (a.fld 0).int && inL (a.fld 1).list (a.fld 0).int)=mayB a else bif decide ((a.fld 4).int=2) then ((decide ((↑(a.fld 14).list.length:Int)=0) && decide ((a.fld 5).int=(a.fld 0).int) && decide (0 < (a.fld 2).int))=true → (a.fld 15).list.length ≤ 17592186044416∧(a.fld 1).list.length ≤ 17592186044416)∧((decide ((↑(a.fld 14).list.length:Int)=0) && decide ((a.fld 5).int=(a.fld 0).int) && decide (0 < (a.fld 2).int) && folB a (lastIf (a.fld 6).int (a.fld 10).list))=true → (a.fld 17).list.length < 4611686018427387904∧∀ (r:D),r ∈ (a.fld 17).list → (r.fld 2).list.length < 4611686018427387904)∧(decide ((↑(a.fld 14).list.length:Int)=0) && decide ((a.fld 5).int=(a.fld 0).int) && decide (0 < (a.fld 2).int) && folB a (lastIf (a.fld 6).int (a.fld 10).list) && rdsB a)=mayB a else false=mayB a)=conGoal Tryz.prog (addS 73 readsC (addS 72 folC (addS 64 contC (addS 71 risC (addS 69 eqC (addS 70 memsC (addS 68 lastC (addS 67 entsC (addS 66 memC (addS 65 idC noS)))))))))) mayC_an 200 43 mayC [a]:=by kernel_rfl
theorem mayC_ok:ConOK Tryz.prog Gl.none 43 mayC:=con_of mo (addS_ok readsC_ok (addS_ok folC_ok (addS_ok contC_ok (addS_ok risC_ok (addS_ok eqC_ok (addS_ok memsC_ok (addS_ok lastC_ok (addS_ok entsC_ok (addS_ok memC_ok (addS_ok idC_ok (noS_ok _))))))))))) (an:=mayC_an) 200 fun ds hl hp=>by
 obtain ⟨a,rfl⟩:=len1 hl
 rw [← mayC_vc]
 have p0:(a.fld 10).list.length < 4611686018427387904:=hp _ (.head _)
 have p1:U64 (a.fld 6).int:=hp _ (.tail _ (.head _))
 have p2:(a.fld 8).list.length ≤ 17592186044416:=hp _ (.tail _ (.tail _ (.head _)))
 have p3:∀ e ∈ (a.fld 10).list,(e.fld 3).list.length ≤ 17592186044416:=hp _ (.tail _ (.tail _ (.tail _ (.head _))))
 have p4:(a.fld 1).list.length ≤ 17592186044416:=hp _ (.tail _ (.tail _ (.tail _ (.tail _ (.head _)))))
 have p5:(a.fld 14).list.length ≤ 17592186044416:=hp _ (.tail _ (.tail _ (.tail _ (.tail _ (.tail _ (.head _))))))
 have p6:(a.fld 15).list.length ≤ 17592186044416:=hp _ (.tail _ (.tail _ (.tail _ (.tail _ (.tail _ (.tail _ (.head _)))))))
 have p7:(a.fld 17).list.length ≤ 17592186044416:=hp _ (.tail _ (.tail _ (.tail _ (.tail _ (.tail _ (.tail _ (.tail _ (.head _))))))))
 have p8:∀ r ∈ (a.fld 17).list,(r.fld 2).list.length ≤ 17592186044416:=hp _ (.tail _ (.tail _ (.tail _ (.tail _ (.tail _ (.tail _ (.tail _ (.tail _ (.head _)))))))))
 have p9:0 ≤ (a.fld 7).int:=hp _ (.tail _ (.tail _ (.tail _ (.tail _ (.tail _ (.tail _ (.tail _ (.tail _ (.tail _ (.head _))))))))))
 have p10:∀ e ∈ (a.fld 10).list,0 ≤ (D.int (D.fld e 0))∧0 ≤ (D.int (D.fld e 1)):=hp _ (.tail _ (.tail _ (.tail _ (.tail _ (.tail _ (.tail _ (.tail _ (.tail _ (.tail _ (.tail _ (.head _)))))))))))
 have p11:0 ≤ (a.fld 4).int:=hp _ (.tail _ (.tail _ (.tail _ (.tail _ (.tail _ (.tail _ (.tail _ (.tail _ (.tail _ (.tail _ (.tail _ (.head _))))))))))))
 have hU:=lastI_U a p1
 have i1:∀ e ∈ (a.fld 10).list,(e.fld 3).list.length < 4611686018427387904:=fun e he=>by have:=p3 e he; omega
 have i2:∀ r ∈ (a.fld 17).list,(r.fld 2).list.length < 4611686018427387904:=fun e he=>by have:=p8 e he; omega
 unfold mayB
 refine cond_of (fun e=>by rw [e]; rfl) (fun e=>?_)
 rw [e,cond_false]
 refine ⟨fun _=>by omega,cond_of (fun e=>by rw [e]; rfl) (fun e=>?_)⟩
 rw [e,cond_false]
 refine ⟨fun _=>⟨p0,i1⟩,cond_of (fun e=>by rw [e]; rfl) (fun e=>?_)⟩
 rw [e,cond_false]
 refine ⟨p0,rfl,p0,p1,hU,p2,p3,by omega,cond_of (fun e=>by rw [e]; rfl) (fun e=>?_)⟩
 rw [e,cond_false]
 refine cond_of (fun e=>by rw [e]; rfl) (fun e=>?_)
 rw [e,cond_false]
 refine cond_of (fun e=>?_) (fun e=>?_)
 ·rw [e]; exact ⟨fun _=>by omega,fun _=>by omega,fun _=>by omega,rfl⟩
 ·rw [e,cond_false]
  refine cond_of (fun e=>?_) (fun e=>by rw [e]; rfl)
  rw [e]; exact ⟨fun _=>⟨p6,p4⟩,fun _=>⟨by omega,i2⟩,rfl⟩
def mayrC:Con:=⟨[.d true peerT],fun ds=>(fun (a:D)=>[(a.fld 10).list.length < 4611686018427387904,U64 (a.fld 6).int,(a.fld 8).list.length ≤ 17592186044416,∀ e ∈ (a.fld 10).list,(e.fld 3).list.length ≤ 17592186044416,(a.fld 1).list.length ≤ 17592186044416,(a.fld 14).list.length ≤ 17592186044416,(a.fld 15).list.length ≤ 17592186044416,(a.fld 17).list.length ≤ 17592186044416,∀ r ∈ (a.fld 17).list,(r.fld 2).list.length ≤ 17592186044416,0 ≤ (a.fld 7).int,∀ e ∈ (a.fld 10).list,0 ≤ (D.int (D.fld e 0))∧0 ≤ (D.int (D.fld e 1)),0 ≤ (a.fld 4).int]) (nthD ds 0),[.d .b],fun ds=>(fun (a:D)=>[.b (mayB a)]) (nthD ds 0),fun ds=>[]⟩
def mayrC_an:Anns:=fun _ _=>none
theorem mayrC_vc (a:D):(bif !okId (a.fld 0).int || decide ((a.fld 13).int ≤ 0) || decide ((a.fld 12).int < 0) || decide (2 < (a.fld 4).int) || !decide ((a.fld 3).int=0) && !okId (a.fld 3).int || !decide ((a.fld 5).int=0) && !okId (a.fld 5).int then false=mayB a else (decide ((↑(a.fld 8).list.length:Int)=0)=false → (a.fld 8).list.length < 4611686018427387904)∧bif decide ((↑(a.fld 8).list.length:Int)=0) || !idsB (a.fld 8).list || decide ((a.fld 2).int < (a.fld 7).int) || !decide ((a.fld 6).int=0) == decide ((a.fld 7).int=0) || decide ((a.fld 6).int=0) && !decide ((a.fld 9).str=ByteArray.mk #[]) then false=mayB a else ((decide (4611686018427387904 < (a.fld 6).int) || decide (4611686018427387904 < (a.fld 2).int) || decide (4611686018427387904 < (a.fld 16).int) || decide (1073741824 < (a.fld 12).int) || decide (1073741824 < (a.fld 13).int))=false → (a.fld 10).list.length < 4611686018427387904∧(∀ (e:D),e ∈ (a.fld 10).list → (e.fld 3).list.length < 4611686018427387904)∧0 ≤ (a.fld 7).int∧∀ (e:D),e ∈ (a.fld 10).list → 0 ≤ (e.fld 0).int∧0 ≤ (e.fld 1).int)∧bif decide (4611686018427387904 < (a.fld 6).int) || decide (4611686018427387904 < (a.fld 2).int) || decide (4611686018427387904 < (a.fld 16).int) || decide (1073741824 < (a.fld 12).int) || decide (1073741824 < (a.fld 13).int) || !entsB (a.fld 10).list (max (a.fld 7).int 1) (a.fld 2).int then false=mayB a else (a.fld 10).list.length < 4611686018427387904∧(a.fld 1).list=(a.fld 1).list∧(a.fld 10).list.length < 4611686018427387904∧(0 ≤ (a.fld 6).int∧(a.fld 6).int ≤ 18446744073709551615)∧(0 ≤ lastIf (a.fld 6).int (a.fld 10).list∧lastIf (a.fld 6).int (a.fld 10).list ≤ 18446744073709551615)∧(a.fld 8).list.length ≤ 17592186044416∧(∀ (e:D),e ∈ (a.fld 10).list → (e.fld 3).list.length ≤ 17592186044416)∧(a.fld 1).list.length < 4611686018427387904∧((!decide (ints (a.fld 1).list=ints (mems a (lastIf (a.fld 6).int (a.fld 10).list))) || decide ((a.fld 11).int < (a.fld 6).int) || decide (lastIf (a.fld 6).int (a.fld 10).list < (a.fld 11).int))=false → (a.fld 14).list.length < 4611686018427387904)∧bif !decide (ints (a.fld 1).list=ints (mems a (lastIf (a.fld 6).int (a.fld 10).list))) || decide ((a.fld 11).int < (a.fld 6).int) || decide (lastIf (a.fld 6).int (a.fld 10).list < (a.fld 11).int) || !idsB (a.fld 14).list then false=mayB a else bif decide ((a.fld 4).int=1) then (a.fld 1).list.length < 4611686018427387904∧(((!(a.fld 1).list.any fun (d:D) ↦ decide (d.int=(a.fld 0).int)) || !decide ((a.fld 3).int=(a.fld 0).int))=false → (a.fld 14).list.length < 4611686018427387904)∧bif ((!(a.fld 1).list.any fun (d:D) ↦ decide (d.int=(a.fld 0).int)) || !decide ((a.fld 3).int=(a.fld 0).int) || !(a.fld 14).list.any fun (d:D) ↦ decide (d.int=(a.fld 0).int)) || !decide ((a.fld 5).int=0) then false=mayB a else (decide ((↑(a.fld 15).list.length:Int)=0) && decide ((↑(a.fld 17).list.length:Int)=0))=mayB a else bif decide ((a.fld 4).int=2) then ((decide ((↑(a.fld 14).list.length:Int)=0) && decide ((a.fld 5).int=(a.fld 0).int) && decide (0 < (a.fld 2).int) && decide (lastTf (a.fld 7).int (a.fld 10).list ≤ (a.fld 2).int))=true → (a.fld 15).list.length ≤ 17592186044416∧(a.fld 1).list.length ≤ 17592186044416)∧((decide ((↑(a.fld 14).list.length:Int)=0) && decide ((a.fld 5).int=(a.fld 0).int) && decide (0 < (a.fld 2).int) && decide (lastTf (a.fld 7).int (a.fld 10).list ≤ (a.fld 2).int) && folB a (lastIf (a.fld 6).int (a.fld 10).list))=true → (a.fld 17).list.length < 4611686018427387904∧∀ (r:D),r ∈ (a.fld 17).list → (r.fld 2).list.length < 4611686018427387904)∧(decide ((↑(a.fld 14).list.length:Int)=0) && decide ((a.fld 5).int=(a.fld 0).int) && decide (0 < (a.fld 2).int) && decide (lastTf (a.fld 7).int (a.fld 10).list ≤ (a.fld 2).int) && folB a (lastIf (a.fld 6).int (a.fld 10).list) && rdsB a)=mayB a else bif decide (0 < (↑(a.fld 14).list.length:Int)) then false=mayB a else (decide ((↑(a.fld 15).list.length:Int)=0) && decide ((↑(a.fld 17).list.length:Int)=0))=mayB a)=conGoal Tryz.prog (addS 40 rdrC (addS 39 folrC (addS 38 hasC (addS 27 siC (addS 37 memrC (addS 36 lastrC (addS 35 entrC (addS 34 idsC (addS 33 idrC noS))))))))) mayrC_an 200 12 mayrC [a]:=by kernel_rfl
theorem mayrC_ok:ConOK Tryz.prog Gl.none 12 mayrC:=con_of mo (addS_ok rdrC_ok (addS_ok folrC_ok (addS_ok hasC_ok (addS_ok siC_ok (addS_ok memrC_ok (addS_ok lastrC_ok (addS_ok entrC_ok (addS_ok idsC_ok (addS_ok idrC_ok (noS_ok _)))))))))) (an:=mayrC_an) 200 fun ds hl hp=>by
 obtain ⟨a,rfl⟩:=len1 hl
 rw [← mayrC_vc]
 have p0:(a.fld 10).list.length < 4611686018427387904:=hp _ (.head _)
 have p1:U64 (a.fld 6).int:=hp _ (.tail _ (.head _))
 have p2:(a.fld 8).list.length ≤ 17592186044416:=hp _ (.tail _ (.tail _ (.head _)))
 have p3:∀ e ∈ (a.fld 10).list,(e.fld 3).list.length ≤ 17592186044416:=hp _ (.tail _ (.tail _ (.tail _ (.head _))))
 have p4:(a.fld 1).list.length ≤ 17592186044416:=hp _ (.tail _ (.tail _ (.tail _ (.tail _ (.head _)))))
 have p5:(a.fld 14).list.length ≤ 17592186044416:=hp _ (.tail _ (.tail _ (.tail _ (.tail _ (.tail _ (.head _))))))
 have p6:(a.fld 15).list.length ≤ 17592186044416:=hp _ (.tail _ (.tail _ (.tail _ (.tail _ (.tail _ (.tail _ (.head _)))))))
 have p7:(a.fld 17).list.length ≤ 17592186044416:=hp _ (.tail _ (.tail _ (.tail _ (.tail _ (.tail _ (.tail _ (.tail _ (.head _))))))))
 have p8:∀ r ∈ (a.fld 17).list,(r.fld 2).list.length ≤ 17592186044416:=hp _ (.tail _ (.tail _ (.tail _ (.tail _ (.tail _ (.tail _ (.tail _ (.tail _ (.head _)))))))))
 have p9:0 ≤ (a.fld 7).int:=hp _ (.tail _ (.tail _ (.tail _ (.tail _ (.tail _ (.tail _ (.tail _ (.tail _ (.tail _ (.head _))))))))))
 have p10:∀ e ∈ (a.fld 10).list,0 ≤ (D.int (D.fld e 0))∧0 ≤ (D.int (D.fld e 1)):=hp _ (.tail _ (.tail _ (.tail _ (.tail _ (.tail _ (.tail _ (.tail _ (.tail _ (.tail _ (.tail _ (.head _)))))))))))
 have p11:0 ≤ (a.fld 4).int:=hp _ (.tail _ (.tail _ (.tail _ (.tail _ (.tail _ (.tail _ (.tail _ (.tail _ (.tail _ (.tail _ (.tail _ (.head _))))))))))))
 have hU:=lastI_U a p1
 have i1:∀ e ∈ (a.fld 10).list,(e.fld 3).list.length < 4611686018427387904:=fun e he=>by have:=p3 e he; omega
 have i2:∀ r ∈ (a.fld 17).list,(r.fld 2).list.length < 4611686018427387904:=fun e he=>by have:=p8 e he; omega
 have no:∀ {c:Bool},c=true → (MayP a → c=false) → false=mayB a:=fun {c} hc h=>bool_not fun k=>by rw [h (mayB_iff.1 k)] at hc; cases hc
 refine cond_of (fun e=>no e fun h=>?_) (fun e1=>⟨fun _=>by omega,cond_of (fun e=>no e fun h=>?_) (fun e2=>⟨fun _=>⟨p0,i1,p9,p10⟩,cond_of (fun e=>no e fun h=>?_) (fun e3=>⟨p0,rfl,p0,p1,hU,p2,p3,by omega,fun _=>by omega,cond_of (fun e=>no e fun h=>?_) (fun e4=>?_)⟩)⟩)⟩)
 ·have hr:(a.fld 4).int ≤ 2:=by rcases h.role with ⟨r,_⟩ | ⟨r,_⟩ | ⟨r,_⟩ <;> omega
  have h1:=h.wait0; have h2:=h.idle0; have h3:=h.vote; have h4:=h.lead
  simp only [Bool.or_eq_false_iff,Bool.not_eq_false',Bool.and_eq_false_imp,decide_eq_false_iff_not,Bool.not_eq_true',Int.not_le,Int.not_lt]
  exact ⟨⟨⟨⟨⟨h.id,h1⟩,h2⟩,hr⟩,fun k=>h3.resolve_left k⟩,fun k=>h4.resolve_left k⟩
 ·have h1:=h.bm0
  simp only [Bool.or_eq_false_iff,Bool.not_eq_false',Bool.and_eq_false_imp,decide_eq_false_iff_not,decide_eq_true_eq,Int.not_le,Int.not_lt,beq_iff_eq]
  refine ⟨⟨⟨⟨by omega,h.bm1⟩,h.bt⟩,?_⟩,h.snap⟩
  rw [Bool.eq_iff_iff,decide_eq_true_iff,decide_eq_true_iff]; exact h.b0
 ·simp only [Bool.or_eq_false_iff,Bool.not_eq_false',decide_eq_false_iff_not,Int.not_le,Int.not_lt]
  exact ⟨⟨⟨⟨⟨h.base,h.term⟩,h.round⟩,h.idle1⟩,h.wait1⟩,h.log⟩
 ·simp only [Bool.or_eq_false_iff,Bool.not_eq_false',decide_eq_false_iff_not,decide_eq_true_eq,Int.not_le,Int.not_lt]
  refine ⟨⟨⟨h.mem,h.com0⟩,h.com1⟩,?_⟩
  rcases h.role with ⟨r,h5⟩ | ⟨r,h5⟩ | ⟨r,h5⟩
  ·unfold mayL0 at h5
   simp only [Bool.and_eq_true,decide_eq_true_eq] at h5
   have:=List.eq_nil_of_length_eq_zero (by omega:(a.fld 14).list.length=0)
   rw [this]; rfl
  ·unfold mayL1 at h5
   simp only [Bool.and_eq_true,decide_eq_true_eq] at h5
   exact h5.1.1.2
  ·unfold mayL2 at h5
   simp only [Bool.and_eq_true,decide_eq_true_eq] at h5
   have:=List.eq_nil_of_length_eq_zero (by omega:(a.fld 14).list.length=0)
   rw [this]; rfl
 ·simp only [Bool.or_eq_false_iff,Bool.not_eq_false',Bool.and_eq_false_imp,decide_eq_false_iff_not,decide_eq_true_eq,Bool.not_eq_true',Int.not_le,Int.not_lt,beq_iff_eq] at e1 e2 e3 e4
  obtain ⟨⟨⟨⟨⟨a1,a2⟩,a3⟩,a4⟩,a5⟩,a6⟩:=e1
  obtain ⟨⟨⟨⟨b1,b2⟩,b3⟩,b4⟩,b5⟩:=e2
  obtain ⟨⟨⟨⟨⟨c1,c2⟩,c3⟩,c4⟩,c5⟩,c6⟩:=e3
  obtain ⟨⟨⟨d1,d2⟩,d3⟩,d4⟩:=e4
  have base:∀ {R:Prop},(MayP a → R) → (R → ((a.fld 4).int=0∧mayL0 a=true) ∨ ((a.fld 4).int=1∧mayL1 a=true) ∨ ((a.fld 4).int=2∧mayL2 a=true)) → ∀ {c:Bool},(c=true ↔ R) → c=mayB a:=by
   intro R f g c hc
   rw [Bool.eq_iff_iff,hc,mayB_iff]
   refine ⟨fun r=>⟨a1,a2,c5,a3,c4,c2,c1,c3,?_,?_,by omega,b2,b3,?_,b5,c6,d1,d2,d3,g r⟩,f⟩
   ·by_cases h:(a.fld 3).int=0
    ·exact .inl h
    ·exact .inr (a5 h)
   ·by_cases h:(a.fld 5).int=0
    ·exact .inl h
    ·exact .inr (a6 h)
   ·rw [← decide_eq_true_iff (p:=(a.fld 6).int=0),← decide_eq_true_iff (p:=(a.fld 7).int=0),b4]
  have hlt:((lastTf (D.int (D.fld a 7)) (D.list (D.fld a 10)))) ≤ (a.fld 2).int:=by
   unfold lastTf
   split
   ·exact b3
   ·exact entsB_le c6 _ (by omega)
  refine cond_of (fun r=>?_) (fun r=>cond_of (fun r2=>?_) (fun r2=>?_))
  ·have r:(a.fld 4).int=1:=of_decide_eq_true r
   have hL:MayP a → mayL1 a=true:=fun h=>by
    rcases h.role with ⟨r',h5⟩ | ⟨r',h5⟩ | ⟨r',h5⟩
    ·omega
    ·exact h5
    ·omega
   refine ⟨by omega,fun _=>by omega,cond_of (fun e=>no e fun h=>?_) (fun e=>?_)⟩
   ·have h5:=hL h
    unfold mayL1 inL at h5
    simp only [Bool.and_eq_true,decide_eq_true_eq] at h5
    obtain ⟨⟨⟨⟨⟨⟨q1,q2⟩,q3⟩,q4⟩,q5⟩,q6⟩,q7⟩:=h5
    rw [q6,q7,decide_eq_true q3,decide_eq_true q4]; rfl
   ·refine base (R:=mayL1 a=true) hL (fun h=>.inr (.inl ⟨r,h⟩)) ?_
    simp only [Bool.or_eq_false_iff,Bool.not_eq_false',decide_eq_true_eq] at e
    obtain ⟨⟨⟨q7,q4⟩,q6⟩,q3⟩:=e
    unfold mayL1 inL
    rw [q6,q7,d4,decide_eq_true q3,decide_eq_true q4]
    simp only [Bool.and_true]
  ·have r2:(a.fld 4).int=2:=of_decide_eq_true r2
   refine ⟨fun _=>⟨p6,p4⟩,fun _=>⟨by omega,i2⟩,?_⟩
   rw [decide_eq_true hlt,Bool.and_true]
   refine base (R:=mayL2 a=true) (fun h=>?_) (fun h=>.inr (.inr ⟨r2,h⟩)) Iff.rfl
   rcases h.role with ⟨r',h5⟩ | ⟨r',h5⟩ | ⟨r',h5⟩
   ·omega
   ·omega
   ·exact h5
  ·have r:¬ (a.fld 4).int=1:=of_decide_eq_false r
   have r2:¬ (a.fld 4).int=2:=of_decide_eq_false r2
   have r0:(a.fld 4).int=0:=by omega
   have hL:MayP a → mayL0 a=true:=fun h=>by
    rcases h.role with ⟨r',h5⟩ | ⟨r',h5⟩ | ⟨r',h5⟩
    ·exact h5
    ·omega
    ·omega
   refine cond_of (fun e=>no e fun h=>?_) (fun e=>?_)
   ·have h5:=hL h
    unfold mayL0 at h5
    simp only [Bool.and_eq_true,decide_eq_true_eq] at h5
    exact decide_eq_false (by omega)
   ·have e:=of_decide_eq_false e
    refine base (R:=mayL0 a=true) hL (fun h=>.inl ⟨r0,h⟩) ?_
    unfold mayL0
    rw [decide_eq_true (by omega:((a.fld 14).list.length:Int)=0),Bool.and_true]
theorem mayB_put (a:D):mayB (putF peerT a [])=mayB a:=by kernel_rfl
def MayC:Con:=⟨[.d true peerT],fun ds=>(fun (a:D)=>[(a.fld 10).list.length < 4611686018427387904,U64 (a.fld 6).int,(a.fld 8).list.length ≤ 17592186044416,∀ e ∈ (a.fld 10).list,(e.fld 3).list.length ≤ 17592186044416,(a.fld 1).list.length ≤ 17592186044416,(a.fld 14).list.length ≤ 17592186044416,(a.fld 15).list.length ≤ 17592186044416,(a.fld 17).list.length ≤ 17592186044416,∀ r ∈ (a.fld 17).list,(r.fld 2).list.length ≤ 17592186044416,0 ≤ (a.fld 7).int,∀ e ∈ (a.fld 10).list,0 ≤ (D.int (D.fld e 0))∧0 ≤ (D.int (D.fld e 1)),0 ≤ (a.fld 4).int]) (nthD ds 0),[.d (.i .i64)],fun ds=>(fun (a:D)=>[.i (bif mayB a then 0 else 2)]) (nthD ds 0),fun ds=>[]⟩
def MayC_an:Anns:=fun _ _=>none
theorem MayC_vc (a:D):((a.fld 10).list.length < 4611686018427387904∧(0 ≤ (a.fld 6).int∧(a.fld 6).int ≤ 18446744073709551615)∧(a.fld 8).list.length ≤ 17592186044416∧(∀ (e:D),e ∈ (a.fld 10).list → (e.fld 3).list.length ≤ 17592186044416)∧(a.fld 1).list.length ≤ 17592186044416∧(a.fld 14).list.length ≤ 17592186044416∧(a.fld 15).list.length ≤ 17592186044416∧(a.fld 17).list.length ≤ 17592186044416∧(∀ (r:D),r ∈ (a.fld 17).list → (r.fld 2).list.length ≤ 17592186044416)∧0 ≤ (a.fld 7).int∧(∀ (e:D),e ∈ (a.fld 10).list → 0 ≤ (e.fld 0).int∧0 ≤ (e.fld 1).int)∧0 ≤ (a.fld 4).int∧bif !mayB (putF peerT a []) then EqI 2 (condI (mayB a) 0 2) else EqI 0 (condI (mayB a) 0 2))=conGoal Tryz.prog (addS 43 mayC noS) MayC_an 200 21 MayC [a]:=by kernel_rfl
theorem MayC_ok:ConOK Tryz.prog Gl.none 21 MayC:=con_of mo (addS_ok mayC_ok (noS_ok _)) (an:=MayC_an) 200 fun ds hl hp=>by
 obtain ⟨a,rfl⟩:=len1 hl
 rw [← MayC_vc]
 have p0:(a.fld 10).list.length < 4611686018427387904:=hp _ (.head _)
 have p1:U64 (a.fld 6).int:=hp _ (.tail _ (.head _))
 have p2:(a.fld 8).list.length ≤ 17592186044416:=hp _ (.tail _ (.tail _ (.head _)))
 have p3:∀ e ∈ (a.fld 10).list,(e.fld 3).list.length ≤ 17592186044416:=hp _ (.tail _ (.tail _ (.tail _ (.head _))))
 have p4:(a.fld 1).list.length ≤ 17592186044416:=hp _ (.tail _ (.tail _ (.tail _ (.tail _ (.head _)))))
 have p5:(a.fld 14).list.length ≤ 17592186044416:=hp _ (.tail _ (.tail _ (.tail _ (.tail _ (.tail _ (.head _))))))
 have p6:(a.fld 15).list.length ≤ 17592186044416:=hp _ (.tail _ (.tail _ (.tail _ (.tail _ (.tail _ (.tail _ (.head _)))))))
 have p7:(a.fld 17).list.length ≤ 17592186044416:=hp _ (.tail _ (.tail _ (.tail _ (.tail _ (.tail _ (.tail _ (.tail _ (.head _))))))))
 have p8:∀ r ∈ (a.fld 17).list,(r.fld 2).list.length ≤ 17592186044416:=hp _ (.tail _ (.tail _ (.tail _ (.tail _ (.tail _ (.tail _ (.tail _ (.tail _ (.head _)))))))))
 have p9:0 ≤ (a.fld 7).int:=hp _ (.tail _ (.tail _ (.tail _ (.tail _ (.tail _ (.tail _ (.tail _ (.tail _ (.tail _ (.head _))))))))))
 have p10:∀ e ∈ (a.fld 10).list,0 ≤ (D.int (D.fld e 0))∧0 ≤ (D.int (D.fld e 1)):=hp _ (.tail _ (.tail _ (.tail _ (.tail _ (.tail _ (.tail _ (.tail _ (.tail _ (.tail _ (.tail _ (.head _)))))))))))
 have p11:0 ≤ (a.fld 4).int:=hp _ (.tail _ (.tail _ (.tail _ (.tail _ (.tail _ (.tail _ (.tail _ (.tail _ (.tail _ (.tail _ (.tail _ (.head _))))))))))))
 refine ⟨p0,p1,p2,p3,p4,p5,p6,p7,p8,p9,p10,p11,?_⟩
 rw [mayB_put]
 cases mayB a <;> rfl
end Go.Proofs.YtplflgclomiihaaGreat.XT
