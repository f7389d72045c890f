/- Contracts. -/
import Derived.Test.YtplflgclomiihaaQVUE
import Derived.Test.YtplflgclomiihaaProg
import Derived.Test.YtplflgclomiihaaQVTW
set_option linter.unusedVariables false
set_option linter.unusedSimpArgs false
namespace Go.Proofs.Ytplflgclomiihaa.XT
open Go Go.RowKit Go.Proofs.Ytplflgclomiihaa.Sv
set_option maxRecDepth 100000
theorem fit_zero:FitP (DT.zero peerT):=by
 have z:U64 0:=⟨by omega,by omega⟩
 exact ⟨Nat.zero_le _,Nat.zero_le _,Nat.zero_le _,Nat.zero_le _,Nat.zero_le _,Nat.zero_le _,(fun _ h=>absurd h List.not_mem_nil),(fun _ h=>absurd h List.not_mem_nil),(fun _ h=>absurd h List.not_mem_nil),(fun _ h=>absurd h List.not_mem_nil),(fun _ h=>absurd h List.not_mem_nil),z,z,z,z,z,Int.le_refl 0⟩
theorem pro_fit {a:D} {s:ByteArray} (p:FitP a) (U:∀ f ∈ (a.fld 15).list,U64 (f.fld 2).int) (h:(a.fld 10).list.length ≤ 1000):FitP (outPro a s):=by
 unfold outPro
 cases proB a s with
 | false=>exact fit_zero
 | true=>rw [cond_true]; exact fitP_com (fitP_lg p h) (advN_U (fitP_lg p h) U)
theorem lt_fit {a:D} {b:Int} (p:FitP a) (U:∀ f ∈ (a.fld 15).list,U64 (f.fld 2).int) (m:mayB a=true) (h:(a.fld 10).list.length ≤ 1000):FitP (ltP a b):=by
 unfold ltP
 by_cases r:(a.fld 4).int=2
 ·rw [decide_eq_true r,cond_true]
  cases decide (idleI a < 3) with
  | true=>rw [cond_true]; exact fitP_com (fitP_idle p) (advN_U p U)
  | false=>rw [cond_false]; exact fitP_com (fitP_set p) (advN_U p U)
 ·rw [decide_eq_false r,cond_false]
  obtain ⟨F,U',_,_⟩:=tick_H (b:=b) p U m h r
  exact fitP_com F (advN_U F U')
def MsgF (m:D):Prop:=(m.fld 9).list.length ≤ 1000000∧(∀ e ∈ (m.fld 9).list,FitE e)∧(m.fld 10).list.length ≤ 17592186044416
theorem snd_fit {q f:D} (p:FitP q):MsgF (etaD msgT (sndM q f)):=by
 have h10:=p.l10
 rw [sndM_eq]
 unfold sendM
 cases termB q (u64 ((f.fld 1).int - 1)) with
 | false=>exact ⟨Nat.zero_le _,fun e he=>absurd (show e ∈ ([]:List D) from he) List.not_mem_nil,p.l8⟩
 | true=>exact ⟨len_td h10,fitE_td p,Nat.zero_le _⟩
theorem ltL_fit {a:D} {b:Int} (p:FitP a) (U:∀ f ∈ (a.fld 15).list,U64 (f.fld 2).int) (m:mayB a=true):(ltL a b).length ≤ 1000000∧∀ d ∈ ltL a b,MsgF d:=by
 have h15:=p.l15
 unfold ltL
 by_cases r:(a.fld 4).int=2
 ·rw [decide_eq_true r,cond_true]
  cases decide (idleI a < 3) with
  | true=>rw [cond_true]; exact ⟨Nat.zero_le _,fun d hd=>absurd hd List.not_mem_nil⟩
  | false =>
   rw [cond_false]
   refine ⟨by rw [List.length_map]; exact h15,fun d hd=>?_⟩
   obtain ⟨f,_,rfl⟩:=List.mem_map.1 hd
   exact snd_fit (fitP_com (fitP_set p) (advN_U p U))
 ·rw [decide_eq_false r,cond_false]
  unfold tickL
  rw [decide_eq_false r,cond_false]
  cases quietB a with
  | true=>rw [cond_true]; exact ⟨Nat.zero_le _,fun d hd=>absurd hd List.not_mem_nil⟩
  | false =>
   rw [cond_false]
   have h1:=may_len (mayB_iff.1 m)
   have h2:=oth_len (a.fld 1).list (a.fld 0).int
   refine ⟨by rw [List.length_map]; omega,fun d hd=>?_⟩
   obtain ⟨f,_,rfl⟩:=List.mem_map.1 hd
   exact ⟨Nat.zero_le _,fun e he=>absurd (show e ∈ ([]:List D) from he) List.not_mem_nil,Nat.zero_le _⟩
theorem all_eq {q:D} (h:((q.fld 15).list.map fun f=>(f.fld 0).int).Nodup):allL q=(q.fld 15).list.map fun f=>etaD msgT (sndM q f):=by
 unfold allL
 apply List.map_congr_left
 intro f hf
 obtain ⟨j,hj⟩:=List.mem_iff_getElem?.1 hf
 have hlt:j < (q.fld 15).list.length:=(List.getElem?_eq_some_iff.1 hj).1
 have e:nthD (q.fld 15).list j=f:=nthD_get hj
 have hi:fndI (q.fld 15).list (f.fld 0).int=j:=by rw [← e]; exact ids_fnd h hlt
 have ho:outS q (f.fld 0).int=sndM q f:=by unfold outS; rw [hi,decide_eq_true hlt,cond_true,e]
 rw [ho]
theorem lt_eq {a:D} {b:Int} (p:FitP a) (m:mayB a=true):ltL a b=ltLr a b:=by
 unfold ltL ltLr
 by_cases r:(a.fld 4).int=2
 ·rw [decide_eq_true r,cond_true,cond_true]
  cases decide (idleI a < 3) with
  | true=>rfl
  | false =>
   rw [cond_false,cond_false]
   exact (all_eq (q:=beatP a) (advH_may p (mayB_iff.1 m) r).fids).symm
 ·rw [decide_eq_false r,cond_false,cond_false]
noncomputable def prosC:Con:=⟨[.d true peerT,.d true .s,.d true (.i .i64)],fun ds=>(fun (a:D) (b:D) (c:D)=>[((a.fld 10).list.length:Int) ≤ 60 → ((a.fld 15).list.length:Int) ≤ 64 → ((a.fld 17).list.length:Int) ≤ 60 → FitP a∧∀ f ∈ (a.fld 15).list,U64 (f.fld 2).int]) (nthD ds 0) (nthD ds 1) (nthD ds 2),[.d .b],fun ds=>(fun (a:D) (b:D) (c:D)=>[.b true]) (nthD ds 0) (nthD ds 1) (nthD ds 2),fun ds=>[]⟩
noncomputable def prosC_an:Anns:=fun _ _=>none
theorem prosC_vc (a b c:D):(bif !(decide ((↑(a.fld 10).list.length:Int) ≤ 60) && decide ((↑(a.fld 15).list.length:Int) ≤ 64) && decide ((↑(a.fld 17).list.length:Int) ≤ 60)) then true=true else FitP (putF peerT a [])∧FitP (putF peerT a [])∧(∀ (f:D),f ∈ (a.fld 15).list → 0 ≤ (f.fld 2).int∧(f.fld 2).int ≤ 18446744073709551615)∧(a.fld 10).list.length ≤ 1000∧FitP (putF peerT a [])∧(∀ (f:D),f ∈ (a.fld 15).list → 0 ≤ (f.fld 2).int∧(f.fld 2).int ≤ 18446744073709551615)∧(a.fld 10).list.length ≤ 1000∧FitP (putF peerT (outPro a b.str) [])∧bif !eqP (outPro a b.str) (outPro a b.str) || !decide (proN a b.str=proN a b.str) || !decide (proE a b.str=proE a b.str) then false=true else FitP (putF peerT a [])∧(∀ (f:D),f ∈ (a.fld 15).list → 0 ≤ (f.fld 2).int∧(f.fld 2).int ≤ 18446744073709551615)∧(a.fld 10).list.length < 4611686018427387904∧(0 ≤ (a.fld 6).int∧(a.fld 6).int ≤ 18446744073709551615)∧(a.fld 8).list.length ≤ 17592186044416∧(∀ (e:D),e ∈ (a.fld 10).list → (e.fld 3).list.length ≤ 17592186044416)∧(a.fld 1).list.length ≤ 17592186044416∧(a.fld 14).list.length ≤ 17592186044416∧(a.fld 15).list.length ≤ 17592186044416∧(a.fld 17).list.length ≤ 17592186044416∧(∀ (r:D),r ∈ (a.fld 17).list → (r.fld 2).list.length ≤ 17592186044416)∧0 ≤ (a.fld 7).int∧(∀ (e:D),e ∈ (a.fld 10).list → 0 ≤ (e.fld 0).int∧0 ≤ (e.fld 1).int)∧0 ≤ (a.fld 4).int∧bif !mayB a then FitP (putF peerT (outAdv a) [])∧bif !eqP (outAdv a) (D.t [D.i 0,D.l [],D.i 0,D.i 0,D.i 0,D.i 0,D.i 0,D.i 0,D.l [],D.s (ByteArray.mk #[]),D.l [],D.i 0,D.i 0,D.i 0,D.l [],D.l [],D.i 0,D.l []]) || !decide (condI (mayB a) 0 2=2) then false=true else FitP (putF peerT a [])∧(∀ (f:D),f ∈ (a.fld 15).list → 0 ≤ (f.fld 2).int∧(f.fld 2).int ≤ 18446744073709551615)∧(a.fld 10).list.length ≤ 1000∧(a.fld 10).list.length < 4611686018427387904∧(0 ≤ (a.fld 6).int∧(a.fld 6).int ≤ 18446744073709551615)∧(a.fld 8).list.length ≤ 17592186044416∧(∀ (e:D),e ∈ (a.fld 10).list → (e.fld 3).list.length ≤ 17592186044416)∧(a.fld 1).list.length ≤ 17592186044416∧(a.fld 14).list.length ≤ 17592186044416∧(a.fld 15).list.length ≤ 17592186044416∧(a.fld 17).list.length ≤ 17592186044416∧(∀ (r:D),r ∈ (a.fld 17).list → (r.fld 2).list.length ≤ 17592186044416)∧0 ≤ (a.fld 7).int∧(∀ (e:D),e ∈ (a.fld 10).list → 0 ≤ (e.fld 0).int∧0 ≤ (e.fld 1).int)∧0 ≤ (a.fld 4).int∧bif !mayB a || decide (c.int < 0) then FitP (putF peerT (outLT a c.int) [])∧((eqP (outLT a c.int) (D.t [D.i 0,D.l [],D.i 0,D.i 0,D.i 0,D.i 0,D.i 0,D.i 0,D.l [],D.s (ByteArray.mk #[]),D.l [],D.i 0,D.i 0,D.i 0,D.l [],D.l [],D.i 0,D.l []]) && decide ((↑(outLL a c.int).length:Int)=0) && decide (condI (mayB a && !decide (c.int < 0)) 0 2=2))=true → FitP (putF peerT a []))∧(eqP (outLT a c.int) (D.t [D.i 0,D.l [],D.i 0,D.i 0,D.i 0,D.i 0,D.i 0,D.i 0,D.l [],D.s (ByteArray.mk #[]),D.l [],D.i 0,D.i 0,D.i 0,D.l [],D.l [],D.i 0,D.l []]) && decide ((↑(outLL a c.int).length:Int)=0) && decide (condI (mayB a && !decide (c.int < 0)) 0 2=2) && eqP a a && true)=true else FitP (putF peerT a [])∧(∀ (f:D),f ∈ (a.fld 15).list → 0 ≤ (f.fld 2).int∧(f.fld 2).int ≤ 18446744073709551615)∧(a.fld 10).list.length ≤ 1000∧mayB a=true∧0 ≤ c.int∧FitP (putF peerT (outLT a c.int) [])∧(eqP (outLT a c.int) (ltP a c.int)=true → (outLL a c.int).length < 4611686018427387904∧(∀ (m:D),m ∈ outLL a c.int → (m.fld 9).list.length < 4611686018427387904)∧(∀ (m:D),m ∈ outLL a c.int → ∀ (e:D),e ∈ (m.fld 9).list → (e.fld 3).list.length < 4611686018427387904)∧∀ (m:D),m ∈ outLL a c.int → (m.fld 10).list.length < 4611686018427387904)∧((eqP (outLT a c.int) (ltP a c.int) && eqL eqM (outLL a c.int) (ltLr a c.int) && decide (condI (mayB a && !decide (c.int < 0)) 0 2=0))=true → FitP (putF peerT a []))∧(eqP (outLT a c.int) (ltP a c.int) && eqL eqM (outLL a c.int) (ltLr a c.int) && decide (condI (mayB a && !decide (c.int < 0)) 0 2=0) && eqP a a && true)=true else ((outAdv a).fld 0).int=((outAdv a).fld 0).int∧((outAdv a).fld 1).list=((outAdv a).fld 1).list∧((outAdv a).fld 2).int=((outAdv a).fld 2).int∧((outAdv a).fld 3).int=((outAdv a).fld 3).int∧((outAdv a).fld 4).int=((outAdv a).fld 4).int∧((outAdv a).fld 5).int=((outAdv a).fld 5).int∧((outAdv a).fld 6).int=((outAdv a).fld 6).int∧((outAdv a).fld 7).int=((outAdv a).fld 7).int∧((outAdv a).fld 8).list=((outAdv a).fld 8).list∧((outAdv a).fld 9).str=((outAdv a).fld 9).str∧((outAdv a).fld 10).list=((outAdv a).fld 10).list∧((outAdv a).fld 11).int=((outAdv a).fld 11).int∧((outAdv a).fld 12).int=((outAdv a).fld 12).int∧((outAdv a).fld 13).int=((outAdv a).fld 13).int∧((outAdv a).fld 14).list=((outAdv a).fld 14).list∧((outAdv a).fld 15).list=((outAdv a).fld 15).list∧((outAdv a).fld 16).int=((outAdv a).fld 16).int∧((outAdv a).fld 17).list=((outAdv a).fld 17).list∧FitP (putF peerT a [])∧(∀ (f:D),f ∈ (a.fld 15).list → 0 ≤ (f.fld 2).int∧(f.fld 2).int ≤ 18446744073709551615)∧(a.fld 6).int ≤ 4611686018427387904∧FitP (putF peerT (outAdv a) [])∧bif !eqP (outAdv a) (putF peerT a [(11,D.i (advR a))]) || !decide (condI (mayB a) 0 2=0) then false=true else FitP (putF peerT a [])∧(∀ (f:D),f ∈ (a.fld 15).list → 0 ≤ (f.fld 2).int∧(f.fld 2).int ≤ 18446744073709551615)∧(a.fld 10).list.length ≤ 1000∧(a.fld 10).list.length < 4611686018427387904∧(0 ≤ (a.fld 6).int∧(a.fld 6).int ≤ 18446744073709551615)∧(a.fld 8).list.length ≤ 17592186044416∧(∀ (e:D),e ∈ (a.fld 10).list → (e.fld 3).list.length ≤ 17592186044416)∧(a.fld 1).list.length ≤ 17592186044416∧(a.fld 14).list.length ≤ 17592186044416∧(a.fld 15).list.length ≤ 17592186044416∧(a.fld 17).list.length ≤ 17592186044416∧(∀ (r:D),r ∈ (a.fld 17).list → (r.fld 2).list.length ≤ 17592186044416)∧0 ≤ (a.fld 7).int∧(∀ (e:D),e ∈ (a.fld 10).list → 0 ≤ (e.fld 0).int∧0 ≤ (e.fld 1).int)∧0 ≤ (a.fld 4).int∧bif !mayB a || decide (c.int < 0) then FitP (putF peerT (outLT a c.int) [])∧((eqP (outLT a c.int) (D.t [D.i 0,D.l [],D.i 0,D.i 0,D.i 0,D.i 0,D.i 0,D.i 0,D.l [],D.s (ByteArray.mk #[]),D.l [],D.i 0,D.i 0,D.i 0,D.l [],D.l [],D.i 0,D.l []]) && decide ((↑(outLL a c.int).length:Int)=0) && decide (condI (mayB a && !decide (c.int < 0)) 0 2=2))=true → FitP (putF peerT a []))∧(eqP (outLT a c.int) (D.t [D.i 0,D.l [],D.i 0,D.i 0,D.i 0,D.i 0,D.i 0,D.i 0,D.l [],D.s (ByteArray.mk #[]),D.l [],D.i 0,D.i 0,D.i 0,D.l [],D.l [],D.i 0,D.l []]) && decide ((↑(outLL a c.int).length:Int)=0) && decide (condI (mayB a && !decide (c.int < 0)) 0 2=2) && eqP a a && true)=true else FitP (putF peerT a [])∧(∀ (f:D),f ∈ (a.fld 15).list → 0 ≤ (f.fld 2).int∧(f.fld 2).int ≤ 18446744073709551615)∧(a.fld 10).list.length ≤ 1000∧mayB a=true∧0 ≤ c.int∧FitP (putF peerT (outLT a c.int) [])∧(eqP (outLT a c.int) (ltP a c.int)=true → (outLL a c.int).length < 4611686018427387904∧(∀ (m:D),m ∈ outLL a c.int → (m.fld 9).list.length < 4611686018427387904)∧(∀ (m:D),m ∈ outLL a c.int → ∀ (e:D),e ∈ (m.fld 9).list → (e.fld 3).list.length < 4611686018427387904)∧∀ (m:D),m ∈ outLL a c.int → (m.fld 10).list.length < 4611686018427387904)∧((eqP (outLT a c.int) (ltP a c.int) && eqL eqM (outLL a c.int) (ltLr a c.int) && decide (condI (mayB a && !decide (c.int < 0)) 0 2=0))=true → FitP (putF peerT a []))∧(eqP (outLT a c.int) (ltP a c.int) && eqL eqM (outLL a c.int) (ltLr a c.int) && decide (condI (mayB a && !decide (c.int < 0)) 0 2=0) && eqP a a && true)=true)=conGoal Try.prog (addS 21 smsC (addS 20 rTickC (addS 19 LTickC (addS 18 advrC (addS 17 mayrC (addS 16 AdvC (addS 10 sameC (addS 15 prorC (addS 14 ProC (addS 13 ownrdC (addS 12 trueK (addS 11 smalC noS)))))))))))) prosC_an 200 4 prosC [a,b,c]:=by kernel_rfl
theorem prosC_ok:ConOK Try.prog Gl.none 4 prosC:=con_of mo (addS_ok smsC_ok (addS_ok rTickC_ok (addS_ok LTickC_ok (addS_ok advrC_ok (addS_ok mayrC_ok (addS_ok AdvC_ok (addS_ok sameC_ok (addS_ok prorC_ok (addS_ok ProC_ok (addS_ok ownrdC_ok (addS_ok trueK_ok (addS_ok smalC_ok (noS_ok _))))))))))))) (an:=prosC_an) 200 fun ds hl hp=>by
 obtain ⟨a,b,c,rfl⟩:=len3 hl
 rw [← prosC_vc]
 have p0:((a.fld 10).list.length:Int) ≤ 60 → ((a.fld 15).list.length:Int) ≤ 64 → ((a.fld 17).list.length:Int) ≤ 60 → FitP a∧∀ f ∈ (a.fld 15).list,U64 (f.fld 2).int:=hp _ (.head _)
 refine cond_of (fun k=>rfl) (fun k=>?_)
 simp only [Bool.not_eq_false',Bool.and_eq_true,decide_eq_true_iff] at k
 obtain ⟨F,U⟩:=p0 k.1.1 k.1.2 k.2
 have FA:=FitP.eta F
 have h10:(a.fld 10).list.length ≤ 1000:=by have:=k.1.1; omega
 have e1:eqP (outPro a b.str) (outPro a b.str)=true:=eqP_self _
 have e2:decide (proN a b.str=proN a b.str)=true:=decide_eq_true rfl
 have e3:decide (proE a b.str=proE a b.str)=true:=decide_eq_true rfl
 have e4:eqP a a=true:=eqP_self _
 have hz:eqP (DT.zero peerT) (D.t [D.i 0,D.l [],D.i 0,D.i 0,D.i 0,D.i 0,D.i 0,D.i 0,D.l [],D.s (ByteArray.mk #[]),D.l [],D.i 0,D.i 0,D.i 0,D.l [],D.l [],D.i 0,D.l []])=true:=eqP_self _
 rw [e1,e2,e3]
 refine ⟨FA,FA,U,h10,FA,U,h10,FitP.eta (pro_fit F U h10),cond_of (fun h=>absurd h (by decide)) (fun _=>⟨FA,U,FitP.pre F (cond_of (fun m=>?_) (fun m=>?_))⟩)⟩
 ·have hm:mayB a=false:=(Bool.not_eq_true' _).mp m
  have hA:outAdv a=DT.zero peerT:=by unfold outAdv; rw [hm]; rfl
  have hv:(mayB a && !decide (c.int < 0))=false:=by rw [hm]; rfl
  refine ⟨FitP.eta (by rw [hA]; exact fit_zero),cond_of (fun h=>?_) (fun _=>⟨FA,U,h10,FitP.pre F (cond_of (fun d=>?_) (fun d=>?_))⟩)⟩
  ·rw [hA,hz,hm] at h
   exact absurd h (by decide)
  ·have hLT:outLT a c.int=DT.zero peerT:=by unfold outLT; rw [hv,cond_false]; rfl
   have hLL:outLL a c.int=[]:=by unfold outLL; rw [hv,cond_false]
   rw [hLT,hLL]
   exact ⟨FitP.eta fit_zero,fun _=>FA,by rw [hz,hv,e4]; rfl⟩
  ·rw [hm] at d
   exact absurd d (by simp)
 ·have hm:mayB a=true:=(Bool.not_eq_false' _).mp m
  have hM:=mayB_iff.1 hm
  have hA:outAdv a=comP a (advN a):=outAdv_eq hm rfl
  have hR:advR a=advN a:=advR_eq' (fun r=>advH_may F hM r)
  have hq:eqP (outAdv a) (putF peerT a [(11,D.i (advR a))])=true:=by rw [hA,hR]; exact eqP_self _
  refine ⟨rfl,rfl,rfl,rfl,rfl,rfl,rfl,rfl,rfl,rfl,rfl,rfl,rfl,rfl,rfl,rfl,rfl,rfl,FA,U,hM.base,FitP.eta (by rw [hA]; exact fitP_com F (advN_U F U)),cond_of (fun h=>?_) (fun _=>⟨FA,U,h10,FitP.pre F (cond_of (fun d=>?_) (fun d=>?_))⟩)⟩
  ·rw [hq,hm] at h
   exact absurd h (by decide)
  ·have hv:(mayB a && !decide (c.int < 0))=false:=not_or_eq d
   have hLT:outLT a c.int=DT.zero peerT:=by unfold outLT; rw [hv,cond_false]; rfl
   have hLL:outLL a c.int=[]:=by unfold outLL; rw [hv,cond_false]
   rw [hLT,hLL]
   exact ⟨FitP.eta fit_zero,fun _=>FA,by rw [hz,hv,e4]; rfl⟩
  ·obtain ⟨_,hb⟩:=not_or_ne d
   have hc:0 ≤ c.int:=by have:=of_decide_eq_false hb; omega
   have hv:(mayB a && !decide (c.int < 0))=true:=by rw [hm,hb]; rfl
   have hLT:outLT a c.int=ltP a c.int:=by unfold outLT; rw [hv,cond_true]
   obtain ⟨L1,L2⟩:=ltL_fit (b:=c.int) F U hm
   rw [lt_eq F hm] at L1 L2
   have hLL:outLL a c.int=ltLr a c.int:=by unfold outLL; rw [hv,cond_true,lt_eq F hm]
   have e5:eqP (ltP a c.int) (ltP a c.int)=true:=eqP_self _
   have e6:eqL eqM (ltLr a c.int) (ltLr a c.int)=true:=eqL_self eqM_self _
   have LF:=FitP.eta (lt_fit (b:=c.int) F U hm h10)
   rw [hLT,hLL]
   exact ⟨FA,U,h10,hm,hc,LF,fun _=>⟨by omega,fun m h=>by have:=(L2 m h).1; omega,fun m h e he=>by have:=((L2 m h).2.1 e he).mem; omega,fun m h=>by have:=(L2 m h).2.2; omega⟩,fun _=>FA,by rw [e5,e6,hv,e4]; rfl⟩
end Go.Proofs.Ytplflgclomiihaa.XT
