/- Contracts. -/
import Derived.Test.YtplflgclomiihaaGreatQVSB
import Derived.Test.YtplflgclomiihaaGreatProg
import Derived.Test.YtplflgclomiihaaGreatQVSC
import Derived.Test.YtplflgclomiihaaGreatQLSA
set_option linter.unusedVariables false
set_option linter.unusedSimpArgs false
namespace Go.Proofs.YtplflgclomiihaaGreat.XT
open Go Go.RowKit Go.Proofs.YtplflgclomiihaaGreat.Sv
set_option maxRecDepth 100000
def trueK:Con:=trueC
theorem trueK_ok:ConOK Tryz.prog Gl.none 5 trueK:=true_ok fun w _=>Go.Proofs.YtplflgclomiihaaGreat.T.law_alive14
noncomputable def smal14C:Con:=⟨[.d false peerT],fun ds=>[],[.d .b],fun ds=>(fun (a:D)=>[.b (decide (((a.fld 10).list.length:Int) ≤ 60) && decide (((a.fld 15).list.length:Int) ≤ 64) && decide (((a.fld 17).list.length:Int) ≤ 60) && decide (((a.fld 9).str.size:Int) < 4096))]) (nthD ds 0),fun ds=>[]⟩
noncomputable def smal14C_an:Anns:=fun _ _=>none
theorem smal14C_vc (a:D):((decide ((↑(a.fld 10).list.length:Int) ≤ 60) && decide ((↑(a.fld 15).list.length:Int) ≤ 64) && decide ((↑(a.fld 17).list.length:Int) ≤ 60) && decide ((↑(a.fld 9).str.size:Int) < 4096))=(decide ((↑(a.fld 10).list.length:Int) ≤ 60) && decide ((↑(a.fld 15).list.length:Int) ≤ 64) && decide ((↑(a.fld 17).list.length:Int) ≤ 60) && decide ((↑(a.fld 9).str.size:Int) < 4096)))=conGoal Tryz.prog noS smal14C_an 200 4 smal14C [a]:=by kernel_rfl
theorem smal14C_ok:ConOK Tryz.prog Gl.none 4 smal14C:=con_of mo (noS_ok _) (an:=smal14C_an) 200 fun ds hl hp=>by
 obtain ⟨a,rfl⟩:=len1 hl
 rw [← smal14C_vc]
 all_goals rfl
theorem fit_zero:FitP (DT.zero peerT):=by
 have z:U64 0:=⟨by omega,by omega⟩
 exact ⟨Nat.zero_le _,Nat.zero_le _,Nat.zero_le _,Nat.zero_le _,Nat.zero_le _,Nat.zero_le _,(fun _ h=>absurd h List.not_mem_nil),(fun _ h=>absurd h List.not_mem_nil),(fun _ h=>absurd h List.not_mem_nil),(fun _ h=>absurd h List.not_mem_nil),(fun _ h=>absurd h List.not_mem_nil),z,z,z,z,z,Int.le_refl 0⟩
theorem sr_fit {a:D} (p:FitP a) (h:(a.fld 17).list.length ≤ 1000):FitP (outSR a):=by
 unfold outSR
 cases srA a with
 | false=>exact fit_zero
 | true=>rw [cond_true]; exact fitP_rd p h
def MsgF (m:D):Prop:=(m.fld 9).list.length ≤ 1000000∧(∀ e ∈ (m.fld 9).list,FitE e)∧(m.fld 10).list.length ≤ 17592186044416
theorem out_fit {q:D} {to:Int} (p:FitP q):MsgF (etaD msgT (outSend q to)):=by
 have h10:=p.l10
 unfold outSend
 cases mayB q && decide ((q.fld 4).int=2) && decide (fndI (q.fld 15).list to < (q.fld 15).list.length) with
 | false=>exact ⟨Nat.zero_le _,fun e he=>absurd (show e ∈ ([]:List D) from he) List.not_mem_nil,Nat.zero_le _⟩
 | true =>
  rw [cond_true]
  unfold sendM
  cases termB q (u64 (((nthD (q.fld 15).list (fndI (q.fld 15).list to)).fld 1).int - 1)) with
  | false=>exact ⟨Nat.zero_le _,fun e he=>absurd (show e ∈ ([]:List D) from he) List.not_mem_nil,p.l8⟩
  | true=>exact ⟨len_td h10,fitE_td p,Nat.zero_le _⟩
theorem srl_fit {a:D} (p:FitP a) (h:(a.fld 17).list.length ≤ 1000):(outSRL a).length ≤ 1000000∧∀ m ∈ outSRL a,MsgF m:=by
 have h15:=p.l15
 unfold outSRL
 cases srA a with
 | false=>rw [cond_false]; exact ⟨Nat.zero_le _,fun d hd=>absurd hd List.not_mem_nil⟩
 | true =>
  rw [cond_true]
  refine ⟨by rw [List.length_map]; exact h15,fun d hd=>?_⟩
  obtain ⟨f,_,rfl⟩:=List.mem_map.1 hd
  exact out_fit (fitP_rd p h)
theorem ry_fit {a:D} (p:FitP a):FitP (ryP a):=by
 have h17:=p.l17
 exact ⟨p.l1,p.l8,p.l14,p.l10,p.l15,by
  show (stayL (a.fld 1).list (a.fld 17).list).length ≤ 1000000
  have:=List.length_filter_le (fun r=>!rdyB (a.fld 1).list r) (a.fld 17).list
  unfold stayL; omega,p.log,(fun r hr=>p.rd r ((List.mem_filter.1 (show r ∈ stayL (a.fld 1).list (a.fld 17).list from hr)).1)),p.fol,p.i1,p.i14,p.base,p.bt,p.term,p.round,p.com,p.role⟩
noncomputable def seatsC:Con:=⟨[.d true peerT],fun ds=>(fun (a:D)=>[((a.fld 10).list.length:Int) ≤ 60 → ((a.fld 15).list.length:Int) ≤ 64 → ((a.fld 17).list.length:Int) ≤ 60 → FitP a∧∀ f ∈ (a.fld 15).list,U64 (f.fld 2).int]) (nthD ds 0),[.d .b],fun ds=>[.b true],fun ds=>[]⟩
noncomputable def seatsC_an:Anns:=fun _ _=>none
theorem seatsC_vc (a:D):(bif !(decide ((↑(a.fld 10).list.length:Int) ≤ 60) && decide ((↑(a.fld 15).list.length:Int) ≤ 64) && decide ((↑(a.fld 17).list.length:Int) ≤ 60) && decide ((↑(a.fld 9).str.size:Int) < 4096)) then true=true else FitP (putF peerT a [])∧FitP (putF peerT a [])∧(∀ (f:D),f ∈ (a.fld 15).list → 0 ≤ (f.fld 2).int∧(f.fld 2).int ≤ 18446744073709551615)∧(a.fld 17).list.length ≤ 1000∧FitP (putF peerT a [])∧(∀ (f:D),f ∈ (a.fld 15).list → 0 ≤ (f.fld 2).int∧(f.fld 2).int ≤ 18446744073709551615)∧(a.fld 17).list.length ≤ 1000∧FitP (putF peerT (outSR a) [])∧((!eqP (outSR a) (outSR a) || !decide (outSRN a=outSRN a))=false → (outSRL a).length < 4611686018427387904∧(∀ (m:D),m ∈ outSRL a → (m.fld 9).list.length < 4611686018427387904)∧(∀ (m:D),m ∈ outSRL a → ∀ (e:D),e ∈ (m.fld 9).list → (e.fld 3).list.length < 4611686018427387904)∧∀ (m:D),m ∈ outSRL a → (m.fld 10).list.length < 4611686018427387904)∧bif !eqP (outSR a) (outSR a) || !decide (outSRN a=outSRN a) || !eqL eqM (outSRL a) (outSRL a) || !decide (outSRE a=outSRE a) then false=true else FitP (putF peerT a [])∧(∀ (f:D),f ∈ (a.fld 15).list → 0 ≤ (f.fld 2).int∧(f.fld 2).int ≤ 18446744073709551615)∧(a.fld 10).list.length < 4611686018427387904∧(0 ≤ (a.fld 6).int∧(a.fld 6).int ≤ 18446744073709551615)∧(a.fld 8).list.length ≤ 17592186044416∧(∀ (e:D),e ∈ (a.fld 10).list → (e.fld 3).list.length ≤ 17592186044416)∧(a.fld 1).list.length ≤ 17592186044416∧(a.fld 14).list.length ≤ 17592186044416∧(a.fld 15).list.length ≤ 17592186044416∧(a.fld 17).list.length ≤ 17592186044416∧(∀ (r:D),r ∈ (a.fld 17).list → (r.fld 2).list.length ≤ 17592186044416)∧0 ≤ (a.fld 7).int∧(∀ (e:D),e ∈ (a.fld 10).list → 0 ≤ (e.fld 0).int∧0 ≤ (e.fld 1).int)∧0 ≤ (a.fld 4).int∧bif !mayB a then FitP (putF peerT (outSY a) [])∧(eqP (outSY a) (D.t [D.i 0,D.l [],D.i 0,D.i 0,D.i 0,D.i 0,D.i 0,D.i 0,D.l [],D.s (ByteArray.mk #[]),D.l [],D.i 0,D.i 0,D.i 0,D.l [],D.l [],D.i 0,D.l []]) && decide ((↑(outSYL a).length:Int)=0) && decide (condI (mayB a) 0 2=2) && true)=true else FitP (putF peerT a [])∧mayB a=true∧FitP (putF peerT (outSY a) [])∧(eqP (outSY a) (outSY a)=true → (outSYL a).length < 4611686018427387904∧∀ (e:D),e ∈ outSYL a → (e.fld 2).list.length < 4611686018427387904)∧((eqP (outSY a) (outSY a) && eqL eqR (outSYL a) (outSYL a) && decide (condI (mayB a) 0 2=0))=true → FitP (putF peerT a []))∧(eqP (outSY a) (outSY a) && eqL eqR (outSYL a) (outSYL a) && decide (condI (mayB a) 0 2=0) && eqP a a && true)=true)=conGoal Tryz.prog (addS 14 srsC (addS 13 readyrC (addS 12 mayrC (addS 11 SReadyC (addS 10 smsC (addS 9 sameC (addS 8 readrC (addS 7 SReadC (addS 6 ownrdC (addS 5 trueK (addS 4 smal14C noS))))))))))) seatsC_an 200 3 seatsC [a]:=by kernel_rfl
theorem seatsC_ok:ConOK Tryz.prog Gl.none 3 seatsC:=con_of mo (addS_ok srsC_ok (addS_ok readyrC_ok (addS_ok mayrC_ok (addS_ok SReadyC_ok (addS_ok smsC_ok (addS_ok sameC_ok (addS_ok readrC_ok (addS_ok SReadC_ok (addS_ok ownrdC_ok (addS_ok trueK_ok (addS_ok smal14C_ok (noS_ok _)))))))))))) (an:=seatsC_an) 200 fun ds hl hp=>by
 obtain ⟨a,rfl⟩:=len1 hl
 rw [← seatsC_vc]
 have p0:((a.fld 10).list.length:Int) ≤ 60 → ((a.fld 15).list.length:Int) ≤ 64 → ((a.fld 17).list.length:Int) ≤ 60 → FitP a∧∀ f ∈ (a.fld 15).list,U64 (f.fld 2).int:=hp _ (.head _)
 refine cond_of (fun k=>rfl) (fun k=>?_)
 simp only [Bool.not_eq_false',Bool.and_eq_true,decide_eq_true_iff] at k
 obtain ⟨F,U⟩:=p0 k.1.1.1 k.1.1.2 k.1.2
 have FA:=FitP.eta F
 have h17:(a.fld 17).list.length ≤ 1000:=by have:=k.1.2; omega
 have e1:eqP (outSR a) (outSR a)=true:=eqP_self _
 have e2:decide (outSRN a=outSRN a)=true:=decide_eq_true rfl
 have e3:eqL eqM (outSRL a) (outSRL a)=true:=eqL_self eqM_self _
 have e4:decide (outSRE a=outSRE a)=true:=decide_eq_true rfl
 have e5:eqP a a=true:=eqP_self _
 have e6:eqP (outSY a) (outSY a)=true:=eqP_self _
 have e7:eqL eqR (outSYL a) (outSYL a)=true:=eqL_self eqR_self _
 have hz:eqP (DT.zero peerT) (D.t [D.i 0,D.l [],D.i 0,D.i 0,D.i 0,D.i 0,D.i 0,D.i 0,D.l [],D.s (ByteArray.mk #[]),D.l [],D.i 0,D.i 0,D.i 0,D.l [],D.l [],D.i 0,D.l []])=true:=eqP_self _
 obtain ⟨L1,L2⟩:=srl_fit F h17
 rw [e1,e2,e3,e4]
 refine ⟨FA,FA,U,h17,FA,U,h17,FitP.eta (sr_fit F h17),fun _=>⟨by omega,fun m h=>by have:=(L2 m h).1; omega,fun m h e he=>by have:=((L2 m h).2.1 e he).mem; omega,fun m h=>by have:=(L2 m h).2.2; omega⟩,cond_of (fun h=>absurd h (by decide)) (fun _=>⟨FA,U,FitP.pre F (cond_of (fun m=>?_) (fun m=>?_))⟩)⟩
 ·have hm:mayB a=false:=(Bool.not_eq_true' _).mp m
  have ho:outSY a=DT.zero peerT:=by unfold outSY; rw [hm,cond_false]
  have hL:outSYL a=[]:=by unfold outSYL; rw [hm,cond_false]
  rw [ho,hL]
  exact ⟨FitP.eta fit_zero,by rw [hz,hm]; rfl⟩
 ·have hm:mayB a=true:=(Bool.not_eq_false' _).mp m
  obtain ⟨ho,hL⟩:=sy_yes hm
  have FY:FitP (outSY a):=by rw [ho]; exact ry_fit F
  have hl:(outSYL a).length ≤ 1000000:=by
   have:=List.length_filter_le (fun r=>rdyB (a.fld 1).list r) (a.fld 17).list
   rw [hL]; unfold rdyL; omega
  have hr:∀ e ∈ outSYL a,FitR e:=fun e he=>by
   rw [hL] at he
   exact F.rd e ((List.mem_filter.1 (show e ∈ rdyL (a.fld 1).list (a.fld 17).list from he)).1)
  exact ⟨FA,hm,FitP.eta FY,fun _=>⟨by omega,fun e he=>by have:=(hr e he).acks; omega⟩,fun _=>FA,by rw [e6,e7,hm,e5]; rfl⟩
end Go.Proofs.YtplflgclomiihaaGreat.XT
