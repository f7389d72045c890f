/- Contracts. -/
import Derived.Test.YtplflgclomiihaaGreatQVTV
import Derived.Test.YtplflgclomiihaaGreatProg
import Derived.Test.YtplflgclomiihaaGreatQVTU
set_option linter.unusedVariables false
set_option linter.unusedSimpArgs false
namespace Go.Proofs.YtplflgclomiihaaGreat.XT
open Go Go.RowKit Go.Proofs.YtplflgclomiihaaGreat.Sv
set_option maxRecDepth 100000
theorem snd_ex:∃ g:D → D → D,g=sendM:=⟨_,rfl⟩
noncomputable def sndM:D → D → D:=Classical.choose snd_ex
theorem sndM_eq:sndM=sendM:=Classical.choose_spec snd_ex
noncomputable def outS (a:D) (to:Int):D:=bif decide (fndI (a.fld 15).list to < (a.fld 15).list.length) then sndM a (nthD (a.fld 15).list (fndI (a.fld 15).list to)) else DT.zero msgT
def outSN (a:D) (to:Int):Int:=bif decide (fndI (a.fld 15).list to < (a.fld 15).list.length) then 0 else 5
noncomputable def allL (a:D):List D:=(a.fld 15).list.map fun f=>etaD msgT (outS a (f.fld 0).int)
theorem outS_put (a:D) (i:Int):outS (putF peerT a []) i=outS a i:=by unfold outS; rw [sndM_eq]; rfl
noncomputable def lowndC:Con:=⟨[.d true peerT],fun ds=>(fun (a:D)=>[FitP a]) (nthD ds 0),[.d peerT],fun ds=>(fun (a:D)=>[etaD peerT a]) (nthD ds 0),fun ds=>[]⟩
noncomputable def lowndC_an:Anns:=fun f i=>match f,i with
 | 46,5=>some fun A st=>match st.h.get 0 with
  | some (.c _ cs)=>match cs.drop 17 with
   | .ow l m :: _=>match st.h.get l with
    | some (.q _ _ xs)=>⟨Nat,fun g=>[(31,.v (.int .i64 g))],fun _=>[(l,.q 54 rdT xs)],fun g=>g ≤ xs.length,fun g=>xs.length - g⟩
    | _=>LAnn.bad
   | _=>LAnn.bad
  | _=>LAnn.bad
 | _,_=>none
theorem lowndC_vc (a:D):((a.fld 1).list.length ≤ 17592186044416∧(a.fld 8).list=(a.fld 8).list∧(a.fld 8).list.length ≤ 17592186044416∧(a.fld 14).list.length ≤ 17592186044416∧(a.fld 15).list=(a.fld 15).list∧(a.fld 15).list.length ≤ 1099511627776∧(a.fld 17).list=(a.fld 17).list∧(a.fld 17).list=(a.fld 17).list∧(a.fld 17).list.length ≤ 1099511627776∧(a.fld 10).list.length ≤ 1000000∧(∀ (e:D),e ∈ (a.fld 10).list → FitE e)∧∃ (g:Nat),EqI 0 (↑g:Int)∧(a.fld 17).list=(a.fld 17).list∧g ≤ (a.fld 17).list.length∧∀ (g:Nat),g ≤ (a.fld 17).list.length → bif decide ((↑g:Int) < (↑(a.fld 17).list.length:Int)) then (a.fld 17).list.length=(a.fld 17).list.length∧(a.fld 17).list.length=(a.fld 17).list.length∧Idx (↑g:Int) (a.fld 17).list.length∧Idx (↑g:Int) (a.fld 17).list.length∧g=g∧((nthD (a.fld 17).list g).fld 2).list.length ≤ 17592186044416∧Idx (↑g:Int) (a.fld 17).list.length∧Idx (↑g:Int) (a.fld 17).list.length∧g=g∧I64 ((↑g:Int) + 1)∧∃ (g_1:Nat),(↑g:Int) + 1=(↑g_1:Int)∧setD (a.fld 17).list g (D.t (setD (nthD (a.fld 17).list g).tup 2 (D.l (List.take ((nthD (a.fld 17).list g).fld 2).list.length ((nthD (a.fld 17).list g).fld 2).list))))=(a.fld 17).list∧g_1 ≤ (a.fld 17).list.length∧(a.fld 17).list.length - g_1 < (a.fld 17).list.length - g else (a.fld 0).int=(a.fld 0).int∧List.take (a.fld 1).list.length (a.fld 1).list=(a.fld 1).list∧(a.fld 2).int=(a.fld 2).int∧(a.fld 3).int=(a.fld 3).int∧(a.fld 4).int=(a.fld 4).int∧(a.fld 5).int=(a.fld 5).int∧(a.fld 6).int=(a.fld 6).int∧(a.fld 7).int=(a.fld 7).int∧List.take (a.fld 8).list.length (a.fld 8).list=(a.fld 8).list∧(a.fld 9).str=(a.fld 9).str∧List.take (a.fld 10).list.length (a.fld 10).list=(a.fld 10).list∧(a.fld 11).int=(a.fld 11).int∧(a.fld 12).int=(a.fld 12).int∧(a.fld 13).int=(a.fld 13).int∧List.take (a.fld 14).list.length (a.fld 14).list=(a.fld 14).list∧List.take (a.fld 15).list.length (a.fld 15).list=(a.fld 15).list∧(a.fld 16).int=(a.fld 16).int∧List.take (a.fld 17).list.length (a.fld 17).list=(a.fld 17).list)=conGoal Tryz.prog (addS 81 clogC (addS 80 clone104K (addS 79 clone102K (addS 42 cloneK noS)))) lowndC_an 200 46 lowndC [a]:=by kernel_rfl
theorem lowndC_ok:ConOK Tryz.prog Gl.none 46 lowndC:=con_of mo (addS_ok clogC_ok (addS_ok clone104K_ok (addS_ok clone102K_ok (addS_ok cloneK_ok (noS_ok _))))) (an:=lowndC_an) 200 fun ds hl hp=>by
 obtain ⟨a,rfl⟩:=len1 hl
 rw [← lowndC_vc]
 have p0:FitP a:=hp _ (.head _)
 have h1:=p0.l1; have h8:=p0.l8; have h14:=p0.l14; have h10:=p0.l10; have h15:=p0.l15; have h17:=p0.l17
 refine ⟨h1,rfl,h8,h14,rfl,by omega,rfl,rfl,by omega,h10,p0.log,0,rfl,rfl,Nat.zero_le _,fun g h1=>cond_of (fun c=>?_) (fun c=>?_)⟩
 ·have c:g < (a.fld 17).list.length:=by simpa using c
  have he:=p0.rd _ (List.mem_of_getElem? (get_nthD c))
  have hp:D.t (setD (nthD (a.fld 17).list g).tup 2 (D.l ((nthD (a.fld 17).list g).fld 2).list))=nthD (a.fld 17).list g:=put2 he.eta
  rw [List.take_length,hp,setD_self c]
  exact ⟨rfl,rfl,⟨by omega,by omega⟩,⟨by omega,by omega⟩,rfl,he.acks,⟨by omega,by omega⟩,⟨by omega,by omega⟩,rfl,⟨by omega,by omega⟩,g + 1,by omega,rfl,by omega,by omega⟩
 ·simp only [List.take_length,and_self]
noncomputable def sendqC:Con:=⟨[.d true peerT,.d false (.i .i64)],fun ds=>(fun (a:D) (b:D)=>[FitP a,(a.fld 6).int ≤ 4611686018427387904]) (nthD ds 0) (nthD ds 1),[.d msgT,.d (.i .i64)],fun ds=>(fun (a:D) (b:D)=>[etaD msgT (outS a b.int),.i (outSN a b.int)]) (nthD ds 0) (nthD ds 1),fun ds=>[]⟩
noncomputable def sendqC_an:Anns:=fun f i=>match f,i with
 | 62,2=>some fun A st=>match st.h.get 0,A.get 1 with
  | some (.c _ cs),some (.v (.int _ to))=>match cs.drop 15 with
   | .dl _ _ xs :: _=>⟨Nat,fun g=>[(6,.v (.int .i64 g))],fun _=>[],fun g=>g ≤ xs.length∧∀ j,j < g → ((nthD xs j).fld 0).int ≠ to,fun g=>xs.length - g⟩
   | _=>LAnn.bad
  | _,_=>LAnn.bad
 | _,_=>none
theorem sendqC_vc (a b:D):(∃ (g:Nat),EqI 0 (↑g:Int)∧(g ≤ (a.fld 15).list.length∧∀ (j:Nat),j < g → ((nthD (a.fld 15).list j).fld 0).int ≠ b.int)∧∀ (g:Nat),(g ≤ (a.fld 15).list.length∧∀ (j:Nat),j < g → ((nthD (a.fld 15).list j).fld 0).int ≠ b.int) → bif decide ((↑g:Int) < (↑(a.fld 15).list.length:Int)) then Idx (↑g:Int) (a.fld 15).list.length∧bif !decide (((nthD (a.fld 15).list g).fld 0).int=b.int) then I64 ((↑g:Int) + 1)∧∃ (g_1:Nat),(↑g:Int) + 1=(↑g_1:Int)∧(g_1 ≤ (a.fld 15).list.length∧∀ (j:Nat),j < g_1 → ((nthD (a.fld 15).list j).fld 0).int ≠ b.int)∧(a.fld 15).list.length - g_1 < (a.fld 15).list.length - g else Idx (↑g:Int) (a.fld 15).list.length∧(a.fld 10).list.length ≤ 1000000∧(0 ≤ (a.fld 6).int∧(a.fld 6).int ≤ 18446744073709551615)∧(a.fld 6).int ≤ 4611686018427387904∧(0 ≤ IntKind.u64.wrap (((nthD (a.fld 15).list g).fld 1).int - 1)∧IntKind.u64.wrap (((nthD (a.fld 15).list g).fld 1).int - 1) ≤ 18446744073709551615)∧bif !termB a (IntKind.u64.wrap (((nthD (a.fld 15).list g).fld 1).int - 1)) then (0 + (a.fld 8).list.length) * 8 ≤ 140737488355328∧0 + (a.fld 8).list.length ≤ 9223372036854775807∧EqI 5 ((outS a b.int).fld 0).int∧(a.fld 0).int=((outS a b.int).fld 1).int∧b.int=((outS a b.int).fld 2).int∧(a.fld 2).int=((outS a b.int).fld 3).int∧(a.fld 6).int=((outS a b.int).fld 4).int∧(a.fld 7).int=((outS a b.int).fld 5).int∧EqI 0 ((outS a b.int).fld 6).int∧(a.fld 16).int=((outS a b.int).fld 7).int∧false=((outS a b.int).fld 8).bool∧[]=((outS a b.int).fld 9).list∧List.take (0 + (a.fld 8).list.length) ([] ++ (a.fld 8).list)=((outS a b.int).fld 10).list∧(a.fld 9).str=((outS a b.int).fld 11).str∧EqI 0 (outSN a b.int) else 0 ≤ IntKind.u64.wrap (IntKind.u64.wrap (((nthD (a.fld 15).list g).fld 1).int - 1) - (a.fld 6).int)∧IntKind.u64.wrap (IntKind.u64.wrap (((nthD (a.fld 15).list g).fld 1).int - 1) - (a.fld 6).int) ≤ (↑(a.fld 10).list.length:Int)∧bif decide (16 < (↑(List.drop (IntKind.u64.wrap (IntKind.u64.wrap (((nthD (a.fld 15).list g).fld 1).int - 1) - (a.fld 6).int)).toNat (a.fld 10).list).length:Int)) then LeI 0 16∧16 ≤ (↑(List.drop (IntKind.u64.wrap (IntKind.u64.wrap (((nthD (a.fld 15).list g).fld 1).int - 1) - (a.fld 6).int)).toNat (a.fld 10).list).length:Int)∧(List.take ((16:Int) - 0).toNat (List.drop (IntKind.u64.wrap (IntKind.u64.wrap (((nthD (a.fld 15).list g).fld 1).int - 1) - (a.fld 6).int)).toNat (a.fld 10).list)).length ≤ 1000000∧(∀ (e:D),e ∈ List.take ((16:Int) - 0).toNat (List.drop (IntKind.u64.wrap (IntKind.u64.wrap (((nthD (a.fld 15).list g).fld 1).int - 1) - (a.fld 6).int)).toNat (a.fld 10).list) → FitE e)∧EqI 3 ((outS a b.int).fld 0).int∧(a.fld 0).int=((outS a b.int).fld 1).int∧b.int=((outS a b.int).fld 2).int∧(a.fld 2).int=((outS a b.int).fld 3).int∧IntKind.u64.wrap (((nthD (a.fld 15).list g).fld 1).int - 1)=((outS a b.int).fld 4).int∧termI a (IntKind.u64.wrap (((nthD (a.fld 15).list g).fld 1).int - 1))=((outS a b.int).fld 5).int∧(a.fld 11).int=((outS a b.int).fld 6).int∧(a.fld 16).int=((outS a b.int).fld 7).int∧false=((outS a b.int).fld 8).bool∧List.take (List.take ((16:Int) - 0).toNat (List.drop (IntKind.u64.wrap (IntKind.u64.wrap (((nthD (a.fld 15).list g).fld 1).int - 1) - (a.fld 6).int)).toNat (a.fld 10).list)).length (List.take ((16:Int) - 0).toNat (List.drop (IntKind.u64.wrap (IntKind.u64.wrap (((nthD (a.fld 15).list g).fld 1).int - 1) - (a.fld 6).int)).toNat (a.fld 10).list))=((outS a b.int).fld 9).list∧[]=((outS a b.int).fld 10).list∧ByteArray.mk #[]=((outS a b.int).fld 11).str∧EqI 0 (outSN a b.int) else (List.drop (IntKind.u64.wrap (IntKind.u64.wrap (((nthD (a.fld 15).list g).fld 1).int - 1) - (a.fld 6).int)).toNat (a.fld 10).list).length ≤ 1000000∧(∀ (e:D),e ∈ List.drop (IntKind.u64.wrap (IntKind.u64.wrap (((nthD (a.fld 15).list g).fld 1).int - 1) - (a.fld 6).int)).toNat (a.fld 10).list → FitE e)∧EqI 3 ((outS a b.int).fld 0).int∧(a.fld 0).int=((outS a b.int).fld 1).int∧b.int=((outS a b.int).fld 2).int∧(a.fld 2).int=((outS a b.int).fld 3).int∧IntKind.u64.wrap (((nthD (a.fld 15).list g).fld 1).int - 1)=((outS a b.int).fld 4).int∧termI a (IntKind.u64.wrap (((nthD (a.fld 15).list g).fld 1).int - 1))=((outS a b.int).fld 5).int∧(a.fld 11).int=((outS a b.int).fld 6).int∧(a.fld 16).int=((outS a b.int).fld 7).int∧false=((outS a b.int).fld 8).bool∧List.take (List.drop (IntKind.u64.wrap (IntKind.u64.wrap (((nthD (a.fld 15).list g).fld 1).int - 1) - (a.fld 6).int)).toNat (a.fld 10).list).length (List.drop (IntKind.u64.wrap (IntKind.u64.wrap (((nthD (a.fld 15).list g).fld 1).int - 1) - (a.fld 6).int)).toNat (a.fld 10).list)=((outS a b.int).fld 9).list∧[]=((outS a b.int).fld 10).list∧ByteArray.mk #[]=((outS a b.int).fld 11).str∧EqI 0 (outSN a b.int) else EqI 0 ((outS a b.int).fld 0).int∧EqI 0 ((outS a b.int).fld 1).int∧EqI 0 ((outS a b.int).fld 2).int∧EqI 0 ((outS a b.int).fld 3).int∧EqI 0 ((outS a b.int).fld 4).int∧EqI 0 ((outS a b.int).fld 5).int∧EqI 0 ((outS a b.int).fld 6).int∧EqI 0 ((outS a b.int).fld 7).int∧false=((outS a b.int).fld 8).bool∧[]=((outS a b.int).fld 9).list∧[]=((outS a b.int).fld 10).list∧ByteArray.mk #[]=((outS a b.int).fld 11).str∧EqI 5 (outSN a b.int))=conGoal Tryz.prog (addS 20 oweC (addS 61 termrC noS)) sendqC_an 200 62 sendqC [a,b]:=by kernel_rfl
theorem sendqC_ok:ConOK Tryz.prog Gl.none 62 sendqC:=con_of mo (addS_ok oweC_ok (addS_ok termrC_ok (noS_ok _))) (an:=sendqC_an) 200 fun ds hl hp=>by
 obtain ⟨a,b,rfl⟩:=len2 hl
 rw [← sendqC_vc]
 have p0:FitP a:=hp _ (.head _)
 have p1:(a.fld 6).int ≤ 4611686018427387904:=hp _ (.tail _ (.head _))
 have h10:=p0.l10
 have h8:=p0.l8
 have b0:=p1
 have b3:=last_ge p0.base p1 p0.l10
 have h0:=p0.base
 have h15:=p0.l15
 refine ⟨0,rfl,⟨Nat.zero_le _,fun j h=>absurd h (Nat.not_lt_zero _)⟩,fun g ⟨h1,h2⟩=>cond_of (fun d=>?_) (fun d=>?_)⟩
 ·have d:g < (a.fld 15).list.length:=by simpa using d
  refine ⟨⟨by omega,by omega⟩,cond_of (fun e=>⟨⟨by omega,by omega⟩,g + 1,by omega,⟨by omega,fun j hj=>?_⟩,by omega⟩) (fun e=>?_)⟩
  ·have e:=of_decide_eq_false ((Bool.not_eq_true' _).mp e)
   by_cases hj':j=g
   ·rw [hj']; exact e
   ·exact h2 j (by omega)
  ·have e:=of_decide_eq_true ((Bool.not_eq_false' _).mp e)
   have hf:=fnd_at d h2 e
   have ho:outS a b.int=sendM a (nthD (a.fld 15).list g):=by unfold outS; rw [hf,decide_eq_true d,cond_true,sndM_eq]
   have hN:outSN a b.int=0:=by unfold outSN; rw [hf,decide_eq_true d]; rfl
   rw [ho,hN]
   refine ⟨⟨by omega,by omega⟩,h10,h0,b0,u64_in _,cond_of (fun t=>?_) (fun t=>?_)⟩
   ·have t:termB a (u64 (((nthD (a.fld 15).list g).fld 1).int - 1))=false:=(Bool.not_eq_true' _).mp t
    have hs:sendM a (nthD (a.fld 15).list g)=.t [.i 5,.i (a.fld 0).int,.i ((nthD (a.fld 15).list g).fld 0).int,.i (a.fld 2).int,.i (a.fld 6).int,.i (a.fld 7).int,.i 0,.i (a.fld 16).int,.b false,.l [],.l (a.fld 8).list,.s (a.fld 9).str]:=by unfold sendM; rw [t]; rfl
    rw [hs]
    simp only [Nat.zero_add,List.nil_append,List.take_length,-eq_self]
    exact ⟨by omega,by omega,rfl,rfl,e.symm,rfl,rfl,rfl,rfl,rfl,rfl,rfl,rfl,rfl,rfl⟩
   ·have t:termB a (u64 (((nthD (a.fld 15).list g).fld 1).int - 1))=true:=(Bool.not_eq_false' _).mp t
    have hs:sendM a (nthD (a.fld 15).list g)=.t [.i 3,.i (a.fld 0).int,.i ((nthD (a.fld 15).list g).fld 0).int,.i (a.fld 2).int,.i (u64 (((nthD (a.fld 15).list g).fld 1).int - 1)),.i (termI a (u64 (((nthD (a.fld 15).list g).fld 1).int - 1))),.i (a.fld 11).int,.i (a.fld 16).int,.b false,.l (((a.fld 10).list.drop (u64 (u64 (((nthD (a.fld 15).list g).fld 1).int - 1) - (a.fld 6).int)).toNat).take 16),.l [],.s (ByteArray.mk #[])]:=by unfold sendM; rw [t]; rfl
    rw [hs]
    have ht:=t
    unfold termB at ht
    rw [Bool.not_eq_true',Bool.or_eq_false_iff,decide_eq_false_iff_not,decide_eq_false_iff_not,b3] at ht
    have w1:u64 (u64 (((nthD (a.fld 15).list g).fld 1).int - 1) - (a.fld 6).int)=u64 (((nthD (a.fld 15).list g).fld 1).int - 1) - (a.fld 6).int:=u64_id ⟨by omega,by omega⟩
    have hw0:0 ≤ u64 (u64 (((nthD (a.fld 15).list g).fld 1).int - 1) - (a.fld 6).int):=by omega
    have hw1:u64 (u64 (((nthD (a.fld 15).list g).fld 1).int - 1) - (a.fld 6).int) ≤ (a.fld 10).list.length:=by omega
    have hrl:((a.fld 10).list.drop (u64 (u64 (((nthD (a.fld 15).list g).fld 1).int - 1) - (a.fld 6).int)).toNat).length ≤ 1000000:=by rw [List.length_drop]; omega
    refine ⟨hw0,hw1,cond_of (fun k=>?_) (fun k=>?_)⟩
    ·have k:=of_decide_eq_true k
     refine ⟨by decide,by omega,len_td h10,fitE_td p0,rfl,rfl,e.symm,rfl,rfl,rfl,rfl,rfl,rfl,?_,rfl,rfl,rfl⟩
     rw [List.take_length]; rfl
    ·have k:=of_decide_eq_false k
     refine ⟨hrl,fun e he=>p0.log e (List.mem_of_mem_drop he),rfl,rfl,e.symm,rfl,rfl,rfl,rfl,rfl,rfl,?_,rfl,rfl,rfl⟩
     rw [List.take_length]
     exact (List.take_of_length_le (by omega)).symm
 ·have d:g=(a.fld 15).list.length:=by simp at d; omega
  subst d
  have hf:=fnd_none h2
  have hN:outSN a b.int=5:=by unfold outSN; rw [hf,decide_eq_false (Nat.lt_irrefl _)]; rfl
  have hz:outS a b.int=DT.zero msgT:=by unfold outS; rw [hf,decide_eq_false (Nat.lt_irrefl _)]; rfl
  rw [hz,hN]
  exact ⟨rfl,rfl,rfl,rfl,rfl,rfl,rfl,rfl,rfl,rfl,rfl,rfl,rfl⟩
noncomputable def allC:Con:=⟨[.d true peerT],fun ds=>(fun (a:D)=>[FitP a,(a.fld 6).int ≤ 4611686018427387904]) (nthD ds 0),[.d (.l msgT)],fun ds=>(fun (a:D)=>[.l (allL a)]) (nthD ds 0),fun ds=>[]⟩
noncomputable def allC_an:Anns:=fun f i=>match f,i with
 | 26,2000003=>some fun A st=>⟨Unit,fun _=>[],fun _=>[(3,.q 60 msgT [])],fun _=>True,fun _=>0⟩
 | 26,3=>some fun A st=>match st.h.get 0 with
  | some (.c _ cs)=>match cs.drop 15 with
   | .dl _ _ xs :: _=>match toD false st peerT cs with
    | some (d,[])=>⟨Nat,fun g=>[(4,.v (.int .i64 g)),(3,.ow st.nx g)],fun g=>[(st.nx,.q 60 msgT ((xs.take g).map fun f=>etaD msgT (outS d (f.fld 0).int)))],fun g=>g ≤ xs.length,fun g=>xs.length - g⟩
    | _=>LAnn.bad
   | _=>LAnn.bad
  | _=>LAnn.bad
 | _,_=>none
theorem allC_vc (a:D):(∃ (g:Unit),∃ (g:Nat),EqI 0 (↑g:Int)∧0=g∧[]=List.map (fun (f:D) ↦ etaD msgT (outS (putF peerT a []) (f.fld 0).int)) (List.take g (a.fld 15).list)∧g ≤ (a.fld 15).list.length∧∀ (g:Nat),g ≤ (a.fld 15).list.length → bif decide ((↑g:Int) < (↑(a.fld 15).list.length:Int)) then (a.fld 0).int=(a.fld 0).int∧(a.fld 1).list=(a.fld 1).list∧(a.fld 2).int=(a.fld 2).int∧(a.fld 3).int=(a.fld 3).int∧(a.fld 4).int=(a.fld 4).int∧(a.fld 5).int=(a.fld 5).int∧(a.fld 6).int=(a.fld 6).int∧(a.fld 7).int=(a.fld 7).int∧(a.fld 8).list=(a.fld 8).list∧(a.fld 9).str=(a.fld 9).str∧(a.fld 10).list=(a.fld 10).list∧(a.fld 11).int=(a.fld 11).int∧(a.fld 12).int=(a.fld 12).int∧(a.fld 13).int=(a.fld 13).int∧(a.fld 14).list=(a.fld 14).list∧(a.fld 15).list=(a.fld 15).list∧(a.fld 16).int=(a.fld 16).int∧(a.fld 17).list=(a.fld 17).list∧(a.fld 15).list=(a.fld 15).list∧Idx (↑g:Int) (a.fld 15).list.length∧Idx (↑g:Int) (a.fld 15).list.length∧nthD (a.fld 15).list g=nthD (a.fld 15).list g∧((nthD (a.fld 15).list g).fld 0).int=((nthD (a.fld 15).list g).fld 0).int∧FitP (putF peerT a [])∧(a.fld 6).int ≤ 4611686018427387904∧FitP (putF peerT a [])∧(a.fld 6).int ≤ 4611686018427387904∧((outS (putF peerT a []) ((nthD (a.fld 15).list g).fld 0).int).fld 0).int=((outS (putF peerT a []) ((nthD (a.fld 15).list g).fld 0).int).fld 0).int∧((outS (putF peerT a []) ((nthD (a.fld 15).list g).fld 0).int).fld 1).int=((outS (putF peerT a []) ((nthD (a.fld 15).list g).fld 0).int).fld 1).int∧((outS (putF peerT a []) ((nthD (a.fld 15).list g).fld 0).int).fld 2).int=((outS (putF peerT a []) ((nthD (a.fld 15).list g).fld 0).int).fld 2).int∧((outS (putF peerT a []) ((nthD (a.fld 15).list g).fld 0).int).fld 3).int=((outS (putF peerT a []) ((nthD (a.fld 15).list g).fld 0).int).fld 3).int∧((outS (putF peerT a []) ((nthD (a.fld 15).list g).fld 0).int).fld 4).int=((outS (putF peerT a []) ((nthD (a.fld 15).list g).fld 0).int).fld 4).int∧((outS (putF peerT a []) ((nthD (a.fld 15).list g).fld 0).int).fld 5).int=((outS (putF peerT a []) ((nthD (a.fld 15).list g).fld 0).int).fld 5).int∧((outS (putF peerT a []) ((nthD (a.fld 15).list g).fld 0).int).fld 6).int=((outS (putF peerT a []) ((nthD (a.fld 15).list g).fld 0).int).fld 6).int∧((outS (putF peerT a []) ((nthD (a.fld 15).list g).fld 0).int).fld 7).int=((outS (putF peerT a []) ((nthD (a.fld 15).list g).fld 0).int).fld 7).int∧((outS (putF peerT a []) ((nthD (a.fld 15).list g).fld 0).int).fld 8).bool=((outS (putF peerT a []) ((nthD (a.fld 15).list g).fld 0).int).fld 8).bool∧((outS (putF peerT a []) ((nthD (a.fld 15).list g).fld 0).int).fld 9).list=((outS (putF peerT a []) ((nthD (a.fld 15).list g).fld 0).int).fld 9).list∧((outS (putF peerT a []) ((nthD (a.fld 15).list g).fld 0).int).fld 10).list=((outS (putF peerT a []) ((nthD (a.fld 15).list g).fld 0).int).fld 10).list∧((outS (putF peerT a []) ((nthD (a.fld 15).list g).fld 0).int).fld 11).str=((outS (putF peerT a []) ((nthD (a.fld 15).list g).fld 0).int).fld 11).str∧outSN (putF peerT a []) ((nthD (a.fld 15).list g).fld 0).int=outSN (putF peerT a []) ((nthD (a.fld 15).list g).fld 0).int∧(g + [putF msgT (outS (putF peerT a []) ((nthD (a.fld 15).list g).fld 0).int) []].length) * 136 ≤ 140737488355328∧g + [putF msgT (outS (putF peerT a []) ((nthD (a.fld 15).list g).fld 0).int) []].length ≤ 9223372036854775807∧I64 ((↑g:Int) + 1)∧∃ (g_1:Nat),(↑g:Int) + 1=(↑g_1:Int)∧g + [putF msgT (outS (putF peerT a []) ((nthD (a.fld 15).list g).fld 0).int) []].length=g_1∧List.take g (List.map (fun (f:D) ↦ etaD msgT (outS (putF peerT a []) (f.fld 0).int)) (List.take g (a.fld 15).list)) ++ [putF msgT (outS (putF peerT a []) ((nthD (a.fld 15).list g).fld 0).int) []]=List.map (fun (f:D) ↦ etaD msgT (outS (putF peerT a []) (f.fld 0).int)) (List.take g_1 (a.fld 15).list)∧g_1 ≤ (a.fld 15).list.length∧(a.fld 15).list.length - g_1 < (a.fld 15).list.length - g else List.take g (List.map (fun (f:D) ↦ etaD msgT (outS (putF peerT a []) (f.fld 0).int)) (List.take g (a.fld 15).list))=allL a)=conGoal Tryz.prog (addS 62 sendqC noS) allC_an 200 26 allC [a]:=by kernel_rfl
theorem allC_ok:ConOK Tryz.prog Gl.none 26 allC:=con_of mo (addS_ok sendqC_ok (noS_ok _)) (an:=allC_an) 200 fun ds hl hp=>by
 obtain ⟨a,rfl⟩:=len1 hl
 rw [← allC_vc]
 have p0:FitP a:=hp _ (.head _)
 have p1:(a.fld 6).int ≤ 4611686018427387904:=hp _ (.tail _ (.head _))
 have h15:=p0.l15
 refine ⟨(),0,rfl,rfl,rfl,Nat.zero_le _,fun g h1=>cond_of (fun c=>?_) (fun c=>?_)⟩
 ·have c:g < (a.fld 15).list.length:=by simpa using c
  have hI:Idx (g:Int) (a.fld 15).list.length:=⟨by omega,by omega⟩
  have h64:I64 ((g:Int) + 1):=⟨by omega,by omega⟩
  have F:=FitP.eta p0
  exact ⟨rfl,rfl,rfl,rfl,rfl,rfl,rfl,rfl,rfl,rfl,rfl,rfl,rfl,rfl,rfl,rfl,rfl,rfl,rfl,hI,hI,rfl,rfl,F,p1,F,p1,rfl,rfl,rfl,rfl,rfl,rfl,rfl,rfl,rfl,rfl,rfl,rfl,rfl,(by show (g + 1) * 136 ≤ _; omega),(by show g + 1 ≤ _; omega),h64,g + 1,by omega,rfl,map_at (f:=fun (f:D)=>etaD msgT (outS (putF peerT a []) (f.fld 0).int)) c,by omega,by omega⟩
 ·have c:g=(a.fld 15).list.length:=by have:=of_decide_eq_false c; omega
  subst c
  rw [map_end]
  unfold allL
  simp only [outS_put]
end Go.Proofs.YtplflgclomiihaaGreat.XT
