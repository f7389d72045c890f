/- Contracts. -/
import Derived.Test.YtplflgclomiihaaGreatQVSA
import Derived.Test.YtplflgclomiihaaGreatQVUG
set_option linter.unusedVariables false
set_option linter.unusedSimpArgs false
namespace Go.Proofs.YtplflgclomiihaaGreat.XT
open Go Go.RowKit Go.Proofs.YtplflgclomiihaaGreat.Sv
theorem nthD_apl {ys:List D}:∀ {xs:List D} {j:Nat},j < xs.length → nthD (xs ++ ys) j=nthD xs j
 | [],_,h=>absurd h (Nat.not_lt_zero _)
 | _ :: _,0,_=>rfl
 | _ :: r,j + 1,h=>nthD_apl (xs:=r) (by simpa using h)
theorem nthD_apr (xs:List D) (d:D):nthD (xs ++ [d]) xs.length=d:=nthD_mid (ys:=[])
def rdE (a:D):D:=.t [.i (u64 ((a.fld 16).int + 1)),.i (a.fld 11).int,.l [.i (a.fld 0).int]]
def rdP (a:D):D:=.t [.i (a.fld 0).int,.l (a.fld 1).list,.i (a.fld 2).int,.i (a.fld 3).int,.i (a.fld 4).int,.i (a.fld 5).int,.i (a.fld 6).int,.i (a.fld 7).int,.l (a.fld 8).list,.s (a.fld 9).str,.l (a.fld 10).list,.i (a.fld 11).int,.i (a.fld 12).int,.i (a.fld 13).int,.l (a.fld 14).list,.l (a.fld 15).list,.i (u64 ((a.fld 16).int + 1)),.l ((a.fld 17).list ++ [rdE a])]
theorem rd_may {a:D} (p:FitP a) (h:MayP a) (r:(a.fld 4).int=2) (hr:(a.fld 16).int < 4611686018427387904):MayP (rdP a):=by
 have hR:=p.round
 have hu:u64 ((a.fld 16).int + 1)=(a.fld 16).int + 1:=u64_id ⟨by omega,by omega⟩
 have hrd:rdsB a=true∧((mayL2 a=true) → mayL2 (rdP a)=true):=by
  have k:mayL2 a=true:=by
   rcases h.role with ⟨k,_⟩ | ⟨k,_⟩ | ⟨_,k⟩
   ·omega
   ·omega
   ·exact k
  have k':=k
  unfold mayL2 at k'
  rw [Bool.and_eq_true,Bool.and_eq_true] at k'
  refine ⟨k'.2,fun _=>?_⟩
  have hb:rdsB (rdP a)=true:=by
   have h2:=k'.2
   unfold rdsB at h2 ⊢
   rw [List.all_eq_true] at h2 ⊢
   intro j hj
   have hj:=List.mem_range.1 hj
   have e17:((rdP a).fld 17).list=(a.fld 17).list ++ [rdE a]:=rfl
   have e16:((rdP a).fld 16).int=(a.fld 16).int + 1:=hu
   have e11:((rdP a).fld 11).int=(a.fld 11).int:=rfl
   rw [e17] at hj
   rw [e17,e16,e11]
   rw [List.length_append,List.length_singleton] at hj
   by_cases c:j < (a.fld 17).list.length
   ·have h3:=h2 j (List.mem_range.2 c)
    unfold rdAt at h3 ⊢
    rw [nthD_apl c,nthD_apl (show j - 1 < (a.fld 17).list.length by omega)]
    rw [Bool.not_eq_true'] at h3 ⊢
    simp only [Bool.or_eq_false_iff,decide_eq_false_iff_not] at h3 ⊢
    exact ⟨⟨⟨by omega,h3.1.1.2⟩,h3.1.2⟩,h3.2⟩
   ·have c:j=(a.fld 17).list.length:=by omega
    subst c
    have hid:idsB ((rdE a).fld 2).list=true:=by
     show (List.range 1).all (okAt [D.i (a.fld 0).int])=true
     have hi:okId (a.fld 0).int=true:=h.id
     show ((okId (a.fld 0).int && _) && true)=true
     rw [hi]; rfl
    have e0:((rdE a).fld 0).int=(a.fld 16).int + 1:=hu
    have e1:((rdE a).fld 1).int=(a.fld 11).int:=rfl
    unfold rdAt
    rw [nthD_apr,hid,e0,e1,Bool.not_eq_true']
    simp only [Bool.or_eq_false_iff,decide_eq_false_iff_not,Bool.not_true,Bool.and_eq_false_imp,decide_eq_true_eq]
    refine ⟨⟨⟨by omega,by omega⟩,trivial⟩,fun hp=>?_⟩
    rw [nthD_apl (show (a.fld 17).list.length - 1 < (a.fld 17).list.length by omega)]
    have h3:=h2 ((a.fld 17).list.length - 1) (List.mem_range.2 (by omega))
    unfold rdAt at h3
    rw [Bool.not_eq_true'] at h3
    simp only [Bool.or_eq_false_iff,decide_eq_false_iff_not] at h3
    have:=h3.1.1.1
    omega
  unfold mayL2
  rw [Bool.and_eq_true,Bool.and_eq_true]
  exact ⟨k'.1,hb⟩
 have k:mayL2 a=true:=by
  rcases h.role with ⟨k,_⟩ | ⟨k,_⟩ | ⟨_,k⟩
  ·omega
  ·omega
  ·exact k
 exact ⟨h.id,h.wait0,h.wait1,h.idle0,h.idle1,h.term,h.base,(by show u64 ((a.fld 16).int + 1) ≤ _; omega),h.vote,h.lead,h.bm0,h.bm1,h.bt,h.b0,h.snap,h.log,h.mem,h.com0,h.com1,.inr (.inr ⟨r,hrd.2 k⟩)⟩
theorem fitP_rd {a:D} (p:FitP a) (h17:(a.fld 17).list.length ≤ 1000):FitP (rdP a):=⟨p.l1,p.l8,p.l14,p.l10,p.l15,by
 show ((a.fld 17).list ++ [rdE a]).length ≤ 1000000
 rw [List.length_append,List.length_singleton]; omega,p.log,by
 intro x hx
 have hx:x ∈ (a.fld 17).list ++ [rdE a]:=hx
 rcases List.mem_append.1 hx with hx | hx
 ·exact p.rd x hx
 ·rw [List.mem_singleton] at hx
  rw [hx]
  exact ⟨rfl,by show 1 ≤ 17592186044416; omega⟩,p.fol,p.i1,p.i14,p.base,p.bt,p.term,u64_in _,p.com,p.role⟩
theorem all_send {q:D} (hm:mayB q=true) (r:(q.fld 4).int=2):allL q=(q.fld 15).list.map fun f=>etaD msgT (outSend q (f.fld 0).int):=by
 have ho:∀ to,outS q to=outSend q to:=fun to=>by
  unfold outS outSend
  rw [hm,decide_eq_true r,sndM_eq]
  rfl
 unfold allL
 simp only [ho]
end Go.Proofs.YtplflgclomiihaaGreat.XT
