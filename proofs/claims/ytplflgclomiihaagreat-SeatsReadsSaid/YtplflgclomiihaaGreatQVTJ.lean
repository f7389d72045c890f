/- Contracts. -/
import Derived.Test.YtplflgclomiihaaGreatQVTI
import Derived.Test.YtplflgclomiihaaGreatProg
set_option linter.unusedVariables false
set_option linter.unusedSimpArgs false
namespace Go.Proofs.YtplflgclomiihaaGreat.XT
open Go Go.RowKit Go.Proofs.YtplflgclomiihaaGreat.Sv
set_option maxRecDepth 100000
def rdAt (R C:Int) (xs:List D) (j:Nat):Bool:=!(decide (R < ((nthD xs j).fld 0).int) || decide (C < ((nthD xs j).fld 1).int) || !idsB ((nthD xs j).fld 2).list || (decide (0 < j) && decide (((nthD xs j).fld 0).int ≤ ((nthD xs (j - 1)).fld 0).int)))
def rdsB (p:D):Bool:=(List.range (p.fld 17).list.length).all (rdAt (p.fld 16).int (p.fld 11).int (p.fld 17).list)
theorem dec0 (g:Nat):decide (0 < (g:Int))=decide (0 < g):=by
 by_cases h:0 < g
 ·rw [decide_eq_true h,decide_eq_true (by omega)]
 ·rw [decide_eq_false h,decide_eq_false (by omega)]
def readsC:Con:=⟨[.d false peerT],fun ds=>(fun (a:D)=>[(a.fld 17).list.length < 4611686018427387904,∀ r ∈ (a.fld 17).list,(r.fld 2).list.length < 4611686018427387904]) (nthD ds 0),[.d .b],fun ds=>(fun (a:D)=>[.b (rdsB a)]) (nthD ds 0),fun ds=>[]⟩
def readsC_an:Anns:=fun f i=>match f,i with
 | 73,2=>some fun A st=>match A.get 6,st.h.get 0 with
  | some (.dl _ _ xs),some (.c _ cs)=>match cs.drop 16,cs.drop 11 with
   | .v (.int _ R) :: _,.v (.int _ C) :: _=>⟨Nat,fun g=>[(8,.v (.int .i64 g))],fun _=>[],fun g=>g ≤ xs.length∧∀ j,j < g → rdAt R C xs j=true,fun g=>xs.length - g⟩
   | _,_=>LAnn.bad
  | _,_=>LAnn.bad
 | _,_=>none
theorem readsC_vc (a:D):(∃ (g:Nat),EqI 0 (↑g:Int)∧(g ≤ (a.fld 17).list.length∧∀ (j:Nat),j < g → rdAt (a.fld 16).int (a.fld 11).int (a.fld 17).list j=true)∧∀ (g:Nat),(g ≤ (a.fld 17).list.length∧∀ (j:Nat),j < g → rdAt (a.fld 16).int (a.fld 11).int (a.fld 17).list j=true) → bif decide ((↑g:Int) < (↑(a.fld 17).list.length:Int)) then Idx (↑g:Int) (a.fld 17).list.length∧((decide ((a.fld 16).int < ((nthD (a.fld 17).list g).fld 0).int) || decide ((a.fld 11).int < ((nthD (a.fld 17).list g).fld 1).int))=false → ((nthD (a.fld 17).list g).fld 2).list.length < 4611686018427387904)∧((decide ((a.fld 16).int < ((nthD (a.fld 17).list g).fld 0).int) || decide ((a.fld 11).int < ((nthD (a.fld 17).list g).fld 1).int) || !idsB ((nthD (a.fld 17).list g).fld 2).list)=false → decide (0 < (↑g:Int))=true → I64 ((↑g:Int) - 1)∧Idx ((↑g:Int) - 1) (a.fld 17).list.length)∧bif decide ((a.fld 16).int < ((nthD (a.fld 17).list g).fld 0).int) || decide ((a.fld 11).int < ((nthD (a.fld 17).list g).fld 1).int) || !idsB ((nthD (a.fld 17).list g).fld 2).list || decide (0 < (↑g:Int)) && decide (((nthD (a.fld 17).list g).fld 0).int ≤ ((nthD (a.fld 17).list ((↑g:Int) - 1).toNat).fld 0).int) then false=rdsB a else I64 ((↑g:Int) + 1)∧∃ (g_1:Nat),(↑g:Int) + 1=(↑g_1:Int)∧(g_1 ≤ (a.fld 17).list.length∧∀ (j:Nat),j < g_1 → rdAt (a.fld 16).int (a.fld 11).int (a.fld 17).list j=true)∧(a.fld 17).list.length - g_1 < (a.fld 17).list.length - g else true=rdsB a)=conGoal Tryz.prog (addS 71 risC noS) readsC_an 200 73 readsC [a]:=by kernel_rfl
theorem readsC_ok:ConOK Tryz.prog Gl.none 73 readsC:=con_of mo (addS_ok risC_ok (noS_ok _)) (an:=readsC_an) 200 fun ds hl hp=>by
 obtain ⟨a,rfl⟩:=len1 hl
 rw [← readsC_vc]
 have p0:(a.fld 17).list.length < 4611686018427387904:=hp _ (.head _)
 have p1:∀ r ∈ (a.fld 17).list,(r.fld 2).list.length < 4611686018427387904:=hp _ (.tail _ (.head _))
 refine ⟨0,rfl,⟨Nat.zero_le _,fun j h=>absurd h (Nat.not_lt_zero _)⟩,fun g ⟨h1,h2⟩=>cond_of (fun c=>?_) (fun c=>?_)⟩
 ·have c:g < (a.fld 17).list.length:=by simpa using c
  have e1:Int.toNat ((g:Int) - 1)=g - 1:=by omega
  rw [e1]
  refine ⟨⟨by omega,by omega⟩,fun _=>p1 _ (List.mem_of_getElem? (get_nthD c)),fun _ d=>?_,cond_of (fun e=>?_) (fun e=>?_)⟩
  ·have d:=of_decide_eq_true d
   exact ⟨⟨by omega,by omega⟩,⟨by omega,by omega⟩⟩
  ·rw [dec0] at e
   symm
   rw [rdsB,List.all_eq_false]
   exact ⟨g,by simpa using c,by rw [rdAt,e]; decide⟩
  ·rw [dec0] at e
   refine ⟨⟨by omega,by omega⟩,g + 1,by omega,⟨by omega,fun j hj=>?_⟩,by omega⟩
   by_cases hjg:j=g
   ·subst hjg; rw [rdAt,e]; rfl
   ·exact h2 j (by omega)
 ·have c:g=(a.fld 17).list.length:=by simp at c; omega
  symm
  rw [rdsB,List.all_eq_true]
  intro j hj
  exact h2 j (by simpa [c] using hj)
end Go.Proofs.YtplflgclomiihaaGreat.XT
