/- Contracts. -/
import Derived.Test.YtplflgclomiihaaQVTQ
import Derived.Test.YtplflgclomiihaaProg
set_option linter.unusedVariables false
set_option linter.unusedSimpArgs false
namespace Go.Proofs.Ytplflgclomiihaa.XT
open Go Go.RowKit Go.Proofs.Ytplflgclomiihaa.Sv
set_option maxRecDepth 100000
theorem setD_self:∀ {xs:List D} {i:Nat},i < xs.length → setD xs i (nthD xs i)=xs
 | [],_,h=>absurd h (Nat.not_lt_zero _)
 | _ :: _,0,_=>rfl
 | d :: r,i + 1,h=>by
  show d :: setD r i (nthD r i)=d :: r
  rw [setD_self (by simpa using h)]
theorem put3 {e:D} (h:etaD entT e=e):e.put [3] (D.l (e.fld 3).list)=e:=by rw [← h]; rfl
theorem put2 {e:D} (h:etaD rdT e=e):e.put [2] (D.l (e.fld 2).list)=e:=by rw [← h]; rfl
def ownC:Con:=⟨[.d true peerT],fun ds=>(fun (a:D)=>[FitP a]) (nthD ds 0),[.agg [.d (.i .i64),.own 3 (.i .i64),.d (.i .u64),.d (.i .i64),.d (.i .u8),.d (.i .i64),.d (.i .u64),.d (.i .u64),.own 3 (.i .i64),.d .s,.own 60 entT,.d (.i .u64),.d (.i .i64),.d (.i .i64),.own 3 (.i .i64),.own 99 folT,.d (.i .u64),.own 102 rdT]],fun ds=>(fun (a:D)=>[etaD peerT a]) (nthD ds 0),fun ds=>[]⟩
def ownC_an:Anns:=fun f i=>match f,i with
 | 100,5=>some fun A st=>match st.h.get 0 with
  | some (.c _ cs)=>match cs.drop 10 with
   | .ow l m :: _=>match st.h.get l with
    | some (.q _ _ xs)=>⟨Nat,fun g=>[(32,.v (.int .i64 g))],fun _=>[(l,.q 60 entT xs)],fun g=>g ≤ xs.length,fun g=>xs.length - g⟩
    | _=>LAnn.bad
   | _=>LAnn.bad
  | _=>LAnn.bad
 | 100,10=>some fun A st=>match st.h.get 0 with
  | some (.c _ cs)=>match cs.drop 17 with
   | .ow l m :: _=>match st.h.get l with
    | some (.q _ _ xs)=>⟨Nat,fun g=>[(51,.v (.int .i64 g))],fun _=>[(l,.q 102 rdT xs)],fun g=>g ≤ xs.length,fun g=>xs.length - g⟩
    | _=>LAnn.bad
   | _=>LAnn.bad
  | _=>LAnn.bad
 | _,_=>none
theorem ownC_vc (a:D):((a.fld 1).list.length ≤ 17592186044416∧(a.fld 8).list=(a.fld 8).list∧(a.fld 8).list.length ≤ 17592186044416∧(a.fld 14).list.length ≤ 17592186044416∧(a.fld 15).list=(a.fld 15).list∧(a.fld 15).list.length ≤ 1099511627776∧(a.fld 10).list.length ≤ 1099511627776∧(a.fld 17).list=(a.fld 17).list∧(a.fld 17).list.length ≤ 1099511627776∧∃ (g:Nat),EqI 0 (↑g:Int)∧(a.fld 10).list=(a.fld 10).list∧g ≤ (a.fld 10).list.length∧∀ (g:Nat),g ≤ (a.fld 10).list.length → bif decide ((↑g:Int) < (↑(a.fld 10).list.length:Int)) then (a.fld 10).list.length=(a.fld 10).list.length∧(a.fld 10).list.length=(a.fld 10).list.length∧Idx (↑g:Int) (a.fld 10).list.length∧Idx (↑g:Int) (a.fld 10).list.length∧g=g∧((nthD (a.fld 10).list g).fld 3).list.length ≤ 17592186044416∧Idx (↑g:Int) (a.fld 10).list.length∧Idx (↑g:Int) (a.fld 10).list.length∧g=g∧I64 ((↑g:Int) + 1)∧∃ (g_1:Nat),(↑g:Int) + 1=(↑g_1:Int)∧setD (a.fld 10).list g (D.t (setD (nthD (a.fld 10).list g).tup 3 (D.l (List.take ((nthD (a.fld 10).list g).fld 3).list.length ((nthD (a.fld 10).list g).fld 3).list))))=(a.fld 10).list∧g_1 ≤ (a.fld 10).list.length∧(a.fld 10).list.length - g_1 < (a.fld 10).list.length - g else ∃ (g:Nat),EqI 0 (↑g:Int)∧(a.fld 17).list=(a.fld 17).list∧g ≤ (a.fld 17).list.length∧∀ (g:Nat),g ≤ (a.fld 17).list.length → bif decide ((↑g:Int) < (↑(a.fld 17).list.length:Int)) then (a.fld 17).list.length=(a.fld 17).list.length∧(a.fld 17).list.length=(a.fld 17).list.length∧Idx (↑g:Int) (a.fld 17).list.length∧Idx (↑g:Int) (a.fld 17).list.length∧g=g∧((nthD (a.fld 17).list g).fld 2).list.length ≤ 17592186044416∧Idx (↑g:Int) (a.fld 17).list.length∧Idx (↑g:Int) (a.fld 17).list.length∧g=g∧I64 ((↑g:Int) + 1)∧∃ (g_1:Nat),(↑g:Int) + 1=(↑g_1:Int)∧setD (a.fld 17).list g (D.t (setD (nthD (a.fld 17).list g).tup 2 (D.l (List.take ((nthD (a.fld 17).list g).fld 2).list.length ((nthD (a.fld 17).list g).fld 2).list))))=(a.fld 17).list∧g_1 ≤ (a.fld 17).list.length∧(a.fld 17).list.length - g_1 < (a.fld 17).list.length - g else (a.fld 0).int=(a.fld 0).int∧List.take (a.fld 1).list.length (a.fld 1).list=(a.fld 1).list∧(a.fld 2).int=(a.fld 2).int∧(a.fld 3).int=(a.fld 3).int∧(a.fld 4).int=(a.fld 4).int∧(a.fld 5).int=(a.fld 5).int∧(a.fld 6).int=(a.fld 6).int∧(a.fld 7).int=(a.fld 7).int∧List.take (a.fld 8).list.length (a.fld 8).list=(a.fld 8).list∧(a.fld 9).str=(a.fld 9).str∧List.take (a.fld 10).list.length (a.fld 10).list=(a.fld 10).list∧(a.fld 11).int=(a.fld 11).int∧(a.fld 12).int=(a.fld 12).int∧(a.fld 13).int=(a.fld 13).int∧List.take (a.fld 14).list.length (a.fld 14).list=(a.fld 14).list∧List.take (a.fld 15).list.length (a.fld 15).list=(a.fld 15).list∧(a.fld 16).int=(a.fld 16).int∧List.take (a.fld 17).list.length (a.fld 17).list=(a.fld 17).list)=conGoal Try.prog (addS 96 clone104K (addS 87 clone103K (addS 95 clone102K (addS 76 cloneK noS)))) ownC_an 200 100 ownC [a]:=by kernel_rfl
theorem ownC_ok:ConOK Try.prog Gl.none 100 ownC:=con_of mo (addS_ok clone104K_ok (addS_ok clone103K_ok (addS_ok clone102K_ok (addS_ok cloneK_ok (noS_ok _))))) (an:=ownC_an) 200 fun ds hl hp=>by
 obtain ⟨a,rfl⟩:=len1 hl
 rw [← ownC_vc]
 have p0:FitP a:=hp _ (.head _)
 have h1:=p0.l1; have h8:=p0.l8; have h14:=p0.l14; have h10:=p0.l10; have h15:=p0.l15; have h17:=p0.l17
 refine ⟨h1,rfl,h8,h14,rfl,by omega,by omega,rfl,by omega,0,rfl,rfl,Nat.zero_le _,fun g h1=>cond_of (fun c=>?_) (fun c=>⟨0,rfl,rfl,Nat.zero_le _,fun g h1=>cond_of (fun c=>?_) (fun c=>?_)⟩)⟩
 ·have c:g < (a.fld 10).list.length:=by simpa using c
  have he:=p0.log _ (List.mem_of_getElem? (get_nthD c))
  have hp:D.t (setD (nthD (a.fld 10).list g).tup 3 (D.l ((nthD (a.fld 10).list g).fld 3).list))=nthD (a.fld 10).list g:=put3 he.eta
  rw [List.take_length,hp,setD_self c]
  exact ⟨rfl,rfl,⟨by omega,by omega⟩,⟨by omega,by omega⟩,rfl,he.mem,⟨by omega,by omega⟩,⟨by omega,by omega⟩,rfl,⟨by omega,by omega⟩,g + 1,by omega,rfl,by omega,by omega⟩
 ·have c:g < (a.fld 17).list.length:=by simpa using c
  have he:=p0.rd _ (List.mem_of_getElem? (get_nthD c))
  have hp:D.t (setD (nthD (a.fld 17).list g).tup 2 (D.l ((nthD (a.fld 17).list g).fld 2).list))=nthD (a.fld 17).list g:=put2 he.eta
  rw [List.take_length,hp,setD_self c]
  exact ⟨rfl,rfl,⟨by omega,by omega⟩,⟨by omega,by omega⟩,rfl,he.acks,⟨by omega,by omega⟩,⟨by omega,by omega⟩,rfl,⟨by omega,by omega⟩,g + 1,by omega,rfl,by omega,by omega⟩
 ·simp only [List.take_length,and_self]
end Go.Proofs.Ytplflgclomiihaa.XT
