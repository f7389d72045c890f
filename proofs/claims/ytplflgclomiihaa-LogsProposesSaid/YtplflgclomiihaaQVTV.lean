/- Contracts. -/
import Derived.Test.YtplflgclomiihaaQVTT
import Derived.Test.YtplflgclomiihaaProg
set_option linter.unusedVariables false
set_option linter.unusedSimpArgs false
namespace Go.Proofs.Ytplflgclomiihaa.XT
open Go Go.RowKit Go.Proofs.Ytplflgclomiihaa.Sv
set_option maxRecDepth 100000
def fndI (fs:List D) (to:Int):Nat:=fs.findIdx fun f=>decide ((f.fld 0).int=to)
def sendM (a f:D):D:=bif termB a (u64 ((f.fld 1).int - 1)) then .t [.i 3,.i (a.fld 0).int,.i (f.fld 0).int,.i (a.fld 2).int,.i (u64 ((f.fld 1).int - 1)),.i (termI a (u64 ((f.fld 1).int - 1))),.i (a.fld 11).int,.i (a.fld 16).int,.b false,.l (((a.fld 10).list.drop (u64 (u64 ((f.fld 1).int - 1) - (a.fld 6).int)).toNat).take 16),.l [],.s (ByteArray.mk #[])] else .t [.i 5,.i (a.fld 0).int,.i (f.fld 0).int,.i (a.fld 2).int,.i (a.fld 6).int,.i (a.fld 7).int,.i 0,.i (a.fld 16).int,.b false,.l [],.l (a.fld 8).list,.s (a.fld 9).str]
theorem last_ge {a:D} (h0:U64 (a.fld 6).int) (h:(a.fld 6).int ≤ 4611686018427387904) (hl:(a.fld 10).list.length ≤ 1000000):((lastIf (D.int (D.fld a 6)) (D.list (D.fld a 10))))=(a.fld 6).int + (a.fld 10).list.length:=by
 unfold lastIf
 split
 ·rename_i h1; rw [h1]; simp
 ·have h2:u64 (((a.fld 10).list.length:Nat):Int)=(a.fld 10).list.length:=u64_id ⟨by omega,by omega⟩
  rw [h2]; exact u64_id ⟨by omega,by omega⟩
theorem fnd_at {to:Int}:∀ {fs:List D} {g:Nat},g < fs.length → (∀ j,j < g → ((nthD fs j).fld 0).int ≠ to) → ((nthD fs g).fld 0).int=to → fndI fs to=g
 | [],_,h,_,_=>absurd h (Nat.not_lt_zero _)
 | d :: r,0,_,_,e=>by
  have e:(d.fld 0).int=to:=e
  simp [fndI,List.findIdx_cons,e]
 | d :: r,g + 1,h,hj,e=>by
  have h0:¬ (d.fld 0).int=to:=hj 0 (by omega)
  have:=fnd_at (fs:=r) (g:=g) (by simpa using h) (fun j h=>hj (j + 1) (by omega)) e
  unfold fndI at this ⊢
  simp [List.findIdx_cons,h0,this]
theorem fnd_none {to:Int}:∀ {fs:List D},(∀ j,j < fs.length → ((nthD fs j).fld 0).int ≠ to) → fndI fs to=fs.length
 | [],_=>rfl
 | d :: r,h=>by
  have h0:¬ (d.fld 0).int=to:=h 0 (by simp)
  have:=fnd_none (fs:=r) (fun j hj=>h (j + 1) (by simpa using hj))
  unfold fndI at this ⊢
  simp [List.findIdx_cons,h0,this]
theorem c02 {m:Bool}:(decide (condI m 0 2=0))=m:=by cases m <;> rfl
theorem fitE_td {a:D} (p:FitP a) {m k:Nat}:∀ e ∈ List.take k (List.drop m (a.fld 10).list),FitE e:=fun e he=>p.log e (List.mem_of_mem_drop (List.mem_of_mem_take he))
theorem len_td {xs:List D} {m k:Nat} (h:xs.length ≤ 1000000):(List.take k (List.drop m xs)).length ≤ 1000000:=by
 rw [List.length_take,List.length_drop]; omega
def clogC:Con:=⟨[.d true (.l entT)],fun ds=>(fun (a:D)=>[a.list.length ≤ 1000000,∀ e ∈ a.list,FitE e]) (nthD ds 0),[.own 60 entT],fun ds=>(fun (a:D)=>[.l a.list]) (nthD ds 0),fun ds=>[]⟩
def clogC_an:Anns:=fun f i=>match f,i with
 | 73,3=>some fun A st=>match A.get 3 with
  | some (.oc l m)=>match st.h.get l with
   | some (.q _ _ xs)=>⟨Nat,fun g=>[(10,.v (.int .i64 g))],fun _=>[(l,.q 60 entT xs)],fun g=>g ≤ xs.length,fun g=>xs.length - g⟩
   | _=>LAnn.bad
  | _=>LAnn.bad
 | _,_=>none
theorem clogC_vc (a:D):(a.list.length ≤ 1099511627776∧0 ≤ (↑a.list.length:Int)∧(↑a.list.length:Int) ≤ (↑a.list.length:Int)∧(↑a.list.length:Int)=(↑a.list.length:Int)∧∃ (g:Nat),EqI 0 (↑g:Int)∧a.list=a.list∧g ≤ a.list.length∧∀ (g:Nat),g ≤ a.list.length → bif decide ((↑g:Int) < (↑a.list.length:Int)) then Idx (↑g:Int) a.list.length∧((nthD a.list g).fld 3).list.length ≤ 17592186044416∧Idx (↑g:Int) a.list.length∧I64 ((↑g:Int) + 1)∧∃ (g_1:Nat),(↑g:Int) + 1=(↑g_1:Int)∧setD a.list g (D.t (setD (nthD a.list g).tup 3 (D.l (List.take ((nthD a.list g).fld 3).list.length ((nthD a.list g).fld 3).list))))=a.list∧g_1 ≤ a.list.length∧a.list.length - g_1 < a.list.length - g else List.take a.list.length a.list=a.list)=conGoal Try.prog (addS 76 cloneK (addS 87 clone103K noS)) clogC_an 200 73 clogC [a]:=by kernel_rfl
theorem clogC_ok:ConOK Try.prog Gl.none 73 clogC:=con_of mo (addS_ok cloneK_ok (addS_ok clone103K_ok (noS_ok _))) (an:=clogC_an) 200 fun ds hl hp=>by
 obtain ⟨a,rfl⟩:=len1 hl
 rw [← clogC_vc]
 have p0:a.list.length ≤ 1000000:=hp _ (.head _)
 have p1:∀ e ∈ a.list,FitE e:=hp _ (.tail _ (.head _))
 refine ⟨by omega,by omega,by omega,rfl,0,rfl,rfl,Nat.zero_le _,fun g h1=>cond_of (fun c=>?_) (fun c=>?_)⟩
 ·have c:g < a.list.length:=by simpa using c
  have he:=p1 _ (List.mem_of_getElem? (get_nthD c))
  have hp:D.t (setD (nthD a.list g).tup 3 (D.l ((nthD a.list g).fld 3).list))=nthD a.list g:=put3 he.eta
  rw [List.take_length,hp,setD_self c]
  exact ⟨⟨by omega,by omega⟩,he.mem,⟨by omega,by omega⟩,⟨by omega,by omega⟩,g + 1,by omega,rfl,by omega,by omega⟩
 ·exact List.take_length
def termrC:Con:=⟨[.d false peerT,.d false (.i .u64)],fun ds=>(fun (a:D) (b:D)=>[(a.fld 10).list.length ≤ 1000000,U64 (a.fld 6).int,(a.fld 6).int ≤ 4611686018427387904,U64 b.int]) (nthD ds 0) (nthD ds 1),[.d (.i .u64),.d .b],fun ds=>(fun (a:D) (b:D)=>[.i (termI a b.int),.b (termB a b.int)]) (nthD ds 0) (nthD ds 1),fun ds=>[]⟩
def termrC_an:Anns:=fun _ _=>none
theorem termrC_vc (a b:D):(bif decide (b.int=(a.fld 6).int) then (a.fld 7).int=termI a b.int∧true=termB a b.int else (a.fld 10).list.length < 4611686018427387904∧bif decide (b.int < (a.fld 6).int) || decide (lastIf (a.fld 6).int (a.fld 10).list < b.int) then EqI 0 (termI a b.int)∧false=termB a b.int else Idx (IntKind.u64.wrap (IntKind.u64.wrap (b.int - (a.fld 6).int) - 1)) (a.fld 10).list.length∧((nthD (a.fld 10).list (IntKind.u64.wrap (IntKind.u64.wrap (b.int - (a.fld 6).int) - 1)).toNat).fld 0).int=termI a b.int∧true=termB a b.int)=conGoal Try.prog (addS 55 lastrC noS) termrC_an 200 63 termrC [a,b]:=by kernel_rfl
theorem termrC_ok:ConOK Try.prog Gl.none 63 termrC:=con_of mo (addS_ok lastrC_ok (noS_ok _)) (an:=termrC_an) 200 fun ds hl hp=>by
 obtain ⟨a,b,rfl⟩:=len2 hl
 rw [← termrC_vc]
 have p0:(a.fld 10).list.length ≤ 1000000:=hp _ (.head _)
 have p1:U64 (a.fld 6).int:=hp _ (.tail _ (.head _))
 have p2:(a.fld 6).int ≤ 4611686018427387904:=hp _ (.tail _ (.tail _ (.head _)))
 have p3:U64 b.int:=hp _ (.tail _ (.tail _ (.tail _ (.head _))))
 have hl:=last_ge p1 p2 p0
 refine cond_of (fun c=>?_) (fun c=>⟨by omega,cond_of (fun d=>?_) (fun d=>?_)⟩)
 ·have c:b.int=(a.fld 6).int:=of_decide_eq_true c
  have hb:termB a b.int=true:=by unfold termB; rw [hl,decide_eq_false (by omega),decide_eq_false (by omega)]; rfl
  exact ⟨by rw [termI,hb]; simp [c],hb.symm⟩
 ·have hb:termB a b.int=false:=by unfold termB; rw [d]; rfl
  exact ⟨by rw [termI,hb]; rfl,hb.symm⟩
 ·have hb:termB a b.int=true:=by unfold termB; rw [d]; rfl
  have c:¬ b.int=(a.fld 6).int:=of_decide_eq_false c
  rw [Bool.or_eq_false_iff,decide_eq_false_iff_not,decide_eq_false_iff_not,hl] at d
  have hx:IntKind.u64.wrap (IntKind.u64.wrap (b.int - (a.fld 6).int) - 1)=b.int - (a.fld 6).int - 1:=by
   have h1:IntKind.u64.wrap (b.int - (a.fld 6).int)=b.int - (a.fld 6).int:=u64_id ⟨by omega,by omega⟩
   rw [h1]; exact u64_id ⟨by omega,by omega⟩
  rw [hx]
  exact ⟨⟨by omega,by omega⟩,by rw [termI,hb]; simp [c],hb.symm⟩
end Go.Proofs.Ytplflgclomiihaa.XT
