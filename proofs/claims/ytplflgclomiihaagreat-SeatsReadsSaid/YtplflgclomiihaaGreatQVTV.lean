/- Contracts. -/
import Derived.Test.YtplflgclomiihaaGreatQVTT
import Derived.Test.YtplflgclomiihaaGreatProg
set_option linter.unusedVariables false
set_option linter.unusedSimpArgs false
namespace Go.Proofs.YtplflgclomiihaaGreat.XT
open Go Go.RowKit Go.Proofs.YtplflgclomiihaaGreat.Sv
set_option maxRecDepth 100000
def fndI (fs:List D) (to:Int):Nat:=fs.findIdx fun f=>decide ((f.fld 0).int=to)
def sendM (a f:D):D:=bif termB a (u64 ((f.fld 1).int - 1)) then .t [.i 3,.i (a.fld 0).int,.i (f.fld 0).int,.i (a.fld 2).int,.i (u64 ((f.fld 1).int - 1)),.i (termI a (u64 ((f.fld 1).int - 1))),.i (a.fld 11).int,.i (a.fld 16).int,.b false,.l (((a.fld 10).list.drop (u64 (u64 ((f.fld 1).int - 1) - (a.fld 6).int)).toNat).take 16),.l [],.s (ByteArray.mk #[])] else .t [.i 5,.i (a.fld 0).int,.i (f.fld 0).int,.i (a.fld 2).int,.i (a.fld 6).int,.i (a.fld 7).int,.i 0,.i (a.fld 16).int,.b false,.l [],.l (a.fld 8).list,.s (a.fld 9).str]
def outSend (a:D) (to:Int):D:=bif mayB a && decide ((a.fld 4).int=2) && decide (fndI (a.fld 15).list to < (a.fld 15).list.length) then sendM a (nthD (a.fld 15).list (fndI (a.fld 15).list to)) else DT.zero msgT
def sendN (a:D) (to:Int):Int:=bif mayB a then (bif decide ((a.fld 4).int=2) then (bif decide (fndI (a.fld 15).list to < (a.fld 15).list.length) then 0 else 5) else 140) else 2
theorem last_ge {a:D} (h0:U64 (a.fld 6).int) (h:(a.fld 6).int ≤ 4611686018427387904) (hl:(a.fld 10).list.length ≤ 1000000):((lastIf (D.int (D.fld a 6)) (D.list (D.fld a 10))))=(a.fld 6).int + (a.fld 10).list.length:=by
 unfold lastIf
 split
 ·rename_i h1; rw [h1]; simp
 ·have h2:u64 (((a.fld 10).list.length:Nat):Int)=(a.fld 10).list.length:=u64_id ⟨by omega,by omega⟩
  rw [h2]; exact u64_id ⟨by omega,by omega⟩
theorem fnd_at {to:Int}:∀ {fs:List D} {g:Nat},g < fs.length → (∀ j,j < g → ((nthD fs j).fld 0).int ≠ to) → ((nthD fs g).fld 0).int=to → fndI fs to=g
 | [],_,h,_,_=>absurd h (Nat.not_lt_zero _)
 | d :: r,0,_,_,e=>by
  have e:(d.fld 0).int=to:=e
  simp [fndI,List.findIdx_cons,e]
 | d :: r,g + 1,h,hj,e=>by
  have h0:¬ (d.fld 0).int=to:=hj 0 (by omega)
  have:=fnd_at (fs:=r) (g:=g) (by simpa using h) (fun j h=>hj (j + 1) (by omega)) e
  unfold fndI at this ⊢
  simp [List.findIdx_cons,h0,this]
theorem fnd_none {to:Int}:∀ {fs:List D},(∀ j,j < fs.length → ((nthD fs j).fld 0).int ≠ to) → fndI fs to=fs.length
 | [],_=>rfl
 | d :: r,h=>by
  have h0:¬ (d.fld 0).int=to:=h 0 (by simp)
  have:=fnd_none (fs:=r) (fun j hj=>h (j + 1) (by simpa using hj))
  unfold fndI at this ⊢
  simp [List.findIdx_cons,h0,this]
theorem c02 {m:Bool}:(decide (condI m 0 2=0))=m:=by cases m <;> rfl
theorem may_base {a:D} (h:mayB a=true) (p:FitP a):(a.fld 6).int ≤ 4611686018427387904∧(a.fld 6).int ≤ (a.fld 11).int∧(a.fld 11).int ≤ (a.fld 6).int + (a.fld 10).list.length∧((lastIf (D.int (D.fld a 6)) (D.list (D.fld a 10))))=(a.fld 6).int + (a.fld 10).list.length:=by
 have hM:=mayB_iff.1 h
 have hl:=last_ge p.base hM.base p.l10
 have:=hM.com1
 exact ⟨hM.base,hM.com0,by omega,hl⟩
theorem fitE_td {a:D} (p:FitP a) {m k:Nat}:∀ e ∈ List.take k (List.drop m (a.fld 10).list),FitE e:=fun e he=>p.log e (List.mem_of_mem_drop (List.mem_of_mem_take he))
theorem len_td {xs:List D} {m k:Nat} (h:xs.length ≤ 1000000):(List.take k (List.drop m xs)).length ≤ 1000000:=by
 rw [List.length_take,List.length_drop]; omega
def clogC:Con:=⟨[.d true (.l entT)],fun ds=>(fun (a:D)=>[a.list.length ≤ 1000000,∀ e ∈ a.list,FitE e]) (nthD ds 0),[.own 88 entT],fun ds=>(fun (a:D)=>[.l a.list]) (nthD ds 0),fun ds=>[]⟩
def clogC_an:Anns:=fun f i=>match f,i with
 | 81,3=>some fun A st=>match A.get 3 with
  | some (.oc l m)=>match st.h.get l with
   | some (.q _ _ xs)=>⟨Nat,fun g=>[(10,.v (.int .i64 g))],fun _=>[(l,.q 88 entT xs)],fun g=>g ≤ xs.length,fun g=>xs.length - g⟩
   | _=>LAnn.bad
  | _=>LAnn.bad
 | _,_=>none
theorem clogC_vc (a:D):(a.list.length ≤ 1099511627776∧0 ≤ (↑a.list.length:Int)∧(↑a.list.length:Int) ≤ (↑a.list.length:Int)∧(↑a.list.length:Int)=(↑a.list.length:Int)∧∃ (g:Nat),EqI 0 (↑g:Int)∧a.list=a.list∧g ≤ a.list.length∧∀ (g:Nat),g ≤ a.list.length → bif decide ((↑g:Int) < (↑a.list.length:Int)) then Idx (↑g:Int) a.list.length∧((nthD a.list g).fld 3).list.length ≤ 17592186044416∧Idx (↑g:Int) a.list.length∧I64 ((↑g:Int) + 1)∧∃ (g_1:Nat),(↑g:Int) + 1=(↑g_1:Int)∧setD a.list g (D.t (setD (nthD a.list g).tup 3 (D.l (List.take ((nthD a.list g).fld 3).list.length ((nthD a.list g).fld 3).list))))=a.list∧g_1 ≤ a.list.length∧a.list.length - g_1 < a.list.length - g else List.take a.list.length a.list=a.list)=conGoal Tryz.prog (addS 42 cloneK (addS 89 clone103K noS)) clogC_an 200 81 clogC [a]:=by kernel_rfl
theorem clogC_ok:ConOK Tryz.prog Gl.none 81 clogC:=con_of mo (addS_ok cloneK_ok (addS_ok clone103K_ok (noS_ok _))) (an:=clogC_an) 200 fun ds hl hp=>by
 obtain ⟨a,rfl⟩:=len1 hl
 rw [← clogC_vc]
 have p0:a.list.length ≤ 1000000:=hp _ (.head _)
 have p1:∀ e ∈ a.list,FitE e:=hp _ (.tail _ (.head _))
 refine ⟨by omega,by omega,by omega,rfl,0,rfl,rfl,Nat.zero_le _,fun g h1=>cond_of (fun c=>?_) (fun c=>?_)⟩
 ·have c:g < a.list.length:=by simpa using c
  have he:=p1 _ (List.mem_of_getElem? (get_nthD c))
  have hp:D.t (setD (nthD a.list g).tup 3 (D.l ((nthD a.list g).fld 3).list))=nthD a.list g:=put3 he.eta
  rw [List.take_length,hp,setD_self c]
  exact ⟨⟨by omega,by omega⟩,he.mem,⟨by omega,by omega⟩,⟨by omega,by omega⟩,g + 1,by omega,rfl,by omega,by omega⟩
 ·exact List.take_length
def termrC:Con:=⟨[.d false peerT,.d false (.i .u64)],fun ds=>(fun (a:D) (b:D)=>[(a.fld 10).list.length ≤ 1000000,U64 (a.fld 6).int,(a.fld 6).int ≤ 4611686018427387904,U64 b.int]) (nthD ds 0) (nthD ds 1),[.d (.i .u64),.d .b],fun ds=>(fun (a:D) (b:D)=>[.i (termI a b.int),.b (termB a b.int)]) (nthD ds 0) (nthD ds 1),fun ds=>[]⟩
def termrC_an:Anns:=fun _ _=>none
theorem termrC_vc (a b:D):(bif decide (b.int=(a.fld 6).int) then (a.fld 7).int=termI a b.int∧true=termB a b.int else (a.fld 10).list.length < 4611686018427387904∧bif decide (b.int < (a.fld 6).int) || decide (lastIf (a.fld 6).int (a.fld 10).list < b.int) then EqI 0 (termI a b.int)∧false=termB a b.int else Idx (IntKind.u64.wrap (IntKind.u64.wrap (b.int - (a.fld 6).int) - 1)) (a.fld 10).list.length∧((nthD (a.fld 10).list (IntKind.u64.wrap (IntKind.u64.wrap (b.int - (a.fld 6).int) - 1)).toNat).fld 0).int=termI a b.int∧true=termB a b.int)=conGoal Tryz.prog (addS 36 lastrC noS) termrC_an 200 61 termrC [a,b]:=by kernel_rfl
theorem termrC_ok:ConOK Tryz.prog Gl.none 61 termrC:=con_of mo (addS_ok lastrC_ok (noS_ok _)) (an:=termrC_an) 200 fun ds hl hp=>by
 obtain ⟨a,b,rfl⟩:=len2 hl
 rw [← termrC_vc]
 have p0:(a.fld 10).list.length ≤ 1000000:=hp _ (.head _)
 have p1:U64 (a.fld 6).int:=hp _ (.tail _ (.head _))
 have p2:(a.fld 6).int ≤ 4611686018427387904:=hp _ (.tail _ (.tail _ (.head _)))
 have p3:U64 b.int:=hp _ (.tail _ (.tail _ (.tail _ (.head _))))
 have hl:=last_ge p1 p2 p0
 refine cond_of (fun c=>?_) (fun c=>⟨by omega,cond_of (fun d=>?_) (fun d=>?_)⟩)
 ·have c:b.int=(a.fld 6).int:=of_decide_eq_true c
  have hb:termB a b.int=true:=by unfold termB; rw [hl,decide_eq_false (by omega),decide_eq_false (by omega)]; rfl
  exact ⟨by rw [termI,hb]; simp [c],hb.symm⟩
 ·have hb:termB a b.int=false:=by unfold termB; rw [d]; rfl
  exact ⟨by rw [termI,hb]; rfl,hb.symm⟩
 ·have hb:termB a b.int=true:=by unfold termB; rw [d]; rfl
  have c:¬ b.int=(a.fld 6).int:=of_decide_eq_false c
  rw [Bool.or_eq_false_iff,decide_eq_false_iff_not,decide_eq_false_iff_not,hl] at d
  have hx:IntKind.u64.wrap (IntKind.u64.wrap (b.int - (a.fld 6).int) - 1)=b.int - (a.fld 6).int - 1:=by
   have h1:IntKind.u64.wrap (b.int - (a.fld 6).int)=b.int - (a.fld 6).int:=u64_id ⟨by omega,by omega⟩
   rw [h1]; exact u64_id ⟨by omega,by omega⟩
  rw [hx]
  exact ⟨⟨by omega,by omega⟩,by rw [termI,hb]; simp [c],hb.symm⟩
def SendC:Con:=⟨[.d true peerT,.d false (.i .i64)],fun ds=>(fun (a:D) (b:D)=>[FitP a]) (nthD ds 0) (nthD ds 1),[.d msgT,.d (.i .i64)],fun ds=>(fun (a:D) (b:D)=>[etaD msgT (outSend a b.int),.i (sendN a b.int)]) (nthD ds 0) (nthD ds 1),fun ds=>[]⟩
def SendC_an:Anns:=fun f i=>match f,i with
 | 59,2=>some fun A st=>match A.get 0,A.get 1 with
  | some (.dl _ _ xs),some (.fn _ (.ptr l _ :: _))=>match st.h.get l with
   | some (.c _ (.v (.int _ to) :: _))=>⟨Nat,fun g=>[(8,.v (.int .i64 g))],fun _=>[],fun g=>g ≤ xs.length∧∀ j,j < g → ((nthD xs j).fld 0).int ≠ to,fun g=>xs.length - g⟩
   | _=>LAnn.bad
  | _,_=>LAnn.bad
 | _,_=>none
theorem SendC_vc (a b:D):((a.fld 10).list.length < 4611686018427387904∧(0 ≤ (a.fld 6).int∧(a.fld 6).int ≤ 18446744073709551615)∧(a.fld 8).list.length ≤ 17592186044416∧(∀ (e:D),e ∈ (a.fld 10).list → (e.fld 3).list.length ≤ 17592186044416)∧(a.fld 1).list.length ≤ 17592186044416∧(a.fld 14).list.length ≤ 17592186044416∧(a.fld 15).list.length ≤ 17592186044416∧(a.fld 17).list.length ≤ 17592186044416∧(∀ (r:D),r ∈ (a.fld 17).list → (r.fld 2).list.length ≤ 17592186044416)∧0 ≤ (a.fld 7).int∧(∀ (e:D),e ∈ (a.fld 10).list → 0 ≤ (e.fld 0).int∧0 ≤ (e.fld 1).int)∧0 ≤ (a.fld 4).int∧bif !decide (condI (mayB a) 0 2=0) then EqI 0 ((outSend a b.int).fld 0).int∧EqI 0 ((outSend a b.int).fld 1).int∧EqI 0 ((outSend a b.int).fld 2).int∧EqI 0 ((outSend a b.int).fld 3).int∧EqI 0 ((outSend a b.int).fld 4).int∧EqI 0 ((outSend a b.int).fld 5).int∧EqI 0 ((outSend a b.int).fld 6).int∧EqI 0 ((outSend a b.int).fld 7).int∧false=((outSend a b.int).fld 8).bool∧[]=((outSend a b.int).fld 9).list∧[]=((outSend a b.int).fld 10).list∧ByteArray.mk #[]=((outSend a b.int).fld 11).str∧condI (mayB a) 0 2=sendN a b.int else bif !decide ((a.fld 4).int=2) then EqI 0 ((outSend a b.int).fld 0).int∧EqI 0 ((outSend a b.int).fld 1).int∧EqI 0 ((outSend a b.int).fld 2).int∧EqI 0 ((outSend a b.int).fld 3).int∧EqI 0 ((outSend a b.int).fld 4).int∧EqI 0 ((outSend a b.int).fld 5).int∧EqI 0 ((outSend a b.int).fld 6).int∧EqI 0 ((outSend a b.int).fld 7).int∧false=((outSend a b.int).fld 8).bool∧[]=((outSend a b.int).fld 9).list∧[]=((outSend a b.int).fld 10).list∧ByteArray.mk #[]=((outSend a b.int).fld 11).str∧EqI 140 (sendN a b.int) else ∃ (g:Nat),EqI 0 (↑g:Int)∧(g ≤ (a.fld 15).list.length∧∀ (j:Nat),j < g → ((nthD (a.fld 15).list j).fld 0).int ≠ b.int)∧∀ (g:Nat),(g ≤ (a.fld 15).list.length∧∀ (j:Nat),j < g → ((nthD (a.fld 15).list j).fld 0).int ≠ b.int) → bif decide ((↑g:Int) < (↑(a.fld 15).list.length:Int)) then Idx (↑g:Int) (a.fld 15).list.length∧bif decide (((nthD (a.fld 15).list g).fld 0).int=b.int) then Idx (↑g:Int) (a.fld 15).list.length∧(a.fld 0).int=(a.fld 0).int∧((nthD (a.fld 15).list g).fld 0).int=((nthD (a.fld 15).list g).fld 0).int∧(a.fld 2).int=(a.fld 2).int∧(a.fld 16).int=(a.fld 16).int∧(a.fld 10).list.length < 4611686018427387904∧(0 ≤ (a.fld 6).int∧(a.fld 6).int ≤ 18446744073709551615)∧(0 ≤ IntKind.u64.wrap (((nthD (a.fld 15).list g).fld 1).int - 1)∧IntKind.u64.wrap (((nthD (a.fld 15).list g).fld 1).int - 1) ≤ 18446744073709551615)∧bif !termB a (IntKind.u64.wrap (((nthD (a.fld 15).list g).fld 1).int - 1)) then (a.fld 6).int=(a.fld 6).int∧(a.fld 6).int=(a.fld 6).int∧(a.fld 7).int=(a.fld 7).int∧(a.fld 7).int=(a.fld 7).int∧(a.fld 7).int=(a.fld 7).int∧(a.fld 8).list.length ≤ 17592186044416∧(a.fld 9).str=(a.fld 9).str∧(a.fld 9).str=(a.fld 9).str∧(a.fld 9).str=(a.fld 9).str∧(a.fld 9).str=(a.fld 9).str∧(a.fld 9).str=(a.fld 9).str∧EqI 5 ((outSend a b.int).fld 0).int∧(a.fld 0).int=((outSend a b.int).fld 1).int∧((nthD (a.fld 15).list g).fld 0).int=((outSend a b.int).fld 2).int∧(a.fld 2).int=((outSend a b.int).fld 3).int∧(a.fld 6).int=((outSend a b.int).fld 4).int∧(a.fld 7).int=((outSend a b.int).fld 5).int∧EqI 0 ((outSend a b.int).fld 6).int∧(a.fld 16).int=((outSend a b.int).fld 7).int∧false=((outSend a b.int).fld 8).bool∧[]=((outSend a b.int).fld 9).list∧List.take (a.fld 8).list.length (a.fld 8).list=((outSend a b.int).fld 10).list∧(a.fld 9).str=((outSend a b.int).fld 11).str∧EqI 0 (sendN a b.int) else 0 ≤ IntKind.u64.wrap (IntKind.u64.wrap (((nthD (a.fld 15).list g).fld 1).int - 1) - (a.fld 6).int)∧IntKind.u64.wrap (IntKind.u64.wrap (((nthD (a.fld 15).list g).fld 1).int - 1) - (a.fld 6).int) ≤ (↑(a.fld 10).list.length:Int)∧((nthD (a.fld 15).list g).fld 1).int=((nthD (a.fld 15).list g).fld 1).int∧(a.fld 11).int=(a.fld 11).int∧(a.fld 11).int=(a.fld 11).int∧(a.fld 11).int=(a.fld 11).int∧(↑(List.drop (IntKind.u64.wrap (IntKind.u64.wrap (((nthD (a.fld 15).list g).fld 1).int - 1) - (a.fld 6).int)).toNat (a.fld 10).list).length:Int)=(↑(List.drop (IntKind.u64.wrap (IntKind.u64.wrap (((nthD (a.fld 15).list g).fld 1).int - 1) - (a.fld 6).int)).toNat (a.fld 10).list).length:Int)∧(↑(List.drop (IntKind.u64.wrap (IntKind.u64.wrap (((nthD (a.fld 15).list g).fld 1).int - 1) - (a.fld 6).int)).toNat (a.fld 10).list).length:Int)=(↑(List.drop (IntKind.u64.wrap (IntKind.u64.wrap (((nthD (a.fld 15).list g).fld 1).int - 1) - (a.fld 6).int)).toNat (a.fld 10).list).length:Int)∧(↑(List.drop (IntKind.u64.wrap (IntKind.u64.wrap (((nthD (a.fld 15).list g).fld 1).int - 1) - (a.fld 6).int)).toNat (a.fld 10).list).length:Int)=(↑(List.drop (IntKind.u64.wrap (IntKind.u64.wrap (((nthD (a.fld 15).list g).fld 1).int - 1) - (a.fld 6).int)).toNat (a.fld 10).list).length:Int)∧(↑(List.drop (IntKind.u64.wrap (IntKind.u64.wrap (((nthD (a.fld 15).list g).fld 1).int - 1) - (a.fld 6).int)).toNat (a.fld 10).list).length:Int)=(↑(List.drop (IntKind.u64.wrap (IntKind.u64.wrap (((nthD (a.fld 15).list g).fld 1).int - 1) - (a.fld 6).int)).toNat (a.fld 10).list).length:Int)∧min (↑(List.drop (IntKind.u64.wrap (IntKind.u64.wrap (((nthD (a.fld 15).list g).fld 1).int - 1) - (a.fld 6).int)).toNat (a.fld 10).list).length:Int) 16=min (↑(List.drop (IntKind.u64.wrap (IntKind.u64.wrap (((nthD (a.fld 15).list g).fld 1).int - 1) - (a.fld 6).int)).toNat (a.fld 10).list).length:Int) 16∧min (↑(List.drop (IntKind.u64.wrap (IntKind.u64.wrap (((nthD (a.fld 15).list g).fld 1).int - 1) - (a.fld 6).int)).toNat (a.fld 10).list).length:Int) 16=min (↑(List.drop (IntKind.u64.wrap (IntKind.u64.wrap (((nthD (a.fld 15).list g).fld 1).int - 1) - (a.fld 6).int)).toNat (a.fld 10).list).length:Int) 16∧min (↑(List.drop (IntKind.u64.wrap (IntKind.u64.wrap (((nthD (a.fld 15).list g).fld 1).int - 1) - (a.fld 6).int)).toNat (a.fld 10).list).length:Int) 16=min (↑(List.drop (IntKind.u64.wrap (IntKind.u64.wrap (((nthD (a.fld 15).list g).fld 1).int - 1) - (a.fld 6).int)).toNat (a.fld 10).list).length:Int) 16∧min (↑(List.drop (IntKind.u64.wrap (IntKind.u64.wrap (((nthD (a.fld 15).list g).fld 1).int - 1) - (a.fld 6).int)).toNat (a.fld 10).list).length:Int) 16=min (↑(List.drop (IntKind.u64.wrap (IntKind.u64.wrap (((nthD (a.fld 15).list g).fld 1).int - 1) - (a.fld 6).int)).toNat (a.fld 10).list).length:Int) 16∧0 ≤ min (↑(List.drop (IntKind.u64.wrap (IntKind.u64.wrap (((nthD (a.fld 15).list g).fld 1).int - 1) - (a.fld 6).int)).toNat (a.fld 10).list).length:Int) 16∧min (↑(List.drop (IntKind.u64.wrap (IntKind.u64.wrap (((nthD (a.fld 15).list g).fld 1).int - 1) - (a.fld 6).int)).toNat (a.fld 10).list).length:Int) 16 ≤ (↑(List.drop (IntKind.u64.wrap (IntKind.u64.wrap (((nthD (a.fld 15).list g).fld 1).int - 1) - (a.fld 6).int)).toNat (a.fld 10).list).length:Int)∧(List.take (min (↑(List.drop (IntKind.u64.wrap (IntKind.u64.wrap (((nthD (a.fld 15).list g).fld 1).int - 1) - (a.fld 6).int)).toNat (a.fld 10).list).length:Int) 16 - 0).toNat (List.drop (IntKind.u64.wrap (IntKind.u64.wrap (((nthD (a.fld 15).list g).fld 1).int - 1) - (a.fld 6).int)).toNat (a.fld 10).list)).length ≤ 1000000∧(∀ (e:D),e ∈ List.take (min (↑(List.drop (IntKind.u64.wrap (IntKind.u64.wrap (((nthD (a.fld 15).list g).fld 1).int - 1) - (a.fld 6).int)).toNat (a.fld 10).list).length:Int) 16 - 0).toNat (List.drop (IntKind.u64.wrap (IntKind.u64.wrap (((nthD (a.fld 15).list g).fld 1).int - 1) - (a.fld 6).int)).toNat (a.fld 10).list) → FitE e)∧EqI 3 ((outSend a b.int).fld 0).int∧(a.fld 0).int=((outSend a b.int).fld 1).int∧((nthD (a.fld 15).list g).fld 0).int=((outSend a b.int).fld 2).int∧(a.fld 2).int=((outSend a b.int).fld 3).int∧IntKind.u64.wrap (((nthD (a.fld 15).list g).fld 1).int - 1)=((outSend a b.int).fld 4).int∧termI a (IntKind.u64.wrap (((nthD (a.fld 15).list g).fld 1).int - 1))=((outSend a b.int).fld 5).int∧(a.fld 11).int=((outSend a b.int).fld 6).int∧(a.fld 16).int=((outSend a b.int).fld 7).int∧false=((outSend a b.int).fld 8).bool∧List.take (List.take (min (↑(List.drop (IntKind.u64.wrap (IntKind.u64.wrap (((nthD (a.fld 15).list g).fld 1).int - 1) - (a.fld 6).int)).toNat (a.fld 10).list).length:Int) 16 - 0).toNat (List.drop (IntKind.u64.wrap (IntKind.u64.wrap (((nthD (a.fld 15).list g).fld 1).int - 1) - (a.fld 6).int)).toNat (a.fld 10).list)).length (List.take (min (↑(List.drop (IntKind.u64.wrap (IntKind.u64.wrap (((nthD (a.fld 15).list g).fld 1).int - 1) - (a.fld 6).int)).toNat (a.fld 10).list).length:Int) 16 - 0).toNat (List.drop (IntKind.u64.wrap (IntKind.u64.wrap (((nthD (a.fld 15).list g).fld 1).int - 1) - (a.fld 6).int)).toNat (a.fld 10).list))=((outSend a b.int).fld 9).list∧[]=((outSend a b.int).fld 10).list∧ByteArray.mk #[]=((outSend a b.int).fld 11).str∧EqI 0 (sendN a b.int) else I64 ((↑g:Int) + 1)∧∃ (g_1:Nat),(↑g:Int) + 1=(↑g_1:Int)∧(g_1 ≤ (a.fld 15).list.length∧∀ (j:Nat),j < g_1 → ((nthD (a.fld 15).list j).fld 0).int ≠ b.int)∧(a.fld 15).list.length - g_1 < (a.fld 15).list.length - g else EqI 0 ((outSend a b.int).fld 0).int∧EqI 0 ((outSend a b.int).fld 1).int∧EqI 0 ((outSend a b.int).fld 2).int∧EqI 0 ((outSend a b.int).fld 3).int∧EqI 0 ((outSend a b.int).fld 4).int∧EqI 0 ((outSend a b.int).fld 5).int∧EqI 0 ((outSend a b.int).fld 6).int∧EqI 0 ((outSend a b.int).fld 7).int∧false=((outSend a b.int).fld 8).bool∧[]=((outSend a b.int).fld 9).list∧[]=((outSend a b.int).fld 10).list∧ByteArray.mk #[]=((outSend a b.int).fld 11).str∧EqI 5 (sendN a b.int))=conGoal Tryz.prog (addS 81 clogC (addS 42 cloneK (addS 57 termC (addS 21 MayC noS)))) SendC_an 200 24 SendC [a,b]:=by kernel_rfl
theorem SendC_ok:ConOK Tryz.prog Gl.none 24 SendC:=con_of mo (addS_ok clogC_ok (addS_ok cloneK_ok (addS_ok termC_ok (addS_ok MayC_ok (noS_ok _))))) (an:=SendC_an) 200 fun ds hl hp=>by
 obtain ⟨a,b,rfl⟩:=len2 hl
 rw [← SendC_vc]
 have p0:FitP a:=hp _ (.head _)
 rw [c02]
 have h10:=p0.l10
 have hz:∀ {c:Bool},(mayB a && decide ((a.fld 4).int=2) && decide (fndI (a.fld 15).list b.int < (a.fld 15).list.length))=false → outSend a b.int=DT.zero msgT:=fun {c} h=>by unfold outSend; rw [h]; rfl
 refine FitP.pre p0 (cond_of (fun c=>?_) (fun c=>cond_of (fun r=>?_) (fun r=>?_)))
 ·have hm:mayB a=false:=(Bool.not_eq_true' _).mp c
  have hN:sendN a b.int=2:=by unfold sendN; rw [hm]; rfl
  rw [hz (c:=true) (by rw [hm]; rfl),hN,hm]
  exact ⟨rfl,rfl,rfl,rfl,rfl,rfl,rfl,rfl,rfl,rfl,rfl,rfl,rfl⟩
 ·have hm:mayB a=true:=(Bool.not_eq_false' _).mp c
  have r:=(Bool.not_eq_true' _).mp r
  have hN:sendN a b.int=140:=by unfold sendN; rw [hm,r]; rfl
  rw [hz (c:=true) (by rw [hm,r]; rfl),hN]
  exact ⟨rfl,rfl,rfl,rfl,rfl,rfl,rfl,rfl,rfl,rfl,rfl,rfl,rfl⟩
 have hm:mayB a=true:=(Bool.not_eq_false' _).mp c
 have r:=(Bool.not_eq_false' _).mp r
 obtain ⟨b0,b1,b2,b3⟩:=may_base hm p0
 have h0:=p0.base
 have h15:=p0.l15
 refine ⟨0,rfl,⟨Nat.zero_le _,fun j h=>absurd h (Nat.not_lt_zero _)⟩,fun g ⟨h1,h2⟩=>cond_of (fun d=>?_) (fun d=>?_)⟩
 ·have d:g < (a.fld 15).list.length:=by simpa using d
  refine ⟨⟨by omega,by omega⟩,cond_of (fun e=>?_) (fun e=>⟨⟨by omega,by omega⟩,g + 1,by omega,⟨by omega,fun j hj=>?_⟩,by omega⟩)⟩
  ·have e:=of_decide_eq_true e
   have hf:=fnd_at d h2 e
   have ho:outSend a b.int=sendM a (nthD (a.fld 15).list g):=by unfold outSend; rw [hm,r,hf,decide_eq_true d]; rfl
   have hN:sendN a b.int=0:=by unfold sendN; rw [hm,r,hf,decide_eq_true d]; rfl
   rw [ho,hN]
   refine ⟨⟨by omega,by omega⟩,rfl,rfl,rfl,rfl,by omega,h0,u64_in _,cond_of (fun t=>?_) (fun t=>?_)⟩
   ·have t:termB a (u64 (((nthD (a.fld 15).list g).fld 1).int - 1))=false:=(Bool.not_eq_true' _).mp t
    have hs:sendM a (nthD (a.fld 15).list g)=.t [.i 5,.i (a.fld 0).int,.i ((nthD (a.fld 15).list g).fld 0).int,.i (a.fld 2).int,.i (a.fld 6).int,.i (a.fld 7).int,.i 0,.i (a.fld 16).int,.b false,.l [],.l (a.fld 8).list,.s (a.fld 9).str]:=by unfold sendM; rw [t]; rfl
    rw [hs,List.take_length]
    exact ⟨rfl,rfl,rfl,rfl,rfl,p0.l8,rfl,rfl,rfl,rfl,rfl,rfl,rfl,rfl,rfl,rfl,rfl,rfl,rfl,rfl,rfl,rfl,rfl,rfl⟩
   ·have t:termB a (u64 (((nthD (a.fld 15).list g).fld 1).int - 1))=true:=(Bool.not_eq_false' _).mp t
    have hs:sendM a (nthD (a.fld 15).list g)=.t [.i 3,.i (a.fld 0).int,.i ((nthD (a.fld 15).list g).fld 0).int,.i (a.fld 2).int,.i (u64 (((nthD (a.fld 15).list g).fld 1).int - 1)),.i (termI a (u64 (((nthD (a.fld 15).list g).fld 1).int - 1))),.i (a.fld 11).int,.i (a.fld 16).int,.b false,.l (((a.fld 10).list.drop (u64 (u64 (((nthD (a.fld 15).list g).fld 1).int - 1) - (a.fld 6).int)).toNat).take 16),.l [],.s (ByteArray.mk #[])]:=by unfold sendM; rw [t]; rfl
    rw [hs,List.take_length]
    have ht:=t
    unfold termB at ht
    rw [Bool.not_eq_true',Bool.or_eq_false_iff,decide_eq_false_iff_not,decide_eq_false_iff_not,b3] at ht
    have w1:u64 (u64 (((nthD (a.fld 15).list g).fld 1).int - 1) - (a.fld 6).int)=u64 (((nthD (a.fld 15).list g).fld 1).int - 1) - (a.fld 6).int:=u64_id ⟨by omega,by omega⟩
    have hw0:0 ≤ u64 (u64 (((nthD (a.fld 15).list g).fld 1).int - 1) - (a.fld 6).int):=by omega
    have hw1:u64 (u64 (((nthD (a.fld 15).list g).fld 1).int - 1) - (a.fld 6).int) ≤ (a.fld 10).list.length:=by omega
    have h16:List.take (min (((a.fld 10).list.drop (u64 (u64 (((nthD (a.fld 15).list g).fld 1).int - 1) - (a.fld 6).int)).toNat).length:Int) 16 - 0).toNat ((a.fld 10).list.drop (u64 (u64 (((nthD (a.fld 15).list g).fld 1).int - 1) - (a.fld 6).int)).toNat)=((a.fld 10).list.drop (u64 (u64 (((nthD (a.fld 15).list g).fld 1).int - 1) - (a.fld 6).int)).toNat).take 16:=by
     generalize (a.fld 10).list.drop (u64 (u64 (((nthD (a.fld 15).list g).fld 1).int - 1) - (a.fld 6).int)).toNat=rs
     rcases Nat.le_total rs.length 16 with hq | hq
     ·rw [List.take_of_length_le hq,List.take_of_length_le (by omega)]
     ·congr 1; omega
    refine ⟨hw0,hw1,rfl,rfl,rfl,rfl,rfl,rfl,rfl,rfl,rfl,rfl,rfl,rfl,by omega,by omega,len_td h10,fitE_td p0,rfl,rfl,rfl,rfl,rfl,rfl,rfl,rfl,rfl,h16,rfl,rfl,rfl⟩
  ·have e:=of_decide_eq_false e
   by_cases hj':j=g
   ·rw [hj']; exact e
   ·exact h2 j (by omega)
 ·have d:g=(a.fld 15).list.length:=by simp at d; omega
  subst d
  have hf:=fnd_none h2
  have hN:sendN a b.int=5:=by unfold sendN; rw [hm,r,hf,decide_eq_false (Nat.lt_irrefl _)]; rfl
  rw [hz (c:=true) (by rw [hf,decide_eq_false (Nat.lt_irrefl _),Bool.and_false]),hN]
  exact ⟨rfl,rfl,rfl,rfl,rfl,rfl,rfl,rfl,rfl,rfl,rfl,rfl,rfl⟩
end Go.Proofs.YtplflgclomiihaaGreat.XT
