/- Contracts. -/
import Derived.Test.YtplflgclomiihaaQVTX
import Derived.Test.YtplflgclomiihaaProg
set_option linter.unusedVariables false
set_option linter.unusedSimpArgs false
namespace Go.Proofs.Ytplflgclomiihaa.XT
open Go Go.RowKit Go.Proofs.Ytplflgclomiihaa.Sv
set_option maxRecDepth 100000
def matL:List D → Int → Int
 | [],_=>0
 | f :: r,n=>if (f.fld 0).int=n then (f.fld 2).int else matL r n
def matF (id last:Int) (fol:List D) (n:Int):Int:=bif decide (n=id) then last else matL fol n
def haveF (id last:Int) (fol:List D) (i:Int) (ms:List D):List D:=(ms.filter fun d=>decide (i ≤ matF id last fol d.int)).map fun d=>.i d.int
def condF (id last term:Int) (ms fol:List D) (p:D) (j:Int):Bool:=decide (termI p j=term) && decide ((ms.length:Int) < 2 * (cntL ms (haveF id last fol j ms):Int))
def logD (base bt:Int) (log:List D):D:=.t [.i 0,.i 0,.i 0,.i 0,.i 0,.i 0,.i base,.i bt,.i 0,.i 0,.l log]
theorem mat_at {n:Int}:∀ {fs:List D} {g:Nat},g < fs.length → (∀ j,j < g → ((nthD fs j).fld 0).int ≠ n) → ((nthD fs g).fld 0).int=n → matL fs n=((nthD fs g).fld 2).int
 | [],_,h,_,_=>absurd h (Nat.not_lt_zero _)
 | f :: r,0,_,_,e=>by rw [matL,if_pos (show (f.fld 0).int=n from e)]; rfl
 | f :: r,g + 1,h,hj,e=>by
  rw [matL,if_neg (show ¬ (f.fld 0).int=n from hj 0 (by omega))]
  exact mat_at (fs:=r) (g:=g) (by simpa using h) (fun j h=>hj (j + 1) (by omega)) e
theorem mat_none {n:Int}:∀ {fs:List D},(∀ j,j < fs.length → ((nthD fs j).fld 0).int ≠ n) → matL fs n=0
 | [],_=>rfl
 | f :: r,h=>by
  rw [matL,if_neg (show ¬ (f.fld 0).int=n from h 0 (by simp))]
  exact mat_none (fs:=r) fun j hj=>h (j + 1) (by simpa using hj)
def condR (a:D) (i:Int):Bool:=condF (a.fld 0).int (((lastIf (D.int (D.fld a 6)) (D.list (D.fld a 10))))) (a.fld 2).int (a.fld 1).list (a.fld 15).list a i
def scanR (p:Int → Bool) (c:Int):Nat → Int
 | 0=>c
 | n + 1=>bif p (c + (n:Int) + 1) then c + (n:Int) + 1 else scanR p c n
theorem scan_hit {p:Int → Bool} {c i:Int}:∀ {n:Nat},c < i → i ≤ c + n → p i=true → (∀ j,i < j → j ≤ c + n → p j=false) → scanR p c n=i
 | 0,h1,h2,_,_=>by omega
 | n + 1,h1,h2,h3,h4=>by
  rw [scanR]
  by_cases e:i=c + (n:Int) + 1
  ·rw [← e,h3,cond_true]
  ·rw [h4 (c + (n:Int) + 1) (by omega) (by omega),cond_false]
   exact scan_hit (n:=n) h1 (by omega) h3 (fun j h5 h6=>h4 j h5 (by omega))
theorem scan_none {p:Int → Bool} {c:Int}:∀ {n:Nat},(∀ j,c < j → j ≤ c + n → p j=false) → scanR p c n=c
 | 0,_=>rfl
 | n + 1,h=>by
  rw [scanR,h (c + (n:Int) + 1) (by omega) (by omega),cond_false]
  exact scan_none (n:=n) (fun j h5 h6=>h j h5 (by omega))
def advR (a:D):Int:=bif decide ((a.fld 4).int=2) then scanR (condR a) (a.fld 11).int (((lastIf (D.int (D.fld a 6)) (D.list (D.fld a 10)))) - (a.fld 11).int).toNat else (a.fld 11).int
def outAdvr (a:D):D:=comP a (advR a)
def owefC:Con:=⟨[.d false (.l entT)],fun ds=>(fun (a:D)=>[a.list.length ≤ 1000000,∀ e ∈ a.list,FitE e]) (nthD ds 0),[.own 60 entT],fun ds=>(fun (a:D)=>[.l a.list]) (nthD ds 0),fun ds=>[]⟩
def owefC_an:Anns:=fun f i=>match f,i with
 | 52,2000003=>some fun A st=>⟨Unit,fun _=>[],fun _=>[(3,.q 60 entT [])],fun _=>True,fun _=>0⟩
 | 52,3=>some fun A st=>match A.get 0 with
  | some (.dl _ _ xs)=>⟨Nat,fun g=>[(4,.v (.int .i64 g)),(3,.ow st.nx g)],fun g=>[(st.nx,.q 60 entT (xs.take g))],fun g=>g ≤ xs.length,fun g=>xs.length - g⟩
  | _=>LAnn.bad
 | _,_=>none
theorem owefC_vc (a:D):(∃ (g:Unit),∃ (g:Nat),EqI 0 (↑g:Int)∧0=g∧[]=List.take g a.list∧g ≤ a.list.length∧∀ (g:Nat),g ≤ a.list.length → bif decide ((↑g:Int) < (↑a.list.length:Int)) then Idx (↑g:Int) a.list.length∧(0 + ((nthD a.list g).fld 3).list.length) * 8 ≤ 140737488355328∧0 + ((nthD a.list g).fld 3).list.length ≤ 9223372036854775807∧(g + 1) * 56 ≤ 140737488355328∧g + 1 ≤ 9223372036854775807∧I64 ((↑g:Int) + 1)∧∃ (g_1:Nat),(↑g:Int) + 1=(↑g_1:Int)∧g + 1=g_1∧List.take g (List.take g a.list) ++ [putF entT (nthD a.list g) [(3,D.l (List.take (0 + ((nthD a.list g).fld 3).list.length) ([] ++ ((nthD a.list g).fld 3).list)))]]=List.take g_1 a.list∧g_1 ≤ a.list.length∧a.list.length - g_1 < a.list.length - g else List.take g (List.take g a.list)=a.list)=conGoal Try.prog noS owefC_an 200 52 owefC [a]:=by kernel_rfl
theorem owefC_ok:ConOK Try.prog Gl.none 52 owefC:=con_of mo (noS_ok _) (an:=owefC_an) 200 fun ds hl hp=>by
 obtain ⟨a,rfl⟩:=len1 hl
 rw [← owefC_vc]
 have p0:a.list.length ≤ 1000000:=hp _ (.head _)
 have p1:∀ e ∈ a.list,FitE e:=hp _ (.tail _ (.head _))
 refine ⟨(),0,rfl,rfl,rfl,Nat.zero_le _,fun g h1=>cond_of (fun c=>?_) (fun c=>?_)⟩
 ·have c:g < a.list.length:=by simpa using c
  have hm:=(p1 _ (List.mem_of_getElem? (get_nthD c))).mem
  simp only [Nat.zero_add,List.nil_append,List.take_length,List.take_take,Nat.min_self]
  exact ⟨⟨by omega,by omega⟩,by omega,by omega,by omega,by omega,⟨by omega,by omega⟩,g + 1,by omega,rfl,eta_take (fun e he=>(p1 e he).eta) c,by omega,by omega⟩
 ·have c:g=a.list.length:=by simp at c; omega
  rw [c,List.take_length,List.take_length]
def ownfC:Con:=⟨[.d false peerT],fun ds=>(fun (a:D)=>[FitP a]) (nthD ds 0),[.d peerT],fun ds=>(fun (a:D)=>[etaD peerT a]) (nthD ds 0),fun ds=>[]⟩
def ownfC_an:Anns:=fun f i=>match f,i with
 | 13,2000008=>some fun A st=>⟨Unit,fun _=>[],fun _=>[(3,.q 102 rdT [])],fun _=>True,fun _=>0⟩
 | 13,8=>some fun A st=>match st.h.get 0 with
  | some (.c _ cs)=>match cs.drop 17 with
   | .dl _ _ xs :: _=>⟨Nat,fun g=>[(4,.v (.int .i64 g)),(3,.ow st.nx g)],fun g=>[(st.nx,.q 102 rdT (xs.take g))],fun g=>g ≤ xs.length,fun g=>xs.length - g⟩
   | _=>LAnn.bad
  | _=>LAnn.bad
 | _,_=>none
theorem ownfC_vc (a:D):((0 + (a.fld 1).list.length) * 8 ≤ 140737488355328∧0 + (a.fld 1).list.length ≤ 9223372036854775807∧(0 + (a.fld 8).list.length) * 8 ≤ 140737488355328∧0 + (a.fld 8).list.length ≤ 9223372036854775807∧(0 + (a.fld 14).list.length) * 8 ≤ 140737488355328∧0 + (a.fld 14).list.length ≤ 9223372036854775807∧(a.fld 10).list.length ≤ 1000000∧(∀ (e:D),e ∈ (a.fld 10).list → FitE e)∧(0 + (a.fld 15).list.length) * 24 ≤ 140737488355328∧0 + (a.fld 15).list.length ≤ 9223372036854775807∧∃ (g:Unit),∃ (g:Nat),EqI 0 (↑g:Int)∧0=g∧[]=List.take g (a.fld 17).list∧g ≤ (a.fld 17).list.length∧∀ (g:Nat),g ≤ (a.fld 17).list.length → bif decide ((↑g:Int) < (↑(a.fld 17).list.length:Int)) then Idx (↑g:Int) (a.fld 17).list.length∧(0 + ((nthD (a.fld 17).list g).fld 2).list.length) * 8 ≤ 140737488355328∧0 + ((nthD (a.fld 17).list g).fld 2).list.length ≤ 9223372036854775807∧(g + 1) * 40 ≤ 140737488355328∧g + 1 ≤ 9223372036854775807∧I64 ((↑g:Int) + 1)∧∃ (g_1:Nat),(↑g:Int) + 1=(↑g_1:Int)∧g + 1=g_1∧List.take g (List.take g (a.fld 17).list) ++ [putF rdT (nthD (a.fld 17).list g) [(2,D.l (List.take (0 + ((nthD (a.fld 17).list g).fld 2).list.length) ([] ++ ((nthD (a.fld 17).list g).fld 2).list)))]]=List.take g_1 (a.fld 17).list∧g_1 ≤ (a.fld 17).list.length∧(a.fld 17).list.length - g_1 < (a.fld 17).list.length - g else (a.fld 0).int=(a.fld 0).int∧List.take (0 + (a.fld 1).list.length) ([] ++ (a.fld 1).list)=(a.fld 1).list∧(a.fld 2).int=(a.fld 2).int∧(a.fld 3).int=(a.fld 3).int∧(a.fld 4).int=(a.fld 4).int∧(a.fld 5).int=(a.fld 5).int∧(a.fld 6).int=(a.fld 6).int∧(a.fld 7).int=(a.fld 7).int∧List.take (0 + (a.fld 8).list.length) ([] ++ (a.fld 8).list)=(a.fld 8).list∧(a.fld 9).str=(a.fld 9).str∧List.take (a.fld 10).list.length (a.fld 10).list=(a.fld 10).list∧(a.fld 11).int=(a.fld 11).int∧(a.fld 12).int=(a.fld 12).int∧(a.fld 13).int=(a.fld 13).int∧List.take (0 + (a.fld 14).list.length) ([] ++ (a.fld 14).list)=(a.fld 14).list∧List.take (0 + (a.fld 15).list.length) ([] ++ (a.fld 15).list)=(a.fld 15).list∧(a.fld 16).int=(a.fld 16).int∧List.take g (List.take g (a.fld 17).list)=(a.fld 17).list)=conGoal Try.prog (addS 52 owefC noS) ownfC_an 200 13 ownfC [a]:=by kernel_rfl
theorem ownfC_ok:ConOK Try.prog Gl.none 13 ownfC:=con_of mo (addS_ok owefC_ok (noS_ok _)) (an:=ownfC_an) 200 fun ds hl hp=>by
 obtain ⟨a,rfl⟩:=len1 hl
 rw [← ownfC_vc]
 have p0:FitP a:=hp _ (.head _)
 have h1:=p0.l1; have h8:=p0.l8; have h14:=p0.l14; have h10:=p0.l10; have h15:=p0.l15; have h17:=p0.l17
 refine ⟨by omega,by omega,by omega,by omega,by omega,by omega,h10,p0.log,by omega,by omega,(),0,rfl,rfl,rfl,Nat.zero_le _,fun g h1=>cond_of (fun c=>?_) (fun c=>?_)⟩
 ·have c:g < (a.fld 17).list.length:=by simpa using c
  have hm:=(p0.rd _ (List.mem_of_getElem? (get_nthD c))).acks
  simp only [Nat.zero_add,List.nil_append,List.take_length,List.take_take,Nat.min_self]
  exact ⟨⟨by omega,by omega⟩,by omega,by omega,by omega,by omega,⟨by omega,by omega⟩,g + 1,by omega,rfl,eta_take (fun e he=>(p0.rd e he).eta) c,by omega,by omega⟩
 ·have c:g=(a.fld 17).list.length:=by simp at c; omega
  subst c
  simp only [Nat.zero_add,List.nil_append,List.take_length,and_self]
def matC:Con:=⟨[.d false peerT,.d false (.i .i64)],fun ds=>(fun (a:D) (b:D)=>[(a.fld 10).list.length ≤ 1000000,(a.fld 15).list.length ≤ 1000000]) (nthD ds 0) (nthD ds 1),[.d (.i .u64)],fun ds=>(fun (a:D) (b:D)=>[.i (matF (a.fld 0).int (((lastIf (D.int (D.fld a 6)) (D.list (D.fld a 10))))) (a.fld 15).list b.int)]) (nthD ds 0) (nthD ds 1),fun ds=>[]⟩
def matC_an:Anns:=fun f i=>match f,i with
 | 64,5=>some fun A st=>match st.h.get 0,A.get 1 with
  | some (.c _ cs),some (.v (.int _ n))=>match cs.drop 15 with
   | .dl _ _ xs :: _=>⟨Nat,fun g=>[(7,.v (.int .i64 g))],fun _=>[],fun g=>g ≤ xs.length∧∀ j,j < g → ((nthD xs j).fld 0).int ≠ n,fun g=>xs.length - g⟩
   | _=>LAnn.bad
  | _,_=>LAnn.bad
 | _,_=>none
theorem matC_vc (a b:D):(bif decide (b.int=(a.fld 0).int) then (a.fld 10).list.length < 4611686018427387904∧lastIf (a.fld 6).int (a.fld 10).list=matF (a.fld 0).int (lastIf (a.fld 6).int (a.fld 10).list) (a.fld 15).list b.int else ∃ (g:Nat),EqI 0 (↑g:Int)∧(g ≤ (a.fld 15).list.length∧∀ (j:Nat),j < g → ((nthD (a.fld 15).list j).fld 0).int ≠ b.int)∧∀ (g:Nat),(g ≤ (a.fld 15).list.length∧∀ (j:Nat),j < g → ((nthD (a.fld 15).list j).fld 0).int ≠ b.int) → bif decide ((↑g:Int) < (↑(a.fld 15).list.length:Int)) then Idx (↑g:Int) (a.fld 15).list.length∧bif decide (((nthD (a.fld 15).list g).fld 0).int=b.int) then Idx (↑g:Int) (a.fld 15).list.length∧((nthD (a.fld 15).list g).fld 2).int=matF (a.fld 0).int (lastIf (a.fld 6).int (a.fld 10).list) (a.fld 15).list b.int else I64 ((↑g:Int) + 1)∧∃ (g_1:Nat),(↑g:Int) + 1=(↑g_1:Int)∧(g_1 ≤ (a.fld 15).list.length∧∀ (j:Nat),j < g_1 → ((nthD (a.fld 15).list j).fld 0).int ≠ b.int)∧(a.fld 15).list.length - g_1 < (a.fld 15).list.length - g else EqI 0 (matF (a.fld 0).int (lastIf (a.fld 6).int (a.fld 10).list) (a.fld 15).list b.int))=conGoal Try.prog (addS 55 lastrC noS) matC_an 200 64 matC [a,b]:=by kernel_rfl
theorem matC_ok:ConOK Try.prog Gl.none 64 matC:=con_of mo (addS_ok lastrC_ok (noS_ok _)) (an:=matC_an) 200 fun ds hl hp=>by
 obtain ⟨a,b,rfl⟩:=len2 hl
 rw [← matC_vc]
 have p0:(a.fld 10).list.length ≤ 1000000:=hp _ (.head _)
 have p1:(a.fld 15).list.length ≤ 1000000:=hp _ (.tail _ (.head _))
 refine cond_of (fun c=>⟨by omega,by unfold matF; rw [c]; rfl⟩) (fun c=>⟨0,rfl,⟨Nat.zero_le _,fun j h=>absurd h (Nat.not_lt_zero _)⟩,fun g hg=>cond_of (fun d=>?_) (fun d=>?_)⟩)
 ·have d:g < (a.fld 15).list.length:=by simpa using d
  refine ⟨⟨by omega,by omega⟩,cond_of (fun e=>⟨⟨by omega,by omega⟩,?_⟩) (fun e=>⟨⟨by omega,by omega⟩,g + 1,by omega,⟨by omega,fun j hj=>?_⟩,by omega⟩)⟩
  ·unfold matF
   rw [c,cond_false]
   exact (mat_at d hg.2 (of_decide_eq_true e)).symm
  ·by_cases k:j=g
   ·subst k; exact of_decide_eq_false e
   ·exact hg.2 j (by omega)
 ·have d:g=(a.fld 15).list.length:=by have:=of_decide_eq_false d; have:=hg.1; omega
  subst d
  have h:=mat_none hg.2
  unfold matF
  rw [c,cond_false,h]
theorem haveF_at {id last:Int} {fol ms:List D} {i:Int} {k:Nat} (c:k < ms.length):haveF id last fol i (ms.take (k + 1))=haveF id last fol i (ms.take k) ++ (bif decide (i ≤ matF id last fol (nthD ms k).int) then [D.i (nthD ms k).int] else []):=by
 have e:nthD ms k=ms[k]:=nthD_get (List.getElem?_eq_getElem c)
 unfold haveF
 rw [List.take_succ_eq_append_getElem c,List.filter_append,List.map_append,e]
 congr 1
 rw [List.filter_cons,List.filter_nil]
 cases decide (i ≤ matF id last fol ms[k].int) <;> rfl
theorem haveF_len {id last:Int} {fol ms:List D} {i:Int} {k:Nat}:(haveF id last fol i (ms.take k)).length ≤ k:=by
 unfold haveF
 rw [List.length_map]
 have:=List.length_filter_le (fun d=>decide (i ≤ matF id last fol d.int)) (ms.take k)
 rw [List.length_take] at this
 omega
def advrC:Con:=⟨[.d false peerT],fun ds=>(fun (a:D)=>[FitP a,∀ f ∈ (a.fld 15).list,U64 (f.fld 2).int,(a.fld 6).int ≤ 4611686018427387904]) (nthD ds 0),[.d peerT],fun ds=>(fun (a:D)=>[etaD peerT (outAdvr a)]) (nthD ds 0),fun ds=>[]⟩
def advrC_an:Anns:=fun f i=>match f,i with
 | 18,6=>some fun A st=>match A.get 3,st.h.get 0 with
  | some (.v (.int _ last)),some (.c _ cs)=>match cs.drop 0,cs.drop 2,cs.drop 6,cs.drop 10 with
   | .v (.int _ id) :: .dl _ _ ms :: _,.v (.int _ term) :: _,.v (.int _ base) :: .v (.int _ bt) :: _,.dl _ _ log :: _=>match cs.drop 15 with
    | .dl _ _ fol :: _=>⟨Int,fun i=>[(5,.v (.int .u64 i))],fun _=>[],fun i=>(i ≤ last∧0 ≤ i)∧∀ j,i < j → j ≤ last → condF id last term ms fol (logD base bt log) j=false,fun i=>i.toNat⟩
    | _=>LAnn.bad
   | _,_,_,_=>LAnn.bad
  | _,_=>LAnn.bad
 | 18,2000011=>some fun A st=>⟨Unit,fun _=>[],fun _=>[(8,.q 3 (.i .i64) [])],fun _=>True,fun _=>0⟩
 | 18,11=>some fun A st=>match st.h.get 0 with
  | some (.c _ cs)=>match cs.drop 0,cs.drop 1,cs.drop 15 with
   | .v (.int _ id) :: _,.dl _ _ ms :: _,.dl _ _ fol :: _=>match A.get 3,A.get 5 with
    | some (.v (.int _ last)),some (.v (.int _ i))=>⟨Nat,fun g=>[(9,.v (.int .i64 g)),(8,.ow st.nx (haveF id last fol i (ms.take g)).length)],fun g=>[(st.nx,.q 3 (.i .i64) (haveF id last fol i (ms.take g)))],fun g=>g ≤ ms.length,fun g=>ms.length - g⟩
    | _,_=>LAnn.bad
   | _,_,_=>LAnn.bad
  | _=>LAnn.bad
 | _,_=>none
theorem advrC_vc (a:D):(FitP (putF peerT a [])∧bif !decide ((a.fld 4).int=2) then (a.fld 0).int=((outAdvr a).fld 0).int∧(a.fld 1).list=((outAdvr a).fld 1).list∧(a.fld 2).int=((outAdvr a).fld 2).int∧(a.fld 3).int=((outAdvr a).fld 3).int∧(a.fld 4).int=((outAdvr a).fld 4).int∧(a.fld 5).int=((outAdvr a).fld 5).int∧(a.fld 6).int=((outAdvr a).fld 6).int∧(a.fld 7).int=((outAdvr a).fld 7).int∧(a.fld 8).list=((outAdvr a).fld 8).list∧(a.fld 9).str=((outAdvr a).fld 9).str∧(a.fld 10).list=((outAdvr a).fld 10).list∧(a.fld 11).int=((outAdvr a).fld 11).int∧(a.fld 12).int=((outAdvr a).fld 12).int∧(a.fld 13).int=((outAdvr a).fld 13).int∧(a.fld 14).list=((outAdvr a).fld 14).list∧(a.fld 15).list=((outAdvr a).fld 15).list∧(a.fld 16).int=((outAdvr a).fld 16).int∧(a.fld 17).list=((outAdvr a).fld 17).list else (a.fld 10).list.length < 4611686018427387904∧∃ (g:Int),lastIf (a.fld 6).int (a.fld 10).list=g∧((g ≤ lastIf (a.fld 6).int (a.fld 10).list∧0 ≤ g)∧∀ (j:Int),g < j → j ≤ lastIf (a.fld 6).int (a.fld 10).list → condF (a.fld 0).int (lastIf (a.fld 6).int (a.fld 10).list) (a.fld 2).int (a.fld 1).list (a.fld 15).list (logD (a.fld 6).int (a.fld 7).int (a.fld 10).list) j=false)∧∀ (g:Int),((g ≤ lastIf (a.fld 6).int (a.fld 10).list∧0 ≤ g)∧∀ (j:Int),g < j → j ≤ lastIf (a.fld 6).int (a.fld 10).list → condF (a.fld 0).int (lastIf (a.fld 6).int (a.fld 10).list) (a.fld 2).int (a.fld 1).list (a.fld 15).list (logD (a.fld 6).int (a.fld 7).int (a.fld 10).list) j=false) → bif decide ((a.fld 11).int < g) then (a.fld 10).list.length ≤ 1000000∧(0 ≤ (a.fld 6).int∧(a.fld 6).int ≤ 18446744073709551615)∧(a.fld 6).int ≤ 4611686018427387904∧(0 ≤ g∧g ≤ 18446744073709551615)∧∃ (g_1:Unit),∃ (g_2:Nat),EqI 0 (↑g_2:Int)∧0=(haveF (a.fld 0).int (lastIf (a.fld 6).int (a.fld 10).list) (a.fld 15).list g (List.take g_2 (a.fld 1).list)).length∧[]=haveF (a.fld 0).int (lastIf (a.fld 6).int (a.fld 10).list) (a.fld 15).list g (List.take g_2 (a.fld 1).list)∧g_2 ≤ (a.fld 1).list.length∧∀ (g_3:Nat),g_3 ≤ (a.fld 1).list.length → bif decide ((↑g_3:Int) < (↑(a.fld 1).list.length:Int)) then Idx (↑g_3:Int) (a.fld 1).list.length∧(a.fld 10).list.length ≤ 1000000∧(a.fld 15).list.length ≤ 1000000∧bif decide (g ≤ matF (a.fld 0).int (lastIf (a.fld 6).int (a.fld 10).list) (a.fld 15).list (nthD (a.fld 1).list g_3).int) then Idx (↑g_3:Int) (a.fld 1).list.length∧((haveF (a.fld 0).int (lastIf (a.fld 6).int (a.fld 10).list) (a.fld 15).list g (List.take g_3 (a.fld 1).list)).length + [D.i (nthD (a.fld 1).list g_3).int].length) * 8 ≤ 140737488355328∧(haveF (a.fld 0).int (lastIf (a.fld 6).int (a.fld 10).list) (a.fld 15).list g (List.take g_3 (a.fld 1).list)).length + [D.i (nthD (a.fld 1).list g_3).int].length ≤ 9223372036854775807∧I64 ((↑g_3:Int) + 1)∧∃ (g_4:Nat),(↑g_3:Int) + 1=(↑g_4:Int)∧(haveF (a.fld 0).int (lastIf (a.fld 6).int (a.fld 10).list) (a.fld 15).list g (List.take g_3 (a.fld 1).list)).length + [D.i (nthD (a.fld 1).list g_3).int].length=(haveF (a.fld 0).int (lastIf (a.fld 6).int (a.fld 10).list) (a.fld 15).list g (List.take g_4 (a.fld 1).list)).length∧List.take (haveF (a.fld 0).int (lastIf (a.fld 6).int (a.fld 10).list) (a.fld 15).list g (List.take g_3 (a.fld 1).list)).length (haveF (a.fld 0).int (lastIf (a.fld 6).int (a.fld 10).list) (a.fld 15).list g (List.take g_3 (a.fld 1).list)) ++ [D.i (nthD (a.fld 1).list g_3).int]=haveF (a.fld 0).int (lastIf (a.fld 6).int (a.fld 10).list) (a.fld 15).list g (List.take g_4 (a.fld 1).list)∧g_4 ≤ (a.fld 1).list.length∧(a.fld 1).list.length - g_4 < (a.fld 1).list.length - g_3 else I64 ((↑g_3:Int) + 1)∧∃ (g_4:Nat),(↑g_3:Int) + 1=(↑g_4:Int)∧(haveF (a.fld 0).int (lastIf (a.fld 6).int (a.fld 10).list) (a.fld 15).list g (List.take g_3 (a.fld 1).list)).length=(haveF (a.fld 0).int (lastIf (a.fld 6).int (a.fld 10).list) (a.fld 15).list g (List.take g_4 (a.fld 1).list)).length∧haveF (a.fld 0).int (lastIf (a.fld 6).int (a.fld 10).list) (a.fld 15).list g (List.take g_3 (a.fld 1).list)=haveF (a.fld 0).int (lastIf (a.fld 6).int (a.fld 10).list) (a.fld 15).list g (List.take g_4 (a.fld 1).list)∧g_4 ≤ (a.fld 1).list.length∧(a.fld 1).list.length - g_4 < (a.fld 1).list.length - g_3 else (decide (termI a g=(a.fld 2).int)=true → (a.fld 1).list.length < 2305843009213693952∧(List.take (haveF (a.fld 0).int (lastIf (a.fld 6).int (a.fld 10).list) (a.fld 15).list g (List.take g_3 (a.fld 1).list)).length (haveF (a.fld 0).int (lastIf (a.fld 6).int (a.fld 10).list) (a.fld 15).list g (List.take g_3 (a.fld 1).list))).length < 4611686018427387904)∧bif decide (termI a g=(a.fld 2).int) && decide ((↑(a.fld 1).list.length:Int) < 2 * (↑(cntL (a.fld 1).list (List.take (haveF (a.fld 0).int (lastIf (a.fld 6).int (a.fld 10).list) (a.fld 15).list g (List.take g_3 (a.fld 1).list)).length (haveF (a.fld 0).int (lastIf (a.fld 6).int (a.fld 10).list) (a.fld 15).list g (List.take g_3 (a.fld 1).list)))):Int)) then (a.fld 0).int=((outAdvr a).fld 0).int∧(a.fld 1).list=((outAdvr a).fld 1).list∧(a.fld 2).int=((outAdvr a).fld 2).int∧(a.fld 3).int=((outAdvr a).fld 3).int∧(a.fld 4).int=((outAdvr a).fld 4).int∧(a.fld 5).int=((outAdvr a).fld 5).int∧(a.fld 6).int=((outAdvr a).fld 6).int∧(a.fld 7).int=((outAdvr a).fld 7).int∧(a.fld 8).list=((outAdvr a).fld 8).list∧(a.fld 9).str=((outAdvr a).fld 9).str∧(a.fld 10).list=((outAdvr a).fld 10).list∧g=((outAdvr a).fld 11).int∧(a.fld 12).int=((outAdvr a).fld 12).int∧(a.fld 13).int=((outAdvr a).fld 13).int∧(a.fld 14).list=((outAdvr a).fld 14).list∧(a.fld 15).list=((outAdvr a).fld 15).list∧(a.fld 16).int=((outAdvr a).fld 16).int∧(a.fld 17).list=((outAdvr a).fld 17).list else ∃ (g_4:Int),IntKind.u64.wrap (g - 1)=g_4∧((g_4 ≤ lastIf (a.fld 6).int (a.fld 10).list∧0 ≤ g_4)∧∀ (j:Int),g_4 < j → j ≤ lastIf (a.fld 6).int (a.fld 10).list → condF (a.fld 0).int (lastIf (a.fld 6).int (a.fld 10).list) (a.fld 2).int (a.fld 1).list (a.fld 15).list (logD (a.fld 6).int (a.fld 7).int (a.fld 10).list) j=false)∧g_4.toNat < g.toNat else (a.fld 0).int=((outAdvr a).fld 0).int∧(a.fld 1).list=((outAdvr a).fld 1).list∧(a.fld 2).int=((outAdvr a).fld 2).int∧(a.fld 3).int=((outAdvr a).fld 3).int∧(a.fld 4).int=((outAdvr a).fld 4).int∧(a.fld 5).int=((outAdvr a).fld 5).int∧(a.fld 6).int=((outAdvr a).fld 6).int∧(a.fld 7).int=((outAdvr a).fld 7).int∧(a.fld 8).list=((outAdvr a).fld 8).list∧(a.fld 9).str=((outAdvr a).fld 9).str∧(a.fld 10).list=((outAdvr a).fld 10).list∧(a.fld 11).int=((outAdvr a).fld 11).int∧(a.fld 12).int=((outAdvr a).fld 12).int∧(a.fld 13).int=((outAdvr a).fld 13).int∧(a.fld 14).list=((outAdvr a).fld 14).list∧(a.fld 15).list=((outAdvr a).fld 15).list∧(a.fld 16).int=((outAdvr a).fld 16).int∧(a.fld 17).list=((outAdvr a).fld 17).list)=conGoal Try.prog (addS 65 majrC (addS 64 matC (addS 63 termrC (addS 55 lastrC (addS 13 ownfC noS))))) advrC_an 200 18 advrC [a]:=by kernel_rfl
theorem advrC_ok:ConOK Try.prog Gl.none 18 advrC:=con_of mo (addS_ok majrC_ok (addS_ok matC_ok (addS_ok termrC_ok (addS_ok lastrC_ok (addS_ok ownfC_ok (noS_ok _)))))) (an:=advrC_an) 200 fun ds hl hp=>by
 obtain ⟨a,rfl⟩:=len1 hl
 rw [← advrC_vc]
 have p0:FitP a:=hp _ (.head _)
 have p1:∀ f ∈ (a.fld 15).list,U64 (f.fld 2).int:=hp _ (.tail _ (.head _))
 have p2:(a.fld 6).int ≤ 4611686018427387904:=hp _ (.tail _ (.tail _ (.head _)))
 have h1:=p0.l1; have h10:=p0.l10; have h15:=p0.l15
 have hL:=lastI_U a p0.base
 have hC:=p0.com
 refine ⟨FitP.eta p0,cond_of (fun r=>?_) (fun r=>⟨by omega,_,rfl,⟨⟨Int.le_refl _,hL.1⟩,fun j h1 h2=>by omega⟩,fun g hg=>cond_of (fun c=>?_) (fun c=>?_)⟩)⟩
 ·have hn:advR a=(a.fld 11).int:=by unfold advR; rw [(Bool.not_eq_true' _).mp r]; rfl
  have ho:outAdvr a=comP a (a.fld 11).int:=by unfold outAdvr; rw [hn]
  rw [ho]
  exact ⟨rfl,rfl,rfl,rfl,rfl,rfl,rfl,rfl,rfl,rfl,rfl,rfl,rfl,rfl,rfl,rfl,rfl,rfl⟩
 ·have c:=of_decide_eq_true c
  have hr:decide ((a.fld 4).int=2)=true:=(Bool.not_eq_false' _).mp r
  obtain ⟨⟨g1,g2⟩,g3⟩:=hg
  refine ⟨h10,p0.base,p2,⟨g2,Int.le_trans g1 hL.2⟩,(),0,rfl,rfl,rfl,Nat.zero_le _,fun k hk=>cond_of (fun d=>?_) (fun d=>?_)⟩
  ·have d:k < (a.fld 1).list.length:=by simpa using d
   have hh:=haveF_len (id:=(a.fld 0).int) (last:=((lastIf (D.int (D.fld a 6)) (D.list (D.fld a 10))))) (fol:=(a.fld 15).list) (ms:=(a.fld 1).list) (i:=g) (k:=k)
   refine ⟨⟨by omega,by omega⟩,h10,h15,cond_of (fun e=>?_) (fun e=>?_)⟩
   ·refine ⟨⟨by omega,by omega⟩,?_,?_,⟨by omega,by omega⟩,k + 1,by omega,?_,?_,by omega,by omega⟩
    ·show (_ + 1) * 8 ≤ 140737488355328; omega
    ·show _ + 1 ≤ 9223372036854775807; omega
    ·rw [haveF_at d,e,cond_true,List.length_append]
    ·rw [haveF_at d,e,cond_true,List.take_length]
   ·refine ⟨⟨by omega,by omega⟩,k + 1,by omega,?_,?_,by omega,by omega⟩
    ·rw [haveF_at d,e,cond_false,List.append_nil]
    ·rw [haveF_at d,e,cond_false,List.append_nil]
  ·have d:k=(a.fld 1).list.length:=by have:=of_decide_eq_false d; omega
   subst d
   have hh:=haveF_len (id:=(a.fld 0).int) (last:=((lastIf (D.int (D.fld a 6)) (D.list (D.fld a 10))))) (fol:=(a.fld 15).list) (ms:=(a.fld 1).list) (i:=g) (k:=(a.fld 1).list.length)
   simp only [List.take_length] at hh ⊢
   refine ⟨fun _=>⟨by omega,by omega⟩,cond_of (fun e=>?_) (fun e=>?_)⟩
   ·have hc:condR a g=true:=e
    have hn:advR a=g:=by
     unfold advR
     rw [hr,cond_true]
     exact scan_hit c (by omega) hc (fun j h1 h2=>g3 j h1 (by omega))
    have ho:outAdvr a=comP a g:=by unfold outAdvr; rw [hn]
    rw [ho]
    exact ⟨rfl,rfl,rfl,rfl,rfl,rfl,rfl,rfl,rfl,rfl,rfl,rfl,rfl,rfl,rfl,rfl,rfl,rfl⟩
   ·have hc:condR a g=false:=e
    have w:IntKind.u64.wrap (g - 1)=g - 1:=u64_id ⟨by omega,by omega⟩
    refine ⟨g - 1,w,⟨⟨by omega,by omega⟩,fun j h1 h2=>?_⟩,by omega⟩
    by_cases k:j=g
    ·subst k; exact hc
    ·exact g3 j (by omega) h2
 ·have c:=of_decide_eq_false c
  have hr:decide ((a.fld 4).int=2)=true:=(Bool.not_eq_false' _).mp r
  obtain ⟨⟨g1,g2⟩,g3⟩:=hg
  have hn:advR a=(a.fld 11).int:=by
   unfold advR
   rw [hr,cond_true]
   exact scan_none (fun j h1 h2=>g3 j (by omega) (by omega))
  have ho:outAdvr a=comP a (a.fld 11).int:=by unfold outAdvr; rw [hn]
  rw [ho]
  exact ⟨rfl,rfl,rfl,rfl,rfl,rfl,rfl,rfl,rfl,rfl,rfl,rfl,rfl,rfl,rfl,rfl,rfl,rfl⟩
end Go.Proofs.Ytplflgclomiihaa.XT
