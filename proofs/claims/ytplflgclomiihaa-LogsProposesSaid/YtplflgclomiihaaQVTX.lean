/- Contracts. -/
import Derived.Test.YtplflgclomiihaaQVTV
import Derived.Test.YtplflgclomiihaaProg
import Derived.Test.YtplflgclomiihaaQLGC
set_option linter.unusedVariables false
set_option linter.unusedSimpArgs false
namespace Go.Proofs.Ytplflgclomiihaa.XT
open Go Go.RowKit Go.Proofs.Ytplflgclomiihaa.Sv
set_option maxRecDepth 100000
def seqO (A:AE) (st:Stt) (k:Nat):Option (List D):=match A.get k with | some (.ow l _)=>(match st.h.get l with | some (.q _ _ xs)=>some xs | _=>none) | some (.dl _ _ xs)=>some xs | _=>none
def seqC (st:Stt):AV → Option (List D)
 | .ow l n=>(match st.h.get l with | some (.q _ _ xs)=>some (xs.take n) | _=>none)
 | .dl _ _ xs=>some xs
 | _=>none
def boxMem (A:AE) (st:Stt) (k:Nat):Option (Int × List D):=match A.get k with
 | some (.ptr l _)=>match st.h.get l with
  | some (.c _ (.v (.int _ id) :: m :: _))=>match seqC st m with
   | some xs=>some (id,xs)
   | none=>none
  | _=>none
 | _=>none
def mtE (f:D):D:=.i (f.fld 2).int
theorem desc_ex:∃ g:List D → List D,g=sortI fun x y=>decide (y ≤ x):=⟨_,rfl⟩
noncomputable def descL:List D → List D:=Classical.choose desc_ex
theorem descL_eq:descL=sortI fun x y=>decide (y ≤ x):=Classical.choose_spec desc_ex
theorem descL_len (xs:List D):(descL xs).length=xs.length:=by rw [descL_eq]; exact sortI_len _ xs
def haveL (a:D):List D:=(a.fld 15).list.map mtE ++ (bif inL (a.fld 1).list (a.fld 0).int then [D.i (((lastIf (D.int (D.fld a 6)) (D.list (D.fld a 10)))))] else [])
noncomputable def midN (a:D):Int:=(nthD (descL (haveL a)) ((a.fld 1).list.length / 2)).int
noncomputable def advN (a:D):Int:=bif decide ((a.fld 4).int=2) && decide ((a.fld 1).list.length / 2 < (haveL a).length) && decide ((a.fld 11).int < midN a) && decide (termI a (midN a)=(a.fld 2).int) then midN a else (a.fld 11).int
def comP (a:D) (n:Int):D:=.t [.i (a.fld 0).int,.l (a.fld 1).list,.i (a.fld 2).int,.i (a.fld 3).int,.i (a.fld 4).int,.i (a.fld 5).int,.i (a.fld 6).int,.i (a.fld 7).int,.l (a.fld 8).list,.s (a.fld 9).str,.l (a.fld 10).list,.i n,.i (a.fld 12).int,.i (a.fld 13).int,.l (a.fld 14).list,.l (a.fld 15).list,.i (a.fld 16).int,.l (a.fld 17).list]
noncomputable def outAdv (a:D):D:=bif mayB a then comP a (advN a) else DT.zero peerT
noncomputable def sortC:Con:=rowC 25 (.i .u64) [99] (fun xs=>xs.length < 4611686018427387904) descL
theorem sortC_ok {Γ:Gl}:RowOK Try.prog Γ 98 sortC 25 (.i .u64) [99]:=by unfold sortC; rw [descL_eq]; exact sort_ok
noncomputable def lownC:Con:=⟨[.d true peerT],fun ds=>(fun (a:D)=>[FitP a]) (nthD ds 0),[.agg [.d (.i .i64),.own 3 (.i .i64),.d (.i .u64),.d (.i .i64),.d (.i .u8),.d (.i .i64),.d (.i .u64),.d (.i .u64),.own 3 (.i .i64),.d .s,.own 60 entT,.d (.i .u64),.d (.i .i64),.d (.i .i64),.own 3 (.i .i64),.own 99 folT,.d (.i .u64),.own 102 rdT]],fun ds=>(fun (a:D)=>[etaD peerT a]) (nthD ds 0),fun ds=>[]⟩
noncomputable def lownC_an:Anns:=fun f i=>match f,i with
 | 53,5=>some fun A st=>match st.h.get 0 with
  | some (.c _ cs)=>match cs.drop 17 with
   | .ow l m :: _=>match st.h.get l with
    | some (.q _ _ xs)=>⟨Nat,fun g=>[(31,.v (.int .i64 g))],fun _=>[(l,.q 102 rdT xs)],fun g=>g ≤ xs.length,fun g=>xs.length - g⟩
    | _=>LAnn.bad
   | _=>LAnn.bad
  | _=>LAnn.bad
 | _,_=>none
theorem lownC_vc (a:D):((a.fld 1).list.length ≤ 17592186044416∧(a.fld 8).list=(a.fld 8).list∧(a.fld 8).list.length ≤ 17592186044416∧(a.fld 14).list.length ≤ 17592186044416∧(a.fld 15).list=(a.fld 15).list∧(a.fld 15).list.length ≤ 1099511627776∧(a.fld 17).list=(a.fld 17).list∧(a.fld 17).list=(a.fld 17).list∧(a.fld 17).list.length ≤ 1099511627776∧(a.fld 10).list.length ≤ 1000000∧(∀ (e:D),e ∈ (a.fld 10).list → FitE e)∧∃ (g:Nat),EqI 0 (↑g:Int)∧(a.fld 17).list=(a.fld 17).list∧g ≤ (a.fld 17).list.length∧∀ (g:Nat),g ≤ (a.fld 17).list.length → bif decide ((↑g:Int) < (↑(a.fld 17).list.length:Int)) then (a.fld 17).list.length=(a.fld 17).list.length∧(a.fld 17).list.length=(a.fld 17).list.length∧Idx (↑g:Int) (a.fld 17).list.length∧Idx (↑g:Int) (a.fld 17).list.length∧g=g∧((nthD (a.fld 17).list g).fld 2).list.length ≤ 17592186044416∧Idx (↑g:Int) (a.fld 17).list.length∧Idx (↑g:Int) (a.fld 17).list.length∧g=g∧I64 ((↑g:Int) + 1)∧∃ (g_1:Nat),(↑g:Int) + 1=(↑g_1:Int)∧setD (a.fld 17).list g (D.t (setD (nthD (a.fld 17).list g).tup 2 (D.l (List.take ((nthD (a.fld 17).list g).fld 2).list.length ((nthD (a.fld 17).list g).fld 2).list))))=(a.fld 17).list∧g_1 ≤ (a.fld 17).list.length∧(a.fld 17).list.length - g_1 < (a.fld 17).list.length - g else (a.fld 0).int=(a.fld 0).int∧List.take (a.fld 1).list.length (a.fld 1).list=(a.fld 1).list∧(a.fld 2).int=(a.fld 2).int∧(a.fld 3).int=(a.fld 3).int∧(a.fld 4).int=(a.fld 4).int∧(a.fld 5).int=(a.fld 5).int∧(a.fld 6).int=(a.fld 6).int∧(a.fld 7).int=(a.fld 7).int∧List.take (a.fld 8).list.length (a.fld 8).list=(a.fld 8).list∧(a.fld 9).str=(a.fld 9).str∧List.take (a.fld 10).list.length (a.fld 10).list=(a.fld 10).list∧(a.fld 11).int=(a.fld 11).int∧(a.fld 12).int=(a.fld 12).int∧(a.fld 13).int=(a.fld 13).int∧List.take (a.fld 14).list.length (a.fld 14).list=(a.fld 14).list∧List.take (a.fld 15).list.length (a.fld 15).list=(a.fld 15).list∧(a.fld 16).int=(a.fld 16).int∧List.take (a.fld 17).list.length (a.fld 17).list=(a.fld 17).list)=conGoal Try.prog (addS 73 clogC (addS 96 clone104K (addS 95 clone102K (addS 76 cloneK noS)))) lownC_an 200 53 lownC [a]:=by kernel_rfl
theorem lownC_ok:ConOK Try.prog Gl.none 53 lownC:=con_of mo (addS_ok clogC_ok (addS_ok clone104K_ok (addS_ok clone102K_ok (addS_ok cloneK_ok (noS_ok _))))) (an:=lownC_an) 200 fun ds hl hp=>by
 obtain ⟨a,rfl⟩:=len1 hl
 rw [← lownC_vc]
 have p0:FitP a:=hp _ (.head _)
 have h1:=p0.l1; have h8:=p0.l8; have h14:=p0.l14; have h10:=p0.l10; have h15:=p0.l15; have h17:=p0.l17
 refine ⟨h1,rfl,h8,h14,rfl,by omega,rfl,rfl,by omega,h10,p0.log,0,rfl,rfl,Nat.zero_le _,fun g h1=>cond_of (fun c=>?_) (fun c=>?_)⟩
 ·have c:g < (a.fld 17).list.length:=by simpa using c
  have he:=p0.rd _ (List.mem_of_getElem? (get_nthD c))
  have hp:D.t (setD (nthD (a.fld 17).list g).tup 2 (D.l ((nthD (a.fld 17).list g).fld 2).list))=nthD (a.fld 17).list g:=put2 he.eta
  rw [List.take_length,hp,setD_self c]
  exact ⟨rfl,rfl,⟨by omega,by omega⟩,⟨by omega,by omega⟩,rfl,he.acks,⟨by omega,by omega⟩,⟨by omega,by omega⟩,rfl,⟨by omega,by omega⟩,g + 1,by omega,rfl,by omega,by omega⟩
 ·simp only [List.take_length,and_self]
theorem mapE_at {f:D → D} {xs:List D} {g:Nat} (c:g < xs.length):List.take g (List.map f (xs.take g)) ++ [f (nthD xs g)]=List.map f (xs.take (g + 1)):=by
 have e:nthD xs g=xs[g]:=nthD_get (List.getElem?_eq_getElem c)
 rw [List.take_of_length_le (by rw [List.length_map,List.length_take]; omega),List.take_succ_eq_append_getElem c,List.map_append,e]; rfl
theorem mapE_end {f:D → D} {xs:List D}:List.take xs.length (List.map f xs)=List.map f xs:=List.take_of_length_le (by rw [List.length_map]; exact Nat.le_refl _)
theorem descL_mem {xs:List D} {d:D} (h:d ∈ descL xs):∃ e ∈ xs,d.int=e.int:=by
 rw [descL_eq] at h; unfold sortI at h
 obtain ⟨n,h1,rfl⟩:=List.mem_map.1 h
 rw [List.mem_mergeSort] at h1
 obtain ⟨e,h2,rfl⟩:=List.mem_map.1 h1
 exact ⟨e,h2,rfl⟩
theorem half_id {n:Nat} (h:n ≤ 17592186044416):IntKind.i64.wrap ((n:Int).tdiv 2)=((n / 2:Nat):Int):=by
 have e:(n:Int).tdiv 2=((n / 2:Nat):Int):=by rw [Int.ofNat_tdiv n 2]; rfl
 rw [e]; exact W.wrap_i64 (by omega) (by omega)
theorem haveL_U {a:D} (p:FitP a) (hf:∀ f ∈ (a.fld 15).list,U64 (f.fld 2).int):∀ d ∈ haveL a,U64 d.int:=by
 intro d hd
 unfold haveL at hd
 rcases List.mem_append.1 hd with hd | hd
 ·obtain ⟨f,h1,rfl⟩:=List.mem_map.1 hd
  exact hf f h1
 ·cases hi:inL (a.fld 1).list (a.fld 0).int with
  | false=>rw [hi] at hd; cases hd
  | true =>
   rw [hi,cond_true,List.mem_singleton] at hd
   subst hd
   exact lastI_U a p.base
theorem outAdv_eq {a:D} (m:mayB a=true) {n:Int} (h:advN a=n):outAdv a=comP a n:=by unfold outAdv; rw [m,cond_true,h]
noncomputable def AdvC:Con:=⟨[.d true peerT],fun ds=>(fun (a:D)=>[FitP a,∀ f ∈ (a.fld 15).list,U64 (f.fld 2).int]) (nthD ds 0),[.d peerT,.d (.i .i64)],fun ds=>(fun (a:D)=>[etaD peerT (outAdv a),.i (bif mayB a then 0 else 2)]) (nthD ds 0),fun ds=>[]⟩
noncomputable def AdvC_an:Anns:=fun f i=>match f,i with
 | 54,2000004=>some fun A st=>⟨Unit,fun _=>[],fun _=>[(4,.q 25 (.i .u64) [])],fun _=>True,fun _=>0⟩
 | 54,4=>some fun A st=>match seqO A st 25 with
  | some xs=>⟨Nat,fun g=>[(27,.v (.int .i64 g)),(4,.ow st.nx g)],fun g=>[(st.nx,.q 25 (.i .u64) ((xs.take g).map mtE))],fun g=>g ≤ xs.length,fun g=>xs.length - g⟩
  | _=>LAnn.bad
 | 54,1000010=>some fun A st=>match seqO A st 4,boxMem A st 0,A.get 2 with
  | some xs,some (id,ms),some (.v (.int _ last))=>⟨List D,fun g=>[(4,.ow st.nx g.length)],fun g=>[(st.nx,.q 25 (.i .u64) g)],fun g=>g=bif inL ms id then xs ++ [.i last] else xs,fun _=>0⟩
  | _,_,_=>LAnn.bad
 | _,_=>none
theorem AdvC_vc (a:D):((a.fld 10).list.length < 4611686018427387904∧(0 ≤ (a.fld 6).int∧(a.fld 6).int ≤ 18446744073709551615)∧(a.fld 8).list.length ≤ 17592186044416∧(∀ (e:D),e ∈ (a.fld 10).list → (e.fld 3).list.length ≤ 17592186044416)∧(a.fld 1).list.length ≤ 17592186044416∧(a.fld 14).list.length ≤ 17592186044416∧(a.fld 15).list.length ≤ 17592186044416∧(a.fld 17).list.length ≤ 17592186044416∧(∀ (r:D),r ∈ (a.fld 17).list → (r.fld 2).list.length ≤ 17592186044416)∧0 ≤ (a.fld 7).int∧(∀ (e:D),e ∈ (a.fld 10).list → 0 ≤ (e.fld 0).int∧0 ≤ (e.fld 1).int)∧0 ≤ (a.fld 4).int∧bif !decide (condI (mayB a) 0 2=0) then EqI 0 ((outAdv a).fld 0).int∧[]=((outAdv a).fld 1).list∧EqI 0 ((outAdv a).fld 2).int∧EqI 0 ((outAdv a).fld 3).int∧EqI 0 ((outAdv a).fld 4).int∧EqI 0 ((outAdv a).fld 5).int∧EqI 0 ((outAdv a).fld 6).int∧EqI 0 ((outAdv a).fld 7).int∧[]=((outAdv a).fld 8).list∧ByteArray.mk #[]=((outAdv a).fld 9).str∧[]=((outAdv a).fld 10).list∧EqI 0 ((outAdv a).fld 11).int∧EqI 0 ((outAdv a).fld 12).int∧EqI 0 ((outAdv a).fld 13).int∧[]=((outAdv a).fld 14).list∧[]=((outAdv a).fld 15).list∧EqI 0 ((outAdv a).fld 16).int∧[]=((outAdv a).fld 17).list∧condI (mayB a) 0 2=condI (mayB a) 0 2 else FitP (putF peerT a [])∧bif !decide ((a.fld 4).int=2) then (a.fld 0).int=((outAdv a).fld 0).int∧List.take (a.fld 1).list.length (a.fld 1).list=((outAdv a).fld 1).list∧(a.fld 2).int=((outAdv a).fld 2).int∧(a.fld 3).int=((outAdv a).fld 3).int∧(a.fld 4).int=((outAdv a).fld 4).int∧(a.fld 5).int=((outAdv a).fld 5).int∧(a.fld 6).int=((outAdv a).fld 6).int∧(a.fld 7).int=((outAdv a).fld 7).int∧List.take (a.fld 8).list.length (a.fld 8).list=((outAdv a).fld 8).list∧(a.fld 9).str=((outAdv a).fld 9).str∧List.take (a.fld 10).list.length (a.fld 10).list=((outAdv a).fld 10).list∧(a.fld 11).int=((outAdv a).fld 11).int∧(a.fld 12).int=((outAdv a).fld 12).int∧(a.fld 13).int=((outAdv a).fld 13).int∧List.take (a.fld 14).list.length (a.fld 14).list=((outAdv a).fld 14).list∧List.take (a.fld 15).list.length (a.fld 15).list=((outAdv a).fld 15).list∧(a.fld 16).int=((outAdv a).fld 16).int∧List.take (a.fld 17).list.length (a.fld 17).list=((outAdv a).fld 17).list∧EqI 0 (condI (mayB a) 0 2) else (List.take (a.fld 10).list.length (a.fld 10).list).length < 4611686018427387904∧∃ (g:Unit),∃ (g:Nat),EqI 0 (↑g:Int)∧0=g∧[]=List.map mtE (List.take g (a.fld 15).list)∧g ≤ (a.fld 15).list.length∧∀ (g:Nat),g ≤ (a.fld 15).list.length → bif decide ((↑g:Int) < (↑(a.fld 15).list.length:Int)) then Idx (↑g:Int) (a.fld 15).list.length∧(g + [D.i ((nthD (a.fld 15).list g).fld 2).int].length) * 8 ≤ 140737488355328∧g + [D.i ((nthD (a.fld 15).list g).fld 2).int].length ≤ 9223372036854775807∧I64 ((↑g:Int) + 1)∧∃ (g_1:Nat),(↑g:Int) + 1=(↑g_1:Int)∧g + [D.i ((nthD (a.fld 15).list g).fld 2).int].length=g_1∧List.take g (List.map mtE (List.take g (a.fld 15).list)) ++ [D.i ((nthD (a.fld 15).list g).fld 2).int]=List.map mtE (List.take g_1 (a.fld 15).list)∧g_1 ≤ (a.fld 15).list.length∧(a.fld 15).list.length - g_1 < (a.fld 15).list.length - g else ((List.take (a.fld 1).list.length (a.fld 1).list).length < 4611686018427387904∧bif inL (List.take (a.fld 1).list.length (a.fld 1).list) (a.fld 0).int then (g + [D.i (lastIf (a.fld 6).int (List.take (a.fld 10).list.length (a.fld 10).list))].length) * 8 ≤ 140737488355328∧g + [D.i (lastIf (a.fld 6).int (List.take (a.fld 10).list.length (a.fld 10).list))].length ≤ 9223372036854775807∧∃ (g_1:List D),g + [D.i (lastIf (a.fld 6).int (List.take (a.fld 10).list.length (a.fld 10).list))].length=g_1.length∧List.take g (List.map mtE (List.take g (a.fld 15).list)) ++ [D.i (lastIf (a.fld 6).int (List.take (a.fld 10).list.length (a.fld 10).list))]=g_1∧g_1=bif inL (List.take (a.fld 1).list.length (a.fld 1).list) (a.fld 0).int then List.map mtE (List.take g (a.fld 15).list) ++ [D.i (lastIf (a.fld 6).int (List.take (a.fld 10).list.length (a.fld 10).list))] else List.map mtE (List.take g (a.fld 15).list) else ∃ (g_1:List D),g=g_1.length∧List.map mtE (List.take g (a.fld 15).list)=g_1∧g_1=bif inL (List.take (a.fld 1).list.length (a.fld 1).list) (a.fld 0).int then List.map mtE (List.take g (a.fld 15).list) ++ [D.i (lastIf (a.fld 6).int (List.take (a.fld 10).list.length (a.fld 10).list))] else List.map mtE (List.take g (a.fld 15).list))∧∀ (g_1:List D),(g_1=bif inL (List.take (a.fld 1).list.length (a.fld 1).list) (a.fld 0).int then List.map mtE (List.take g (a.fld 15).list) ++ [D.i (lastIf (a.fld 6).int (List.take (a.fld 10).list.length (a.fld 10).list))] else List.map mtE (List.take g (a.fld 15).list)) → g_1.length=g_1.length∧g_1.length < 4611686018427387904∧¬EqI 2 0∧bif decide ((↑g_1.length:Int) ≤ IntKind.i64.wrap ((↑(a.fld 1).list.length:Int).tdiv 2)) then (a.fld 0).int=((outAdv a).fld 0).int∧List.take (a.fld 1).list.length (a.fld 1).list=((outAdv a).fld 1).list∧(a.fld 2).int=((outAdv a).fld 2).int∧(a.fld 3).int=((outAdv a).fld 3).int∧(a.fld 4).int=((outAdv a).fld 4).int∧(a.fld 5).int=((outAdv a).fld 5).int∧(a.fld 6).int=((outAdv a).fld 6).int∧(a.fld 7).int=((outAdv a).fld 7).int∧List.take (a.fld 8).list.length (a.fld 8).list=((outAdv a).fld 8).list∧(a.fld 9).str=((outAdv a).fld 9).str∧List.take (a.fld 10).list.length (a.fld 10).list=((outAdv a).fld 10).list∧(a.fld 11).int=((outAdv a).fld 11).int∧(a.fld 12).int=((outAdv a).fld 12).int∧(a.fld 13).int=((outAdv a).fld 13).int∧List.take (a.fld 14).list.length (a.fld 14).list=((outAdv a).fld 14).list∧List.take (a.fld 15).list.length (a.fld 15).list=((outAdv a).fld 15).list∧(a.fld 16).int=((outAdv a).fld 16).int∧List.take (a.fld 17).list.length (a.fld 17).list=((outAdv a).fld 17).list∧EqI 0 (condI (mayB a) 0 2) else Idx (IntKind.i64.wrap ((↑(a.fld 1).list.length:Int).tdiv 2)) g_1.length∧(List.take (a.fld 10).list.length (a.fld 10).list).length < 4611686018427387904∧(0 ≤ (a.fld 6).int∧(a.fld 6).int ≤ 18446744073709551615)∧(0 ≤ (nthD (descL g_1) (IntKind.i64.wrap ((↑(a.fld 1).list.length:Int).tdiv 2)).toNat).int∧(nthD (descL g_1) (IntKind.i64.wrap ((↑(a.fld 1).list.length:Int).tdiv 2)).toNat).int ≤ 18446744073709551615)∧Idx (IntKind.i64.wrap ((↑(a.fld 1).list.length:Int).tdiv 2)) g_1.length∧bif decide ((a.fld 11).int < (nthD (descL g_1) (IntKind.i64.wrap ((↑(a.fld 1).list.length:Int).tdiv 2)).toNat).int) && decide (termI (putF peerT a [(1,D.l (List.take (a.fld 1).list.length (a.fld 1).list)),(8,D.l (List.take (a.fld 8).list.length (a.fld 8).list)),(10,D.l (List.take (a.fld 10).list.length (a.fld 10).list)),(14,D.l (List.take (a.fld 14).list.length (a.fld 14).list)),(15,D.l (List.take (a.fld 15).list.length (a.fld 15).list)),(17,D.l (List.take (a.fld 17).list.length (a.fld 17).list))]) (nthD (descL g_1) (IntKind.i64.wrap ((↑(a.fld 1).list.length:Int).tdiv 2)).toNat).int=(a.fld 2).int) then Idx (IntKind.i64.wrap ((↑(a.fld 1).list.length:Int).tdiv 2)) g_1.length∧(a.fld 0).int=((outAdv a).fld 0).int∧List.take (a.fld 1).list.length (a.fld 1).list=((outAdv a).fld 1).list∧(a.fld 2).int=((outAdv a).fld 2).int∧(a.fld 3).int=((outAdv a).fld 3).int∧(a.fld 4).int=((outAdv a).fld 4).int∧(a.fld 5).int=((outAdv a).fld 5).int∧(a.fld 6).int=((outAdv a).fld 6).int∧(a.fld 7).int=((outAdv a).fld 7).int∧List.take (a.fld 8).list.length (a.fld 8).list=((outAdv a).fld 8).list∧(a.fld 9).str=((outAdv a).fld 9).str∧List.take (a.fld 10).list.length (a.fld 10).list=((outAdv a).fld 10).list∧(nthD (descL g_1) (IntKind.i64.wrap ((↑(a.fld 1).list.length:Int).tdiv 2)).toNat).int=((outAdv a).fld 11).int∧(a.fld 12).int=((outAdv a).fld 12).int∧(a.fld 13).int=((outAdv a).fld 13).int∧List.take (a.fld 14).list.length (a.fld 14).list=((outAdv a).fld 14).list∧List.take (a.fld 15).list.length (a.fld 15).list=((outAdv a).fld 15).list∧(a.fld 16).int=((outAdv a).fld 16).int∧List.take (a.fld 17).list.length (a.fld 17).list=((outAdv a).fld 17).list∧EqI 0 (condI (mayB a) 0 2) else (a.fld 0).int=((outAdv a).fld 0).int∧List.take (a.fld 1).list.length (a.fld 1).list=((outAdv a).fld 1).list∧(a.fld 2).int=((outAdv a).fld 2).int∧(a.fld 3).int=((outAdv a).fld 3).int∧(a.fld 4).int=((outAdv a).fld 4).int∧(a.fld 5).int=((outAdv a).fld 5).int∧(a.fld 6).int=((outAdv a).fld 6).int∧(a.fld 7).int=((outAdv a).fld 7).int∧List.take (a.fld 8).list.length (a.fld 8).list=((outAdv a).fld 8).list∧(a.fld 9).str=((outAdv a).fld 9).str∧List.take (a.fld 10).list.length (a.fld 10).list=((outAdv a).fld 10).list∧(a.fld 11).int=((outAdv a).fld 11).int∧(a.fld 12).int=((outAdv a).fld 12).int∧(a.fld 13).int=((outAdv a).fld 13).int∧List.take (a.fld 14).list.length (a.fld 14).list=((outAdv a).fld 14).list∧List.take (a.fld 15).list.length (a.fld 15).list=((outAdv a).fld 15).list∧(a.fld 16).int=((outAdv a).fld 16).int∧List.take (a.fld 17).list.length (a.fld 17).list=((outAdv a).fld 17).list∧EqI 0 (condI (mayB a) 0 2))=conGoal Try.prog (addS 44 termC (addS 98 sortC (addS 97 contC (addS 37 lastC (addS 53 lownC (addS 47 MayC noS)))))) AdvC_an 200 16 AdvC [a]:=by kernel_rfl
theorem AdvC_ok:ConOK Try.prog Gl.none 16 AdvC:=con_of mo (addS_ok termC_ok (addR_ok sortC_ok (addS_ok contC_ok (addS_ok lastC_ok (addS_ok lownC_ok (addS_ok MayC_ok (noS_ok _))))))) (an:=AdvC_an) 200 fun ds hl hp=>by
 obtain ⟨a,rfl⟩:=len1 hl
 rw [← AdvC_vc]
 have p0:FitP a:=hp _ (.head _)
 have p1:∀ f ∈ (a.fld 15).list,U64 (f.fld 2).int:=hp _ (.tail _ (.head _))
 have h1:=p0.l1; have h8:=p0.l8; have h14:=p0.l14; have h10:=p0.l10; have h15:=p0.l15; have h17:=p0.l17
 rw [c02]
 refine FitP.pre p0 (cond_of (fun c=>?_) (fun c=>⟨FitP.eta p0,cond_of (fun r=>?_) (fun r=>⟨by rw [List.take_length]; omega,(),0,rfl,rfl,rfl,Nat.zero_le _,fun g hg=>cond_of (fun d=>?_) (fun d=>?_)⟩)⟩))
 ·have hm:mayB a=false:=(Bool.not_eq_true' _).mp c
  have ho:outAdv a=DT.zero peerT:=by unfold outAdv; rw [hm]; rfl
  rw [ho]
  exact ⟨rfl,rfl,rfl,rfl,rfl,rfl,rfl,rfl,rfl,rfl,rfl,rfl,rfl,rfl,rfl,rfl,rfl,rfl,rfl⟩
 ·have hm:mayB a=true:=(Bool.not_eq_false' _).mp c
  have hn:advN a=(a.fld 11).int:=by unfold advN; rw [(Bool.not_eq_true' _).mp r]; rfl
  rw [outAdv_eq hm hn,hm]
  simp only [List.take_length]
  exact ⟨rfl,rfl,rfl,rfl,rfl,rfl,rfl,rfl,rfl,rfl,rfl,rfl,rfl,rfl,rfl,rfl,rfl,rfl,rfl⟩
 ·have d:g < (a.fld 15).list.length:=by simpa using d
  exact ⟨⟨by omega,by omega⟩,(by show (g + 1) * 8 ≤ 140737488355328; omega),(by show g + 1 ≤ 9223372036854775807; omega),⟨by omega,by omega⟩,g + 1,by omega,rfl,mapE_at (f:=mtE) d,by omega,by omega⟩
 ·have d:g=(a.fld 15).list.length:=by have:=of_decide_eq_false d; omega
  subst d
  have hm:mayB a=true:=(Bool.not_eq_false' _).mp c
  have hr:decide ((a.fld 4).int=2)=true:=(Bool.not_eq_false' _).mp r
  simp only [List.take_length,mapE_end]
  refine ⟨⟨by omega,cond_of (fun m=>⟨(by show ((a.fld 15).list.length + 1) * 8 ≤ 140737488355328; omega),(by show (a.fld 15).list.length + 1 ≤ 9223372036854775807; omega),_,(by simp),rfl,(by rw [m]; rfl)⟩) (fun m=>⟨_,(by simp),rfl,(by rw [m]; rfl)⟩)⟩,fun L hL=>?_⟩
  have hL:L=haveL a:=by
   rw [hL]; unfold haveL
   cases inL (a.fld 1).list (a.fld 0).int with
   | true=>rfl
   | false=>rw [cond_false,cond_false,List.append_nil]
  subst hL
  have hlen:(haveL a).length ≤ 1000001:=by
   unfold haveL
   rw [List.length_append,List.length_map]
   cases inL (a.fld 1).list (a.fld 0).int with
   | true=>simp; omega
   | false=>simp; omega
  rw [half_id h1]
  refine ⟨trivial,by omega,by decide,cond_of (fun e=>?_) (fun e=>?_)⟩
  ·have e:=of_decide_eq_true e
   have hn:advN a=(a.fld 11).int:=by unfold advN; rw [hr,decide_eq_false (show ¬ (a.fld 1).list.length / 2 < (haveL a).length by omega)]; rfl
   rw [outAdv_eq hm hn,hm]
   exact ⟨rfl,rfl,rfl,rfl,rfl,rfl,rfl,rfl,rfl,rfl,rfl,rfl,rfl,rfl,rfl,rfl,rfl,rfl,rfl⟩
  ·have e:=of_decide_eq_false e
   have hlt:(a.fld 1).list.length / 2 < (haveL a).length:=by omega
   have hmid:(nthD (descL (haveL a)) ((((a.fld 1).list.length / 2:Nat):Int)).toNat).int=midN a:=rfl
   rw [hmid]
   have hU:U64 (midN a):=by
    have hl':(a.fld 1).list.length / 2 < (descL (haveL a)).length:=by rw [descL_len]; exact hlt
    obtain ⟨x,hx,hxe⟩:=descL_mem (List.mem_of_getElem? (get_nthD hl'))
    unfold midN
    rw [hxe]
    exact haveL_U p0 p1 x hx
   refine ⟨⟨by omega,by omega⟩,by omega,p0.base,hU,⟨by omega,by omega⟩,?_⟩
   have ht:termI (putF peerT a [(1,D.l (a.fld 1).list),(8,D.l (a.fld 8).list),(10,D.l (a.fld 10).list),(14,D.l (a.fld 14).list),(15,D.l (a.fld 15).list),(17,D.l (a.fld 17).list)]) (midN a)=termI a (midN a):=rfl
   rw [ht]
   refine cond_of (fun k=>?_) (fun k=>?_)
   ·have hn:advN a=midN a:=by unfold advN; rw [hr,decide_eq_true hlt,Bool.and_assoc,k]; rfl
    rw [outAdv_eq hm hn,hm]
    exact ⟨⟨by omega,by omega⟩,rfl,rfl,rfl,rfl,rfl,rfl,rfl,rfl,rfl,rfl,rfl,rfl,rfl,rfl,rfl,rfl,rfl,rfl,rfl⟩
   ·have hn:advN a=(a.fld 11).int:=by unfold advN; rw [hr,decide_eq_true hlt,Bool.and_assoc,k]; rfl
    rw [outAdv_eq hm hn,hm]
    exact ⟨rfl,rfl,rfl,rfl,rfl,rfl,rfl,rfl,rfl,rfl,rfl,rfl,rfl,rfl,rfl,rfl,rfl,rfl,rfl⟩
end Go.Proofs.Ytplflgclomiihaa.XT
