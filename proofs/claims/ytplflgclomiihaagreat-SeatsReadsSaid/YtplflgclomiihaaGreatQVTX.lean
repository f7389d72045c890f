/- Contracts. -/
import Derived.Test.YtplflgclomiihaaGreatQVTV
import Derived.Test.YtplflgclomiihaaGreatProg
import Derived.Test.YtplflgclomiihaaGreatQLGS
set_option linter.unusedVariables false
set_option linter.unusedSimpArgs false
namespace Go.Proofs.YtplflgclomiihaaGreat.XT
open Go Go.RowKit Go.Proofs.YtplflgclomiihaaGreat.Sv
set_option maxRecDepth 100000
def seqO (A:AE) (st:Stt) (k:Nat):Option (List D):=match A.get k with | some (.ow l _)=>(match st.h.get l with | some (.q _ _ xs)=>some xs | _=>none) | some (.dl _ _ xs)=>some xs | _=>none
def seqC (st:Stt):AV → Option (List D)
 | .ow l n=>(match st.h.get l with | some (.q _ _ xs)=>some (xs.take n) | _=>none)
 | .dl _ _ xs=>some xs
 | _=>none
def boxMem (A:AE) (st:Stt) (k:Nat):Option (Int × List D):=match A.get k with
 | some (.ptr l _)=>match st.h.get l with
  | some (.c _ (.v (.int _ id) :: m :: _))=>match seqC st m with
   | some xs=>some (id,xs)
   | none=>none
  | _=>none
 | _=>none
def mtE (f:D):D:=.i (f.fld 2).int
theorem desc_ex:∃ g:List D → List D,g=sortI fun x y=>decide (y ≤ x):=⟨_,rfl⟩
noncomputable def descL:List D → List D:=Classical.choose desc_ex
theorem descL_eq:descL=sortI fun x y=>decide (y ≤ x):=Classical.choose_spec desc_ex
theorem descL_len (xs:List D):(descL xs).length=xs.length:=by rw [descL_eq]; exact sortI_len _ xs
def haveL (a:D):List D:=(a.fld 15).list.map mtE ++ (bif inL (a.fld 1).list (a.fld 0).int then [D.i (((lastIf (D.int (D.fld a 6)) (D.list (D.fld a 10)))))] else [])
noncomputable def midN (a:D):Int:=(nthD (descL (haveL a)) ((a.fld 1).list.length / 2)).int
noncomputable def advN (a:D):Int:=bif decide ((a.fld 4).int=2) && decide ((a.fld 1).list.length / 2 < (haveL a).length) && decide ((a.fld 11).int < midN a) && decide (termI a (midN a)=(a.fld 2).int) then midN a else (a.fld 11).int
def comP (a:D) (n:Int):D:=.t [.i (a.fld 0).int,.l (a.fld 1).list,.i (a.fld 2).int,.i (a.fld 3).int,.i (a.fld 4).int,.i (a.fld 5).int,.i (a.fld 6).int,.i (a.fld 7).int,.l (a.fld 8).list,.s (a.fld 9).str,.l (a.fld 10).list,.i n,.i (a.fld 12).int,.i (a.fld 13).int,.l (a.fld 14).list,.l (a.fld 15).list,.i (a.fld 16).int,.l (a.fld 17).list]
noncomputable def outAdv (a:D):D:=bif mayB a then comP a (advN a) else DT.zero peerT
noncomputable def sortC:Con:=rowC 23 (.i .u64) [78] (fun xs=>xs.length < 4611686018427387904) descL
theorem sortC_ok {Γ:Gl}:RowOK Tryz.prog Γ 77 sortC 23 (.i .u64) [78]:=by unfold sortC; rw [descL_eq]; exact sort_ok
noncomputable def lownC:Con:=⟨[.d true peerT],fun ds=>(fun (a:D)=>[FitP a]) (nthD ds 0),[.agg [.d (.i .i64),.own 3 (.i .i64),.d (.i .u64),.d (.i .i64),.d (.i .u8),.d (.i .i64),.d (.i .u64),.d (.i .u64),.own 3 (.i .i64),.d .s,.own 88 entT,.d (.i .u64),.d (.i .i64),.d (.i .i64),.own 3 (.i .i64),.own 57 folT,.d (.i .u64),.own 54 rdT]],fun ds=>(fun (a:D)=>[etaD peerT a]) (nthD ds 0),fun ds=>[]⟩
noncomputable def lownC_an:Anns:=fun f i=>match f,i with
 | 46,5=>some fun A st=>match st.h.get 0 with
  | some (.c _ cs)=>match cs.drop 17 with
   | .ow l m :: _=>match st.h.get l with
    | some (.q _ _ xs)=>⟨Nat,fun g=>[(31,.v (.int .i64 g))],fun _=>[(l,.q 54 rdT xs)],fun g=>g ≤ xs.length,fun g=>xs.length - g⟩
    | _=>LAnn.bad
   | _=>LAnn.bad
  | _=>LAnn.bad
 | _,_=>none
theorem lownC_vc (a:D):((a.fld 1).list.length ≤ 17592186044416∧(a.fld 8).list=(a.fld 8).list∧(a.fld 8).list.length ≤ 17592186044416∧(a.fld 14).list.length ≤ 17592186044416∧(a.fld 15).list=(a.fld 15).list∧(a.fld 15).list.length ≤ 1099511627776∧(a.fld 17).list=(a.fld 17).list∧(a.fld 17).list=(a.fld 17).list∧(a.fld 17).list.length ≤ 1099511627776∧(a.fld 10).list.length ≤ 1000000∧(∀ (e:D),e ∈ (a.fld 10).list → FitE e)∧∃ (g:Nat),EqI 0 (↑g:Int)∧(a.fld 17).list=(a.fld 17).list∧g ≤ (a.fld 17).list.length∧∀ (g:Nat),g ≤ (a.fld 17).list.length → bif decide ((↑g:Int) < (↑(a.fld 17).list.length:Int)) then (a.fld 17).list.length=(a.fld 17).list.length∧(a.fld 17).list.length=(a.fld 17).list.length∧Idx (↑g:Int) (a.fld 17).list.length∧Idx (↑g:Int) (a.fld 17).list.length∧g=g∧((nthD (a.fld 17).list g).fld 2).list.length ≤ 17592186044416∧Idx (↑g:Int) (a.fld 17).list.length∧Idx (↑g:Int) (a.fld 17).list.length∧g=g∧I64 ((↑g:Int) + 1)∧∃ (g_1:Nat),(↑g:Int) + 1=(↑g_1:Int)∧setD (a.fld 17).list g (D.t (setD (nthD (a.fld 17).list g).tup 2 (D.l (List.take ((nthD (a.fld 17).list g).fld 2).list.length ((nthD (a.fld 17).list g).fld 2).list))))=(a.fld 17).list∧g_1 ≤ (a.fld 17).list.length∧(a.fld 17).list.length - g_1 < (a.fld 17).list.length - g else (a.fld 0).int=(a.fld 0).int∧List.take (a.fld 1).list.length (a.fld 1).list=(a.fld 1).list∧(a.fld 2).int=(a.fld 2).int∧(a.fld 3).int=(a.fld 3).int∧(a.fld 4).int=(a.fld 4).int∧(a.fld 5).int=(a.fld 5).int∧(a.fld 6).int=(a.fld 6).int∧(a.fld 7).int=(a.fld 7).int∧List.take (a.fld 8).list.length (a.fld 8).list=(a.fld 8).list∧(a.fld 9).str=(a.fld 9).str∧List.take (a.fld 10).list.length (a.fld 10).list=(a.fld 10).list∧(a.fld 11).int=(a.fld 11).int∧(a.fld 12).int=(a.fld 12).int∧(a.fld 13).int=(a.fld 13).int∧List.take (a.fld 14).list.length (a.fld 14).list=(a.fld 14).list∧List.take (a.fld 15).list.length (a.fld 15).list=(a.fld 15).list∧(a.fld 16).int=(a.fld 16).int∧List.take (a.fld 17).list.length (a.fld 17).list=(a.fld 17).list)=conGoal Tryz.prog (addS 81 clogC (addS 80 clone104K (addS 79 clone102K (addS 42 cloneK noS)))) lownC_an 200 46 lownC [a]:=by kernel_rfl
theorem lownC_ok:ConOK Tryz.prog Gl.none 46 lownC:=con_of mo (addS_ok clogC_ok (addS_ok clone104K_ok (addS_ok clone102K_ok (addS_ok cloneK_ok (noS_ok _))))) (an:=lownC_an) 200 fun ds hl hp=>by
 obtain ⟨a,rfl⟩:=len1 hl
 rw [← lownC_vc]
 have p0:FitP a:=hp _ (.head _)
 have h1:=p0.l1; have h8:=p0.l8; have h14:=p0.l14; have h10:=p0.l10; have h15:=p0.l15; have h17:=p0.l17
 refine ⟨h1,rfl,h8,h14,rfl,by omega,rfl,rfl,by omega,h10,p0.log,0,rfl,rfl,Nat.zero_le _,fun g h1=>cond_of (fun c=>?_) (fun c=>?_)⟩
 ·have c:g < (a.fld 17).list.length:=by simpa using c
  have he:=p0.rd _ (List.mem_of_getElem? (get_nthD c))
  have hp:D.t (setD (nthD (a.fld 17).list g).tup 2 (D.l ((nthD (a.fld 17).list g).fld 2).list))=nthD (a.fld 17).list g:=put2 he.eta
  rw [List.take_length,hp,setD_self c]
  exact ⟨rfl,rfl,⟨by omega,by omega⟩,⟨by omega,by omega⟩,rfl,he.acks,⟨by omega,by omega⟩,⟨by omega,by omega⟩,rfl,⟨by omega,by omega⟩,g + 1,by omega,rfl,by omega,by omega⟩
 ·simp only [List.take_length,and_self]
theorem mapE_at {f:D → D} {xs:List D} {g:Nat} (c:g < xs.length):List.take g (List.map f (xs.take g)) ++ [f (nthD xs g)]=List.map f (xs.take (g + 1)):=by
 have e:nthD xs g=xs[g]:=nthD_get (List.getElem?_eq_getElem c)
 rw [List.take_of_length_le (by rw [List.length_map,List.length_take]; omega),List.take_succ_eq_append_getElem c,List.map_append,e]; rfl
theorem mapE_end {f:D → D} {xs:List D}:List.take xs.length (List.map f xs)=List.map f xs:=List.take_of_length_le (by rw [List.length_map]; exact Nat.le_refl _)
theorem descL_mem {xs:List D} {d:D} (h:d ∈ descL xs):∃ e ∈ xs,d.int=e.int:=by
 rw [descL_eq] at h; unfold sortI at h
 obtain ⟨n,h1,rfl⟩:=List.mem_map.1 h
 rw [List.mem_mergeSort] at h1
 obtain ⟨e,h2,rfl⟩:=List.mem_map.1 h1
 exact ⟨e,h2,rfl⟩
theorem half_id {n:Nat} (h:n ≤ 17592186044416):IntKind.i64.wrap ((n:Int).tdiv 2)=((n / 2:Nat):Int):=by
 have e:(n:Int).tdiv 2=((n / 2:Nat):Int):=by rw [Int.ofNat_tdiv n 2]; rfl
 rw [e]; exact W.wrap_i64 (by omega) (by omega)
theorem haveL_U {a:D} (p:FitP a) (hf:∀ f ∈ (a.fld 15).list,U64 (f.fld 2).int):∀ d ∈ haveL a,U64 d.int:=by
 intro d hd
 unfold haveL at hd
 rcases List.mem_append.1 hd with hd | hd
 ·obtain ⟨f,h1,rfl⟩:=List.mem_map.1 hd
  exact hf f h1
 ·cases hi:inL (a.fld 1).list (a.fld 0).int with
  | false=>rw [hi] at hd; cases hd
  | true =>
   rw [hi,cond_true,List.mem_singleton] at hd
   subst hd
   exact lastI_U a p.base
theorem outAdv_eq {a:D} (m:mayB a=true) {n:Int} (h:advN a=n):outAdv a=comP a n:=by unfold outAdv; rw [m,cond_true,h]
end Go.Proofs.YtplflgclomiihaaGreat.XT
