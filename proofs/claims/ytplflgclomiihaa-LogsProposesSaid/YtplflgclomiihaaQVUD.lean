/- Contracts. -/
import Derived.Test.YtplflgclomiihaaQVUB
import Derived.Test.YtplflgclomiihaaQVTU
set_option linter.unusedVariables false
set_option linter.unusedSimpArgs false
namespace Go.Proofs.Ytplflgclomiihaa.XT
open Go Go.RowKit Go.Proofs.Ytplflgclomiihaa.Sv
def entD (t:Int) (s:ByteArray):D:=.t [.i t,.i 0,.s s,.l []]
def withLog (a:D) (l:List D):D:=.t [.i (a.fld 0).int,.l (a.fld 1).list,.i (a.fld 2).int,.i (a.fld 3).int,.i (a.fld 4).int,.i (a.fld 5).int,.i (a.fld 6).int,.i (a.fld 7).int,.l (a.fld 8).list,.s (a.fld 9).str,.l l,.i (a.fld 11).int,.i (a.fld 12).int,.i (a.fld 13).int,.l (a.fld 14).list,.l (a.fld 15).list,.i (a.fld 16).int,.l (a.fld 17).list]
def lgP (a:D) (s:ByteArray):D:=withLog a ((a.fld 10).list ++ [entD (a.fld 2).int s])
theorem take_app2 (xs:List D) (d:D):List.take (xs.length + [d].length) (xs ++ [d])=xs ++ [d]:=by
 rw [List.take_of_length_le (by rw [List.length_append]; exact Nat.le_refl _)]
theorem entKind_b {b:Bool} {e:D} (h:entKind b e=true):b=true:=by
 cases b with
 | true=>rfl
 | false=>unfold entKind at h; simp at h
theorem entB_le {fr to:Int} {e:D} (h:entB fr to e=true):fr ≤ (D.int (D.fld e 0))∧(D.int (D.fld e 0)) ≤ to:=by
 have:=entKind_b h
 rw [Bool.and_eq_true,decide_eq_true_iff,decide_eq_true_iff] at this
 exact this
theorem entsB_mono {to:Int}:∀ {xs:List D} {fr:Int},entsB xs fr to=true → ∀ i j,i ≤ j → j < xs.length → fr ≤ (D.int (D.fld (nthD xs i) 0))∧(D.int (D.fld (nthD xs i) 0)) ≤ (D.int (D.fld (nthD xs j) 0))∧(D.int (D.fld (nthD xs j) 0)) ≤ to
 | [],_,_,i,j,_,h=>absurd h (Nat.not_lt_zero _)
 | e :: r,fr,h,i,j,hij,hj=>by
  rw [entsB,Bool.and_eq_true] at h
  have h0:=entB_le h.1
  cases j with
  | zero =>
   have:i=0:=by omega
   subst this
   exact ⟨h0.1,Int.le_refl _,h0.2⟩
  | succ j =>
   have hj':j < r.length:=by simpa using hj
   cases i with
   | zero =>
    obtain ⟨h1,h2,h3⟩:=entsB_mono (xs:=r) h.2 j j (Nat.le_refl _) hj'
    exact ⟨h0.1,h1,h3⟩
   | succ i =>
    obtain ⟨h1,h2,h3⟩:=entsB_mono (xs:=r) h.2 i j (by omega) hj'
    exact ⟨Int.le_trans h0.1 h1,h2,h3⟩
def MonoL (xs:List D) (t:Int):Prop:=∀ i j,i ≤ j → j < xs.length → (D.int (D.fld (nthD xs i) 0)) ≤ (D.int (D.fld (nthD xs j) 0))∧(D.int (D.fld (nthD xs j) 0)) ≤ t
theorem nthD_apl {ys:List D}:∀ {xs:List D} {j:Nat},j < xs.length → nthD (xs ++ ys) j=nthD xs j
 | [],_,h=>absurd h (Nat.not_lt_zero _)
 | _ :: _,0,_=>rfl
 | _ :: r,j + 1,h=>nthD_apl (xs:=r) (by simpa using h)
theorem nthD_apr (xs:List D) (d:D):nthD (xs ++ [d]) xs.length=d:=nthD_mid (ys:=[])
theorem mono_le {xs:List D} {t u:Int} (h:MonoL xs t) (hu:t ≤ u):MonoL xs u:=fun i j h1 h2=>⟨(h i j h1 h2).1,Int.le_trans (h i j h1 h2).2 hu⟩
theorem mono_app {xs:List D} {e:D} {t:Int} (h:MonoL xs t) (he:(D.int (D.fld e 0))=t):MonoL (xs ++ [e]) t:=by
 intro i j hij hj
 rw [List.length_append,List.length_singleton] at hj
 by_cases k:j < xs.length
 ·rw [nthD_apl k,nthD_apl (show i < xs.length by omega)]; exact h i j hij k
 ·have k:j=xs.length:=by omega
  subst k
  rw [nthD_apr]
  by_cases k2:i < xs.length
  ·rw [nthD_apl k2]
   have:=(h i i (Nat.le_refl _) k2).2
   exact ⟨by omega,by omega⟩
  ·have k2:i=xs.length:=by omega
   subst k2
   rw [nthD_apr]
   exact ⟨Int.le_refl _,by omega⟩
theorem termI_ent {a:D} {i:Int} (h0:U64 (a.fld 6).int) (hb:(a.fld 6).int ≤ 4611686018427387904) (hl:(a.fld 10).list.length ≤ 1000000) (h1:(a.fld 6).int < i) (h2:i ≤ ((lastIf (D.int (D.fld a 6)) (D.list (D.fld a 10))))):termI a i=(D.int (D.fld (nthD (a.fld 10).list (i - (a.fld 6).int - 1).toNat) 0)):=by
 have hB:termB a i=true:=by unfold termB; rw [decide_eq_false (by omega),decide_eq_false (by omega)]; rfl
 unfold termI
 rw [hB,cond_true,if_neg (by omega)]
theorem mono_of {a:D} (h0:U64 (a.fld 6).int) (hb:(a.fld 6).int ≤ 4611686018427387904) (hl:(a.fld 10).list.length ≤ 1000000) (hc:(a.fld 6).int ≤ (a.fld 11).int) (hm:MonoL (a.fld 10).list (a.fld 2).int):∀ i j,(a.fld 11).int < i → i ≤ j → j ≤ ((lastIf (D.int (D.fld a 6)) (D.list (D.fld a 10)))) → termI a i ≤ termI a j∧termI a j ≤ (a.fld 2).int:=by
 intro i j h1 h2 h3
 have hL:=last_ge h0 hb hl
 rw [termI_ent h0 hb hl (by omega) (by omega),termI_ent h0 hb hl (by omega) h3]
 exact hm _ _ (by omega) (by omega)
theorem idsB_lt {xs:List D} (h:idsB xs=true):∀ i j,i < j → j < xs.length → (nthD xs i).int < (nthD xs j).int:=by
 rw [idsB,List.all_eq_true] at h
 intro i j
 induction j with
 | zero=>intro h; omega
 | succ j ih =>
  intro hij hj
  have h2:=h (j + 1) (List.mem_range.2 hj)
  simp [okAt] at h2
  have h3:=h2.2
  by_cases k:i=j
  ·subst k; exact h3
  ·have:=ih (by omega) (by omega); omega
theorem may_dist {a:D} (h:MayP a):((a.fld 1).list.map D.int).Nodup:=by
 have hi:=idsB_lt (mems_ids h (((lastIf (D.int (D.fld a 6)) (D.list (D.fld a 10))))))
 have e:(a.fld 1).list.map D.int=(mems a (((lastIf (D.int (D.fld a 6)) (D.list (D.fld a 10)))))).map D.int:=h.mem
 rw [e]
 unfold List.Nodup
 rw [List.pairwise_iff_getElem]
 intro i j h1 h2 hij
 rw [List.length_map] at h1 h2
 have:=hi i j hij h2
 rw [nthD_get (List.getElem?_eq_getElem h1),nthD_get (List.getElem?_eq_getElem h2)] at this
 rw [List.getElem_map,List.getElem_map]
 omega
theorem may_mono {a:D} (h:MayP a):MonoL (a.fld 10).list (a.fld 2).int:=fun i j h1 h2=>(entsB_mono h.log i j h1 h2).2
theorem oth_ints (xs:List D) (n:Int):(othL xs n).map D.int=(xs.filter fun d=>!decide (d.int=n)).map D.int:=by
 unfold othL
 rw [List.map_map]; rfl
theorem may_ids {a:D} (hf:folB a (((lastIf (D.int (D.fld a 6)) (D.list (D.fld a 10)))))=true):(a.fld 15).list.map (fun f=>(f.fld 0).int)=((a.fld 1).list.filter fun d=>!decide (d.int=(a.fld 0).int)).map D.int:=by
 unfold folB at hf
 rw [Bool.and_eq_true,decide_eq_true_iff,dfl_ints] at hf
 have h2:=hf.2
 unfold ints fids at h2
 rw [List.map_map,oth_ints] at h2
 exact h2
theorem may_mt {a:D} (hf:folB a (((lastIf (D.int (D.fld a 6)) (D.list (D.fld a 10)))))=true) (hl:0 ≤ ((lastIf (D.int (D.fld a 6)) (D.list (D.fld a 10))))∧((lastIf (D.int (D.fld a 6)) (D.list (D.fld a 10)))) ≤ 9223372036854775808):∀ f ∈ (a.fld 15).list,(f.fld 2).int ≤ ((lastIf (D.int (D.fld a 6)) (D.list (D.fld a 10)))):=by
 intro f hm
 unfold folB at hf
 rw [Bool.and_eq_true,List.all_eq_true] at hf
 have h:=hf.1 f hm
 have e:u64 (((lastIf (D.int (D.fld a 6)) (D.list (D.fld a 10)))) + 1)=((lastIf (D.int (D.fld a 6)) (D.list (D.fld a 10)))) + 1:=u64_id ⟨by omega,by omega⟩
 unfold folAt at h
 rw [e] at h
 rw [Bool.not_eq_true',Bool.or_eq_false_iff,Bool.or_eq_false_iff,decide_eq_false_iff_not,decide_eq_false_iff_not,decide_eq_false_iff_not] at h
 omega
theorem may_fol {a:D} (h:MayP a) (r:(a.fld 4).int=2):folB a (((lastIf (D.int (D.fld a 6)) (D.list (D.fld a 10)))))=true:=by
 rcases h.role with ⟨k,_⟩ | ⟨k,_⟩ | ⟨_,k⟩
 ·omega
 ·omega
 ·unfold mayL2 at k
  rw [Bool.and_eq_true,Bool.and_eq_true] at k
  exact k.1.2
theorem advH_may {a:D} (p:FitP a) (h:MayP a) (r:(a.fld 4).int=2):AdvH a:=by
 have hf:=may_fol h r
 have hL:=last_ge p.base h.base p.l10
 have h10:=p.l10; have hb:=h.base; have hb0:=p.base
 exact ⟨may_ids hf,may_dist h,may_mt hf ⟨by omega,by omega⟩,mono_of p.base h.base p.l10 h.com0 (may_mono h)⟩
theorem advH_lg {a:D} {s:ByteArray} (p:FitP a) (h:MayP a) (r:(a.fld 4).int=2) (h10:(a.fld 10).list.length ≤ 1000):AdvH (lgP a s):=by
 have h0:=advH_may p h r
 have hb:=h.base; have hb0:=p.base
 have hl:((lgP a s).fld 10).list.length ≤ 1000000:=by
  show ((a.fld 10).list ++ [entD (a.fld 2).int s]).length ≤ 1000000
  rw [List.length_append,List.length_singleton]; omega
 have hL:=last_ge p.base h.base p.l10
 have hL2:((lastIf (D.int (D.fld (lgP a s) 6)) (D.list (D.fld (lgP a s) 10))))=((lgP a s).fld 6).int + ((lgP a s).fld 10).list.length:=last_ge (a:=lgP a s) p.base h.base hl
 have hlen:(((lgP a s).fld 10).list.length:Int)=(a.fld 10).list.length + 1:=by
  show (((a.fld 10).list ++ [entD (a.fld 2).int s]).length:Int)=_
  rw [List.length_append,List.length_singleton]; omega
 refine ⟨h0.ids,h0.dist,fun f hf=>?_,mono_of (a:=lgP a s) p.base h.base hl h.com0 (mono_app (may_mono h) rfl)⟩
 have:=h0.mt f hf
 have e6:((lgP a s).fld 6).int=(a.fld 6).int:=rfl
 rw [hL2,hlen,e6]
 omega
theorem advH_win {a:D} {b:Int} (p:FitP a) (h:MayP a) (h10:(a.fld 10).list.length ≤ 1000) (ht:(a.fld 2).int < 4611686018427387904):AdvH (winP (candP a b)):=by
 have hb:=h.base; have hb0:=p.base
 have hl:((winP (candP a b)).fld 10).list.length ≤ 1000000:=by
  show ((a.fld 10).list ++ [noopE (u64 ((a.fld 2).int + 1))]).length ≤ 1000000
  rw [List.length_append,List.length_singleton]; omega
 have hL2:((lastIf (D.int (D.fld (winP (candP a b)) 6)) (D.list (D.fld (winP (candP a b)) 10))))=((winP (candP a b)).fld 6).int + ((winP (candP a b)).fld 10).list.length:=last_ge (a:=winP (candP a b)) p.base h.base hl
 have hT:=p.term
 have hu:u64 ((a.fld 2).int + 1)=(a.fld 2).int + 1:=u64_id ⟨by omega,by omega⟩
 have hd:=may_dist h
 have hm:MonoL (a.fld 10).list (u64 ((a.fld 2).int + 1)):=mono_le (may_mono h) (by omega)
 have hm2:MonoL ((a.fld 10).list ++ [noopE (u64 ((a.fld 2).int + 1))]) (u64 ((a.fld 2).int + 1)):=mono_app hm rfl
 refine ⟨?_,hd,fun f hf=>?_,mono_of (a:=winP (candP a b)) p.base h.base hl h.com0 hm2⟩
 ·show ((othL (a.fld 1).list (a.fld 0).int).map (folE (lastW (candP a b)))).map (fun f=>(f.fld 0).int)=_
  rw [List.map_map,← oth_ints]; rfl
 ·obtain ⟨d,hd,rfl⟩:=List.mem_map.1 hf
  show (0:Int) ≤ _
  have e6:((winP (candP a b)).fld 6).int=(a.fld 6).int:=rfl
  rw [hL2,e6]
  omega
theorem advR_eq' {a:D} (h:(a.fld 4).int=2 → AdvH a):advR a=advN a:=by
 by_cases r:(a.fld 4).int=2
 ·exact advR_eq (h r)
 ·unfold advR advN
  rw [decide_eq_false r]; rfl
theorem advN_U {a:D} (p:FitP a) (hf:∀ f ∈ (a.fld 15).list,U64 (f.fld 2).int):U64 (advN a):=by
 have hm:(a.fld 1).list.length / 2 < (haveL a).length → U64 (midN a):=by
  intro hk
  have hl':(a.fld 1).list.length / 2 < (descL (haveL a)).length:=by rw [descL_len]; exact hk
  obtain ⟨x,hx,hxe⟩:=descL_mem (List.mem_of_getElem? (get_nthD hl'))
  unfold midN
  rw [hxe]
  exact haveL_U p hf x hx
 unfold advN
 cases h:(decide ((a.fld 4).int=2) && decide ((a.fld 1).list.length / 2 < (haveL a).length) && decide ((a.fld 11).int < midN a) && decide (termI a (midN a)=(a.fld 2).int)) with
 | false=>exact p.com
 | true =>
  rw [Bool.and_eq_true,Bool.and_eq_true,Bool.and_eq_true] at h
  exact hm (of_decide_eq_true h.1.1.2)
theorem fitP_com {a:D} {n:Int} (p:FitP a) (hn:U64 n):FitP (comP a n):=⟨p.l1,p.l8,p.l14,p.l10,p.l15,p.l17,p.log,p.rd,p.fol,p.i1,p.i14,p.base,p.bt,p.term,p.round,hn,p.role⟩
theorem fitP_idle {a:D} (p:FitP a):FitP (idleP a):=⟨p.l1,p.l8,p.l14,p.l10,p.l15,p.l17,p.log,p.rd,p.fol,p.i1,p.i14,p.base,p.bt,p.term,p.round,p.com,p.role⟩
theorem fitP_cand {a:D} {b:Int} (p:FitP a):FitP (candP a b):=⟨p.l1,p.l8,by show 1 ≤ 17592186044416; omega,p.l10,p.l15,p.l17,p.log,p.rd,p.fol,p.i1,by
 intro d hd
 have hd:d ∈ [D.i (a.fld 0).int]:=hd
 rw [List.mem_singleton] at hd
 rw [hd]; rfl,p.base,p.bt,u64_in _,p.round,p.com,by show (0:Int) ≤ 1; omega⟩
theorem fitE_plain {t:Int} {s:ByteArray} (ht:U64 t):FitE (entD t s):=⟨rfl,Nat.zero_le _,ht,Int.le_refl 0⟩
theorem fitE_noop {t:Int} (ht:U64 t):FitE (noopE t):=⟨rfl,Nat.zero_le _,ht,by show (0:Int) ≤ 1; omega⟩
theorem log_app {xs:List D} {e:D} (h:∀ x ∈ xs,FitE x) (he:FitE e):∀ x ∈ xs ++ [e],FitE x:=by
 intro x hx
 rcases List.mem_append.1 hx with hx | hx
 ·exact h x hx
 ·rw [List.mem_singleton] at hx; rw [hx]; exact he
theorem fitP_lg {a:D} {s:ByteArray} (p:FitP a) (h:(a.fld 10).list.length ≤ 1000):FitP (lgP a s):=⟨p.l1,p.l8,p.l14,by
 show ((a.fld 10).list ++ [entD (a.fld 2).int s]).length ≤ 1000000
 rw [List.length_append,List.length_singleton]; omega,p.l15,p.l17,log_app p.log (fitE_plain p.term),p.rd,p.fol,p.i1,p.i14,p.base,p.bt,p.term,p.round,p.com,p.role⟩
theorem oth_len (xs:List D) (n:Int):(othL xs n).length ≤ xs.length:=by
 unfold othL
 rw [List.length_map]
 exact List.length_filter_le _ _
theorem fitP_win {a:D} (p:FitP a) (h:(a.fld 10).list.length ≤ 1000) (h1:(a.fld 1).list.length ≤ 1000000):FitP (winP a):=⟨p.l1,p.l8,Nat.zero_le _,by
 show ((a.fld 10).list ++ [noopE (a.fld 2).int]).length ≤ 1000000
 rw [List.length_append,List.length_singleton]; omega,by
 show ((othL (a.fld 1).list (a.fld 0).int).map (folE (lastW a))).length ≤ 1000000
 rw [List.length_map]
 exact Nat.le_trans (oth_len _ _) h1,p.l17,log_app p.log (fitE_noop p.term),p.rd,by
 intro f hf
 have hf:f ∈ (othL (a.fld 1).list (a.fld 0).int).map (folE (lastW a)):=hf
 obtain ⟨d,_,rfl⟩:=List.mem_map.1 hf
 rfl,p.i1,(fun d hd=>absurd hd List.not_mem_nil),p.base,p.bt,p.term,p.round,p.com,by show (0:Int) ≤ 2; omega⟩
theorem win_U {a:D}:∀ f ∈ ((winP a).fld 15).list,U64 (f.fld 2).int:=by
 intro f hf
 have hf:f ∈ (othL (a.fld 1).list (a.fld 0).int).map (folE (lastW a)):=hf
 obtain ⟨d,_,rfl⟩:=List.mem_map.1 hf
 exact ⟨Int.le_refl 0,by show (0:Int) ≤ _; omega⟩
theorem tick_H {a : D} {b : Int} (p : FitP a) (hf : ∀ f ∈ (a.fld 15).list, U64 (f.fld 2).int) (m : mayB a = true) (h10 : (a.fld 10).list.length ≤ 1000) (r : ¬ (a.fld 4).int = 2) :
    FitP (tickP a b) ∧ (∀ f ∈ ((tickP a b).fld 15).list, U64 (f.fld 2).int) ∧ ((tickP a b).fld 6).int ≤ 4611686018427387904 ∧ (((tickP a b).fld 4).int = 2 → AdvH (tickP a b)) := by
  have hM := mayB_iff.1 m
  have hb := hM.base
  unfold tickP
  rw [decide_eq_false r, cond_false]
  cases q : quietB a with
  | true =>
    rw [cond_true]
    exact ⟨fitP_idle p, hf, hb, fun k => absurd k r⟩
  | false =>
    rw [cond_false]
    unfold wonP
    have ht : (a.fld 2).int < 4611686018427387904 := by
      unfold quietB at q
      rw [Bool.or_eq_false_iff, decide_eq_false_iff_not] at q
      omega
    cases majB (candP a b) with
    | false =>
      rw [cond_false]
      refine ⟨fitP_cand p, hf, hb, fun k => ?_⟩
      have k : (1 : Int) = 2 := k
      omega
    | true =>
      rw [cond_true]
      have h1 := may_len hM
      exact ⟨fitP_win (fitP_cand p) h10 (by show (a.fld 1).list.length ≤ 1000000; omega), win_U, hb, fun _ => advH_win p hM h10 ht⟩
theorem ids_fnd {fs:List D} (h:(fs.map fun f=>(f.fld 0).int).Nodup):∀ {g:Nat},g < fs.length → fndI fs ((nthD fs g).fld 0).int=g:=by
 intro g hg
 refine fnd_at hg (fun j hj=>?_) rfl
 intro e
 rw [List.Nodup,List.pairwise_iff_getElem] at h
 have hj':j < fs.length:=by omega
 have:=h j g (by simpa using hj') (by simpa using hg) hj
 rw [List.getElem_map,List.getElem_map,← nthD_get (List.getElem?_eq_getElem hj'),← nthD_get (List.getElem?_eq_getElem hg)] at this
 exact this e
end Go.Proofs.Ytplflgclomiihaa.XT
