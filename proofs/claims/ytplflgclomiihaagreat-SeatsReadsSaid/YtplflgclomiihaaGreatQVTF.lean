/- Contracts. -/
import Derived.Test.YtplflgclomiihaaGreatQVTE
set_option linter.unusedVariables false
set_option linter.unusedSimpArgs false
namespace Go.Proofs.YtplflgclomiihaaGreat.XT
open Go Go.RowKit Go.Proofs.YtplflgclomiihaaGreat.Sv Go.Proofs.YtplflgclomiihaaGreat.W
set_option maxRecDepth 100000
def memsC:Con:=⟨ksM,fun ds=>(fun (a:D) (b:D)=>[(a.fld 10).list.length < 4611686018427387904,U64 (a.fld 6).int,U64 b.int,(a.fld 8).list.length ≤ 17592186044416,∀ e ∈ (a.fld 10).list,(e.fld 3).list.length ≤ 17592186044416]) (nthD ds 0) (nthD ds 1),resM,fun ds=>[.l (mems (nthD ds 0) (nthD ds 1).int)],fun _=>[]⟩
theorem c20_eq:c20=seqs pre20 t20:=by kernel_rfl
theorem t20_eq:t20=.seq (.seq ask20 (.block 0 (.rangeFunc (.tmp 27) #[28,29] (asgOf rng20) (bodyOf rng20)))) end20:=by kernel_rfl
theorem call95:Callable Tryz.prog 95:=⟨_,Tryz.func95,by first | decide | kernel_rfl,by rfl⟩
theorem isM_ok {A:AE} (h:isM A=true):A.get 7=some (.ptr 1 0)∧A.get 27=some (.fn 95 [.ptr 2 0]):=by
 unfold isM at h
 split at h
 case h_2=>cases h
 rename_i a f d e1 e2
 simp only [Bool.and_eq_true] at h
 obtain ⟨⟨h1,h2⟩,h3⟩:=h
 rw [Nat.eq_of_beq_eq_true h1] at e1
 rw [Nat.eq_of_beq_eq_true h2,Nat.eq_of_beq_eq_true h3] at e2
 exact ⟨e1,e2⟩
theorem ids3 {s:Sg} {bs:List Nat} (h:Ids s 0 bs) (hl:bs.length=3):∃ b2 b7 b25,bs=[b2,b7,b25]∧(∃ p,s.f 1=some p∧p.b=b7)∧(∃ p,s.f 2=some p∧p.b=b25):=by
 match bs,hl,h with
 | [a,b,c],_,⟨h1,h2,h3,_⟩=>exact ⟨a,b,c,rfl,h2,h3⟩
theorem ptr_at {s:Sg} {l b:Nat} {v:Value} (h:Rel s (.ptr l 0) v) (hb:∃ p,s.f l=some p∧p.b=b):v=.pointer (some ⟨b,0,none⟩):=by
 obtain ⟨p,h1,rfl⟩:=hb
 simp only [Rel] at h
 obtain ⟨q,h2,h3⟩:=h
 rw [h1] at h2; cases h2
 exact h3
theorem memL_len {base xs:List D} {n:Nat} (h1:base.length ≤ n) (h2:∀ e ∈ xs,(e.fld 3).list.length ≤ n):∀ m,m ≤ xs.length → (memL base xs m).length ≤ n
 | 0,_=>h1
 | m + 1,h=>by
  rw [memL]
  split
  ·exact h2 _ (List.mem_of_getElem? (get_nthD (by omega)))
  ·exact memL_len h1 h2 m (by omega)
theorem memsC_ok:ConOK Tryz.prog Gl.none 70 memsC:=by
 intro F G w vs ds bs hgl hgb hF hGF hnd hbF hargs hlen hpre
 obtain ⟨a,b,rfl⟩:=len2 hlen
 have p0:(a.fld 10).list.length < 4611686018427387904:=hpre _ (.head _)
 have p1:U64 (a.fld 6).int:=hpre _ (.tail _ (.head _))
 have p2:U64 b.int:=hpre _ (.tail _ (.tail _ (.head _)))
 have p3:(a.fld 8).list.length ≤ 17592186044416:=hpre _ (.tail _ (.tail _ (.tail _ (.head _))))
 have p4:∀ e ∈ (a.fld 10).list,(e.fld 3).list.length ≤ 17592186044416:=hpre _ (.tail _ (.tail _ (.tail _ (.tail _ (.head _)))))
 have hargs0:ArgsRd F G w ksM [a,b] vs bs:=hargs
 obtain ⟨v0,vs0,rfl,_,v1,vs1,rfl,_,rfl,rfl⟩:=hargs
 refine Fnc.of_WX (n:=38) (fn:=Tryz.f70) (c:=c20) Tryz.func70 rfl Tryz.ntmps70 (by simp) ?_
 intro E hE
 have h0:E 0=v0:=hE 0 (by simp)
 have h1:E 1=v1:=hE 1 (by simp)
 rw [c20_eq]
 obtain ⟨s,k1,k2,k3,k4,k5,k6,k7,k8⟩:=seg_start (Γ:=Gl.none) hgl hgb hF hGF hnd hbF hargs0
 have hg:=gP_ok (a:=a) (b:=b) p0 p1 p2
 unfold gP at hg
 refine pre_ok mo S20_ok 200 70 38 pre20 _ _ _ hg (putTs_ne _ _) k8 s w E w k5 (putTs_ok [0,1] _ _ k6 ⟨_,_,rfl,h0,_,_,rfl,h1,rfl⟩) ?_ ?_ (fun i A st h=>h)
 ·intro A st s1 E' w' hk hA hn hle hH hE'
  rw [t20_eq]
  have hk:evCode Tryz.prog S20 noAn 200 70 38 ask20 A st (kQ a b.int):=hk
  refine WX.seqRange (WP.mono (code_ok mo S20_ok 200 70 38 ask20 A st _ hk hA hn s1 w E' w' hH hE') ?_ ?_ ?_)
  ·rintro E1 w1 ⟨A5,st5,s5,hk5,hle5,hH5,hE5⟩
   have hk5:(bif isM A5 then (bif termB a b.int then segB ksQ (esQ a b.int) st5 else False) else False):=hk5
   cases his:isM A5 with
   | false=>rw [his] at hk5; exact hk5.elim
   | true =>
   rw [his,cond_true] at hk5
   cases htb:termB a b.int with
   | false=>rw [htb] at hk5; exact hk5.elim
   | true =>
   rw [htb] at hk5
   have hk5:segB ksQ (esQ a b.int) st5:=hk5
   obtain ⟨a7,a27⟩:=isM_ok his
   obtain ⟨bs,hI,hbl,hnd5,_⟩:=hasB_ids hH5 3 0 (segB_has hk5)
   obtain ⟨hx1,G',hsub,hfz,hnew,hB,hfree⟩:=segB_ok hk5 hH5 hI hbl
   obtain ⟨b2,b7,b25,rfl,i7,i25⟩:=ids3 hI hbl
   have hle05:s.le s5:=hle.trans hle5
   have hX:s5.X=[]:=by rw [hle05.X,k1]
   rw [hX] at hx1
   have hsub0:Sub G G':=by
    have:=hle05.G
    rw [k4] at this
    exact fun b o hb=>hsub b o (this b o hb)
   have hnew0:∀ b,G b=none → G' b ≠ none → w.heap.size ≤ b:=fun b hb hb'=>by
    rcases hnew b hb' with g | g
    ·rw [hle05.G0,k2] at g; exact absurd hb g
    ·exact g
   have e7:=ptr_at (hE5 7 _ a7) i7
   have e27:E1 27=.func (.func 95) #[] #[.pointer (some ⟨b25,0,none⟩)]:=by
    have h:=hE5 27 _ a27
    simp only [Rel] at h
    obtain ⟨vs,hr,e⟩:=h
    obtain ⟨v,vs',q1,q2,rfl⟩:=hr.uncons
    have:=q2.unnil
    subst this
    rw [e,ptr_at q1 i25]
   have hge:∀ c ∈ [b2,b7,b25],w.heap.size ≤ c:=fun c hc=>by
    rcases (hfree c hc).2 with h | h
    ·exact h
    ·rw [hX] at h; simp at h
   obtain ⟨y2,r2,qa,⟨c2,m2,n2⟩,y7,r7,qb,⟨c7,m7,n7⟩,y25,r25,qc,⟨c25,m25,n25⟩,_⟩:=hB
   cases qa; cases qb; cases qc
   have l7:=heap_lt m7; have l25:=heap_lt m25
   have g7:=hge b7 (by simp); have g25:=hge b25 (by simp)
   have n725:b7 ≠ b25:=by
    simp only [List.nodup_cons,List.mem_cons,List.not_mem_nil,or_false,not_or] at hnd5
    exact hnd5.2.1
   have p25:=rds1 n25
   simp only [Rd,nthD,D.list,D.tup,esQ,tailD] at p25
   obtain ⟨v,hv,hs25⟩:=p25
   subst hv
   have hxs:(upTo a b.int).length ≤ (a.fld 10).list.length:=by rw [upTo,List.length_take]; omega
   have hmem:∀ e ∈ upTo a b.int,(e.fld 3).list.length ≤ 17592186044416:=fun e he=>p4 e (List.mem_of_mem_take he)
   have hG'L:G' (w1.heap.size + 1)=none:=by
    cases hg:G' (w1.heap.size + 1) with
    | none=>rfl
    | some o=>have:=heap_lt (hfz _ o hg); omega
   have hG'D:G' w1.heap.size=none:=by
    cases hg:G' w1.heap.size with
    | none=>rfl
    | some o=>have:=heap_lt (hfz _ o hg); omega
   have hG'7:G' b7=none:=(hfree b7 (by simp)).1
   have hws:=hx1.size
   refine ⟨95,#[.pointer (some ⟨b25,0,none⟩)],e27,call95,fun w4=>Ext [] w w4∧Blk w4 w1.heap.size (.deferred (some []))∧∃ G2:Fz,Sub G G2∧(∀ c o,G2 c=some o → w4.heap[c]?=some o)∧(∀ c,G c=none → G2 c ≠ none → w.heap.size ≤ c)∧G2 b7=none∧G2 w1.heap.size=none∧BoxesRd G2 w4 ksL [.t [.l (memL (a.fld 8).list (upTo a b.int) (upTo a b.int).length)]] [b7],?_,?_⟩
   ·intro rec hst hpe htm hE0 hpar hasg hbody W1 hxW hsW hdW hlW
    have aft:∀ (r:Loop) (l:List D) w3 w4,St20 r (w1.heap.size + 1) b7 W1 G' l w3 → Ext [w1.heap.size + 1] w3 w4 → Ext [] w w4∧Blk w4 w1.heap.size (.deferred (some []))∧∃ G2:Fz,Sub G G2∧(∀ c o,G2 c=some o → w4.heap[c]?=some o)∧(∀ c,G c=none → G2 c ≠ none → w.heap.size ≤ c)∧G2 b7=none∧G2 w1.heap.size=none∧BoxesRd G2 w4 ksL [.t [.l l]] [b7]:=by
     rintro r l w3 w4 ⟨i1,i2,i3,G2,i5,i6,i7',i8⟩ hx4
     have hno:∀ c,c < W1.heap.size → G' c=none → G2 c=none:=fun c hc h=>by
      cases hg:G2 c with
      | none=>rfl
      | some o=>have:=i7' c h (by rw [hg]; simp); omega
     have hL2:=hno _ (by omega) hG'L
     refine ⟨Ext.skip (hx1.trans hxW) (i1.trans (hx4.mono (by simp))) (by intro y hy; simp at hy; omega),(hdW.ext i1 (by simp; omega)).ext hx4 (by simp),G2,fun c o hc=>i5 c o (hsub0 c o hc),fun c o hc=>Ext.keepB hx4 (i6 c o hc) (by intro hm; simp at hm; subst hm; rw [hL2] at hc; cases hc),fun c hc hc'=>?_,hno _ (by omega) hG'7,hno _ (by omega) hG'D,BoxesRd.ext hx4 _ _ _ i8 (by intro c hc hm; simp at hc hm; omega)⟩
     cases hg:G' c with
     | none=>have:=i7' c hg hc'; omega
     | some o=>exact hnew0 c hc (by rw [hg]; simp)
    refine Fnc.mono (iterBack (w:=W1) (b:=b25) (l:=w1.heap.size + 1) (v:=v) (G1:=G') (xs:=upTo a b.int) (I:=fun k w'=>St20 rec (w1.heap.size + 1) b7 W1 G' (a.fld 8).list w'∧∀ j,k ≤ j → j < (upTo a b.int).length → ((nthD (upTo a b.int) j).fld 1).int ≠ 2) (J:=fun w'=>St20 { rec with state:=.done,pending:=some (.exit 0) } (w1.heap.size + 1) b7 W1 G' (memL (a.fld 8).list (upTo a b.int) (upTo a b.int).length) w') (by omega) hs25 ?_ ?_ ?_) ?_
    ·exact ⟨⟨Ext.refl _ _,hlW,fun c o hc=>Ext.keepB hxW (hfz c o hc) (by simp),G',fun c o h=>h,fun c o hc=>Ext.keepB hxW (hfz c o hc) (by simp),fun c h h'=>absurd h h',_,_,rfl,⟨c7,Ext.keepB hxW m7 (by simp),n7⟩,trivial⟩,fun j h1 h2=>by omega⟩
    ·rintro k w2 ⟨h,_⟩
     exact ⟨h.2.2.1,(Box.ext m25 hxW (by simp)).ext h.1 (by simp; omega),rec,h.2.1,by rw [hpar]; rfl⟩
    ·rintro k w2 cs r hk2 ⟨hI2,hno2⟩ hrd hlr
     have hrr:r=rec:=by
      have h1:w2.heap[w1.heap.size + 1]?=some (.loop r):=hlr
      have h2:w2.heap[w1.heap.size + 1]?=some (.loop rec):=hI2.2.1
      rw [h2] at h1; cases h1; rfl
     subst hrr
     exact round20 (by omega) (by omega) hst hpe htm hE0 hpar hasg hbody e7 hG'7 hG'L hk2 hI2 hno2 hrd
    ·rintro _ w3 (⟨hI3,hno3⟩ | hJ)
     ·refine ⟨rec,hI3.2.1,by rw [hst]; decide,.inl hpe,fun w4 hx4=>?_⟩
      rw [memL_no fun j hj=>hno3 j (Nat.zero_le _) hj]
      exact aft _ _ w3 w4 hI3 hx4
     ·exact ⟨_,hJ.2.1,by simp,.inr rfl,fun w4 hx4=>aft _ _ w3 w4 hJ hx4⟩
   ·rintro w4 ⟨hx4,hd4,G2,j1,j2,j3,j4,j5,j6⟩
    obtain ⟨z7,s7,e,⟨d7,m,n⟩,_⟩:=j6
    cases e
    have hgo:gE (.l (memL (a.fld 8).list (upTo a b.int) (upTo a b.int).length)):=gE_ok (memL_len p3 hmem _ (Nat.le_refl _))
    unfold gE at hgo
    have hws4:=hx4.size
    refine seg_ret (Γ:=Gl.none) mo S20_ok 200 70 (fn:=Tryz.f70) end20 (F:=G2) (G:=G2) (ks:=ksE) (ds:=[.t [.l (memL (a.fld 8).list (upTo a b.int) (upTo a b.int).length)]]) (out:=[.l (memL (a.fld 8).list (upTo a b.int) (upTo a b.int).length)]) (res:=resM) (ts:=[7]) (bs:=[b7]) Tryz.ntmps70 (by rfl) (by rfl) trivial (fun _ _=>Nat.zero_le _) j2 (Sub.refl _) (by simp) (by simpa using j4) j5 hd4 (by simp; omega) ⟨_,_,_,_,rfl,rfl,rfl,⟨d7,m,n⟩,rfl,rfl⟩ ⟨_,_,rfl,e7,rfl⟩ hgo ?_
    rintro v5 w5 ⟨G3,os,rs,q1,q2,q3,q4,q5,q6,q7,q8⟩
    refine ⟨G3,os,rs,Ext.skip hx4 q1 (by intro y hy; simp at hy; omega),fun c o hc=>q2 c o (j1 c o hc),q3,fun c hc hc'=>?_,q5,fun c hc=>⟨by have:=(q6 c hc).1; omega,(q6 c hc).2⟩,?_,q8,trivial⟩
    ·cases hg:G2 c with
     | none=>have:=q4 c hg hc'; omega
     | some o=>exact j3 c hc (by rw [hg]; simp)
    ·have hm:mems a b.int=memL (a.fld 8).list (upTo a b.int) (upTo a b.int).length:=by rw [mems,htb]; rfl
     show OutsRd G3 w5 resM [.l (mems a b.int)] rs os
     rw [hm]
     exact q7
  ·rintro i E1 w1 ⟨A5,st5,s5,hk5,_⟩; exact hk5.elim
  ·rintro E1 w1 ⟨A5,st5,s5,hk5,_⟩; exact hk5.elim
 ·intro A st s1 E' w' hk hle hH hE' a1 ha he
  refine PostM.plain Tryz.ntmps70 ha ?_
  rw [he]
  have hk:finA Tryz.f70.results.toList Tryz.prog ksM [] resM [.l (mems a b.int)] A st:=hk
  exact fin_ok k1 k2 k4 k7 rfl hk hle hH hE' (fun v w' h=>h)
end Go.Proofs.YtplflgclomiihaaGreat.XT
