/- My texts, cut to what this claim needs and merged. -/
import Derived.Test.YtiaicihpocoeiaaB10
import Derived.Test.YtiaicihpocoeiaaB4
import Derived.Test.YtiaicihpocoeiaaB5
namespace Go.Proofs.Ytiaicihpocoeiaa.X1
open T W Go.RowKit
set_option maxRecDepth 100000
set_option maxHeartbeats 400000
theorem cl5:Callable Try.prog 5:=⟨Try.f5,Try.func5,by kernel_rfl,rfl⟩
theorem cl6:Callable Try.prog 6:=⟨Try.f6,Try.func6,by kernel_rfl,rfl⟩
theorem cl8:Callable Try.prog 8:=⟨Try.f8,Try.func8,by kernel_rfl,rfl⟩
theorem cl9:Callable Try.prog 9:=⟨Try.f9,Try.func9,by kernel_rfl,rfl⟩
theorem cl11:Callable Try.prog 11:=⟨Try.f11,Try.func11,by kernel_rfl,rfl⟩
theorem cl12:Callable Try.prog 12:=⟨Try.f12,Try.func12,by kernel_rfl,rfl⟩
theorem cl10:Callable Try.prog 10:=⟨Try.f10,Try.func10,by kernel_rfl,rfl⟩
theorem cl13:Callable Try.prog 13:=⟨Try.f13,Try.func13,by kernel_rfl,rfl⟩
theorem sameReadB_refl (a:ReadD):sameReadB a a = true:=by simp [sameReadB,eqB_refl ieq_refl]
theorem sameFolB_refl (a:FollowD):sameFolB a a = true:=by simp [sameFolB]
theorem samePeerB_refl (a:PeerD):samePeerB a a = true:=by simp [samePeerB,seqB_refl,eqB_refl ieq_refl,eqB_refl sameEntB_refl,eqB_refl sameFolB_refl,eqB_refl sameReadB_refl]
set_option maxHeartbeats 8000000 in
theorem law_KeepDiffs {w:World} {X:List Nat} {p:PeerD} {c_p:List Value} (h_p:peerR.rd X w c_p p) {q:PeerD} {c_q:List Value} (h_q:peerR.rd X w c_q q) (hX:∀ x ∈ X,x < w.heap.size) (hsp:KSz p) (hsq:KSz q):Fnc Try.prog 3 #[.agg c_p.toArray,.agg c_q.toArray] w (fun v w'=>v = .bool (true) ∧ Ext [] w w'):=by
 obtain ⟨v1,v3,v5,v7,v9,Bq,rfl,hl2,hl4,hl6,hl8,Amm,Amn,Cu⟩:=h_p
 obtain ⟨Awe,Awf,Awg,Awh,Awi,Awj,Awk,Awl,Awm,Awn,Awo,Awp⟩:=(show PeerD.InR p from Cu)
 obtain ⟨Bi,Bj,Bk,Bl,Bm,Bn,rfl,Amo,Amp,Amq,Amr,Ams,Amt,Cf⟩:=h_q
 obtain ⟨Awq,Awr,Aws,Awt,Awu,Awv,Aww,Awx,Awy,Awz,Aw0,Aw1⟩:=(show PeerD.InR q from Cf)
 have hFp:=hsp.fits
 have hFq:=hsq.fits
 refine Fnc.of_WP (n:=64) Try.func3 rfl Try.ntmps3 (by simp) ?_
 intro E hE
 have h0:E 0 = .agg (peerA p v1 v3 v5 v7 v9 Bq):=hE 0 (by simp)
 have h1:E 1 = .agg (peerA q Bi Bj Bk Bl Bm Bn):=hE 1 (by simp)
 clear hE
 refine WP.sr ?_
 refine WL.box (x:=.tmp 0) (cs:=(peerC p v1 v3 v5 v7 v9 Bq)) (Sure.none rfl) rfl rfl h0 rfl (fun Aa w64 Co Azs Ul=>?_)
 have Amu:=(Sl.new (b:=Aa) nz1 hl2 (by omega)).ext (Ext.any Co)
 have Amv:=(Sl.new (b:=Aa) nz1 hl4 (by omega)).ext (Ext.any Co)
 have Amw:=(Sl.new (b:=Aa) nz4 hl6 (by omega)).ext (Ext.any Co)
 have Amx:=(Sl.new (b:=Aa) nz1 hl8 (by omega)).ext (Ext.any Co)
 have Amy:=(Sl.new (b:=Aa) nz3 Amm (by omega)).ext (Ext.any Co)
 have Amz:=(Sl.new (b:=Aa) nz3 Amn (by omega)).ext (Ext.any Co)
 have Am0:=(Sl.new (b:=Aa) nz1 Amo (by omega)).ext (Ext.any Co)
 have Am1:=(Sl.new (b:=Aa) nz1 Amp (by omega)).ext (Ext.any Co)
 have Am2:=(Sl.new (b:=Aa) nz4 Amq (by omega)).ext (Ext.any Co)
 have Am3:=(Sl.new (b:=Aa) nz1 Amr (by omega)).ext (Ext.any Co)
 have Am4:=(Sl.new (b:=Aa) nz3 Ams (by omega)).ext (Ext.any Co)
 have Am5:=(Sl.new (b:=Aa) nz3 Amt (by omega)).ext (Ext.any Co)
 have Um:Ext [Aa] _ _:=(Ext.refl _ _).trans (Ext.any Co)
 have F0:w.heap.size ≤ Aa:=by have:=Nat.le_refl w.heap.size; omega
 refine WL.box (x:=.tmp 1) (cs:=(peerC q Bi Bj Bk Bl Bm Bn)) (Sure.none rfl) rfl rfl h1 rfl (fun Ab Q0 Cm Azt Am6=>?_)
 have Afg:Aa < Ab:=by have:=Ul.lt; omega
 have Un:=Ul.ext Cm (by simp)
 have Kg:=(Sl.new (b:=Ab) nz1 Amu (by omega)).ext (Ext.any Cm)
 have Kh:=(Sl.new (b:=Ab) nz1 Amv (by omega)).ext (Ext.any Cm)
 have Ki:=(Sl.new (b:=Ab) nz4 Amw (by omega)).ext (Ext.any Cm)
 have Kj:=(Sl.new (b:=Ab) nz1 Amx (by omega)).ext (Ext.any Cm)
 have Kk:=(Sl.new (b:=Ab) nz3 Amy (by omega)).ext (Ext.any Cm)
 have Kl:=(Sl.new (b:=Ab) nz3 Amz (by omega)).ext (Ext.any Cm)
 have Gn:=(Sl.new (b:=Ab) nz1 Am0 (by omega)).ext (Ext.any Cm)
 have Gp:=(Sl.new (b:=Ab) nz1 Am1 (by omega)).ext (Ext.any Cm)
 have Gq:=(Sl.new (b:=Ab) nz4 Am2 (by omega)).ext (Ext.any Cm)
 have Gr:=(Sl.new (b:=Ab) nz1 Am3 (by omega)).ext (Ext.any Cm)
 have Gs:=(Sl.new (b:=Ab) nz3 Am4 (by omega)).ext (Ext.any Cm)
 have Gt:=(Sl.new (b:=Ab) nz3 Am5 (by omega)).ext (Ext.any Cm)
 have Am7:Ext [Ab,Aa] _ _:=(Ext.cons Um).trans (Ext.any Cm)
 have F1:w.heap.size ≤ Ab:=by have:=Um.size; omega
 refine WL.m rfl ?_
 refine WL.nil ?_
 refine WP.seq ?_
 refine WP.sr ?_
 refine WL.z (.agg (peerA p v1 v3 v5 v7 v9 Bq)) (V.loadAgg (cs:=(peerC p v1 v3 v5 v7 v9 Bq)) rfl a29 rfl (At.box Un) rfl) ?_
 refine WL.c (Sure.none rfl) rfl (C.call1 rfl cl5 rfl) (Fnc.mono (law_small (p:=p) ⟨v1,v3,v5,v7,v9,Bq,rfl,Kg,Kh,Ki,Kj,Kk,Kl,Cu⟩ (by assumption)) ?_)
 rintro _ Uo ⟨rfl,Ic⟩
 have Q1:Ext [Ab,Aa] w Uo:=Am7.trans (Ext.any (Y:=[Ab,Aa]) Ic)
 have D5:Ext [Ab,Aa] Q0 Uo:=(Ext.any (Y:=[Ab,Aa]) Ic)
 have Afh:=Un.ext Ic (by simp)
 have Q2:=Am6.ext Ic (by simp)
 refine WL.z (.bool (!(smallK p))) (V.not rfl rfl) ?_
 refine WL.vbn (c:=smallK p) (Sure.none rfl) rfl (V.move rfl rfl) (fun Afi=>?_) (fun Afi=>?_)
 ·refine WL.skips [(14,some true)] [(18,some true)] (kc (some true) rfl kn) (by kernel_rfl) (fun Azu hK108 Aw2=>?_)
  refine WP.cond_true (hK108 18 (some true) rfl) ?_
  refine WP.sr ?_
  refine WL.c (Sure.none rfl) rfl (C.call0 rfl cl6 ) (Fnc.mono (law_alive ) ?_)
  rintro _ Am8 ⟨rfl,Afj⟩
  have Afk:Ext [Ab,Aa] w Am8:=Q1.trans (Ext.any (Y:=[Ab,Aa]) Afj)
  refine WL.m rfl ?_
  refine WL.nil ?_
  refine WP.ret ?_
  refine resOf.c1 rfl (v:=.bool (true)) rfl ?_
  exact ⟨(bool_eq (by rfl)),((Afk).done (geCons F1 (geCons F0 geNil)))⟩
 refine WL.y (.agg (peerA q Bi Bj Bk Bl Bm Bn)) rfl (V.loadAgg (cs:=(peerC q Bi Bj Bk Bl Bm Bn)) rfl a29 rfl (At.box Q2) rfl) ?_
 refine WL.c (Sure.yes rfl rfl rfl) rfl (C.call1 rfl cl5 rfl) (Fnc.mono (law_small (p:=q) ⟨Bi,Bj,Bk,Bl,Bm,Bn,rfl,(Gn.ext (Ext.pre D5)),(Gp.ext (Ext.pre D5)),(Gq.ext (Ext.pre D5)),(Gr.ext (Ext.pre D5)),(Gs.ext (Ext.pre D5)),(Gt.ext (Ext.pre D5)),Cf⟩ (by assumption)) ?_)
 rintro _ Ae ⟨rfl,Ie⟩
 have Gx:Ext [Ab,Aa] w Ae:=Q1.trans (Ext.any (Y:=[Ab,Aa]) Ie)
 have B8:Ext [Ab,Aa] Q0 Ae:=D5.trans (Ext.any (Y:=[Ab,Aa]) Ie)
 have Afl:=Afh.ext Ie (by simp)
 have Afm:=Q2.ext Ie (by simp)
 refine WL.y (.bool (!(smallK q))) rfl (V.not rfl rfl) ?_
 refine WL.k (a:=false) rfl rfl ?_
 refine WL.nil ?_
 refine WP.condn (t:=smallK q) rfl (fun Afn=>?_) (fun Afn=>?_)
 ·refine WP.sr ?_
  refine WL.c (Sure.none rfl) rfl (C.call0 rfl cl6 ) (Fnc.mono (law_alive ) ?_)
  rintro _ Am9 ⟨rfl,Afo⟩
  have Afp:Ext [Ab,Aa] w Am9:=Gx.trans (Ext.any (Y:=[Ab,Aa]) Afo)
  refine WL.m rfl ?_
  refine WL.nil ?_
  refine WP.ret ?_
  refine resOf.c1 rfl (v:=.bool (true)) rfl ?_
  exact ⟨(bool_eq (by rfl)),((Afp).done (geCons F1 (geCons F0 geNil)))⟩
 refine WP.skip ?_
 refine WP.seq ?_
 refine WP.post (J:=fun E w'=>∃ (b5 b6:Nat) (c5 c6:List Value),E 2 = .pointer (some ⟨Aa,0,none⟩) ∧ E 3 = .pointer (some ⟨Ab,0,none⟩) ∧ E 4 = .bool (false) ∧ E 5 = .pointer (some ⟨b5,0,none⟩) ∧ E 6 = .pointer (some ⟨b6,0,none⟩) ∧ Ext [Ab,Aa] Ae w' ∧ Box w' Aa 29 (peerC p v1 v3 v5 v7 v9 Bq) ∧ Box w' Ab 29 (peerC q Bi Bj Bk Bl Bm Bn) ∧ Box w' b5 29 c5 ∧ Box w' b6 29 c6 ∧ peerR.rd (b6 :: (b5 :: (Ab :: (Aa :: X)))) w' c5 p ∧ peerR.rd (b6 :: (b5 :: (Ab :: (Aa :: X)))) w' c6 q ∧ Aa < b5 ∧ Ab < b5 ∧ Aa < b6 ∧ Ab < b6 ∧ b5 < b6 + (b5 - b6) + 1 ∧ b5 ≠ b6 ∧ Ae.heap.size ≤ b5 ∧ Ae.heap.size ≤ b6) ?_ ?_
 ·refine WP.anyT [1,3,4,5,6,7] [⟨0,.agg (peerA p v1 v3 v5 v7 v9 Bq),fun w=>Box w Aa 29 (peerC p v1 v3 v5 v7 v9 Bq),false,false⟩,⟨2,.agg (peerA q Bi Bj Bk Bl Bm Bn),fun w=>Box w Ab 29 (peerC q Bi Bj Bk Bl Bm Bn),false,false⟩] mo (by kernel_rfl) (by kernel_rfl) (by kernel_rfl) (by kernel_rfl) ⟨.inr ⟨(fun h=>Bool.noConfusion h),_,rfl,?_⟩,.inr ⟨(fun h=>Bool.noConfusion h),_,rfl,?_⟩,trivial⟩ ?_
  ·intro E' w' hC hE hp
   replace hC:Box w' Aa 29 (peerC p v1 v3 v5 v7 v9 Bq):=hC
   exact ⟨Sure.none rfl,V.loadAgg (x:=.tmp 2) (cs:=(peerC p v1 v3 v5 v7 v9 Bq)) rfl a29 ((hE 2 (by kernel_rfl)).trans rfl) (At.box hC) rfl⟩
  ·intro E' w' hC hE hp
   replace hC:Box w' Ab 29 (peerC q Bi Bj Bk Bl Bm Bn):=hC
   exact ⟨Sure.none rfl,V.loadAgg (x:=.tmp 3) (cs:=(peerC q Bi Bj Bk Bl Bm Bn)) rfl a29 ((hE 3 (by kernel_rfl)).trans rfl) (At.box hC) rfl⟩
  ·intro Aw3 Qp Gy Aj Br
   have If:Ext [Ab,Aa] w Qp:=Gx.trans (Ext.any (Y:=[Ab,Aa]) Gy)
   have Am:Ext [Ab,Aa] Q0 Qp:=B8.trans (Ext.any (Y:=[Ab,Aa]) Gy)
   have Gz:Ext [Ab,Aa] Ae Qp:=(Ext.any (Y:=[Ab,Aa]) Gy)
   have D6:=Afl.ext Gy (by simp)
   have D7:=Afm.ext Gy (by simp)
   refine Tree.node (rs:=[1,4,5]) (by kernel_rfl) ⟨(fun _ _=>D6),(fun _ _=>D7),trivial⟩ ⟨⟨_,rfl,[3,4,5,6,7],by kernel_rfl,?_⟩,⟨_,rfl,[1,3,5,6,7],by kernel_rfl,?_⟩,⟨_,rfl,[1,3,4,6,7],by kernel_rfl,?_⟩,trivial⟩
   ·intro Azv Aw4 Afq
    refine WL.c (Sure.none rfl) rfl (C.call1 (x:=.tmp 20) rfl cl7 ((Afq 0 (by kernel_rfl) 20 rfl).trans (Br 0 _ 20 rfl rfl))) (Fnc.mono (ref_Own (p:=p) ⟨v1,v3,v5,v7,v9,Bq,rfl,(Kg.ext (Ext.pre Am)),(Kh.ext (Ext.pre Am)),(Ki.ext (Ext.pre Am)),(Kj.ext (Ext.pre Am)),(Kk.ext (Ext.pre Am)),(Kl.ext (Ext.pre Am)),Cu⟩ (by assumption) (X:=(Ab :: (Aa :: X))) (inCons D7.lt (inCons D6.lt (inMono hX If.size)))) ?_)
    rintro _ Mc ⟨Aw5,rfl,Afr,G0⟩
    have Md:Ext [Ab,Aa] w Mc:=If.trans (Ext.any (Y:=[Ab,Aa]) G0)
    have Bh:Ext [Ab,Aa] Q0 Mc:=Am.trans (Ext.any (Y:=[Ab,Aa]) G0)
    have G1:Ext [Ab,Aa] Ae Mc:=Gz.trans (Ext.any (Y:=[Ab,Aa]) G0)
    have F2:=D6.ext G0 (by simp)
    have D8:=D7.ext G0 (by simp)
    obtain ⟨Bb,Bc,Bd,Be,Bf,Bg,rfl,Ig,Ih,Ii,Ij,Ik,Il,D9⟩:=Afr
    obtain ⟨Asa,Asb,Asc,Asd,Ase,Asf,Asg,Ash,Asi,Asj,Ask,Asl⟩:=(show PeerD.InR p from D9)
    refine WL.nil ⟨_,rfl,cstN rfl,?_⟩
    refine Tree.node (rs:=[3,4,5]) (by kernel_rfl) ⟨offN (by kernel_rfl),(fun _ _=>D8),trivial⟩ ⟨⟨_,rfl,[4,5,6,7],by kernel_rfl,?_⟩,⟨_,rfl,[3,5,6,7],by kernel_rfl,?_⟩,⟨_,rfl,[3,4,6,7],by kernel_rfl,?_⟩,trivial⟩
    ·intro Azw Aw6 Afs
     refine WL.c (Sure.none rfl) rfl (C.call1 (x:=.tmp 22) rfl cl7 ((Afs 2 (by kernel_rfl) 22 rfl).trans (Br 2 _ 22 rfl rfl))) (Fnc.mono (ref_Own (p:=q) ⟨Bi,Bj,Bk,Bl,Bm,Bn,rfl,(Gn.ext (Ext.pre Bh)),(Gp.ext (Ext.pre Bh)),(Gq.ext (Ext.pre Bh)),(Gr.ext (Ext.pre Bh)),(Gs.ext (Ext.pre Bh)),(Gt.ext (Ext.pre Bh)),Cf⟩ (by assumption) (X:=(Ab :: (Aa :: X))) (inCons D8.lt (inCons F2.lt (inMono hX Md.size)))) ?_)
     rintro _ Up ⟨Aw7,rfl,Aft,Im⟩
     have In:Ext [Ab,Aa] Ae Up:=G1.trans (Ext.any (Y:=[Ab,Aa]) Im)
     have Cg:Ext [Ab,Aa] Mc Up:=(Ext.any (Y:=[Ab,Aa]) Im)
     have Io:=F2.ext Im (by simp)
     have Ip:=D8.ext Im (by simp)
     obtain ⟨Fe,Ff,Fg,Fh,Fi,Fj,rfl,Q3,Q4,Q5,Q6,Q7,Q8,Me⟩:=Aft
     obtain ⟨Asm,Asn,Aso,Asp,Asq,Asr,Ass,Ast,Asu,Asv,Asw,Asx⟩:=(show PeerD.InR q from Me)
     refine WL.nil ⟨_,rfl,cstN rfl,?_⟩
     refine Tree.node (rs:=[4,5]) (by kernel_rfl) ⟨offN (by kernel_rfl),offN (by kernel_rfl),trivial⟩ ⟨⟨_,rfl,[5,6,7],by kernel_rfl,?_⟩,⟨_,rfl,[4,6,7],by kernel_rfl,?_⟩,trivial⟩
     ·intro Azx Aw8 Aw9
      refine WL.alloc (cs:=peerZ) (Sure.none rfl) rfl rfl z29 rfl (fun Au Azy B2 Axa Q9=>?_)
      have Aeu:Aa < Au:=by have:=Io.lt; omega
      have Ra:=Io.ext B2 (by simp)
      have Aev:Ab < Au:=by have:=Ip.lt; omega
      have Rb:=Ip.ext B2 (by simp)
      have Afu:=(Sl.new (b:=Au) nz1 (Ig.ext (Ext.pre Cg)) (by omega)).ext (Ext.any B2)
      have Afv:=(Sl.new (b:=Au) nz1 (Ih.ext (Ext.pre Cg)) (by omega)).ext (Ext.any B2)
      have Afw:=(Sl.new (b:=Au) nz4 (Ii.ext (Ext.pre Cg)) (by omega)).ext (Ext.any B2)
      have Afx:=(Sl.new (b:=Au) nz1 (Ij.ext (Ext.pre Cg)) (by omega)).ext (Ext.any B2)
      have Afy:=(Sl.new (b:=Au) nz3 (Ik.ext (Ext.pre Cg)) (by omega)).ext (Ext.any B2)
      have Afz:=(Sl.new (b:=Au) nz3 (Il.ext (Ext.pre Cg)) (by omega)).ext (Ext.any B2)
      have Af0:=(Sl.new (b:=Au) nz1 Q3 (by omega)).ext (Ext.any B2)
      have Af1:=(Sl.new (b:=Au) nz1 Q4 (by omega)).ext (Ext.any B2)
      have Af2:=(Sl.new (b:=Au) nz4 Q5 (by omega)).ext (Ext.any B2)
      have Af3:=(Sl.new (b:=Au) nz1 Q6 (by omega)).ext (Ext.any B2)
      have Af4:=(Sl.new (b:=Au) nz3 Q7 (by omega)).ext (Ext.any B2)
      have Af5:=(Sl.new (b:=Au) nz3 Q8 (by omega)).ext (Ext.any B2)
      have Rc:Ext [Au,Ab,Aa] _ _:=(Ext.cons In).trans (Ext.any B2)
      have H4:Ae.heap.size ≤ Au:=by have:=In.size; omega
      refine WL.nil ⟨_,rfl,cstN rfl,?_⟩
      refine Tree.node (rs:=[5]) (by kernel_rfl) ⟨offN (by kernel_rfl),offN (by kernel_rfl),trivial⟩ ⟨⟨_,rfl,[6,7],by kernel_rfl,?_⟩,trivial⟩
      intro Azz Axb Axc
      refine WL.alloc (cs:=peerZ) (Sure.none rfl) rfl rfl z29 rfl (fun A4 Uq Bs Axd Af6=>?_)
      have Aew:Aa < A4:=by have:=Ra.lt; omega
      have Af7:=Ra.ext Bs (by simp)
      have Aex:Ab < A4:=by have:=Rb.lt; omega
      have Af8:=Rb.ext Bs (by simp)
      have T1:Au < A4:=by have:=Q9.lt; omega
      have Af9:=Q9.ext Bs (by simp)
      have Aga:=(Sl.new (b:=A4) nz1 Afu (by omega)).ext (Ext.any Bs)
      have Agb:=(Sl.new (b:=A4) nz1 Afv (by omega)).ext (Ext.any Bs)
      have Agc:=(Sl.new (b:=A4) nz4 Afw (by omega)).ext (Ext.any Bs)
      have Agd:=(Sl.new (b:=A4) nz1 Afx (by omega)).ext (Ext.any Bs)
      have Age:=(Sl.new (b:=A4) nz3 Afy (by omega)).ext (Ext.any Bs)
      have Agf:=(Sl.new (b:=A4) nz3 Afz (by omega)).ext (Ext.any Bs)
      have Agg:=(Sl.new (b:=A4) nz1 Af0 (by omega)).ext (Ext.any Bs)
      have Agh:=(Sl.new (b:=A4) nz1 Af1 (by omega)).ext (Ext.any Bs)
      have Agi:=(Sl.new (b:=A4) nz4 Af2 (by omega)).ext (Ext.any Bs)
      have Agj:=(Sl.new (b:=A4) nz1 Af3 (by omega)).ext (Ext.any Bs)
      have Agk:=(Sl.new (b:=A4) nz3 Af4 (by omega)).ext (Ext.any Bs)
      have Agl:=(Sl.new (b:=A4) nz3 Af5 (by omega)).ext (Ext.any Bs)
      have Agm:Ext [A4,Au,Ab,Aa] _ _:=(Ext.cons Rc).trans (Ext.any Bs)
      have H5:Ae.heap.size ≤ A4:=by have:=Rc.size; omega
      refine WL.nil ⟨_,rfl,cstN rfl,?_⟩
      refine Tree.node (rs:=[6]) (by kernel_rfl) ⟨offN (by kernel_rfl),offN (by kernel_rfl),trivial⟩ ⟨⟨_,rfl,[7],by kernel_rfl,?_⟩,trivial⟩
      intro Az0 Axe Rd
      refine WL.storeAgg (x:=.tmp 5) (y:=.tmp 21) (vs:=(peerC p Bb Bc Bd Be Bf Bg)) (Sure.none rfl) rfl rfl s29 ((Rd 4 (by kernel_rfl) 5 rfl).trans rfl) ((Rd 1 (by kernel_rfl) 21 rfl).trans rfl) rfl (by intro u hu; simp only [List.mem_cons,List.not_mem_nil,or_false] at hu; rcases hu with rfl | rfl | rfl | rfl | rfl | rfl | rfl | rfl | rfl | rfl | rfl | rfl | rfl | rfl | rfl | rfl | rfl | rfl <;> first | rfl | exact Sl.one (by assumption)) Af9 (by show (0:Nat) + 18 ≤ 18; decide) (fun Qq G2 Mf=>?_)
      replace Mf:Box Qq Au 29 (peerC p Bb Bc Bd Be Bf Bg):=Mf
      have Agn:=Af7.ext G2 (by simp; omega)
      have Ago:=Af8.ext G2 (by simp; omega)
      have Agp:=Af6.ext G2 (by simp; omega)
      have Agq:Ext [A4,Au,Ab,Aa] Ae Qq:=Agm.trans (G2.mono (by simp))
      have Agr:Ext [A4,Au,Ab,Aa] Uq Qq:=(G2.mono (by simp))
      refine WL.nil ⟨_,rfl,cstN rfl,?_⟩
      refine Tree.node (rs:=[7]) (by kernel_rfl) ⟨offN (by kernel_rfl),offN (by kernel_rfl),trivial⟩ ⟨⟨_,rfl,[],by kernel_rfl,?_⟩,trivial⟩
      intro Az1 Axf Re
      refine WL.storeAgg (x:=.tmp 6) (y:=.tmp 23) (vs:=(peerC q Fe Ff Fg Fh Fi Fj)) (Sure.none rfl) rfl rfl s29 ((Re 5 (by kernel_rfl) 6 rfl).trans rfl) ((Re 3 (by kernel_rfl) 23 rfl).trans rfl) rfl (by intro u hu; simp only [List.mem_cons,List.not_mem_nil,or_false] at hu; rcases hu with rfl | rfl | rfl | rfl | rfl | rfl | rfl | rfl | rfl | rfl | rfl | rfl | rfl | rfl | rfl | rfl | rfl | rfl <;> first | rfl | exact Sl.one (by assumption)) Agp (by show (0:Nat) + 18 ≤ 18; decide) (fun Km G3 Mg=>?_)
      replace Mg:Box Km A4 29 (peerC q Fe Ff Fg Fh Fi Fj):=Mg
      have Ags:=Agn.ext G3 (by simp; omega)
      have Agt:=Ago.ext G3 (by simp; omega)
      have Agu:=Mf.ext G3 (by simp; omega)
      have Agv:Ext [A4,Au,Ab,Aa] Ae Km:=Agq.trans (G3.mono (by simp))
      have Ch:Ext [A4,Au,Ab,Aa] Uq Km:=Agr.trans (G3.mono (by simp))
      refine WL.nil ⟨_,rfl,cstN rfl,?_⟩
      refine Tree.leaf ?_
      exact ⟨Au,A4,_,_,((Aj 2 (by kernel_rfl)).trans rfl),((Aj 3 (by kernel_rfl)).trans rfl),((Aj 4 (by kernel_rfl)).trans rfl),rfl,rfl,(Ext.drop (Ext.drop Agv H5) H4),Ags,Agt,Agu,Mg,(peerR.mono (show peerR.rd (A4 :: (Au :: (Ab :: (Aa :: X)))) Km (peerC p Bb Bc Bd Be Bf Bg) p from ⟨Bb,Bc,Bd,Be,Bf,Bg,rfl,(Aga.ext (Ext.pre Ch)),(Agb.ext (Ext.pre Ch)),(Agc.ext (Ext.pre Ch)),(Agd.ext (Ext.pre Ch)),(Age.ext (Ext.pre Ch)),(Agf.ext (Ext.pre Ch)),D9⟩) (fun b hb=>by simp only [List.mem_cons] at hb ⊢; rcases hb with h | h | h | h | h <;> simp [h])),(peerR.mono (show peerR.rd (A4 :: (Au :: (Ab :: (Aa :: X)))) Km (peerC q Fe Ff Fg Fh Fi Fj) q from ⟨Fe,Ff,Fg,Fh,Fi,Fj,rfl,(Agg.ext (Ext.pre Ch)),(Agh.ext (Ext.pre Ch)),(Agi.ext (Ext.pre Ch)),(Agj.ext (Ext.pre Ch)),(Agk.ext (Ext.pre Ch)),(Agl.ext (Ext.pre Ch)),Me⟩) (fun b hb=>by simp only [List.mem_cons] at hb ⊢; rcases hb with h | h | h | h | h <;> simp [h])),by omega,by omega,by omega,by omega,by omega,by omega,by omega,by omega⟩
     ·intro Az2 Axg Axh
      refine WL.alloc (cs:=peerZ) (Sure.none rfl) rfl rfl z29 rfl (fun Av Az3 B3 Axi Rf=>?_)
      have Aey:Aa < Av:=by have:=Io.lt; omega
      have Rg:=Io.ext B3 (by simp)
      have Aez:Ab < Av:=by have:=Ip.lt; omega
      have Rh:=Ip.ext B3 (by simp)
      have Agw:=(Sl.new (b:=Av) nz1 (Ig.ext (Ext.pre Cg)) (by omega)).ext (Ext.any B3)
      have Agx:=(Sl.new (b:=Av) nz1 (Ih.ext (Ext.pre Cg)) (by omega)).ext (Ext.any B3)
      have Agy:=(Sl.new (b:=Av) nz4 (Ii.ext (Ext.pre Cg)) (by omega)).ext (Ext.any B3)
      have Agz:=(Sl.new (b:=Av) nz1 (Ij.ext (Ext.pre Cg)) (by omega)).ext (Ext.any B3)
      have Ag0:=(Sl.new (b:=Av) nz3 (Ik.ext (Ext.pre Cg)) (by omega)).ext (Ext.any B3)
      have Ag1:=(Sl.new (b:=Av) nz3 (Il.ext (Ext.pre Cg)) (by omega)).ext (Ext.any B3)
      have Ag2:=(Sl.new (b:=Av) nz1 Q3 (by omega)).ext (Ext.any B3)
      have Ag3:=(Sl.new (b:=Av) nz1 Q4 (by omega)).ext (Ext.any B3)
      have Ag4:=(Sl.new (b:=Av) nz4 Q5 (by omega)).ext (Ext.any B3)
      have Ag5:=(Sl.new (b:=Av) nz1 Q6 (by omega)).ext (Ext.any B3)
      have Ag6:=(Sl.new (b:=Av) nz3 Q7 (by omega)).ext (Ext.any B3)
      have Ag7:=(Sl.new (b:=Av) nz3 Q8 (by omega)).ext (Ext.any B3)
      have Ri:Ext [Av,Ab,Aa] _ _:=(Ext.cons In).trans (Ext.any B3)
      have H6:Ae.heap.size ≤ Av:=by have:=In.size; omega
      refine WL.nil ⟨_,rfl,cstN rfl,?_⟩
      refine Tree.node (rs:=[4]) (by kernel_rfl) ⟨offN (by kernel_rfl),offN (by kernel_rfl),trivial⟩ ⟨⟨_,rfl,[6,7],by kernel_rfl,?_⟩,trivial⟩
      intro Az4 Axj Axk
      refine WL.alloc (cs:=peerZ) (Sure.none rfl) rfl rfl z29 rfl (fun A5 Ur Bt Axl Ag8=>?_)
      have Ae0:Aa < A5:=by have:=Rg.lt; omega
      have Ag9:=Rg.ext Bt (by simp)
      have Ae1:Ab < A5:=by have:=Rh.lt; omega
      have Aha:=Rh.ext Bt (by simp)
      have T2:Av < A5:=by have:=Rf.lt; omega
      have Ahb:=Rf.ext Bt (by simp)
      have Ahc:=(Sl.new (b:=A5) nz1 Agw (by omega)).ext (Ext.any Bt)
      have Ahd:=(Sl.new (b:=A5) nz1 Agx (by omega)).ext (Ext.any Bt)
      have Ahe:=(Sl.new (b:=A5) nz4 Agy (by omega)).ext (Ext.any Bt)
      have Ahf:=(Sl.new (b:=A5) nz1 Agz (by omega)).ext (Ext.any Bt)
      have Ahg:=(Sl.new (b:=A5) nz3 Ag0 (by omega)).ext (Ext.any Bt)
      have Ahh:=(Sl.new (b:=A5) nz3 Ag1 (by omega)).ext (Ext.any Bt)
      have Ahi:=(Sl.new (b:=A5) nz1 Ag2 (by omega)).ext (Ext.any Bt)
      have Ahj:=(Sl.new (b:=A5) nz1 Ag3 (by omega)).ext (Ext.any Bt)
      have Ahk:=(Sl.new (b:=A5) nz4 Ag4 (by omega)).ext (Ext.any Bt)
      have Ahl:=(Sl.new (b:=A5) nz1 Ag5 (by omega)).ext (Ext.any Bt)
      have Ahm:=(Sl.new (b:=A5) nz3 Ag6 (by omega)).ext (Ext.any Bt)
      have Ahn:=(Sl.new (b:=A5) nz3 Ag7 (by omega)).ext (Ext.any Bt)
      have Aho:Ext [A5,Av,Ab,Aa] _ _:=(Ext.cons Ri).trans (Ext.any Bt)
      have H7:Ae.heap.size ≤ A5:=by have:=Ri.size; omega
      refine WL.nil ⟨_,rfl,cstN rfl,?_⟩
      refine Tree.node (rs:=[6]) (by kernel_rfl) ⟨offN (by kernel_rfl),offN (by kernel_rfl),trivial⟩ ⟨⟨_,rfl,[7],by kernel_rfl,?_⟩,trivial⟩
      intro Az5 Axm Rj
      refine WL.storeAgg (x:=.tmp 5) (y:=.tmp 21) (vs:=(peerC p Bb Bc Bd Be Bf Bg)) (Sure.none rfl) rfl rfl s29 ((Rj 4 (by kernel_rfl) 5 rfl).trans rfl) ((Rj 1 (by kernel_rfl) 21 rfl).trans rfl) rfl (by intro u hu; simp only [List.mem_cons,List.not_mem_nil,or_false] at hu; rcases hu with rfl | rfl | rfl | rfl | rfl | rfl | rfl | rfl | rfl | rfl | rfl | rfl | rfl | rfl | rfl | rfl | rfl | rfl <;> first | rfl | exact Sl.one (by assumption)) Ag8 (by show (0:Nat) + 18 ≤ 18; decide) (fun Qr G4 Mh=>?_)
      replace Mh:Box Qr A5 29 (peerC p Bb Bc Bd Be Bf Bg):=Mh
      have Ahp:=Ag9.ext G4 (by simp; omega)
      have Ahq:=Aha.ext G4 (by simp; omega)
      have Ahr:=Ahb.ext G4 (by simp; omega)
      have Ahs:Ext [A5,Av,Ab,Aa] Ae Qr:=Aho.trans (G4.mono (by simp))
      have Aht:Ext [A5,Av,Ab,Aa] Ur Qr:=(G4.mono (by simp))
      refine WL.nil ⟨_,rfl,cstN rfl,?_⟩
      refine Tree.node (rs:=[7]) (by kernel_rfl) ⟨offN (by kernel_rfl),offN (by kernel_rfl),trivial⟩ ⟨⟨_,rfl,[],by kernel_rfl,?_⟩,trivial⟩
      intro Az6 Axn Rk
      refine WL.storeAgg (x:=.tmp 6) (y:=.tmp 23) (vs:=(peerC q Fe Ff Fg Fh Fi Fj)) (Sure.none rfl) rfl rfl s29 ((Rk 5 (by kernel_rfl) 6 rfl).trans rfl) ((Rk 3 (by kernel_rfl) 23 rfl).trans rfl) rfl (by intro u hu; simp only [List.mem_cons,List.not_mem_nil,or_false] at hu; rcases hu with rfl | rfl | rfl | rfl | rfl | rfl | rfl | rfl | rfl | rfl | rfl | rfl | rfl | rfl | rfl | rfl | rfl | rfl <;> first | rfl | exact Sl.one (by assumption)) Ahr (by show (0:Nat) + 18 ≤ 18; decide) (fun Kn G5 Mi=>?_)
      replace Mi:Box Kn Av 29 (peerC q Fe Ff Fg Fh Fi Fj):=Mi
      have Ahu:=Ahp.ext G5 (by simp; omega)
      have Ahv:=Ahq.ext G5 (by simp; omega)
      have Ahw:=Mh.ext G5 (by simp; omega)
      have Ahx:Ext [A5,Av,Ab,Aa] Ae Kn:=Ahs.trans (G5.mono (by simp))
      have Ci:Ext [A5,Av,Ab,Aa] Ur Kn:=Aht.trans (G5.mono (by simp))
      refine WL.nil ⟨_,rfl,cstN rfl,?_⟩
      refine Tree.leaf ?_
      exact ⟨A5,Av,_,_,((Aj 2 (by kernel_rfl)).trans rfl),((Aj 3 (by kernel_rfl)).trans rfl),((Aj 4 (by kernel_rfl)).trans rfl),rfl,rfl,(Ext.drop (Ext.drop Ahx H7) H6),Ahu,Ahv,Ahw,Mi,(peerR.mono (show peerR.rd (A5 :: (Av :: (Ab :: (Aa :: X)))) Kn (peerC p Bb Bc Bd Be Bf Bg) p from ⟨Bb,Bc,Bd,Be,Bf,Bg,rfl,(Ahc.ext (Ext.pre Ci)),(Ahd.ext (Ext.pre Ci)),(Ahe.ext (Ext.pre Ci)),(Ahf.ext (Ext.pre Ci)),(Ahg.ext (Ext.pre Ci)),(Ahh.ext (Ext.pre Ci)),D9⟩) (fun b hb=>by simp only [List.mem_cons] at hb ⊢; rcases hb with h | h | h | h | h <;> simp [h])),(peerR.mono (show peerR.rd (A5 :: (Av :: (Ab :: (Aa :: X)))) Kn (peerC q Fe Ff Fg Fh Fi Fj) q from ⟨Fe,Ff,Fg,Fh,Fi,Fj,rfl,(Ahi.ext (Ext.pre Ci)),(Ahj.ext (Ext.pre Ci)),(Ahk.ext (Ext.pre Ci)),(Ahl.ext (Ext.pre Ci)),(Ahm.ext (Ext.pre Ci)),(Ahn.ext (Ext.pre Ci)),Me⟩) (fun b hb=>by simp only [List.mem_cons] at hb ⊢; rcases hb with h | h | h | h | h <;> simp [h])),by omega,by omega,by omega,by omega,by omega,by omega,by omega,by omega⟩
    ·intro Az7 Axo Axp
     refine WL.alloc (cs:=peerZ) (Sure.none rfl) rfl rfl z29 rfl (fun Ah Ana Bu Axq Iq=>?_)
     have Ae2:Aa < Ah:=by have:=F2.lt; omega
     have Ir:=F2.ext Bu (by simp)
     have Ae3:Ab < Ah:=by have:=D8.lt; omega
     have G6:=D8.ext Bu (by simp)
     have Rl:=(Sl.new (b:=Ah) nz1 (Gn.ext (Ext.pre Bh)) (by omega)).ext (Ext.any Bu)
     have Rm:=(Sl.new (b:=Ah) nz1 (Gp.ext (Ext.pre Bh)) (by omega)).ext (Ext.any Bu)
     have Rn:=(Sl.new (b:=Ah) nz4 (Gq.ext (Ext.pre Bh)) (by omega)).ext (Ext.any Bu)
     have Ro:=(Sl.new (b:=Ah) nz1 (Gr.ext (Ext.pre Bh)) (by omega)).ext (Ext.any Bu)
     have Rp:=(Sl.new (b:=Ah) nz3 (Gs.ext (Ext.pre Bh)) (by omega)).ext (Ext.any Bu)
     have Rq:=(Sl.new (b:=Ah) nz3 (Gt.ext (Ext.pre Bh)) (by omega)).ext (Ext.any Bu)
     have Rr:=(Sl.new (b:=Ah) nz1 Ig (by omega)).ext (Ext.any Bu)
     have Rt:=(Sl.new (b:=Ah) nz1 Ih (by omega)).ext (Ext.any Bu)
     have Rv:=(Sl.new (b:=Ah) nz4 Ii (by omega)).ext (Ext.any Bu)
     have Rw:=(Sl.new (b:=Ah) nz1 Ij (by omega)).ext (Ext.any Bu)
     have Rx:=(Sl.new (b:=Ah) nz3 Ik (by omega)).ext (Ext.any Bu)
     have Ry:=(Sl.new (b:=Ah) nz3 Il (by omega)).ext (Ext.any Bu)
     have Rz:Ext [Ah,Ab,Aa] _ _:=(Ext.cons Md).trans (Ext.any Bu)
     have Mj:Ext [Ah,Ab,Aa] _ _:=(Ext.cons G1).trans (Ext.any Bu)
     have Fc:Ae.heap.size ≤ Ah:=by have:=G1.size; omega
     refine WL.nil ⟨_,rfl,cstN rfl,?_⟩
     refine Tree.node (rs:=[3,5]) (by kernel_rfl) ⟨offN (by kernel_rfl),(fun _ _=>G6),trivial⟩ ⟨⟨_,rfl,[5,6,7],by kernel_rfl,?_⟩,⟨_,rfl,[3,6,7],by kernel_rfl,?_⟩,trivial⟩
     ·intro Az8 Axr Ahy
      refine WL.c (Sure.none rfl) rfl (C.call1 (x:=.tmp 22) rfl cl7 ((Ahy 2 (by kernel_rfl) 22 rfl).trans (Br 2 _ 22 rfl rfl))) (Fnc.mono (ref_Own (p:=q) ⟨Bi,Bj,Bk,Bl,Bm,Bn,rfl,Rl,Rm,Rn,Ro,Rp,Rq,Cf⟩ (by assumption) (X:=(Ah :: (Ab :: (Aa :: X)))) (inCons Iq.lt (inCons G6.lt (inCons Ir.lt (inMono hX Rz.size))))) ?_)
      rintro _ Us ⟨Axs,rfl,Ahz,G7⟩
      have R0:Ext [Ah,Ab,Aa] Ae Us:=Mj.trans (Ext.any (Y:=[Ah,Ab,Aa]) G7)
      have F3:Ext [Ah,Ab,Aa] Ana Us:=(Ext.any (Y:=[Ah,Ab,Aa]) G7)
      have R1:=Ir.ext G7 (by simp)
      have R2:=G6.ext G7 (by simp)
      have R3:=Iq.ext G7 (by simp)
      obtain ⟨Mk,Ml,Mm,Mn,Mo,Mp,rfl,Ah0,Ah1,Ah2,Ah3,Ah4,Ah5,R4⟩:=Ahz
      obtain ⟨Asy,Asz,As0,As1,As2,As3,As4,As5,As6,As7,As8,As9⟩:=(show PeerD.InR q from R4)
      refine WL.nil ⟨_,rfl,cstN rfl,?_⟩
      refine Tree.node (rs:=[5]) (by kernel_rfl) ⟨offN (by kernel_rfl),offN (by kernel_rfl),trivial⟩ ⟨⟨_,rfl,[6,7],by kernel_rfl,?_⟩,trivial⟩
      intro Az9 Axt Axu
      refine WL.alloc (cs:=peerZ) (Sure.none rfl) rfl rfl z29 rfl (fun A6 Ut Bv Axv Ah6=>?_)
      have Ae4:Aa < A6:=by have:=R1.lt; omega
      have Ah7:=R1.ext Bv (by simp)
      have Ae5:Ab < A6:=by have:=R2.lt; omega
      have Ah8:=R2.ext Bv (by simp)
      have T3:Ah < A6:=by have:=R3.lt; omega
      have Ah9:=R3.ext Bv (by simp)
      have Aia:=(Sl.new (b:=A6) nz1 (Rr.ext (Ext.pre F3)) (by omega)).ext (Ext.any Bv)
      have Aib:=(Sl.new (b:=A6) nz1 (Rt.ext (Ext.pre F3)) (by omega)).ext (Ext.any Bv)
      have Aic:=(Sl.new (b:=A6) nz4 (Rv.ext (Ext.pre F3)) (by omega)).ext (Ext.any Bv)
      have Aid:=(Sl.new (b:=A6) nz1 (Rw.ext (Ext.pre F3)) (by omega)).ext (Ext.any Bv)
      have Aie:=(Sl.new (b:=A6) nz3 (Rx.ext (Ext.pre F3)) (by omega)).ext (Ext.any Bv)
      have Aif:=(Sl.new (b:=A6) nz3 (Ry.ext (Ext.pre F3)) (by omega)).ext (Ext.any Bv)
      have Aig:=(Sl.new (b:=A6) nz1 Ah0 (by omega)).ext (Ext.any Bv)
      have Aih:=(Sl.new (b:=A6) nz1 Ah1 (by omega)).ext (Ext.any Bv)
      have Aii:=(Sl.new (b:=A6) nz4 Ah2 (by omega)).ext (Ext.any Bv)
      have Aij:=(Sl.new (b:=A6) nz1 Ah3 (by omega)).ext (Ext.any Bv)
      have Aik:=(Sl.new (b:=A6) nz3 Ah4 (by omega)).ext (Ext.any Bv)
      have Ail:=(Sl.new (b:=A6) nz3 Ah5 (by omega)).ext (Ext.any Bv)
      have Aim:Ext [A6,Ah,Ab,Aa] _ _:=(Ext.cons R0).trans (Ext.any Bv)
      have H8:Ae.heap.size ≤ A6:=by have:=R0.size; omega
      refine WL.nil ⟨_,rfl,cstN rfl,?_⟩
      refine Tree.node (rs:=[6]) (by kernel_rfl) ⟨offN (by kernel_rfl),offN (by kernel_rfl),trivial⟩ ⟨⟨_,rfl,[7],by kernel_rfl,?_⟩,trivial⟩
      intro Baa Axw R5
      refine WL.storeAgg (x:=.tmp 5) (y:=.tmp 21) (vs:=(peerC p Bb Bc Bd Be Bf Bg)) (Sure.none rfl) rfl rfl s29 ((R5 4 (by kernel_rfl) 5 rfl).trans rfl) ((R5 1 (by kernel_rfl) 21 rfl).trans rfl) rfl (by intro u hu; simp only [List.mem_cons,List.not_mem_nil,or_false] at hu; rcases hu with rfl | rfl | rfl | rfl | rfl | rfl | rfl | rfl | rfl | rfl | rfl | rfl | rfl | rfl | rfl | rfl | rfl | rfl <;> first | rfl | exact Sl.one (by assumption)) Ah9 (by show (0:Nat) + 18 ≤ 18; decide) (fun Qs G8 Mq=>?_)
      replace Mq:Box Qs Ah 29 (peerC p Bb Bc Bd Be Bf Bg):=Mq
      have Ain:=Ah7.ext G8 (by simp; omega)
      have Aio:=Ah8.ext G8 (by simp; omega)
      have Aip:=Ah6.ext G8 (by simp; omega)
      have Aiq:Ext [A6,Ah,Ab,Aa] Ae Qs:=Aim.trans (G8.mono (by simp))
      have Air:Ext [A6,Ah,Ab,Aa] Ut Qs:=(G8.mono (by simp))
      refine WL.nil ⟨_,rfl,cstN rfl,?_⟩
      refine Tree.node (rs:=[7]) (by kernel_rfl) ⟨offN (by kernel_rfl),offN (by kernel_rfl),trivial⟩ ⟨⟨_,rfl,[],by kernel_rfl,?_⟩,trivial⟩
      intro Bab Axx R6
      refine WL.storeAgg (x:=.tmp 6) (y:=.tmp 23) (vs:=(peerC q Mk Ml Mm Mn Mo Mp)) (Sure.none rfl) rfl rfl s29 ((R6 5 (by kernel_rfl) 6 rfl).trans rfl) ((R6 3 (by kernel_rfl) 23 rfl).trans rfl) rfl (by intro u hu; simp only [List.mem_cons,List.not_mem_nil,or_false] at hu; rcases hu with rfl | rfl | rfl | rfl | rfl | rfl | rfl | rfl | rfl | rfl | rfl | rfl | rfl | rfl | rfl | rfl | rfl | rfl <;> first | rfl | exact Sl.one (by assumption)) Aip (by show (0:Nat) + 18 ≤ 18; decide) (fun Ko G9 Mr=>?_)
      replace Mr:Box Ko A6 29 (peerC q Mk Ml Mm Mn Mo Mp):=Mr
      have Ais:=Ain.ext G9 (by simp; omega)
      have Ait:=Aio.ext G9 (by simp; omega)
      have Aiu:=Mq.ext G9 (by simp; omega)
      have Aiv:Ext [A6,Ah,Ab,Aa] Ae Ko:=Aiq.trans (G9.mono (by simp))
      have Cj:Ext [A6,Ah,Ab,Aa] Ut Ko:=Air.trans (G9.mono (by simp))
      refine WL.nil ⟨_,rfl,cstN rfl,?_⟩
      refine Tree.leaf ?_
      exact ⟨Ah,A6,_,_,((Aj 2 (by kernel_rfl)).trans rfl),((Aj 3 (by kernel_rfl)).trans rfl),((Aj 4 (by kernel_rfl)).trans rfl),rfl,rfl,(Ext.drop (Ext.drop Aiv H8) Fc),Ais,Ait,Aiu,Mr,(peerR.mono (show peerR.rd (A6 :: (Ah :: (Ab :: (Aa :: X)))) Ko (peerC p Bb Bc Bd Be Bf Bg) p from ⟨Bb,Bc,Bd,Be,Bf,Bg,rfl,(Aia.ext (Ext.pre Cj)),(Aib.ext (Ext.pre Cj)),(Aic.ext (Ext.pre Cj)),(Aid.ext (Ext.pre Cj)),(Aie.ext (Ext.pre Cj)),(Aif.ext (Ext.pre Cj)),D9⟩) (fun b hb=>by simp only [List.mem_cons] at hb ⊢; rcases hb with h | h | h | h | h <;> simp [h])),(peerR.mono (show peerR.rd (A6 :: (Ah :: (Ab :: (Aa :: X)))) Ko (peerC q Mk Ml Mm Mn Mo Mp) q from ⟨Mk,Ml,Mm,Mn,Mo,Mp,rfl,(Aig.ext (Ext.pre Cj)),(Aih.ext (Ext.pre Cj)),(Aii.ext (Ext.pre Cj)),(Aij.ext (Ext.pre Cj)),(Aik.ext (Ext.pre Cj)),(Ail.ext (Ext.pre Cj)),R4⟩) (fun b hb=>by simp only [List.mem_cons] at hb ⊢; rcases hb with h | h | h | h | h <;> simp [h])),by omega,by omega,by omega,by omega,by omega,by omega,by omega,by omega⟩
     ·intro Bac Axy Axz
      refine WL.alloc (cs:=peerZ) (Sure.none rfl) rfl rfl z29 rfl (fun An Qt Bo Ax0 R7=>?_)
      have Ae6:Aa < An:=by have:=Ir.lt; omega
      have R8:=Ir.ext Bo (by simp)
      have Ae7:Ab < An:=by have:=G6.lt; omega
      have Ms:=G6.ext Bo (by simp)
      have T4:Ah < An:=by have:=Iq.lt; omega
      have R9:=Iq.ext Bo (by simp)
      have Aiw:=(Sl.new (b:=An) nz1 Rl (by omega)).ext (Ext.any Bo)
      have Aix:=(Sl.new (b:=An) nz1 Rm (by omega)).ext (Ext.any Bo)
      have Aiy:=(Sl.new (b:=An) nz4 Rn (by omega)).ext (Ext.any Bo)
      have Aiz:=(Sl.new (b:=An) nz1 Ro (by omega)).ext (Ext.any Bo)
      have Ai0:=(Sl.new (b:=An) nz3 Rp (by omega)).ext (Ext.any Bo)
      have Ai1:=(Sl.new (b:=An) nz3 Rq (by omega)).ext (Ext.any Bo)
      have Ai2:=(Sl.new (b:=An) nz1 Rr (by omega)).ext (Ext.any Bo)
      have Ai3:=(Sl.new (b:=An) nz1 Rt (by omega)).ext (Ext.any Bo)
      have Ai4:=(Sl.new (b:=An) nz4 Rv (by omega)).ext (Ext.any Bo)
      have Ai5:=(Sl.new (b:=An) nz1 Rw (by omega)).ext (Ext.any Bo)
      have Ai6:=(Sl.new (b:=An) nz3 Rx (by omega)).ext (Ext.any Bo)
      have Ai7:=(Sl.new (b:=An) nz3 Ry (by omega)).ext (Ext.any Bo)
      have Ai8:Ext [An,Ah,Ab,Aa] _ _:=(Ext.cons Rz).trans (Ext.any Bo)
      have Ai9:Ext [An,Ah,Ab,Aa] _ _:=(Ext.cons Mj).trans (Ext.any Bo)
      have H9:Ae.heap.size ≤ An:=by have:=Mj.size; omega
      refine WL.nil ⟨_,rfl,cstN rfl,?_⟩
      refine Tree.node (rs:=[3]) (by kernel_rfl) ⟨offN (by kernel_rfl),(fun _ _=>Ms),trivial⟩ ⟨⟨_,rfl,[6,7],by kernel_rfl,?_⟩,trivial⟩
      intro Bad Ax1 Aja
      refine WL.c (Sure.none rfl) rfl (C.call1 (x:=.tmp 22) rfl cl7 ((Aja 2 (by kernel_rfl) 22 rfl).trans (Br 2 _ 22 rfl rfl))) (Fnc.mono (ref_Own (p:=q) ⟨Bi,Bj,Bk,Bl,Bm,Bn,rfl,Aiw,Aix,Aiy,Aiz,Ai0,Ai1,Cf⟩ (by assumption) (X:=(An :: (Ah :: (Ab :: (Aa :: X))))) (inCons R7.lt (inCons R9.lt (inCons Ms.lt (inCons R8.lt (inMono hX Ai8.size)))))) ?_)
      rintro _ Mt ⟨Ax2,rfl,Ajb,F4⟩
      have Ajc:Ext [An,Ah,Ab,Aa] Ae Mt:=Ai9.trans (Ext.any (Y:=[An,Ah,Ab,Aa]) F4)
      have Ajd:Ext [An,Ah,Ab,Aa] Qt Mt:=(Ext.any (Y:=[An,Ah,Ab,Aa]) F4)
      have Aje:=R8.ext F4 (by simp)
      have Ajf:=Ms.ext F4 (by simp)
      have Ajg:=R9.ext F4 (by simp)
      have Ajh:=R7.ext F4 (by simp)
      obtain ⟨Mu,Mv,Mw,Mx,My,Mz,rfl,Aji,Ajj,Ajk,Ajl,Ajm,Ajn,Sa⟩:=Ajb
      obtain ⟨Ata,Atb,Atc,Atd,Ate,Atf,Atg,Ath,Ati,Atj,Atk,Atl⟩:=(show PeerD.InR q from Sa)
      refine WL.nil ⟨_,rfl,cstN rfl,?_⟩
      refine Tree.node (rs:=[6]) (by kernel_rfl) ⟨offN (by kernel_rfl),offN (by kernel_rfl),trivial⟩ ⟨⟨_,rfl,[7],by kernel_rfl,?_⟩,trivial⟩
      intro Bae Ax3 Sb
      refine WL.storeAgg (x:=.tmp 5) (y:=.tmp 21) (vs:=(peerC p Bb Bc Bd Be Bf Bg)) (Sure.none rfl) rfl rfl s29 ((Sb 4 (by kernel_rfl) 5 rfl).trans rfl) ((Sb 1 (by kernel_rfl) 21 rfl).trans rfl) rfl (by intro u hu; simp only [List.mem_cons,List.not_mem_nil,or_false] at hu; rcases hu with rfl | rfl | rfl | rfl | rfl | rfl | rfl | rfl | rfl | rfl | rfl | rfl | rfl | rfl | rfl | rfl | rfl | rfl <;> first | rfl | exact Sl.one (by assumption)) Ajg (by show (0:Nat) + 18 ≤ 18; decide) (fun M0 F5 M1=>?_)
      replace M1:Box M0 Ah 29 (peerC p Bb Bc Bd Be Bf Bg):=M1
      have Ajo:=Aje.ext F5 (by simp; omega)
      have Ajp:=Ajf.ext F5 (by simp; omega)
      have Ajq:=Ajh.ext F5 (by simp; omega)
      have Ajr:Ext [An,Ah,Ab,Aa] Ae M0:=Ajc.trans (F5.mono (by simp))
      have Ajs:Ext [An,Ah,Ab,Aa] Qt M0:=Ajd.trans (F5.mono (by simp))
      have Ajt:Ext [An,Ah,Ab,Aa] Mt M0:=(F5.mono (by simp))
      refine WL.nil ⟨_,rfl,cstN rfl,?_⟩
      refine Tree.node (rs:=[7]) (by kernel_rfl) ⟨offN (by kernel_rfl),offN (by kernel_rfl),trivial⟩ ⟨⟨_,rfl,[],by kernel_rfl,?_⟩,trivial⟩
      intro Baf Ax4 Sc
      refine WL.storeAgg (x:=.tmp 6) (y:=.tmp 23) (vs:=(peerC q Mu Mv Mw Mx My Mz)) (Sure.none rfl) rfl rfl s29 ((Sc 5 (by kernel_rfl) 6 rfl).trans rfl) ((Sc 3 (by kernel_rfl) 23 rfl).trans rfl) rfl (by intro u hu; simp only [List.mem_cons,List.not_mem_nil,or_false] at hu; rcases hu with rfl | rfl | rfl | rfl | rfl | rfl | rfl | rfl | rfl | rfl | rfl | rfl | rfl | rfl | rfl | rfl | rfl | rfl <;> first | rfl | exact Sl.one (by assumption)) Ajq (by show (0:Nat) + 18 ≤ 18; decide) (fun Hu F6 M2=>?_)
      replace M2:Box Hu An 29 (peerC q Mu Mv Mw Mx My Mz):=M2
      have Aju:=Ajo.ext F6 (by simp; omega)
      have Ajv:=Ajp.ext F6 (by simp; omega)
      have Ajw:=M1.ext F6 (by simp; omega)
      have Ajx:Ext [An,Ah,Ab,Aa] Ae Hu:=Ajr.trans (F6.mono (by simp))
      have F7:Ext [An,Ah,Ab,Aa] Qt Hu:=Ajs.trans (F6.mono (by simp))
      have F8:Ext [An,Ah,Ab,Aa] Mt Hu:=Ajt.trans (F6.mono (by simp))
      refine WL.nil ⟨_,rfl,cstN rfl,?_⟩
      refine Tree.leaf ?_
      exact ⟨Ah,An,_,_,((Aj 2 (by kernel_rfl)).trans rfl),((Aj 3 (by kernel_rfl)).trans rfl),((Aj 4 (by kernel_rfl)).trans rfl),rfl,rfl,(Ext.drop (Ext.drop Ajx H9) Fc),Aju,Ajv,Ajw,M2,(peerR.mono (show peerR.rd (An :: (Ah :: (Ab :: (Aa :: X)))) Hu (peerC p Bb Bc Bd Be Bf Bg) p from ⟨Bb,Bc,Bd,Be,Bf,Bg,rfl,(Ai2.ext (Ext.pre F7)),(Ai3.ext (Ext.pre F7)),(Ai4.ext (Ext.pre F7)),(Ai5.ext (Ext.pre F7)),(Ai6.ext (Ext.pre F7)),(Ai7.ext (Ext.pre F7)),D9⟩) (fun b hb=>by simp only [List.mem_cons] at hb ⊢; rcases hb with h | h | h | h | h <;> simp [h])),(peerR.mono (show peerR.rd (An :: (Ah :: (Ab :: (Aa :: X)))) Hu (peerC q Mu Mv Mw Mx My Mz) q from ⟨Mu,Mv,Mw,Mx,My,Mz,rfl,(Aji.ext (Ext.pre F8)),(Ajj.ext (Ext.pre F8)),(Ajk.ext (Ext.pre F8)),(Ajl.ext (Ext.pre F8)),(Ajm.ext (Ext.pre F8)),(Ajn.ext (Ext.pre F8)),Sa⟩) (fun b hb=>by simp only [List.mem_cons] at hb ⊢; rcases hb with h | h | h | h | h <;> simp [h])),by omega,by omega,by omega,by omega,by omega,by omega,by omega,by omega⟩
    ·intro Bag Ax5 Ax6
     refine WL.alloc (cs:=peerZ) (Sure.none rfl) rfl rfl z29 rfl (fun Ai Anb Bw Ax7 Is=>?_)
     have Ae8:Aa < Ai:=by have:=F2.lt; omega
     have It:=F2.ext Bw (by simp)
     have Ae9:Ab < Ai:=by have:=D8.lt; omega
     have Ha:=D8.ext Bw (by simp)
     have Sd:=(Sl.new (b:=Ai) nz1 (Gn.ext (Ext.pre Bh)) (by omega)).ext (Ext.any Bw)
     have Se:=(Sl.new (b:=Ai) nz1 (Gp.ext (Ext.pre Bh)) (by omega)).ext (Ext.any Bw)
     have Sf:=(Sl.new (b:=Ai) nz4 (Gq.ext (Ext.pre Bh)) (by omega)).ext (Ext.any Bw)
     have Sh:=(Sl.new (b:=Ai) nz1 (Gr.ext (Ext.pre Bh)) (by omega)).ext (Ext.any Bw)
     have Si:=(Sl.new (b:=Ai) nz3 (Gs.ext (Ext.pre Bh)) (by omega)).ext (Ext.any Bw)
     have Sj:=(Sl.new (b:=Ai) nz3 (Gt.ext (Ext.pre Bh)) (by omega)).ext (Ext.any Bw)
     have Sk:=(Sl.new (b:=Ai) nz1 Ig (by omega)).ext (Ext.any Bw)
     have Sm:=(Sl.new (b:=Ai) nz1 Ih (by omega)).ext (Ext.any Bw)
     have Sn:=(Sl.new (b:=Ai) nz4 Ii (by omega)).ext (Ext.any Bw)
     have So:=(Sl.new (b:=Ai) nz1 Ij (by omega)).ext (Ext.any Bw)
     have Sp:=(Sl.new (b:=Ai) nz3 Ik (by omega)).ext (Ext.any Bw)
     have Sq:=(Sl.new (b:=Ai) nz3 Il (by omega)).ext (Ext.any Bw)
     have Sr:Ext [Ai,Ab,Aa] _ _:=(Ext.cons Md).trans (Ext.any Bw)
     have M3:Ext [Ai,Ab,Aa] _ _:=(Ext.cons G1).trans (Ext.any Bw)
     have Fd:Ae.heap.size ≤ Ai:=by have:=G1.size; omega
     refine WL.nil ⟨_,rfl,cstN rfl,?_⟩
     refine Tree.node (rs:=[3,4]) (by kernel_rfl) ⟨offN (by kernel_rfl),(fun _ _=>Ha),trivial⟩ ⟨⟨_,rfl,[4,6,7],by kernel_rfl,?_⟩,⟨_,rfl,[3,6,7],by kernel_rfl,?_⟩,trivial⟩
     ·intro Bah Ax8 Ajy
      refine WL.c (Sure.none rfl) rfl (C.call1 (x:=.tmp 22) rfl cl7 ((Ajy 2 (by kernel_rfl) 22 rfl).trans (Br 2 _ 22 rfl rfl))) (Fnc.mono (ref_Own (p:=q) ⟨Bi,Bj,Bk,Bl,Bm,Bn,rfl,Sd,Se,Sf,Sh,Si,Sj,Cf⟩ (by assumption) (X:=(Ai :: (Ab :: (Aa :: X)))) (inCons Is.lt (inCons Ha.lt (inCons It.lt (inMono hX Sr.size))))) ?_)
      rintro _ Uu ⟨Ax9,rfl,Ajz,Hb⟩
      have Ss:Ext [Ai,Ab,Aa] Ae Uu:=M3.trans (Ext.any (Y:=[Ai,Ab,Aa]) Hb)
      have F9:Ext [Ai,Ab,Aa] Anb Uu:=(Ext.any (Y:=[Ai,Ab,Aa]) Hb)
      have St:=It.ext Hb (by simp)
      have Su:=Ha.ext Hb (by simp)
      have Sv:=Is.ext Hb (by simp)
      obtain ⟨M4,M5,M6,M7,M8,M9,rfl,Aj0,Aj1,Aj2,Aj3,Aj4,Aj5,Sw⟩:=Ajz
      obtain ⟨Atm,Atn,Ato,Atp,Atq,Atr,Ats,Att,Atu,Atv,Atw,Atx⟩:=(show PeerD.InR q from Sw)
      refine WL.nil ⟨_,rfl,cstN rfl,?_⟩
      refine Tree.node (rs:=[4]) (by kernel_rfl) ⟨offN (by kernel_rfl),offN (by kernel_rfl),trivial⟩ ⟨⟨_,rfl,[6,7],by kernel_rfl,?_⟩,trivial⟩
      intro Bai Aya Ayb
      refine WL.alloc (cs:=peerZ) (Sure.none rfl) rfl rfl z29 rfl (fun A7 Uv Bx Ayc Aj6=>?_)
      have Afa:Aa < A7:=by have:=St.lt; omega
      have Aj7:=St.ext Bx (by simp)
      have Afb:Ab < A7:=by have:=Su.lt; omega
      have Aj8:=Su.ext Bx (by simp)
      have T5:Ai < A7:=by have:=Sv.lt; omega
      have Aj9:=Sv.ext Bx (by simp)
      have Aka:=(Sl.new (b:=A7) nz1 (Sk.ext (Ext.pre F9)) (by omega)).ext (Ext.any Bx)
      have Akb:=(Sl.new (b:=A7) nz1 (Sm.ext (Ext.pre F9)) (by omega)).ext (Ext.any Bx)
      have Akc:=(Sl.new (b:=A7) nz4 (Sn.ext (Ext.pre F9)) (by omega)).ext (Ext.any Bx)
      have Akd:=(Sl.new (b:=A7) nz1 (So.ext (Ext.pre F9)) (by omega)).ext (Ext.any Bx)
      have Ake:=(Sl.new (b:=A7) nz3 (Sp.ext (Ext.pre F9)) (by omega)).ext (Ext.any Bx)
      have Akf:=(Sl.new (b:=A7) nz3 (Sq.ext (Ext.pre F9)) (by omega)).ext (Ext.any Bx)
      have Akg:=(Sl.new (b:=A7) nz1 Aj0 (by omega)).ext (Ext.any Bx)
      have Akh:=(Sl.new (b:=A7) nz1 Aj1 (by omega)).ext (Ext.any Bx)
      have Aki:=(Sl.new (b:=A7) nz4 Aj2 (by omega)).ext (Ext.any Bx)
      have Akj:=(Sl.new (b:=A7) nz1 Aj3 (by omega)).ext (Ext.any Bx)
      have Akk:=(Sl.new (b:=A7) nz3 Aj4 (by omega)).ext (Ext.any Bx)
      have Akl:=(Sl.new (b:=A7) nz3 Aj5 (by omega)).ext (Ext.any Bx)
      have Akm:Ext [A7,Ai,Ab,Aa] _ _:=(Ext.cons Ss).trans (Ext.any Bx)
      have Ia:Ae.heap.size ≤ A7:=by have:=Ss.size; omega
      refine WL.nil ⟨_,rfl,cstN rfl,?_⟩
      refine Tree.node (rs:=[6]) (by kernel_rfl) ⟨offN (by kernel_rfl),offN (by kernel_rfl),trivial⟩ ⟨⟨_,rfl,[7],by kernel_rfl,?_⟩,trivial⟩
      intro Baj Ayd Sx
      refine WL.storeAgg (x:=.tmp 5) (y:=.tmp 21) (vs:=(peerC p Bb Bc Bd Be Bf Bg)) (Sure.none rfl) rfl rfl s29 ((Sx 4 (by kernel_rfl) 5 rfl).trans rfl) ((Sx 1 (by kernel_rfl) 21 rfl).trans rfl) rfl (by intro u hu; simp only [List.mem_cons,List.not_mem_nil,or_false] at hu; rcases hu with rfl | rfl | rfl | rfl | rfl | rfl | rfl | rfl | rfl | rfl | rfl | rfl | rfl | rfl | rfl | rfl | rfl | rfl <;> first | rfl | exact Sl.one (by assumption)) Aj6 (by show (0:Nat) + 18 ≤ 18; decide) (fun Qu Hc Na=>?_)
      replace Na:Box Qu A7 29 (peerC p Bb Bc Bd Be Bf Bg):=Na
      have Akn:=Aj7.ext Hc (by simp; omega)
      have Ako:=Aj8.ext Hc (by simp; omega)
      have Akp:=Aj9.ext Hc (by simp; omega)
      have Akq:Ext [A7,Ai,Ab,Aa] Ae Qu:=Akm.trans (Hc.mono (by simp))
      have Akr:Ext [A7,Ai,Ab,Aa] Uv Qu:=(Hc.mono (by simp))
      refine WL.nil ⟨_,rfl,cstN rfl,?_⟩
      refine Tree.node (rs:=[7]) (by kernel_rfl) ⟨offN (by kernel_rfl),offN (by kernel_rfl),trivial⟩ ⟨⟨_,rfl,[],by kernel_rfl,?_⟩,trivial⟩
      intro Bak Aye Sy
      refine WL.storeAgg (x:=.tmp 6) (y:=.tmp 23) (vs:=(peerC q M4 M5 M6 M7 M8 M9)) (Sure.none rfl) rfl rfl s29 ((Sy 5 (by kernel_rfl) 6 rfl).trans rfl) ((Sy 3 (by kernel_rfl) 23 rfl).trans rfl) rfl (by intro u hu; simp only [List.mem_cons,List.not_mem_nil,or_false] at hu; rcases hu with rfl | rfl | rfl | rfl | rfl | rfl | rfl | rfl | rfl | rfl | rfl | rfl | rfl | rfl | rfl | rfl | rfl | rfl <;> first | rfl | exact Sl.one (by assumption)) Akp (by show (0:Nat) + 18 ≤ 18; decide) (fun Kq Hd Nb=>?_)
      replace Nb:Box Kq Ai 29 (peerC q M4 M5 M6 M7 M8 M9):=Nb
      have Aks:=Akn.ext Hd (by simp; omega)
      have Akt:=Ako.ext Hd (by simp; omega)
      have Aku:=Na.ext Hd (by simp; omega)
      have Akv:Ext [A7,Ai,Ab,Aa] Ae Kq:=Akq.trans (Hd.mono (by simp))
      have Ck:Ext [A7,Ai,Ab,Aa] Uv Kq:=Akr.trans (Hd.mono (by simp))
      refine WL.nil ⟨_,rfl,cstN rfl,?_⟩
      refine Tree.leaf ?_
      exact ⟨A7,Ai,_,_,((Aj 2 (by kernel_rfl)).trans rfl),((Aj 3 (by kernel_rfl)).trans rfl),((Aj 4 (by kernel_rfl)).trans rfl),rfl,rfl,(Ext.drop (Ext.drop Akv Ia) Fd),Aks,Akt,Aku,Nb,(peerR.mono (show peerR.rd (A7 :: (Ai :: (Ab :: (Aa :: X)))) Kq (peerC p Bb Bc Bd Be Bf Bg) p from ⟨Bb,Bc,Bd,Be,Bf,Bg,rfl,(Aka.ext (Ext.pre Ck)),(Akb.ext (Ext.pre Ck)),(Akc.ext (Ext.pre Ck)),(Akd.ext (Ext.pre Ck)),(Ake.ext (Ext.pre Ck)),(Akf.ext (Ext.pre Ck)),D9⟩) (fun b hb=>by simp only [List.mem_cons] at hb ⊢; rcases hb with h | h | h | h | h <;> simp [h])),(peerR.mono (show peerR.rd (A7 :: (Ai :: (Ab :: (Aa :: X)))) Kq (peerC q M4 M5 M6 M7 M8 M9) q from ⟨M4,M5,M6,M7,M8,M9,rfl,(Akg.ext (Ext.pre Ck)),(Akh.ext (Ext.pre Ck)),(Aki.ext (Ext.pre Ck)),(Akj.ext (Ext.pre Ck)),(Akk.ext (Ext.pre Ck)),(Akl.ext (Ext.pre Ck)),Sw⟩) (fun b hb=>by simp only [List.mem_cons] at hb ⊢; rcases hb with h | h | h | h | h <;> simp [h])),by omega,by omega,by omega,by omega,by omega,by omega,by omega,by omega⟩
     ·intro Bal Ayf Ayg
      refine WL.alloc (cs:=peerZ) (Sure.none rfl) rfl rfl z29 rfl (fun Ao Qv Bp Ayh Sz=>?_)
      have Afc:Aa < Ao:=by have:=It.lt; omega
      have S0:=It.ext Bp (by simp)
      have Afd:Ab < Ao:=by have:=Ha.lt; omega
      have Nc:=Ha.ext Bp (by simp)
      have T6:Ai < Ao:=by have:=Is.lt; omega
      have S1:=Is.ext Bp (by simp)
      have Akw:=(Sl.new (b:=Ao) nz1 Sd (by omega)).ext (Ext.any Bp)
      have Akx:=(Sl.new (b:=Ao) nz1 Se (by omega)).ext (Ext.any Bp)
      have Aky:=(Sl.new (b:=Ao) nz4 Sf (by omega)).ext (Ext.any Bp)
      have Akz:=(Sl.new (b:=Ao) nz1 Sh (by omega)).ext (Ext.any Bp)
      have Ak0:=(Sl.new (b:=Ao) nz3 Si (by omega)).ext (Ext.any Bp)
      have Ak1:=(Sl.new (b:=Ao) nz3 Sj (by omega)).ext (Ext.any Bp)
      have Ak2:=(Sl.new (b:=Ao) nz1 Sk (by omega)).ext (Ext.any Bp)
      have Ak3:=(Sl.new (b:=Ao) nz1 Sm (by omega)).ext (Ext.any Bp)
      have Ak4:=(Sl.new (b:=Ao) nz4 Sn (by omega)).ext (Ext.any Bp)
      have Ak5:=(Sl.new (b:=Ao) nz1 So (by omega)).ext (Ext.any Bp)
      have Ak6:=(Sl.new (b:=Ao) nz3 Sp (by omega)).ext (Ext.any Bp)
      have Ak7:=(Sl.new (b:=Ao) nz3 Sq (by omega)).ext (Ext.any Bp)
      have Ak8:Ext [Ao,Ai,Ab,Aa] _ _:=(Ext.cons Sr).trans (Ext.any Bp)
      have Ak9:Ext [Ao,Ai,Ab,Aa] _ _:=(Ext.cons M3).trans (Ext.any Bp)
      have Ib:Ae.heap.size ≤ Ao:=by have:=M3.size; omega
      refine WL.nil ⟨_,rfl,cstN rfl,?_⟩
      refine Tree.node (rs:=[3]) (by kernel_rfl) ⟨offN (by kernel_rfl),(fun _ _=>Nc),trivial⟩ ⟨⟨_,rfl,[6,7],by kernel_rfl,?_⟩,trivial⟩
      intro Bam Ayi Ala
      refine WL.c (Sure.none rfl) rfl (C.call1 (x:=.tmp 22) rfl cl7 ((Ala 2 (by kernel_rfl) 22 rfl).trans (Br 2 _ 22 rfl rfl))) (Fnc.mono (ref_Own (p:=q) ⟨Bi,Bj,Bk,Bl,Bm,Bn,rfl,Akw,Akx,Aky,Akz,Ak0,Ak1,Cf⟩ (by assumption) (X:=(Ao :: (Ai :: (Ab :: (Aa :: X))))) (inCons Sz.lt (inCons S1.lt (inCons Nc.lt (inCons S0.lt (inMono hX Ak8.size)))))) ?_)
      rintro _ Nd ⟨Ayj,rfl,Alb,Ga⟩
      have Alc:Ext [Ao,Ai,Ab,Aa] Ae Nd:=Ak9.trans (Ext.any (Y:=[Ao,Ai,Ab,Aa]) Ga)
      have Ald:Ext [Ao,Ai,Ab,Aa] Qv Nd:=(Ext.any (Y:=[Ao,Ai,Ab,Aa]) Ga)
      have Ale:=S0.ext Ga (by simp)
      have Alf:=Nc.ext Ga (by simp)
      have Alg:=S1.ext Ga (by simp)
      have Alh:=Sz.ext Ga (by simp)
      obtain ⟨Ne,Nf,Ng,Nh,Ni,Nj,rfl,Ali,Alj,Alk,All,Alm,Aln,S2⟩:=Alb
      obtain ⟨Aty,Atz,At0,At1,At2,At3,At4,At5,At6,At7,At8,At9⟩:=(show PeerD.InR q from S2)
      refine WL.nil ⟨_,rfl,cstN rfl,?_⟩
      refine Tree.node (rs:=[6]) (by kernel_rfl) ⟨offN (by kernel_rfl),offN (by kernel_rfl),trivial⟩ ⟨⟨_,rfl,[7],by kernel_rfl,?_⟩,trivial⟩
      intro Ban Ayk S3
      refine WL.storeAgg (x:=.tmp 5) (y:=.tmp 21) (vs:=(peerC p Bb Bc Bd Be Bf Bg)) (Sure.none rfl) rfl rfl s29 ((S3 4 (by kernel_rfl) 5 rfl).trans rfl) ((S3 1 (by kernel_rfl) 21 rfl).trans rfl) rfl (by intro u hu; simp only [List.mem_cons,List.not_mem_nil,or_false] at hu; rcases hu with rfl | rfl | rfl | rfl | rfl | rfl | rfl | rfl | rfl | rfl | rfl | rfl | rfl | rfl | rfl | rfl | rfl | rfl <;> first | rfl | exact Sl.one (by assumption)) Alh (by show (0:Nat) + 18 ≤ 18; decide) (fun Nk Gb Nl=>?_)
      replace Nl:Box Nk Ao 29 (peerC p Bb Bc Bd Be Bf Bg):=Nl
      have Alo:=Ale.ext Gb (by simp; omega)
      have Alp:=Alf.ext Gb (by simp; omega)
      have Alq:=Alg.ext Gb (by simp; omega)
      have Alr:Ext [Ao,Ai,Ab,Aa] Ae Nk:=Alc.trans (Gb.mono (by simp))
      have Als:Ext [Ao,Ai,Ab,Aa] Qv Nk:=Ald.trans (Gb.mono (by simp))
      have Alt:Ext [Ao,Ai,Ab,Aa] Nd Nk:=(Gb.mono (by simp))
      refine WL.nil ⟨_,rfl,cstN rfl,?_⟩
      refine Tree.node (rs:=[7]) (by kernel_rfl) ⟨offN (by kernel_rfl),offN (by kernel_rfl),trivial⟩ ⟨⟨_,rfl,[],by kernel_rfl,?_⟩,trivial⟩
      intro Bao Ayl S4
      refine WL.storeAgg (x:=.tmp 6) (y:=.tmp 23) (vs:=(peerC q Ne Nf Ng Nh Ni Nj)) (Sure.none rfl) rfl rfl s29 ((S4 5 (by kernel_rfl) 6 rfl).trans rfl) ((S4 3 (by kernel_rfl) 23 rfl).trans rfl) rfl (by intro u hu; simp only [List.mem_cons,List.not_mem_nil,or_false] at hu; rcases hu with rfl | rfl | rfl | rfl | rfl | rfl | rfl | rfl | rfl | rfl | rfl | rfl | rfl | rfl | rfl | rfl | rfl | rfl <;> first | rfl | exact Sl.one (by assumption)) Alq (by show (0:Nat) + 18 ≤ 18; decide) (fun Hv Gc Nm=>?_)
      replace Nm:Box Hv Ai 29 (peerC q Ne Nf Ng Nh Ni Nj):=Nm
      have Alu:=Alo.ext Gc (by simp; omega)
      have Alv:=Alp.ext Gc (by simp; omega)
      have Alw:=Nl.ext Gc (by simp; omega)
      have Alx:Ext [Ao,Ai,Ab,Aa] Ae Hv:=Alr.trans (Gc.mono (by simp))
      have Gd:Ext [Ao,Ai,Ab,Aa] Qv Hv:=Als.trans (Gc.mono (by simp))
      have Ge:Ext [Ao,Ai,Ab,Aa] Nd Hv:=Alt.trans (Gc.mono (by simp))
      refine WL.nil ⟨_,rfl,cstN rfl,?_⟩
      refine Tree.leaf ?_
      exact ⟨Ao,Ai,_,_,((Aj 2 (by kernel_rfl)).trans rfl),((Aj 3 (by kernel_rfl)).trans rfl),((Aj 4 (by kernel_rfl)).trans rfl),rfl,rfl,(Ext.drop (Ext.drop Alx Ib) Fd),Alu,Alv,Alw,Nm,(peerR.mono (show peerR.rd (Ao :: (Ai :: (Ab :: (Aa :: X)))) Hv (peerC p Bb Bc Bd Be Bf Bg) p from ⟨Bb,Bc,Bd,Be,Bf,Bg,rfl,(Ak2.ext (Ext.pre Gd)),(Ak3.ext (Ext.pre Gd)),(Ak4.ext (Ext.pre Gd)),(Ak5.ext (Ext.pre Gd)),(Ak6.ext (Ext.pre Gd)),(Ak7.ext (Ext.pre Gd)),D9⟩) (fun b hb=>by simp only [List.mem_cons] at hb ⊢; rcases hb with h | h | h | h | h <;> simp [h])),(peerR.mono (show peerR.rd (Ao :: (Ai :: (Ab :: (Aa :: X)))) Hv (peerC q Ne Nf Ng Nh Ni Nj) q from ⟨Ne,Nf,Ng,Nh,Ni,Nj,rfl,(Ali.ext (Ext.pre Ge)),(Alj.ext (Ext.pre Ge)),(Alk.ext (Ext.pre Ge)),(All.ext (Ext.pre Ge)),(Alm.ext (Ext.pre Ge)),(Aln.ext (Ext.pre Ge)),S2⟩) (fun b hb=>by simp only [List.mem_cons] at hb ⊢; rcases hb with h | h | h | h | h <;> simp [h])),by omega,by omega,by omega,by omega,by omega,by omega,by omega,by omega⟩
   ·intro Bap Aym Ayn
    refine WL.alloc (cs:=peerZ) (Sure.none rfl) rfl rfl z29 rfl (fun Ad Anc By Ayo Iu=>?_)
    have Afe:Aa < Ad:=by have:=D6.lt; omega
    have He:=D6.ext By (by simp)
    have Aff:Ab < Ad:=by have:=D7.lt; omega
    have Hf:=D7.ext By (by simp)
    have S5:=(Sl.new (b:=Ad) nz1 (Kg.ext (Ext.pre Am)) (by omega)).ext (Ext.any By)
    have S6:=(Sl.new (b:=Ad) nz1 (Kh.ext (Ext.pre Am)) (by omega)).ext (Ext.any By)
    have S7:=(Sl.new (b:=Ad) nz4 (Ki.ext (Ext.pre Am)) (by omega)).ext (Ext.any By)
    have S8:=(Sl.new (b:=Ad) nz1 (Kj.ext (Ext.pre Am)) (by omega)).ext (Ext.any By)
    have S9:=(Sl.new (b:=Ad) nz3 (Kk.ext (Ext.pre Am)) (by omega)).ext (Ext.any By)
    have Ta:=(Sl.new (b:=Ad) nz3 (Kl.ext (Ext.pre Am)) (by omega)).ext (Ext.any By)
    have No:=(Sl.new (b:=Ad) nz1 (Gn.ext (Ext.pre Am)) (by omega)).ext (Ext.any By)
    have Np:=(Sl.new (b:=Ad) nz1 (Gp.ext (Ext.pre Am)) (by omega)).ext (Ext.any By)
    have Nq:=(Sl.new (b:=Ad) nz4 (Gq.ext (Ext.pre Am)) (by omega)).ext (Ext.any By)
    have Nr:=(Sl.new (b:=Ad) nz1 (Gr.ext (Ext.pre Am)) (by omega)).ext (Ext.any By)
    have Ns:=(Sl.new (b:=Ad) nz3 (Gs.ext (Ext.pre Am)) (by omega)).ext (Ext.any By)
    have Nt:=(Sl.new (b:=Ad) nz3 (Gt.ext (Ext.pre Am)) (by omega)).ext (Ext.any By)
    have Nu:Ext [Ad,Ab,Aa] _ _:=(Ext.cons If).trans (Ext.any By)
    have Nv:Ext [Ad,Ab,Aa] _ _:=(Ext.cons Gz).trans (Ext.any By)
    have Ct:Ae.heap.size ≤ Ad:=by have:=Gz.size; omega
    refine WL.nil ⟨_,rfl,cstN rfl,?_⟩
    refine Tree.node (rs:=[1,5]) (by kernel_rfl) ⟨(fun _ _=>He),(fun _ _=>Hf),trivial⟩ ⟨⟨_,rfl,[3,5,6,7],by kernel_rfl,?_⟩,⟨_,rfl,[1,3,6,7],by kernel_rfl,?_⟩,trivial⟩
    ·intro Baq Ayp Aly
     refine WL.c (Sure.none rfl) rfl (C.call1 (x:=.tmp 20) rfl cl7 ((Aly 0 (by kernel_rfl) 20 rfl).trans (Br 0 _ 20 rfl rfl))) (Fnc.mono (ref_Own (p:=p) ⟨v1,v3,v5,v7,v9,Bq,rfl,S5,S6,S7,S8,S9,Ta,Cu⟩ (by assumption) (X:=(Ad :: (Ab :: (Aa :: X)))) (inCons Iu.lt (inCons Hf.lt (inCons He.lt (inMono hX Nu.size))))) ?_)
     rintro _ Nw ⟨Ayq,rfl,Alz,Gf⟩
     have Tb:Ext [Ad,Ab,Aa] w Nw:=Nu.trans (Ext.any (Y:=[Ad,Ab,Aa]) Gf)
     have Nx:Ext [Ad,Ab,Aa] Ae Nw:=Nv.trans (Ext.any (Y:=[Ad,Ab,Aa]) Gf)
     have Cl:Ext [Ad,Ab,Aa] Anc Nw:=(Ext.any (Y:=[Ad,Ab,Aa]) Gf)
     have Iv:=He.ext Gf (by simp)
     have Hg:=Hf.ext Gf (by simp)
     have Iw:=Iu.ext Gf (by simp)
     obtain ⟨Fk,Fl,Fm,Fo,Fp,Fq,rfl,Tc,Td,Te,Tf,Tg,Th,Ny⟩:=Alz
     obtain ⟨Aua,Aub,Auc,Aud,Aue,Auf,Aug,Auh,Aui,Auj,Auk,Aul⟩:=(show PeerD.InR p from Ny)
     refine WL.nil ⟨_,rfl,cstN rfl,?_⟩
     refine Tree.node (rs:=[3,5]) (by kernel_rfl) ⟨offN (by kernel_rfl),(fun _ _=>Hg),trivial⟩ ⟨⟨_,rfl,[5,6,7],by kernel_rfl,?_⟩,⟨_,rfl,[3,6,7],by kernel_rfl,?_⟩,trivial⟩
     ·intro Bar Ayr Al0
      refine WL.c (Sure.none rfl) rfl (C.call1 (x:=.tmp 22) rfl cl7 ((Al0 2 (by kernel_rfl) 22 rfl).trans (Br 2 _ 22 rfl rfl))) (Fnc.mono (ref_Own (p:=q) ⟨Bi,Bj,Bk,Bl,Bm,Bn,rfl,(No.ext (Ext.pre Cl)),(Np.ext (Ext.pre Cl)),(Nq.ext (Ext.pre Cl)),(Nr.ext (Ext.pre Cl)),(Ns.ext (Ext.pre Cl)),(Nt.ext (Ext.pre Cl)),Cf⟩ (by assumption) (X:=(Ad :: (Ab :: (Aa :: X)))) (inCons Iw.lt (inCons Hg.lt (inCons Iv.lt (inMono hX Tb.size))))) ?_)
      rintro _ Uw ⟨Ays,rfl,Al1,Hh⟩
      have Ti:Ext [Ad,Ab,Aa] Ae Uw:=Nx.trans (Ext.any (Y:=[Ad,Ab,Aa]) Hh)
      have Gg:Ext [Ad,Ab,Aa] Nw Uw:=(Ext.any (Y:=[Ad,Ab,Aa]) Hh)
      have Tj:=Iv.ext Hh (by simp)
      have Tk:=Hg.ext Hh (by simp)
      have Tl:=Iw.ext Hh (by simp)
      obtain ⟨Nz,N0,N1,N2,Ix,Iy,rfl,Al2,Al3,Al4,Ux,Uy,Uz,N7⟩:=Al1
      obtain ⟨Ant,Anu,Anv,Anw,Anx,Any,Anz,An0,An1,An2,An3,An4⟩:=(show PeerD.InR q from N7)
      refine WL.nil ⟨_,rfl,cstN rfl,?_⟩
      refine Tree.node (rs:=[5]) (by kernel_rfl) ⟨offN (by kernel_rfl),offN (by kernel_rfl),trivial⟩ ⟨⟨_,rfl,[6,7],by kernel_rfl,?_⟩,trivial⟩
      intro Ayt Aum Aun
      refine WL.alloc (cs:=peerZ) (Sure.none rfl) rfl rfl z29 rfl (fun Ap Tm A8 Auo U0=>?_)
      have T7:Aa < Ap:=by have:=Tj.lt; omega
      have U1:=Tj.ext A8 (by simp)
      have T8:Ab < Ap:=by have:=Tk.lt; omega
      have U2:=Tk.ext A8 (by simp)
      have Ty:Ad < Ap:=by have:=Tl.lt; omega
      have U3:=Tl.ext A8 (by simp)
      have U4:=(Sl.new (b:=Ap) nz1 (Tc.ext (Ext.pre Gg)) (by omega)).ext (Ext.any A8)
      have U5:=(Sl.new (b:=Ap) nz1 (Td.ext (Ext.pre Gg)) (by omega)).ext (Ext.any A8)
      have U6:=(Sl.new (b:=Ap) nz4 (Te.ext (Ext.pre Gg)) (by omega)).ext (Ext.any A8)
      have U7:=(Sl.new (b:=Ap) nz1 (Tf.ext (Ext.pre Gg)) (by omega)).ext (Ext.any A8)
      have U8:=(Sl.new (b:=Ap) nz3 (Tg.ext (Ext.pre Gg)) (by omega)).ext (Ext.any A8)
      have U9:=(Sl.new (b:=Ap) nz3 (Th.ext (Ext.pre Gg)) (by omega)).ext (Ext.any A8)
      have Va:=(Sl.new (b:=Ap) nz1 Al2 (by omega)).ext (Ext.any A8)
      have Vb:=(Sl.new (b:=Ap) nz1 Al3 (by omega)).ext (Ext.any A8)
      have Vc:=(Sl.new (b:=Ap) nz4 Al4 (by omega)).ext (Ext.any A8)
      have Vd:=(Sl.new (b:=Ap) nz1 Ux (by omega)).ext (Ext.any A8)
      have Ve:=(Sl.new (b:=Ap) nz3 Uy (by omega)).ext (Ext.any A8)
      have Vf:=(Sl.new (b:=Ap) nz3 Uz (by omega)).ext (Ext.any A8)
      have Vg:Ext [Ap,Ad,Ab,Aa] _ _:=(Ext.cons Ti).trans (Ext.any A8)
      have Hy:Ae.heap.size ≤ Ap:=by have:=Ti.size; omega
      refine WL.nil ⟨_,rfl,cstN rfl,?_⟩
      refine Tree.node (rs:=[6]) (by kernel_rfl) ⟨offN (by kernel_rfl),offN (by kernel_rfl),trivial⟩ ⟨⟨_,rfl,[7],by kernel_rfl,?_⟩,trivial⟩
      intro Ayu Aup N8
      refine WL.storeAgg (x:=.tmp 5) (y:=.tmp 21) (vs:=(peerC p Fk Fl Fm Fo Fp Fq)) (Sure.none rfl) rfl rfl s29 ((N8 4 (by kernel_rfl) 5 rfl).trans rfl) ((N8 1 (by kernel_rfl) 21 rfl).trans rfl) rfl (by intro u hu; simp only [List.mem_cons,List.not_mem_nil,or_false] at hu; rcases hu with rfl | rfl | rfl | rfl | rfl | rfl | rfl | rfl | rfl | rfl | rfl | rfl | rfl | rfl | rfl | rfl | rfl | rfl <;> first | rfl | exact Sl.one (by assumption)) U3 (by show (0:Nat) + 18 ≤ 18; decide) (fun N3 Fs Kr=>?_)
      replace Kr:Box N3 Ad 29 (peerC p Fk Fl Fm Fo Fp Fq):=Kr
      have Vh:=U1.ext Fs (by simp; omega)
      have Vi:=U2.ext Fs (by simp; omega)
      have Vj:=U0.ext Fs (by simp; omega)
      have Vk:Ext [Ap,Ad,Ab,Aa] Ae N3:=Vg.trans (Fs.mono (by simp))
      have Vl:Ext [Ap,Ad,Ab,Aa] Tm N3:=(Fs.mono (by simp))
      refine WL.nil ⟨_,rfl,cstN rfl,?_⟩
      refine Tree.node (rs:=[7]) (by kernel_rfl) ⟨offN (by kernel_rfl),offN (by kernel_rfl),trivial⟩ ⟨⟨_,rfl,[],by kernel_rfl,?_⟩,trivial⟩
      intro Ayv Auq N9
      refine WL.storeAgg (x:=.tmp 6) (y:=.tmp 23) (vs:=(peerC q Nz N0 N1 N2 Ix Iy)) (Sure.none rfl) rfl rfl s29 ((N9 5 (by kernel_rfl) 6 rfl).trans rfl) ((N9 3 (by kernel_rfl) 23 rfl).trans rfl) rfl (by intro u hu; simp only [List.mem_cons,List.not_mem_nil,or_false] at hu; rcases hu with rfl | rfl | rfl | rfl | rfl | rfl | rfl | rfl | rfl | rfl | rfl | rfl | rfl | rfl | rfl | rfl | rfl | rfl <;> first | rfl | exact Sl.one (by assumption)) Vj (by show (0:Nat) + 18 ≤ 18; decide) (fun Hi Ft Ks=>?_)
      replace Ks:Box Hi Ap 29 (peerC q Nz N0 N1 N2 Ix Iy):=Ks
      have Vm:=Vh.ext Ft (by simp; omega)
      have Vn:=Vi.ext Ft (by simp; omega)
      have Vo:=Kr.ext Ft (by simp; omega)
      have Vp:Ext [Ap,Ad,Ab,Aa] Ae Hi:=Vk.trans (Ft.mono (by simp))
      have B4:Ext [Ap,Ad,Ab,Aa] Tm Hi:=Vl.trans (Ft.mono (by simp))
      refine WL.nil ⟨_,rfl,cstN rfl,?_⟩
      refine Tree.leaf ?_
      exact ⟨Ad,Ap,_,_,((Aj 2 (by kernel_rfl)).trans rfl),((Aj 3 (by kernel_rfl)).trans rfl),((Aj 4 (by kernel_rfl)).trans rfl),rfl,rfl,(Ext.drop (Ext.drop Vp Hy) Ct),Vm,Vn,Vo,Ks,(peerR.mono (show peerR.rd (Ap :: (Ad :: (Ab :: (Aa :: X)))) Hi (peerC p Fk Fl Fm Fo Fp Fq) p from ⟨Fk,Fl,Fm,Fo,Fp,Fq,rfl,(U4.ext (Ext.pre B4)),(U5.ext (Ext.pre B4)),(U6.ext (Ext.pre B4)),(U7.ext (Ext.pre B4)),(U8.ext (Ext.pre B4)),(U9.ext (Ext.pre B4)),Ny⟩) (fun b hb=>by simp only [List.mem_cons] at hb ⊢; rcases hb with h | h | h | h | h <;> simp [h])),(peerR.mono (show peerR.rd (Ap :: (Ad :: (Ab :: (Aa :: X)))) Hi (peerC q Nz N0 N1 N2 Ix Iy) q from ⟨Nz,N0,N1,N2,Ix,Iy,rfl,(Va.ext (Ext.pre B4)),(Vb.ext (Ext.pre B4)),(Vc.ext (Ext.pre B4)),(Vd.ext (Ext.pre B4)),(Ve.ext (Ext.pre B4)),(Vf.ext (Ext.pre B4)),N7⟩) (fun b hb=>by simp only [List.mem_cons] at hb ⊢; rcases hb with h | h | h | h | h <;> simp [h])),by omega,by omega,by omega,by omega,by omega,by omega,by omega,by omega⟩
     ·intro Ayw Aur Aus
      refine WL.alloc (cs:=peerZ) (Sure.none rfl) rfl rfl z29 rfl (fun Ak N4 Aw Aut Oa=>?_)
      have T9:Aa < Ak:=by have:=Iv.lt; omega
      have Ob:=Iv.ext Aw (by simp)
      have Ua:Ab < Ak:=by have:=Hg.lt; omega
      have Kt:=Hg.ext Aw (by simp)
      have Tz:Ad < Ak:=by have:=Iw.lt; omega
      have Oc:=Iw.ext Aw (by simp)
      have Vq:=(Sl.new (b:=Ak) nz1 (No.ext (Ext.pre Cl)) (by omega)).ext (Ext.any Aw)
      have Vr:=(Sl.new (b:=Ak) nz1 (Np.ext (Ext.pre Cl)) (by omega)).ext (Ext.any Aw)
      have Vs:=(Sl.new (b:=Ak) nz4 (Nq.ext (Ext.pre Cl)) (by omega)).ext (Ext.any Aw)
      have Vt:=(Sl.new (b:=Ak) nz1 (Nr.ext (Ext.pre Cl)) (by omega)).ext (Ext.any Aw)
      have Vu:=(Sl.new (b:=Ak) nz3 (Ns.ext (Ext.pre Cl)) (by omega)).ext (Ext.any Aw)
      have Vv:=(Sl.new (b:=Ak) nz3 (Nt.ext (Ext.pre Cl)) (by omega)).ext (Ext.any Aw)
      have Vw:=(Sl.new (b:=Ak) nz1 Tc (by omega)).ext (Ext.any Aw)
      have Vx:=(Sl.new (b:=Ak) nz1 Td (by omega)).ext (Ext.any Aw)
      have Vy:=(Sl.new (b:=Ak) nz4 Te (by omega)).ext (Ext.any Aw)
      have Vz:=(Sl.new (b:=Ak) nz1 Tf (by omega)).ext (Ext.any Aw)
      have V0:=(Sl.new (b:=Ak) nz3 Tg (by omega)).ext (Ext.any Aw)
      have V1:=(Sl.new (b:=Ak) nz3 Th (by omega)).ext (Ext.any Aw)
      have V2:Ext [Ak,Ad,Ab,Aa] _ _:=(Ext.cons Tb).trans (Ext.any Aw)
      have V3:Ext [Ak,Ad,Ab,Aa] _ _:=(Ext.cons Nx).trans (Ext.any Aw)
      have Hz:Ae.heap.size ≤ Ak:=by have:=Nx.size; omega
      refine WL.nil ⟨_,rfl,cstN rfl,?_⟩
      refine Tree.node (rs:=[3]) (by kernel_rfl) ⟨offN (by kernel_rfl),(fun _ _=>Kt),trivial⟩ ⟨⟨_,rfl,[6,7],by kernel_rfl,?_⟩,trivial⟩
      intro Ayx Auu V4
      refine WL.c (Sure.none rfl) rfl (C.call1 (x:=.tmp 22) rfl cl7 ((V4 2 (by kernel_rfl) 22 rfl).trans (Br 2 _ 22 rfl rfl))) (Fnc.mono (ref_Own (p:=q) ⟨Bi,Bj,Bk,Bl,Bm,Bn,rfl,Vq,Vr,Vs,Vt,Vu,Vv,Cf⟩ (by assumption) (X:=(Ak :: (Ad :: (Ab :: (Aa :: X))))) (inCons Oa.lt (inCons Oc.lt (inCons Kt.lt (inCons Ob.lt (inMono hX V2.size)))))) ?_)
      rintro _ Iz ⟨Auv,rfl,V5,Dd⟩
      have V6:Ext [Ak,Ad,Ab,Aa] Ae Iz:=V3.trans (Ext.any (Y:=[Ak,Ad,Ab,Aa]) Dd)
      have V7:Ext [Ak,Ad,Ab,Aa] N4 Iz:=(Ext.any (Y:=[Ak,Ad,Ab,Aa]) Dd)
      have V8:=Ob.ext Dd (by simp)
      have V9:=Kt.ext Dd (by simp)
      have Ya:=Oc.ext Dd (by simp)
      have Yb:=Oa.ext Dd (by simp)
      obtain ⟨I0,I1,I2,I3,I4,I5,rfl,Yc,Yd,Ye,Yf,Yg,Yh,Od⟩:=V5
      obtain ⟨An5,An6,An7,An8,An9,Aoa,Aob,Aoc,Aod,Aoe,Aof,Aog⟩:=(show PeerD.InR q from Od)
      refine WL.nil ⟨_,rfl,cstN rfl,?_⟩
      refine Tree.node (rs:=[6]) (by kernel_rfl) ⟨offN (by kernel_rfl),offN (by kernel_rfl),trivial⟩ ⟨⟨_,rfl,[7],by kernel_rfl,?_⟩,trivial⟩
      intro Ayy Auw Oe
      refine WL.storeAgg (x:=.tmp 5) (y:=.tmp 21) (vs:=(peerC p Fk Fl Fm Fo Fp Fq)) (Sure.none rfl) rfl rfl s29 ((Oe 4 (by kernel_rfl) 5 rfl).trans rfl) ((Oe 1 (by kernel_rfl) 21 rfl).trans rfl) rfl (by intro u hu; simp only [List.mem_cons,List.not_mem_nil,or_false] at hu; rcases hu with rfl | rfl | rfl | rfl | rfl | rfl | rfl | rfl | rfl | rfl | rfl | rfl | rfl | rfl | rfl | rfl | rfl | rfl <;> first | rfl | exact Sl.one (by assumption)) Ya (by show (0:Nat) + 18 ≤ 18; decide) (fun I6 De Ku=>?_)
      replace Ku:Box I6 Ad 29 (peerC p Fk Fl Fm Fo Fp Fq):=Ku
      have Yi:=V8.ext De (by simp; omega)
      have Yj:=V9.ext De (by simp; omega)
      have Yk:=Yb.ext De (by simp; omega)
      have Yl:Ext [Ak,Ad,Ab,Aa] Ae I6:=V6.trans (De.mono (by simp))
      have Ym:Ext [Ak,Ad,Ab,Aa] N4 I6:=V7.trans (De.mono (by simp))
      have Yn:Ext [Ak,Ad,Ab,Aa] Iz I6:=(De.mono (by simp))
      refine WL.nil ⟨_,rfl,cstN rfl,?_⟩
      refine Tree.node (rs:=[7]) (by kernel_rfl) ⟨offN (by kernel_rfl),offN (by kernel_rfl),trivial⟩ ⟨⟨_,rfl,[],by kernel_rfl,?_⟩,trivial⟩
      intro Ayz Aux Of
      refine WL.storeAgg (x:=.tmp 6) (y:=.tmp 23) (vs:=(peerC q I0 I1 I2 I3 I4 I5)) (Sure.none rfl) rfl rfl s29 ((Of 5 (by kernel_rfl) 6 rfl).trans rfl) ((Of 3 (by kernel_rfl) 23 rfl).trans rfl) rfl (by intro u hu; simp only [List.mem_cons,List.not_mem_nil,or_false] at hu; rcases hu with rfl | rfl | rfl | rfl | rfl | rfl | rfl | rfl | rfl | rfl | rfl | rfl | rfl | rfl | rfl | rfl | rfl | rfl <;> first | rfl | exact Sl.one (by assumption)) Yk (by show (0:Nat) + 18 ≤ 18; decide) (fun Gh Df Kv=>?_)
      replace Kv:Box Gh Ak 29 (peerC q I0 I1 I2 I3 I4 I5):=Kv
      have Yo:=Yi.ext Df (by simp; omega)
      have Yp:=Yj.ext Df (by simp; omega)
      have Yq:=Ku.ext Df (by simp; omega)
      have Yr:Ext [Ak,Ad,Ab,Aa] Ae Gh:=Yl.trans (Df.mono (by simp))
      have Dg:Ext [Ak,Ad,Ab,Aa] N4 Gh:=Ym.trans (Df.mono (by simp))
      have Dh:Ext [Ak,Ad,Ab,Aa] Iz Gh:=Yn.trans (Df.mono (by simp))
      refine WL.nil ⟨_,rfl,cstN rfl,?_⟩
      refine Tree.leaf ?_
      exact ⟨Ad,Ak,_,_,((Aj 2 (by kernel_rfl)).trans rfl),((Aj 3 (by kernel_rfl)).trans rfl),((Aj 4 (by kernel_rfl)).trans rfl),rfl,rfl,(Ext.drop (Ext.drop Yr Hz) Ct),Yo,Yp,Yq,Kv,(peerR.mono (show peerR.rd (Ak :: (Ad :: (Ab :: (Aa :: X)))) Gh (peerC p Fk Fl Fm Fo Fp Fq) p from ⟨Fk,Fl,Fm,Fo,Fp,Fq,rfl,(Vw.ext (Ext.pre Dg)),(Vx.ext (Ext.pre Dg)),(Vy.ext (Ext.pre Dg)),(Vz.ext (Ext.pre Dg)),(V0.ext (Ext.pre Dg)),(V1.ext (Ext.pre Dg)),Ny⟩) (fun b hb=>by simp only [List.mem_cons] at hb ⊢; rcases hb with h | h | h | h | h <;> simp [h])),(peerR.mono (show peerR.rd (Ak :: (Ad :: (Ab :: (Aa :: X)))) Gh (peerC q I0 I1 I2 I3 I4 I5) q from ⟨I0,I1,I2,I3,I4,I5,rfl,(Yc.ext (Ext.pre Dh)),(Yd.ext (Ext.pre Dh)),(Ye.ext (Ext.pre Dh)),(Yf.ext (Ext.pre Dh)),(Yg.ext (Ext.pre Dh)),(Yh.ext (Ext.pre Dh)),Od⟩) (fun b hb=>by simp only [List.mem_cons] at hb ⊢; rcases hb with h | h | h | h | h <;> simp [h])),by omega,by omega,by omega,by omega,by omega,by omega,by omega,by omega⟩
    ·intro Ay0 Auy Auz
     refine WL.alloc (cs:=peerZ) (Sure.none rfl) rfl rfl z29 rfl (fun Af Al5 Ax Au0 Og=>?_)
     have Ub:Aa < Af:=by have:=He.lt; omega
     have Kw:=He.ext Ax (by simp)
     have Uc:Ab < Af:=by have:=Hf.lt; omega
     have Kx:=Hf.ext Ax (by simp)
     have T0:Ad < Af:=by have:=Iu.lt; omega
     have Oh:=Iu.ext Ax (by simp)
     have Ys:=(Sl.new (b:=Af) nz1 S5 (by omega)).ext (Ext.any Ax)
     have Yt:=(Sl.new (b:=Af) nz1 S6 (by omega)).ext (Ext.any Ax)
     have Yu:=(Sl.new (b:=Af) nz4 S7 (by omega)).ext (Ext.any Ax)
     have Yv:=(Sl.new (b:=Af) nz1 S8 (by omega)).ext (Ext.any Ax)
     have Yw:=(Sl.new (b:=Af) nz3 S9 (by omega)).ext (Ext.any Ax)
     have Yx:=(Sl.new (b:=Af) nz3 Ta (by omega)).ext (Ext.any Ax)
     have Yy:=(Sl.new (b:=Af) nz1 No (by omega)).ext (Ext.any Ax)
     have Yz:=(Sl.new (b:=Af) nz1 Np (by omega)).ext (Ext.any Ax)
     have Y0:=(Sl.new (b:=Af) nz4 Nq (by omega)).ext (Ext.any Ax)
     have Y1:=(Sl.new (b:=Af) nz1 Nr (by omega)).ext (Ext.any Ax)
     have Y2:=(Sl.new (b:=Af) nz3 Ns (by omega)).ext (Ext.any Ax)
     have Y3:=(Sl.new (b:=Af) nz3 Nt (by omega)).ext (Ext.any Ax)
     have Oi:Ext [Af,Ad,Ab,Aa] _ _:=(Ext.cons Nu).trans (Ext.any Ax)
     have Y4:Ext [Af,Ad,Ab,Aa] _ _:=(Ext.cons Nv).trans (Ext.any Ax)
     have H0:Ae.heap.size ≤ Af:=by have:=Nv.size; omega
     refine WL.nil ⟨_,rfl,cstN rfl,?_⟩
     refine Tree.node (rs:=[1]) (by kernel_rfl) ⟨(fun _ _=>Kw),(fun _ _=>Kx),trivial⟩ ⟨⟨_,rfl,[3,6,7],by kernel_rfl,?_⟩,trivial⟩
     intro Ay1 Au1 Y5
     refine WL.c (Sure.none rfl) rfl (C.call1 (x:=.tmp 20) rfl cl7 ((Y5 0 (by kernel_rfl) 20 rfl).trans (Br 0 _ 20 rfl rfl))) (Fnc.mono (ref_Own (p:=p) ⟨v1,v3,v5,v7,v9,Bq,rfl,Ys,Yt,Yu,Yv,Yw,Yx,Cu⟩ (by assumption) (X:=(Af :: (Ad :: (Ab :: (Aa :: X))))) (inCons Og.lt (inCons Oh.lt (inCons Kx.lt (inCons Kw.lt (inMono hX Oi.size)))))) ?_)
     rintro _ Gi ⟨Au2,rfl,Y6,Cv⟩
     have Y7:Ext [Af,Ad,Ab,Aa] w Gi:=Oi.trans (Ext.any (Y:=[Af,Ad,Ab,Aa]) Cv)
     have Y8:Ext [Af,Ad,Ab,Aa] Ae Gi:=Y4.trans (Ext.any (Y:=[Af,Ad,Ab,Aa]) Cv)
     have Di:Ext [Af,Ad,Ab,Aa] Al5 Gi:=(Ext.any (Y:=[Af,Ad,Ab,Aa]) Cv)
     have Oj:=Kw.ext Cv (by simp)
     have Ky:=Kx.ext Cv (by simp)
     have Ol:=Oh.ext Cv (by simp)
     have Om:=Og.ext Cv (by simp)
     obtain ⟨I7,I8,I9,Ja,Jb,Jc,rfl,Y9,Za,Zb,Zc,Zd,Ze,On⟩:=Y6
     obtain ⟨Aoh,Aoi,Aoj,Aok,Aol,Aom,Aon,Aoo,Aop,Aoq,Aor,Aos⟩:=(show PeerD.InR p from On)
     refine WL.nil ⟨_,rfl,cstN rfl,?_⟩
     refine Tree.node (rs:=[3]) (by kernel_rfl) ⟨offN (by kernel_rfl),(fun _ _=>Ky),trivial⟩ ⟨⟨_,rfl,[6,7],by kernel_rfl,?_⟩,trivial⟩
     intro Ay2 Au3 Zf
     refine WL.c (Sure.none rfl) rfl (C.call1 (x:=.tmp 22) rfl cl7 ((Zf 2 (by kernel_rfl) 22 rfl).trans (Br 2 _ 22 rfl rfl))) (Fnc.mono (ref_Own (p:=q) ⟨Bi,Bj,Bk,Bl,Bm,Bn,rfl,(Yy.ext (Ext.pre Di)),(Yz.ext (Ext.pre Di)),(Y0.ext (Ext.pre Di)),(Y1.ext (Ext.pre Di)),(Y2.ext (Ext.pre Di)),(Y3.ext (Ext.pre Di)),Cf⟩ (by assumption) (X:=(Af :: (Ad :: (Ab :: (Aa :: X))))) (inCons Om.lt (inCons Ol.lt (inCons Ky.lt (inCons Oj.lt (inMono hX Y7.size)))))) ?_)
     rintro _ Jd ⟨Au4,rfl,Zg,Dj⟩
     have Zh:Ext [Af,Ad,Ab,Aa] Ae Jd:=Y8.trans (Ext.any (Y:=[Af,Ad,Ab,Aa]) Dj)
     have Zi:Ext [Af,Ad,Ab,Aa] Gi Jd:=(Ext.any (Y:=[Af,Ad,Ab,Aa]) Dj)
     have Zj:=Oj.ext Dj (by simp)
     have Zk:=Ky.ext Dj (by simp)
     have Zl:=Ol.ext Dj (by simp)
     have Zm:=Om.ext Dj (by simp)
     obtain ⟨Je,Jf,Jg,Jh,Ji,Jj,rfl,Zn,Zo,Zp,Zq,Zr,Zs,Oo⟩:=Zg
     obtain ⟨Aot,Aou,Aov,Aow,Aox,Aoy,Aoz,Ao0,Ao1,Ao2,Ao3,Ao4⟩:=(show PeerD.InR q from Oo)
     refine WL.nil ⟨_,rfl,cstN rfl,?_⟩
     refine Tree.node (rs:=[6]) (by kernel_rfl) ⟨offN (by kernel_rfl),offN (by kernel_rfl),trivial⟩ ⟨⟨_,rfl,[7],by kernel_rfl,?_⟩,trivial⟩
     intro Ay3 Au5 Oq
     refine WL.storeAgg (x:=.tmp 5) (y:=.tmp 21) (vs:=(peerC p I7 I8 I9 Ja Jb Jc)) (Sure.none rfl) rfl rfl s29 ((Oq 4 (by kernel_rfl) 5 rfl).trans rfl) ((Oq 1 (by kernel_rfl) 21 rfl).trans rfl) rfl (by intro u hu; simp only [List.mem_cons,List.not_mem_nil,or_false] at hu; rcases hu with rfl | rfl | rfl | rfl | rfl | rfl | rfl | rfl | rfl | rfl | rfl | rfl | rfl | rfl | rfl | rfl | rfl | rfl <;> first | rfl | exact Sl.one (by assumption)) Zl (by show (0:Nat) + 18 ≤ 18; decide) (fun Jk Dk Kz=>?_)
     replace Kz:Box Jk Ad 29 (peerC p I7 I8 I9 Ja Jb Jc):=Kz
     have Zt:=Zj.ext Dk (by simp; omega)
     have Zu:=Zk.ext Dk (by simp; omega)
     have Zv:=Zm.ext Dk (by simp; omega)
     have Zw:Ext [Af,Ad,Ab,Aa] Ae Jk:=Zh.trans (Dk.mono (by simp))
     have Zx:Ext [Af,Ad,Ab,Aa] Gi Jk:=Zi.trans (Dk.mono (by simp))
     have Zy:Ext [Af,Ad,Ab,Aa] Jd Jk:=(Dk.mono (by simp))
     refine WL.nil ⟨_,rfl,cstN rfl,?_⟩
     refine Tree.node (rs:=[7]) (by kernel_rfl) ⟨offN (by kernel_rfl),offN (by kernel_rfl),trivial⟩ ⟨⟨_,rfl,[],by kernel_rfl,?_⟩,trivial⟩
     intro Ay4 Au6 Ot
     refine WL.storeAgg (x:=.tmp 6) (y:=.tmp 23) (vs:=(peerC q Je Jf Jg Jh Ji Jj)) (Sure.none rfl) rfl rfl s29 ((Ot 5 (by kernel_rfl) 6 rfl).trans rfl) ((Ot 3 (by kernel_rfl) 23 rfl).trans rfl) rfl (by intro u hu; simp only [List.mem_cons,List.not_mem_nil,or_false] at hu; rcases hu with rfl | rfl | rfl | rfl | rfl | rfl | rfl | rfl | rfl | rfl | rfl | rfl | rfl | rfl | rfl | rfl | rfl | rfl <;> first | rfl | exact Sl.one (by assumption)) Zv (by show (0:Nat) + 18 ≤ 18; decide) (fun Gj Dl K0=>?_)
     replace K0:Box Gj Af 29 (peerC q Je Jf Jg Jh Ji Jj):=K0
     have Zz:=Zt.ext Dl (by simp; omega)
     have Z0:=Zu.ext Dl (by simp; omega)
     have Z1:=Kz.ext Dl (by simp; omega)
     have Z2:Ext [Af,Ad,Ab,Aa] Ae Gj:=Zw.trans (Dl.mono (by simp))
     have Dm:Ext [Af,Ad,Ab,Aa] Gi Gj:=Zx.trans (Dl.mono (by simp))
     have Dn:Ext [Af,Ad,Ab,Aa] Jd Gj:=Zy.trans (Dl.mono (by simp))
     refine WL.nil ⟨_,rfl,cstN rfl,?_⟩
     refine Tree.leaf ?_
     exact ⟨Ad,Af,_,_,((Aj 2 (by kernel_rfl)).trans rfl),((Aj 3 (by kernel_rfl)).trans rfl),((Aj 4 (by kernel_rfl)).trans rfl),rfl,rfl,(Ext.drop (Ext.drop Z2 H0) Ct),Zz,Z0,Z1,K0,(peerR.mono (show peerR.rd (Af :: (Ad :: (Ab :: (Aa :: X)))) Gj (peerC p I7 I8 I9 Ja Jb Jc) p from ⟨I7,I8,I9,Ja,Jb,Jc,rfl,(Y9.ext (Ext.pre Dm)),(Za.ext (Ext.pre Dm)),(Zb.ext (Ext.pre Dm)),(Zc.ext (Ext.pre Dm)),(Zd.ext (Ext.pre Dm)),(Ze.ext (Ext.pre Dm)),On⟩) (fun b hb=>by simp only [List.mem_cons] at hb ⊢; rcases hb with h | h | h | h | h <;> simp [h])),(peerR.mono (show peerR.rd (Af :: (Ad :: (Ab :: (Aa :: X)))) Gj (peerC q Je Jf Jg Jh Ji Jj) q from ⟨Je,Jf,Jg,Jh,Ji,Jj,rfl,(Zn.ext (Ext.pre Dn)),(Zo.ext (Ext.pre Dn)),(Zp.ext (Ext.pre Dn)),(Zq.ext (Ext.pre Dn)),(Zr.ext (Ext.pre Dn)),(Zs.ext (Ext.pre Dn)),Oo⟩) (fun b hb=>by simp only [List.mem_cons] at hb ⊢; rcases hb with h | h | h | h | h <;> simp [h])),by omega,by omega,by omega,by omega,by omega,by omega,by omega,by omega⟩
   ·intro Ay5 Au7 Au8
    refine WL.alloc (cs:=peerZ) (Sure.none rfl) rfl rfl z29 rfl (fun Ac Al6 A9 Au9 Hj=>?_)
    have Ud:Aa < Ac:=by have:=D6.lt; omega
    have Fu:=D6.ext A9 (by simp)
    have Ue:Ab < Ac:=by have:=D7.lt; omega
    have Fv:=D7.ext A9 (by simp)
    have Ou:=(Sl.new (b:=Ac) nz1 (Kg.ext (Ext.pre Am)) (by omega)).ext (Ext.any A9)
    have Ov:=(Sl.new (b:=Ac) nz1 (Kh.ext (Ext.pre Am)) (by omega)).ext (Ext.any A9)
    have Ow:=(Sl.new (b:=Ac) nz4 (Ki.ext (Ext.pre Am)) (by omega)).ext (Ext.any A9)
    have Ox:=(Sl.new (b:=Ac) nz1 (Kj.ext (Ext.pre Am)) (by omega)).ext (Ext.any A9)
    have Oy:=(Sl.new (b:=Ac) nz3 (Kk.ext (Ext.pre Am)) (by omega)).ext (Ext.any A9)
    have Oz:=(Sl.new (b:=Ac) nz3 (Kl.ext (Ext.pre Am)) (by omega)).ext (Ext.any A9)
    have K1:=(Sl.new (b:=Ac) nz1 (Gn.ext (Ext.pre Am)) (by omega)).ext (Ext.any A9)
    have K2:=(Sl.new (b:=Ac) nz1 (Gp.ext (Ext.pre Am)) (by omega)).ext (Ext.any A9)
    have K3:=(Sl.new (b:=Ac) nz4 (Gq.ext (Ext.pre Am)) (by omega)).ext (Ext.any A9)
    have K4:=(Sl.new (b:=Ac) nz1 (Gr.ext (Ext.pre Am)) (by omega)).ext (Ext.any A9)
    have K5:=(Sl.new (b:=Ac) nz3 (Gs.ext (Ext.pre Am)) (by omega)).ext (Ext.any A9)
    have K6:=(Sl.new (b:=Ac) nz3 (Gt.ext (Ext.pre Am)) (by omega)).ext (Ext.any A9)
    have K7:Ext [Ac,Ab,Aa] _ _:=(Ext.cons If).trans (Ext.any A9)
    have K8:Ext [Ac,Ab,Aa] _ _:=(Ext.cons Gz).trans (Ext.any A9)
    have Cp:Ae.heap.size ≤ Ac:=by have:=Gz.size; omega
    refine WL.nil ⟨_,rfl,cstN rfl,?_⟩
    refine Tree.node (rs:=[1,4]) (by kernel_rfl) ⟨(fun _ _=>Fu),(fun _ _=>Fv),trivial⟩ ⟨⟨_,rfl,[3,4,6,7],by kernel_rfl,?_⟩,⟨_,rfl,[1,3,6,7],by kernel_rfl,?_⟩,trivial⟩
    ·intro Ay6 Ava Z3
     refine WL.c (Sure.none rfl) rfl (C.call1 (x:=.tmp 20) rfl cl7 ((Z3 0 (by kernel_rfl) 20 rfl).trans (Br 0 _ 20 rfl rfl))) (Fnc.mono (ref_Own (p:=p) ⟨v1,v3,v5,v7,v9,Bq,rfl,Ou,Ov,Ow,Ox,Oy,Oz,Cu⟩ (by assumption) (X:=(Ac :: (Ab :: (Aa :: X)))) (inCons Hj.lt (inCons Fv.lt (inCons Fu.lt (inMono hX K7.size))))) ?_)
     rintro _ Jl ⟨Avb,rfl,Z4,Do⟩
     have O0:Ext [Ac,Ab,Aa] w Jl:=K7.trans (Ext.any (Y:=[Ac,Ab,Aa]) Do)
     have K9:Ext [Ac,Ab,Aa] Ae Jl:=K8.trans (Ext.any (Y:=[Ac,Ab,Aa]) Do)
     have B5:Ext [Ac,Ab,Aa] Al6 Jl:=(Ext.any (Y:=[Ac,Ab,Aa]) Do)
     have Hk:=Fu.ext Do (by simp)
     have Fw:=Fv.ext Do (by simp)
     have Hl:=Hj.ext Do (by simp)
     obtain ⟨C0,C1,C2,C3,C4,C5,rfl,O1,O2,O3,O4,O5,O6,La⟩:=Z4
     obtain ⟨Ao5,Ao6,Ao7,Ao8,Ao9,Apa,Apb,Apc,Apd,Ape,Apf,Apg⟩:=(show PeerD.InR p from La)
     refine WL.nil ⟨_,rfl,cstN rfl,?_⟩
     refine Tree.node (rs:=[3,4]) (by kernel_rfl) ⟨offN (by kernel_rfl),(fun _ _=>Fw),trivial⟩ ⟨⟨_,rfl,[4,6,7],by kernel_rfl,?_⟩,⟨_,rfl,[3,6,7],by kernel_rfl,?_⟩,trivial⟩
     ·intro Ay7 Avc Z5
      refine WL.c (Sure.none rfl) rfl (C.call1 (x:=.tmp 22) rfl cl7 ((Z5 2 (by kernel_rfl) 22 rfl).trans (Br 2 _ 22 rfl rfl))) (Fnc.mono (ref_Own (p:=q) ⟨Bi,Bj,Bk,Bl,Bm,Bn,rfl,(K1.ext (Ext.pre B5)),(K2.ext (Ext.pre B5)),(K3.ext (Ext.pre B5)),(K4.ext (Ext.pre B5)),(K5.ext (Ext.pre B5)),(K6.ext (Ext.pre B5)),Cf⟩ (by assumption) (X:=(Ac :: (Ab :: (Aa :: X)))) (inCons Hl.lt (inCons Fw.lt (inCons Hk.lt (inMono hX O0.size))))) ?_)
      rintro _ Tn ⟨Avd,rfl,Z6,Fx⟩
      have O7:Ext [Ac,Ab,Aa] Ae Tn:=K9.trans (Ext.any (Y:=[Ac,Ab,Aa]) Fx)
      have Dp:Ext [Ac,Ab,Aa] Jl Tn:=(Ext.any (Y:=[Ac,Ab,Aa]) Fx)
      have O8:=Hk.ext Fx (by simp)
      have O9:=Fw.ext Fx (by simp)
      have Pa:=Hl.ext Fx (by simp)
      obtain ⟨Jm,Jn,Jo,Jp,Jq,Jr,rfl,Z7,Z8,Z9,Aaa,Aab,Aac,Pb⟩:=Z6
      obtain ⟨Aph,Api,Apj,Apk,Apl,Apm,Apn,Apo,App,Apq,Apr,Aps⟩:=(show PeerD.InR q from Pb)
      refine WL.nil ⟨_,rfl,cstN rfl,?_⟩
      refine Tree.node (rs:=[4]) (by kernel_rfl) ⟨offN (by kernel_rfl),offN (by kernel_rfl),trivial⟩ ⟨⟨_,rfl,[6,7],by kernel_rfl,?_⟩,trivial⟩
      intro Ay8 Ave Avf
      refine WL.alloc (cs:=peerZ) (Sure.none rfl) rfl rfl z29 rfl (fun Aq Tp Ba Avg Aad=>?_)
      have Uf:Aa < Aq:=by have:=O8.lt; omega
      have Aae:=O8.ext Ba (by simp)
      have Ug:Ab < Aq:=by have:=O9.lt; omega
      have Aaf:=O9.ext Ba (by simp)
      have Tv:Ac < Aq:=by have:=Pa.lt; omega
      have Aag:=Pa.ext Ba (by simp)
      have Aah:=(Sl.new (b:=Aq) nz1 (O1.ext (Ext.pre Dp)) (by omega)).ext (Ext.any Ba)
      have Aai:=(Sl.new (b:=Aq) nz1 (O2.ext (Ext.pre Dp)) (by omega)).ext (Ext.any Ba)
      have Aaj:=(Sl.new (b:=Aq) nz4 (O3.ext (Ext.pre Dp)) (by omega)).ext (Ext.any Ba)
      have Aak:=(Sl.new (b:=Aq) nz1 (O4.ext (Ext.pre Dp)) (by omega)).ext (Ext.any Ba)
      have Aal:=(Sl.new (b:=Aq) nz3 (O5.ext (Ext.pre Dp)) (by omega)).ext (Ext.any Ba)
      have Aam:=(Sl.new (b:=Aq) nz3 (O6.ext (Ext.pre Dp)) (by omega)).ext (Ext.any Ba)
      have Aan:=(Sl.new (b:=Aq) nz1 Z7 (by omega)).ext (Ext.any Ba)
      have Aao:=(Sl.new (b:=Aq) nz1 Z8 (by omega)).ext (Ext.any Ba)
      have Aap:=(Sl.new (b:=Aq) nz4 Z9 (by omega)).ext (Ext.any Ba)
      have Aaq:=(Sl.new (b:=Aq) nz1 Aaa (by omega)).ext (Ext.any Ba)
      have Aar:=(Sl.new (b:=Aq) nz3 Aab (by omega)).ext (Ext.any Ba)
      have Aas:=(Sl.new (b:=Aq) nz3 Aac (by omega)).ext (Ext.any Ba)
      have Aat:Ext [Aq,Ac,Ab,Aa] _ _:=(Ext.cons O7).trans (Ext.any Ba)
      have H1:Ae.heap.size ≤ Aq:=by have:=O7.size; omega
      refine WL.nil ⟨_,rfl,cstN rfl,?_⟩
      refine Tree.node (rs:=[6]) (by kernel_rfl) ⟨offN (by kernel_rfl),offN (by kernel_rfl),trivial⟩ ⟨⟨_,rfl,[7],by kernel_rfl,?_⟩,trivial⟩
      intro Ay9 Avh Pc
      refine WL.storeAgg (x:=.tmp 5) (y:=.tmp 21) (vs:=(peerC p C0 C1 C2 C3 C4 C5)) (Sure.none rfl) rfl rfl s29 ((Pc 4 (by kernel_rfl) 5 rfl).trans rfl) ((Pc 1 (by kernel_rfl) 21 rfl).trans rfl) rfl (by intro u hu; simp only [List.mem_cons,List.not_mem_nil,or_false] at hu; rcases hu with rfl | rfl | rfl | rfl | rfl | rfl | rfl | rfl | rfl | rfl | rfl | rfl | rfl | rfl | rfl | rfl | rfl | rfl <;> first | rfl | exact Sl.one (by assumption)) Aad (by show (0:Nat) + 18 ≤ 18; decide) (fun N5 Fy Lb=>?_)
      replace Lb:Box N5 Aq 29 (peerC p C0 C1 C2 C3 C4 C5):=Lb
      have Aau:=Aae.ext Fy (by simp; omega)
      have Aav:=Aaf.ext Fy (by simp; omega)
      have Aaw:=Aag.ext Fy (by simp; omega)
      have Aax:Ext [Aq,Ac,Ab,Aa] Ae N5:=Aat.trans (Fy.mono (by simp))
      have Aay:Ext [Aq,Ac,Ab,Aa] Tp N5:=(Fy.mono (by simp))
      refine WL.nil ⟨_,rfl,cstN rfl,?_⟩
      refine Tree.node (rs:=[7]) (by kernel_rfl) ⟨offN (by kernel_rfl),offN (by kernel_rfl),trivial⟩ ⟨⟨_,rfl,[],by kernel_rfl,?_⟩,trivial⟩
      intro Aza Avi Pd
      refine WL.storeAgg (x:=.tmp 6) (y:=.tmp 23) (vs:=(peerC q Jm Jn Jo Jp Jq Jr)) (Sure.none rfl) rfl rfl s29 ((Pd 5 (by kernel_rfl) 6 rfl).trans rfl) ((Pd 3 (by kernel_rfl) 23 rfl).trans rfl) rfl (by intro u hu; simp only [List.mem_cons,List.not_mem_nil,or_false] at hu; rcases hu with rfl | rfl | rfl | rfl | rfl | rfl | rfl | rfl | rfl | rfl | rfl | rfl | rfl | rfl | rfl | rfl | rfl | rfl <;> first | rfl | exact Sl.one (by assumption)) Aaw (by show (0:Nat) + 18 ≤ 18; decide) (fun Hm Fz Lc=>?_)
      replace Lc:Box Hm Ac 29 (peerC q Jm Jn Jo Jp Jq Jr):=Lc
      have Aaz:=Aau.ext Fz (by simp; omega)
      have Aa0:=Aav.ext Fz (by simp; omega)
      have Aa1:=Lb.ext Fz (by simp; omega)
      have Aa2:Ext [Aq,Ac,Ab,Aa] Ae Hm:=Aax.trans (Fz.mono (by simp))
      have B6:Ext [Aq,Ac,Ab,Aa] Tp Hm:=Aay.trans (Fz.mono (by simp))
      refine WL.nil ⟨_,rfl,cstN rfl,?_⟩
      refine Tree.leaf ?_
      exact ⟨Aq,Ac,_,_,((Aj 2 (by kernel_rfl)).trans rfl),((Aj 3 (by kernel_rfl)).trans rfl),((Aj 4 (by kernel_rfl)).trans rfl),rfl,rfl,(Ext.drop (Ext.drop Aa2 H1) Cp),Aaz,Aa0,Aa1,Lc,(peerR.mono (show peerR.rd (Aq :: (Ac :: (Ab :: (Aa :: X)))) Hm (peerC p C0 C1 C2 C3 C4 C5) p from ⟨C0,C1,C2,C3,C4,C5,rfl,(Aah.ext (Ext.pre B6)),(Aai.ext (Ext.pre B6)),(Aaj.ext (Ext.pre B6)),(Aak.ext (Ext.pre B6)),(Aal.ext (Ext.pre B6)),(Aam.ext (Ext.pre B6)),La⟩) (fun b hb=>by simp only [List.mem_cons] at hb ⊢; rcases hb with h | h | h | h | h <;> simp [h])),(peerR.mono (show peerR.rd (Aq :: (Ac :: (Ab :: (Aa :: X)))) Hm (peerC q Jm Jn Jo Jp Jq Jr) q from ⟨Jm,Jn,Jo,Jp,Jq,Jr,rfl,(Aan.ext (Ext.pre B6)),(Aao.ext (Ext.pre B6)),(Aap.ext (Ext.pre B6)),(Aaq.ext (Ext.pre B6)),(Aar.ext (Ext.pre B6)),(Aas.ext (Ext.pre B6)),Pb⟩) (fun b hb=>by simp only [List.mem_cons] at hb ⊢; rcases hb with h | h | h | h | h <;> simp [h])),by omega,by omega,by omega,by omega,by omega,by omega,by omega,by omega⟩
     ·intro Azb Avj Avk
      refine WL.alloc (cs:=peerZ) (Sure.none rfl) rfl rfl z29 rfl (fun Al N6 Ay Avl Pe=>?_)
      have Uh:Aa < Al:=by have:=Hk.lt; omega
      have Pf:=Hk.ext Ay (by simp)
      have Ui:Ab < Al:=by have:=Fw.lt; omega
      have Ld:=Fw.ext Ay (by simp)
      have Tw:Ac < Al:=by have:=Hl.lt; omega
      have Pg:=Hl.ext Ay (by simp)
      have Aa3:=(Sl.new (b:=Al) nz1 (K1.ext (Ext.pre B5)) (by omega)).ext (Ext.any Ay)
      have Aa4:=(Sl.new (b:=Al) nz1 (K2.ext (Ext.pre B5)) (by omega)).ext (Ext.any Ay)
      have Aa5:=(Sl.new (b:=Al) nz4 (K3.ext (Ext.pre B5)) (by omega)).ext (Ext.any Ay)
      have Aa6:=(Sl.new (b:=Al) nz1 (K4.ext (Ext.pre B5)) (by omega)).ext (Ext.any Ay)
      have Aa7:=(Sl.new (b:=Al) nz3 (K5.ext (Ext.pre B5)) (by omega)).ext (Ext.any Ay)
      have Aa8:=(Sl.new (b:=Al) nz3 (K6.ext (Ext.pre B5)) (by omega)).ext (Ext.any Ay)
      have Aa9:=(Sl.new (b:=Al) nz1 O1 (by omega)).ext (Ext.any Ay)
      have Aba:=(Sl.new (b:=Al) nz1 O2 (by omega)).ext (Ext.any Ay)
      have Abb:=(Sl.new (b:=Al) nz4 O3 (by omega)).ext (Ext.any Ay)
      have Abc:=(Sl.new (b:=Al) nz1 O4 (by omega)).ext (Ext.any Ay)
      have Abd:=(Sl.new (b:=Al) nz3 O5 (by omega)).ext (Ext.any Ay)
      have Abe:=(Sl.new (b:=Al) nz3 O6 (by omega)).ext (Ext.any Ay)
      have Abf:Ext [Al,Ac,Ab,Aa] _ _:=(Ext.cons O0).trans (Ext.any Ay)
      have Abg:Ext [Al,Ac,Ab,Aa] _ _:=(Ext.cons K9).trans (Ext.any Ay)
      have H2:Ae.heap.size ≤ Al:=by have:=K9.size; omega
      refine WL.nil ⟨_,rfl,cstN rfl,?_⟩
      refine Tree.node (rs:=[3]) (by kernel_rfl) ⟨offN (by kernel_rfl),(fun _ _=>Ld),trivial⟩ ⟨⟨_,rfl,[6,7],by kernel_rfl,?_⟩,trivial⟩
      intro Azc Avm Abh
      refine WL.c (Sure.none rfl) rfl (C.call1 (x:=.tmp 22) rfl cl7 ((Abh 2 (by kernel_rfl) 22 rfl).trans (Br 2 _ 22 rfl rfl))) (Fnc.mono (ref_Own (p:=q) ⟨Bi,Bj,Bk,Bl,Bm,Bn,rfl,Aa3,Aa4,Aa5,Aa6,Aa7,Aa8,Cf⟩ (by assumption) (X:=(Al :: (Ac :: (Ab :: (Aa :: X))))) (inCons Pe.lt (inCons Pg.lt (inCons Ld.lt (inCons Pf.lt (inMono hX Abf.size)))))) ?_)
      rintro _ Js ⟨Avn,rfl,Abi,Dq⟩
      have Abj:Ext [Al,Ac,Ab,Aa] Ae Js:=Abg.trans (Ext.any (Y:=[Al,Ac,Ab,Aa]) Dq)
      have Abk:Ext [Al,Ac,Ab,Aa] N6 Js:=(Ext.any (Y:=[Al,Ac,Ab,Aa]) Dq)
      have Abl:=Pf.ext Dq (by simp)
      have Abm:=Ld.ext Dq (by simp)
      have Abn:=Pg.ext Dq (by simp)
      have Abo:=Pe.ext Dq (by simp)
      obtain ⟨Jt,Ju,Jv,Jw,Jx,Jy,rfl,Abp,Abq,Abr,Abs,Abt,Abu,Ph⟩:=Abi
      obtain ⟨Apt,Apu,Apv,Apw,Apx,Apy,Apz,Ap0,Ap1,Ap2,Ap3,Ap4⟩:=(show PeerD.InR q from Ph)
      refine WL.nil ⟨_,rfl,cstN rfl,?_⟩
      refine Tree.node (rs:=[6]) (by kernel_rfl) ⟨offN (by kernel_rfl),offN (by kernel_rfl),trivial⟩ ⟨⟨_,rfl,[7],by kernel_rfl,?_⟩,trivial⟩
      intro Azd Avo Pi
      refine WL.storeAgg (x:=.tmp 5) (y:=.tmp 21) (vs:=(peerC p C0 C1 C2 C3 C4 C5)) (Sure.none rfl) rfl rfl s29 ((Pi 4 (by kernel_rfl) 5 rfl).trans rfl) ((Pi 1 (by kernel_rfl) 21 rfl).trans rfl) rfl (by intro u hu; simp only [List.mem_cons,List.not_mem_nil,or_false] at hu; rcases hu with rfl | rfl | rfl | rfl | rfl | rfl | rfl | rfl | rfl | rfl | rfl | rfl | rfl | rfl | rfl | rfl | rfl | rfl <;> first | rfl | exact Sl.one (by assumption)) Abo (by show (0:Nat) + 18 ≤ 18; decide) (fun Jz Dr Le=>?_)
      replace Le:Box Jz Al 29 (peerC p C0 C1 C2 C3 C4 C5):=Le
      have Abv:=Abl.ext Dr (by simp; omega)
      have Abw:=Abm.ext Dr (by simp; omega)
      have Abx:=Abn.ext Dr (by simp; omega)
      have Aby:Ext [Al,Ac,Ab,Aa] Ae Jz:=Abj.trans (Dr.mono (by simp))
      have Abz:Ext [Al,Ac,Ab,Aa] N6 Jz:=Abk.trans (Dr.mono (by simp))
      have Ab0:Ext [Al,Ac,Ab,Aa] Js Jz:=(Dr.mono (by simp))
      refine WL.nil ⟨_,rfl,cstN rfl,?_⟩
      refine Tree.node (rs:=[7]) (by kernel_rfl) ⟨offN (by kernel_rfl),offN (by kernel_rfl),trivial⟩ ⟨⟨_,rfl,[],by kernel_rfl,?_⟩,trivial⟩
      intro Aze Avp Pj
      refine WL.storeAgg (x:=.tmp 6) (y:=.tmp 23) (vs:=(peerC q Jt Ju Jv Jw Jx Jy)) (Sure.none rfl) rfl rfl s29 ((Pj 5 (by kernel_rfl) 6 rfl).trans rfl) ((Pj 3 (by kernel_rfl) 23 rfl).trans rfl) rfl (by intro u hu; simp only [List.mem_cons,List.not_mem_nil,or_false] at hu; rcases hu with rfl | rfl | rfl | rfl | rfl | rfl | rfl | rfl | rfl | rfl | rfl | rfl | rfl | rfl | rfl | rfl | rfl | rfl <;> first | rfl | exact Sl.one (by assumption)) Abx (by show (0:Nat) + 18 ≤ 18; decide) (fun Gk Ds Lf=>?_)
      replace Lf:Box Gk Ac 29 (peerC q Jt Ju Jv Jw Jx Jy):=Lf
      have Ab1:=Abv.ext Ds (by simp; omega)
      have Ab2:=Abw.ext Ds (by simp; omega)
      have Ab3:=Le.ext Ds (by simp; omega)
      have Ab4:Ext [Al,Ac,Ab,Aa] Ae Gk:=Aby.trans (Ds.mono (by simp))
      have Dt:Ext [Al,Ac,Ab,Aa] N6 Gk:=Abz.trans (Ds.mono (by simp))
      have Du:Ext [Al,Ac,Ab,Aa] Js Gk:=Ab0.trans (Ds.mono (by simp))
      refine WL.nil ⟨_,rfl,cstN rfl,?_⟩
      refine Tree.leaf ?_
      exact ⟨Al,Ac,_,_,((Aj 2 (by kernel_rfl)).trans rfl),((Aj 3 (by kernel_rfl)).trans rfl),((Aj 4 (by kernel_rfl)).trans rfl),rfl,rfl,(Ext.drop (Ext.drop Ab4 H2) Cp),Ab1,Ab2,Ab3,Lf,(peerR.mono (show peerR.rd (Al :: (Ac :: (Ab :: (Aa :: X)))) Gk (peerC p C0 C1 C2 C3 C4 C5) p from ⟨C0,C1,C2,C3,C4,C5,rfl,(Aa9.ext (Ext.pre Dt)),(Aba.ext (Ext.pre Dt)),(Abb.ext (Ext.pre Dt)),(Abc.ext (Ext.pre Dt)),(Abd.ext (Ext.pre Dt)),(Abe.ext (Ext.pre Dt)),La⟩) (fun b hb=>by simp only [List.mem_cons] at hb ⊢; rcases hb with h | h | h | h | h <;> simp [h])),(peerR.mono (show peerR.rd (Al :: (Ac :: (Ab :: (Aa :: X)))) Gk (peerC q Jt Ju Jv Jw Jx Jy) q from ⟨Jt,Ju,Jv,Jw,Jx,Jy,rfl,(Abp.ext (Ext.pre Du)),(Abq.ext (Ext.pre Du)),(Abr.ext (Ext.pre Du)),(Abs.ext (Ext.pre Du)),(Abt.ext (Ext.pre Du)),(Abu.ext (Ext.pre Du)),Ph⟩) (fun b hb=>by simp only [List.mem_cons] at hb ⊢; rcases hb with h | h | h | h | h <;> simp [h])),by omega,by omega,by omega,by omega,by omega,by omega,by omega,by omega⟩
    ·intro Azf Avq Avr
     refine WL.alloc (cs:=peerZ) (Sure.none rfl) rfl rfl z29 rfl (fun Ag Al7 Az Avs Pk=>?_)
     have Uj:Aa < Ag:=by have:=Fu.lt; omega
     have Lg:=Fu.ext Az (by simp)
     have Uk:Ab < Ag:=by have:=Fv.lt; omega
     have Lh:=Fv.ext Az (by simp)
     have Tx:Ac < Ag:=by have:=Hj.lt; omega
     have Pl:=Hj.ext Az (by simp)
     have Ab5:=(Sl.new (b:=Ag) nz1 Ou (by omega)).ext (Ext.any Az)
     have Ab6:=(Sl.new (b:=Ag) nz1 Ov (by omega)).ext (Ext.any Az)
     have Ab7:=(Sl.new (b:=Ag) nz4 Ow (by omega)).ext (Ext.any Az)
     have Ab8:=(Sl.new (b:=Ag) nz1 Ox (by omega)).ext (Ext.any Az)
     have Ab9:=(Sl.new (b:=Ag) nz3 Oy (by omega)).ext (Ext.any Az)
     have Aca:=(Sl.new (b:=Ag) nz3 Oz (by omega)).ext (Ext.any Az)
     have Acb:=(Sl.new (b:=Ag) nz1 K1 (by omega)).ext (Ext.any Az)
     have Acc:=(Sl.new (b:=Ag) nz1 K2 (by omega)).ext (Ext.any Az)
     have Acd:=(Sl.new (b:=Ag) nz4 K3 (by omega)).ext (Ext.any Az)
     have Ace:=(Sl.new (b:=Ag) nz1 K4 (by omega)).ext (Ext.any Az)
     have Acf:=(Sl.new (b:=Ag) nz3 K5 (by omega)).ext (Ext.any Az)
     have Acg:=(Sl.new (b:=Ag) nz3 K6 (by omega)).ext (Ext.any Az)
     have Pm:Ext [Ag,Ac,Ab,Aa] _ _:=(Ext.cons K7).trans (Ext.any Az)
     have Ach:Ext [Ag,Ac,Ab,Aa] _ _:=(Ext.cons K8).trans (Ext.any Az)
     have H3:Ae.heap.size ≤ Ag:=by have:=K8.size; omega
     refine WL.nil ⟨_,rfl,cstN rfl,?_⟩
     refine Tree.node (rs:=[1]) (by kernel_rfl) ⟨(fun _ _=>Lg),(fun _ _=>Lh),trivial⟩ ⟨⟨_,rfl,[3,6,7],by kernel_rfl,?_⟩,trivial⟩
     intro Azg Avt Aci
     refine WL.c (Sure.none rfl) rfl (C.call1 (x:=.tmp 20) rfl cl7 ((Aci 0 (by kernel_rfl) 20 rfl).trans (Br 0 _ 20 rfl rfl))) (Fnc.mono (ref_Own (p:=p) ⟨v1,v3,v5,v7,v9,Bq,rfl,Ab5,Ab6,Ab7,Ab8,Ab9,Aca,Cu⟩ (by assumption) (X:=(Ag :: (Ac :: (Ab :: (Aa :: X))))) (inCons Pk.lt (inCons Pl.lt (inCons Lh.lt (inCons Lg.lt (inMono hX Pm.size)))))) ?_)
     rintro _ Gl ⟨Avu,rfl,Acj,Cw⟩
     have Ack:Ext [Ag,Ac,Ab,Aa] w Gl:=Pm.trans (Ext.any (Y:=[Ag,Ac,Ab,Aa]) Cw)
     have Acl:Ext [Ag,Ac,Ab,Aa] Ae Gl:=Ach.trans (Ext.any (Y:=[Ag,Ac,Ab,Aa]) Cw)
     have Dv:Ext [Ag,Ac,Ab,Aa] Al7 Gl:=(Ext.any (Y:=[Ag,Ac,Ab,Aa]) Cw)
     have Pn:=Lg.ext Cw (by simp)
     have Li:=Lh.ext Cw (by simp)
     have Po:=Pl.ext Cw (by simp)
     have Pp:=Pk.ext Cw (by simp)
     obtain ⟨J0,J1,J2,J3,J4,J5,rfl,Acm,Acn,Aco,Acp,Acq,Acr,Pq⟩:=Acj
     obtain ⟨Ap5,Ap6,Ap7,Ap8,Ap9,Aqa,Aqb,Aqc,Aqd,Aqe,Aqf,Aqg⟩:=(show PeerD.InR p from Pq)
     refine WL.nil ⟨_,rfl,cstN rfl,?_⟩
     refine Tree.node (rs:=[3]) (by kernel_rfl) ⟨offN (by kernel_rfl),(fun _ _=>Li),trivial⟩ ⟨⟨_,rfl,[6,7],by kernel_rfl,?_⟩,trivial⟩
     intro Azh Avv Acs
     refine WL.c (Sure.none rfl) rfl (C.call1 (x:=.tmp 22) rfl cl7 ((Acs 2 (by kernel_rfl) 22 rfl).trans (Br 2 _ 22 rfl rfl))) (Fnc.mono (ref_Own (p:=q) ⟨Bi,Bj,Bk,Bl,Bm,Bn,rfl,(Acb.ext (Ext.pre Dv)),(Acc.ext (Ext.pre Dv)),(Acd.ext (Ext.pre Dv)),(Ace.ext (Ext.pre Dv)),(Acf.ext (Ext.pre Dv)),(Acg.ext (Ext.pre Dv)),Cf⟩ (by assumption) (X:=(Ag :: (Ac :: (Ab :: (Aa :: X))))) (inCons Pp.lt (inCons Po.lt (inCons Li.lt (inCons Pn.lt (inMono hX Ack.size)))))) ?_)
     rintro _ J6 ⟨Avw,rfl,Acu,Dw⟩
     have Acv:Ext [Ag,Ac,Ab,Aa] Ae J6:=Acl.trans (Ext.any (Y:=[Ag,Ac,Ab,Aa]) Dw)
     have Acw:Ext [Ag,Ac,Ab,Aa] Gl J6:=(Ext.any (Y:=[Ag,Ac,Ab,Aa]) Dw)
     have Acx:=Pn.ext Dw (by simp)
     have Acy:=Li.ext Dw (by simp)
     have Acz:=Po.ext Dw (by simp)
     have Ac0:=Pp.ext Dw (by simp)
     obtain ⟨J7,J8,J9,Ka,Kb,Kc,rfl,Ac1,Ac2,Ac3,Ac4,Ac5,Ac6,Pr⟩:=Acu
     obtain ⟨Aqh,Aqi,Aqj,Aqk,Aql,Aqm,Aqn,Aqo,Aqp,Aqq,Aqr,Aqs⟩:=(show PeerD.InR q from Pr)
     refine WL.nil ⟨_,rfl,cstN rfl,?_⟩
     refine Tree.node (rs:=[6]) (by kernel_rfl) ⟨offN (by kernel_rfl),offN (by kernel_rfl),trivial⟩ ⟨⟨_,rfl,[7],by kernel_rfl,?_⟩,trivial⟩
     intro Azi Avx Ps
     refine WL.storeAgg (x:=.tmp 5) (y:=.tmp 21) (vs:=(peerC p J0 J1 J2 J3 J4 J5)) (Sure.none rfl) rfl rfl s29 ((Ps 4 (by kernel_rfl) 5 rfl).trans rfl) ((Ps 1 (by kernel_rfl) 21 rfl).trans rfl) rfl (by intro u hu; simp only [List.mem_cons,List.not_mem_nil,or_false] at hu; rcases hu with rfl | rfl | rfl | rfl | rfl | rfl | rfl | rfl | rfl | rfl | rfl | rfl | rfl | rfl | rfl | rfl | rfl | rfl <;> first | rfl | exact Sl.one (by assumption)) Ac0 (by show (0:Nat) + 18 ≤ 18; decide) (fun Kd Dx Lj=>?_)
     replace Lj:Box Kd Ag 29 (peerC p J0 J1 J2 J3 J4 J5):=Lj
     have Ac7:=Acx.ext Dx (by simp; omega)
     have Ac8:=Acy.ext Dx (by simp; omega)
     have Ac9:=Acz.ext Dx (by simp; omega)
     have Ada:Ext [Ag,Ac,Ab,Aa] Ae Kd:=Acv.trans (Dx.mono (by simp))
     have Adb:Ext [Ag,Ac,Ab,Aa] Gl Kd:=Acw.trans (Dx.mono (by simp))
     have Adc:Ext [Ag,Ac,Ab,Aa] J6 Kd:=(Dx.mono (by simp))
     refine WL.nil ⟨_,rfl,cstN rfl,?_⟩
     refine Tree.node (rs:=[7]) (by kernel_rfl) ⟨offN (by kernel_rfl),offN (by kernel_rfl),trivial⟩ ⟨⟨_,rfl,[],by kernel_rfl,?_⟩,trivial⟩
     intro Azj Avy Pt
     refine WL.storeAgg (x:=.tmp 6) (y:=.tmp 23) (vs:=(peerC q J7 J8 J9 Ka Kb Kc)) (Sure.none rfl) rfl rfl s29 ((Pt 5 (by kernel_rfl) 6 rfl).trans rfl) ((Pt 3 (by kernel_rfl) 23 rfl).trans rfl) rfl (by intro u hu; simp only [List.mem_cons,List.not_mem_nil,or_false] at hu; rcases hu with rfl | rfl | rfl | rfl | rfl | rfl | rfl | rfl | rfl | rfl | rfl | rfl | rfl | rfl | rfl | rfl | rfl | rfl <;> first | rfl | exact Sl.one (by assumption)) Ac9 (by show (0:Nat) + 18 ≤ 18; decide) (fun Gm Dy Lk=>?_)
     replace Lk:Box Gm Ac 29 (peerC q J7 J8 J9 Ka Kb Kc):=Lk
     have Add:=Ac7.ext Dy (by simp; omega)
     have Ade:=Ac8.ext Dy (by simp; omega)
     have Adf:=Lj.ext Dy (by simp; omega)
     have Adg:Ext [Ag,Ac,Ab,Aa] Ae Gm:=Ada.trans (Dy.mono (by simp))
     have Dz:Ext [Ag,Ac,Ab,Aa] Gl Gm:=Adb.trans (Dy.mono (by simp))
     have D0:Ext [Ag,Ac,Ab,Aa] J6 Gm:=Adc.trans (Dy.mono (by simp))
     refine WL.nil ⟨_,rfl,cstN rfl,?_⟩
     refine Tree.leaf ?_
     exact ⟨Ag,Ac,_,_,((Aj 2 (by kernel_rfl)).trans rfl),((Aj 3 (by kernel_rfl)).trans rfl),((Aj 4 (by kernel_rfl)).trans rfl),rfl,rfl,(Ext.drop (Ext.drop Adg H3) Cp),Add,Ade,Adf,Lk,(peerR.mono (show peerR.rd (Ag :: (Ac :: (Ab :: (Aa :: X)))) Gm (peerC p J0 J1 J2 J3 J4 J5) p from ⟨J0,J1,J2,J3,J4,J5,rfl,(Acm.ext (Ext.pre Dz)),(Acn.ext (Ext.pre Dz)),(Aco.ext (Ext.pre Dz)),(Acp.ext (Ext.pre Dz)),(Acq.ext (Ext.pre Dz)),(Acr.ext (Ext.pre Dz)),Pq⟩) (fun b hb=>by simp only [List.mem_cons] at hb ⊢; rcases hb with h | h | h | h | h <;> simp [h])),(peerR.mono (show peerR.rd (Ag :: (Ac :: (Ab :: (Aa :: X)))) Gm (peerC q J7 J8 J9 Ka Kb Kc) q from ⟨J7,J8,J9,Ka,Kb,Kc,rfl,(Ac1.ext (Ext.pre D0)),(Ac2.ext (Ext.pre D0)),(Ac3.ext (Ext.pre D0)),(Ac4.ext (Ext.pre D0)),(Ac5.ext (Ext.pre D0)),(Ac6.ext (Ext.pre D0)),Pr⟩) (fun b hb=>by simp only [List.mem_cons] at hb ⊢; rcases hb with h | h | h | h | h <;> simp [h])),by omega,by omega,by omega,by omega,by omega,by omega,by omega,by omega⟩
 rintro Bas Dc ⟨b5,b6,c5,c6,Hw,Ma,Aqt,Hx,Mb,hx_1757,hbp_1757,hbq_1757,Gu,Gv,Qw,Qx,And,Ane,Anf,Ang,Anh,Ani,Ar,As⟩
 have hy_1757:Ext [b6,b5,Ab,Aa] Ae Dc:=hx_1757.mono (by simp +contextual)
 have hw_1757:Ext [b6,b5,Ab,Aa] w Dc:=(Gx.mono (by simp +contextual)).trans hy_1757
 have Qy:w.heap.size ≤ b5:=Nat.le_trans Gx.size Ar
 have Qz:w.heap.size ≤ b6:=Nat.le_trans Gx.size As
 have Ll:=(Sl.new (b:=b6) nz1 (Sl.new (b:=b5) nz1 (Kg.ext (Ext.pre B8)) Ar) As).ext (Ext.pre hy_1757)
 have Lm:=(Sl.new (b:=b6) nz1 (Sl.new (b:=b5) nz1 (Kh.ext (Ext.pre B8)) Ar) As).ext (Ext.pre hy_1757)
 have Ln:=(Sl.new (b:=b6) nz4 (Sl.new (b:=b5) nz4 (Ki.ext (Ext.pre B8)) Ar) As).ext (Ext.pre hy_1757)
 have Lo:=(Sl.new (b:=b6) nz1 (Sl.new (b:=b5) nz1 (Kj.ext (Ext.pre B8)) Ar) As).ext (Ext.pre hy_1757)
 have Lp:=(Sl.new (b:=b6) nz3 (Sl.new (b:=b5) nz3 (Kk.ext (Ext.pre B8)) Ar) As).ext (Ext.pre hy_1757)
 have Lq:=(Sl.new (b:=b6) nz3 (Sl.new (b:=b5) nz3 (Kl.ext (Ext.pre B8)) Ar) As).ext (Ext.pre hy_1757)
 have Pu:=(Sl.new (b:=b6) nz1 (Sl.new (b:=b5) nz1 (Gn.ext (Ext.pre B8)) Ar) As).ext (Ext.pre hy_1757)
 have Pv:=(Sl.new (b:=b6) nz1 (Sl.new (b:=b5) nz1 (Gp.ext (Ext.pre B8)) Ar) As).ext (Ext.pre hy_1757)
 have Pw:=(Sl.new (b:=b6) nz4 (Sl.new (b:=b5) nz4 (Gq.ext (Ext.pre B8)) Ar) As).ext (Ext.pre hy_1757)
 have Px:=(Sl.new (b:=b6) nz1 (Sl.new (b:=b5) nz1 (Gr.ext (Ext.pre B8)) Ar) As).ext (Ext.pre hy_1757)
 have Py:=(Sl.new (b:=b6) nz3 (Sl.new (b:=b5) nz3 (Gs.ext (Ext.pre B8)) Ar) As).ext (Ext.pre hy_1757)
 have Pz:=(Sl.new (b:=b6) nz3 (Sl.new (b:=b5) nz3 (Gt.ext (Ext.pre B8)) Ar) As).ext (Ext.pre hy_1757)
 obtain ⟨B9,Ca,Cb,Cc,Cd,Ce,rfl,Lr,Ls,Lt,Lu,Lv,Lw,Hn⟩:=Qw
 obtain ⟨Aqu,Aqv,Aqw,Aqx,Aqy,Aqz,Aq0,Aq1,Aq2,Aq3,Aq4,Aq5⟩:=(show PeerD.InR p from Hn)
 obtain ⟨C6,C7,C8,C9,Da,Db,rfl,P0,P1,P2,P3,P4,P5,Lx⟩:=Qx
 obtain ⟨Aq6,Aq7,Aq8,Aq9,Ara,Arb,Arc,Ard,Are,Arf,Arg,Arh⟩:=(show PeerD.InR q from Lx)
 refine WP.sr ?_
 refine WL.z (.agg (peerA p B9 Ca Cb Cc Cd Ce)) (V.loadAgg (x:=.tmp 5) (cs:=(peerC p B9 Ca Cb Cc Cd Ce)) rfl a29 Hx (At.box Gu) rfl) ?_
 refine WL.z (.agg (peerA q C6 C7 C8 C9 Da Db)) (V.loadAgg (x:=.tmp 6) (cs:=(peerC q C6 C7 C8 C9 Da Db)) rfl a29 Mb (At.box Gv) rfl) ?_
 refine WL.c (Sure.none rfl) rfl (C.call2 rfl cl8 rfl rfl) (Fnc.mono (keep_Diff (p:=p) ⟨B9,Ca,Cb,Cc,Cd,Ce,rfl,Lr,Ls,Lt,Lu,Lv,Lw,Hn⟩ (q:=q) ⟨C6,C7,C8,C9,Da,Db,rfl,P0,P1,P2,P3,P4,P5,Lx⟩ (by assumption) (by assumption) (X:=(b6 :: (b5 :: (Ab :: (Aa :: X))))) (inCons Gv.lt (inCons Gu.lt (inCons hbq_1757.lt (inCons hbp_1757.lt (inMono hX hw_1757.size)))))) ?_)
 rintro _ Fa ⟨Tq,rfl,Adh,D1⟩
 have P6:Ext [b6,b5,Ab,Aa] w Fa:=hw_1757.trans (Ext.any (Y:=[b6,b5,Ab,Aa]) D1)
 have Bz:Ext [b6,b5,Ab,Aa] Dc Fa:=(Ext.any (Y:=[b6,b5,Ab,Aa]) D1)
 have Ly:=hbp_1757.ext D1 (by simp)
 have Lz:=hbq_1757.ext D1 (by simp)
 have P7:=Gu.ext D1 (by simp)
 have P8:=Gv.ext D1 (by simp)
 refine WL.m rfl ?_
 refine WL.z (Tq) (V.extract rfl rfl rfl) ?_
 refine WL.z (.int .i64 (if okD p q = true then (0:Int) else 2)) (V.extract rfl rfl rfl) ?_
 refine WL.m rfl ?_
 refine WL.m rfl ?_
 refine WL.nil ?_
 refine WP.sr ?_
 refine WL.z (.agg (peerA p v1 v3 v5 v7 v9 Bq)) (V.loadAgg (x:=.tmp 2) (cs:=(peerC p v1 v3 v5 v7 v9 Bq)) rfl a29 Hw (At.box Ly) rfl) ?_
 refine WL.z (.agg (peerA q Bi Bj Bk Bl Bm Bn)) (V.loadAgg (x:=.tmp 3) (cs:=(peerC q Bi Bj Bk Bl Bm Bn)) rfl a29 Ma (At.box Lz) rfl) ?_
 refine WL.c (Sure.none rfl) rfl (C.call2 rfl cl9 rfl rfl) (Fnc.mono (ref12_Diff (p:=p) ⟨v1,v3,v5,v7,v9,Bq,rfl,(Ll.ext (Ext.pre Bz)),(Lm.ext (Ext.pre Bz)),(Ln.ext (Ext.pre Bz)),(Lo.ext (Ext.pre Bz)),(Lp.ext (Ext.pre Bz)),(Lq.ext (Ext.pre Bz)),Cu⟩ (q:=q) ⟨Bi,Bj,Bk,Bl,Bm,Bn,rfl,(Pu.ext (Ext.pre Bz)),(Pv.ext (Ext.pre Bz)),(Pw.ext (Ext.pre Bz)),(Px.ext (Ext.pre Bz)),(Py.ext (Ext.pre Bz)),(Pz.ext (Ext.pre Bz)),Cf⟩ (by assumption) (by assumption) (X:=(b6 :: (b5 :: (Ab :: (Aa :: X))))) (inCons P8.lt (inCons P7.lt (inCons Lz.lt (inCons Ly.lt (inMono hX P6.size)))))) ?_)
 rintro _ Fb ⟨Ts,rfl,Adi,Cx⟩
 have Adj:Ext [b6,b5,Ab,Aa] w Fb:=P6.trans (Ext.any (Y:=[b6,b5,Ab,Aa]) Cx)
 have Adk:Ext [b6,b5,Ab,Aa] Dc Fb:=Bz.trans (Ext.any (Y:=[b6,b5,Ab,Aa]) Cx)
 have Adl:Ext [b6,b5,Ab,Aa] Fa Fb:=(Ext.any (Y:=[b6,b5,Ab,Aa]) Cx)
 have Adm:=Ly.ext Cx (by simp)
 have Adn:=Lz.ext Cx (by simp)
 have Ado:=P7.ext Cx (by simp)
 have Adp:=P8.ext Cx (by simp)
 refine WL.m rfl ?_
 refine WL.z (Ts) (V.extract rfl rfl rfl) ?_
 refine WL.z (.int .i64 (if okD p q = true then (0:Int) else 2)) (V.extract rfl rfl rfl) ?_
 refine WL.m rfl ?_
 refine WL.m rfl ?_
 refine WL.nil ?_
 refine WP.seq ?_
 refine WP.anyT [1,3,4,8,18,23,26,28] [⟨0,.agg (peerA p B9 Ca Cb Cc Cd Ce),fun w=>Box w b5 29 (peerC p B9 Ca Cb Cc Cd Ce),false,false⟩,⟨2,.agg (peerA p v1 v3 v5 v7 v9 Bq),fun w=>Box w Aa 29 (peerC p v1 v3 v5 v7 v9 Bq),false,false⟩,⟨4,.bool (true),fun _=>True,true,true⟩,⟨5,.bool (true),fun w=>True,true,false⟩,⟨6,Tq,fun w=>True,true,false⟩,⟨7,Ts,fun w=>True,true,false⟩,⟨8,.bool (true),fun _=>True,true,true⟩,⟨9,.bool (true),fun w=>True,true,false⟩,⟨10,.bool (true),fun w=>True,true,false⟩,⟨11,.int .i64 (if okD p q = true then (0:Int) else 2),fun w=>True,true,false⟩,⟨12,.int .i64 (if okD p q = true then (0:Int) else 2),fun w=>True,true,false⟩,⟨13,.bool (true),fun w=>True,true,false⟩,⟨14,.bool (true),fun w=>True,true,false⟩,⟨15,.bool (true),fun w=>True,true,false⟩,⟨16,.agg (peerA p B9 Ca Cb Cc Cd Ce),fun w=>Box w b5 29 (peerC p B9 Ca Cb Cc Cd Ce),false,false⟩,⟨17,.agg (peerA p v1 v3 v5 v7 v9 Bq),fun w=>Box w Aa 29 (peerC p v1 v3 v5 v7 v9 Bq),false,false⟩,⟨18,.bool (true),fun _=>True,true,true⟩,⟨19,.bool (true),fun w=>True,true,false⟩,⟨20,.bool (true),fun w=>True,true,false⟩,⟨21,.agg (peerA q C6 C7 C8 C9 Da Db),fun w=>Box w b6 29 (peerC q C6 C7 C8 C9 Da Db),false,false⟩,⟨22,.agg (peerA q Bi Bj Bk Bl Bm Bn),fun w=>Box w Ab 29 (peerC q Bi Bj Bk Bl Bm Bn),false,false⟩,⟨23,.bool (true),fun _=>True,true,true⟩,⟨24,.bool (true),fun w=>True,true,false⟩,⟨25,.bool (true),fun w=>True,true,false⟩,⟨26,.bool (true),fun _=>True,true,true⟩,⟨27,.bool (true),fun w=>True,true,false⟩] mo (by kernel_rfl) (by kernel_rfl) (by kernel_rfl) (by kernel_rfl) ⟨.inr ⟨(fun h=>Bool.noConfusion h),_,rfl,?_⟩,.inr ⟨(fun h=>Bool.noConfusion h),_,rfl,?_⟩,.inl rfl,.inr ⟨(fun _ _=>trivial),_,rfl,?_⟩,.inr ⟨(fun _ _=>trivial),_,rfl,?_⟩,.inr ⟨(fun _ _=>trivial),_,rfl,?_⟩,.inl rfl,.inr ⟨(fun _ _=>trivial),_,rfl,?_⟩,.inr ⟨(fun _ _=>trivial),_,rfl,?_⟩,.inr ⟨(fun _ _=>trivial),_,rfl,?_⟩,.inr ⟨(fun _ _=>trivial),_,rfl,?_⟩,.inr ⟨(fun _ _=>trivial),_,rfl,?_⟩,.inr ⟨(fun _ _=>trivial),_,rfl,?_⟩,.inr ⟨(fun _ _=>trivial),_,rfl,?_⟩,.inr ⟨(fun h=>Bool.noConfusion h),_,rfl,?_⟩,.inr ⟨(fun h=>Bool.noConfusion h),_,rfl,?_⟩,.inl rfl,.inr ⟨(fun _ _=>trivial),_,rfl,?_⟩,.inr ⟨(fun _ _=>trivial),_,rfl,?_⟩,.inr ⟨(fun h=>Bool.noConfusion h),_,rfl,?_⟩,.inr ⟨(fun h=>Bool.noConfusion h),_,rfl,?_⟩,.inl rfl,.inr ⟨(fun _ _=>trivial),_,rfl,?_⟩,.inr ⟨(fun _ _=>trivial),_,rfl,?_⟩,.inl rfl,.inr ⟨(fun _ _=>trivial),_,rfl,?_⟩,trivial⟩ ?_
 ·intro E' w' hC hE hp
  replace hC:Box w' b5 29 (peerC p B9 Ca Cb Cc Cd Ce):=hC
  exact ⟨Sure.none rfl,V.loadAgg (x:=.tmp 5) (cs:=(peerC p B9 Ca Cb Cc Cd Ce)) rfl a29 ((hE 5 (by kernel_rfl)).trans Hx) (At.box hC) rfl⟩
 ·intro E' w' hC hE hp
  replace hC:Box w' Aa 29 (peerC p v1 v3 v5 v7 v9 Bq):=hC
  exact ⟨Sure.none rfl,V.loadAgg (x:=.tmp 2) (cs:=(peerC p v1 v3 v5 v7 v9 Bq)) rfl a29 ((hE 2 (by kernel_rfl)).trans Hw) (At.box hC) rfl⟩
 ·intro E' w' hC hE hp
  have p_4:E' 40 = (.bool (true):Value):=hp 4 (by kernel_rfl) _ _ rfl rfl
  exact ⟨Sure.none rfl,V.move (x:=.tmp 40) rfl p_4⟩
 ·intro E' w' hC hE hp
  have P9:E' 41 = (.bool (true):Value):=hp 5 (by kernel_rfl) _ _ rfl rfl
  exact ⟨Sure.yes rfl rfl P9,V.move (x:=.tmp 7) rfl ((hE 7 (by kernel_rfl)).trans rfl)⟩
 ·intro E' w' hC hE hp
  have P9:E' 41 = (.bool (true):Value):=hp 5 (by kernel_rfl) _ _ rfl rfl
  exact ⟨Sure.yes rfl rfl P9,V.move (x:=.tmp 9) rfl ((hE 9 (by kernel_rfl)).trans rfl)⟩
 ·intro E' w' hC hE hp
  have P9:E' 41 = (.bool (true):Value):=hp 5 (by kernel_rfl) _ _ rfl rfl
  have p_8:E' 44 = (.bool (true):Value):=hp 8 (by kernel_rfl) _ _ rfl rfl
  exact ⟨Sure.none rfl,V.pick (c:=.tmp 41) (x:=.tmp 44) rfl P9 p_8⟩
 ·intro E' w' hC hE hp
  have p_9:E' 45 = (.bool (true):Value):=hp 9 (by kernel_rfl) _ _ rfl rfl
  exact ⟨Sure.none rfl,V.move (x:=.tmp 45) rfl p_9⟩
 ·intro E' w' hC hE hp
  have Gw:E' 46 = (.bool (true):Value):=hp 10 (by kernel_rfl) _ _ rfl rfl
  exact ⟨Sure.yes rfl rfl Gw,V.move (x:=.tmp 8) rfl ((hE 8 (by kernel_rfl)).trans rfl)⟩
 ·intro E' w' hC hE hp
  have Gw:E' 46 = (.bool (true):Value):=hp 10 (by kernel_rfl) _ _ rfl rfl
  exact ⟨Sure.yes rfl rfl Gw,V.move (x:=.tmp 10) rfl ((hE 10 (by kernel_rfl)).trans rfl)⟩
 ·intro E' w' hC hE hp
  have Anj:E' 47 = (.int .i64 (if okD p q = true then (0:Int) else 2):Value):=hp 11 (by kernel_rfl) _ _ rfl rfl
  have Ank:E' 48 = (.int .i64 (if okD p q = true then (0:Int) else 2):Value):=hp 12 (by kernel_rfl) _ _ rfl rfl
  have Gw:E' 46 = (.bool (true):Value):=hp 10 (by kernel_rfl) _ _ rfl rfl
  exact ⟨Sure.yes rfl rfl Gw,OpV.cast (congrArg Value.bool (decide_eq_true rfl)) (V.cmp (x:=.tmp 47) (y:=.tmp 48) rfl Anj Ank rfl)⟩
 ·intro E' w' hC hE hp
  have Gw:E' 46 = (.bool (true):Value):=hp 10 (by kernel_rfl) _ _ rfl rfl
  have Anl:E' 49 = (.bool (true):Value):=hp 13 (by kernel_rfl) _ _ rfl rfl
  exact ⟨Sure.none rfl,V.pick (c:=.tmp 46) (x:=.tmp 49) rfl Gw Anl⟩
 ·intro E' w' hC hE hp
  have Anm:E' 50 = (.bool (true):Value):=hp 14 (by kernel_rfl) _ _ rfl rfl
  exact ⟨Sure.none rfl,V.move (x:=.tmp 50) rfl Anm⟩
 ·intro E' w' hC hE hp
  replace hC:Box w' b5 29 (peerC p B9 Ca Cb Cc Cd Ce):=hC
  have L0:E' 51 = (.bool (true):Value):=hp 15 (by kernel_rfl) _ _ rfl rfl
  exact ⟨Sure.yes rfl rfl L0,V.loadAgg (x:=.tmp 5) (cs:=(peerC p B9 Ca Cb Cc Cd Ce)) rfl a29 ((hE 5 (by kernel_rfl)).trans Hx) (At.box hC) rfl⟩
 ·intro E' w' hC hE hp
  replace hC:Box w' Aa 29 (peerC p v1 v3 v5 v7 v9 Bq):=hC
  have L0:E' 51 = (.bool (true):Value):=hp 15 (by kernel_rfl) _ _ rfl rfl
  exact ⟨Sure.yes rfl rfl L0,V.loadAgg (x:=.tmp 2) (cs:=(peerC p v1 v3 v5 v7 v9 Bq)) rfl a29 ((hE 2 (by kernel_rfl)).trans Hw) (At.box hC) rfl⟩
 ·intro E' w' hC hE hp
  have L0:E' 51 = (.bool (true):Value):=hp 15 (by kernel_rfl) _ _ rfl rfl
  have Ann:E' 54 = (.bool (true):Value):=hp 18 (by kernel_rfl) _ _ rfl rfl
  exact ⟨Sure.none rfl,V.pick (c:=.tmp 51) (x:=.tmp 54) rfl L0 Ann⟩
 ·intro E' w' hC hE hp
  have Ano:E' 55 = (.bool (true):Value):=hp 19 (by kernel_rfl) _ _ rfl rfl
  exact ⟨Sure.none rfl,V.move (x:=.tmp 55) rfl Ano⟩
 ·intro E' w' hC hE hp
  replace hC:Box w' b6 29 (peerC q C6 C7 C8 C9 Da Db):=hC
  have L1:E' 56 = (.bool (true):Value):=hp 20 (by kernel_rfl) _ _ rfl rfl
  exact ⟨Sure.yes rfl rfl L1,V.loadAgg (x:=.tmp 6) (cs:=(peerC q C6 C7 C8 C9 Da Db)) rfl a29 ((hE 6 (by kernel_rfl)).trans Mb) (At.box hC) rfl⟩
 ·intro E' w' hC hE hp
  replace hC:Box w' Ab 29 (peerC q Bi Bj Bk Bl Bm Bn):=hC
  have L1:E' 56 = (.bool (true):Value):=hp 20 (by kernel_rfl) _ _ rfl rfl
  exact ⟨Sure.yes rfl rfl L1,V.loadAgg (x:=.tmp 3) (cs:=(peerC q Bi Bj Bk Bl Bm Bn)) rfl a29 ((hE 3 (by kernel_rfl)).trans Ma) (At.box hC) rfl⟩
 ·intro E' w' hC hE hp
  have L1:E' 56 = (.bool (true):Value):=hp 20 (by kernel_rfl) _ _ rfl rfl
  have Anp:E' 59 = (.bool (true):Value):=hp 23 (by kernel_rfl) _ _ rfl rfl
  exact ⟨Sure.none rfl,V.pick (c:=.tmp 56) (x:=.tmp 59) rfl L1 Anp⟩
 ·intro E' w' hC hE hp
  have Anq:E' 60 = (.bool (true):Value):=hp 24 (by kernel_rfl) _ _ rfl rfl
  exact ⟨Sure.none rfl,V.move (x:=.tmp 60) rfl Anq⟩
 ·intro E' w' hC hE hp
  have Anr:E' 61 = (.bool (true):Value):=hp 25 (by kernel_rfl) _ _ rfl rfl
  have Ans:E' 62 = (.bool (true):Value):=hp 26 (by kernel_rfl) _ _ rfl rfl
  exact ⟨Sure.none rfl,V.pick (c:=.tmp 61) (x:=.tmp 62) rfl Anr Ans⟩
 ·intro Av2 Ke Cq Av3 B0
  have Qa:Ext [b6,b5,Ab,Aa] w Ke:=Adj.trans (Ext.any (Y:=[b6,b5,Ab,Aa]) Cq)
  have Cy:Ext [b6,b5,Ab,Aa] Dc Ke:=Adk.trans (Ext.any (Y:=[b6,b5,Ab,Aa]) Cq)
  have Adq:Ext [b6,b5,Ab,Aa] Fa Ke:=Adl.trans (Ext.any (Y:=[b6,b5,Ab,Aa]) Cq)
  have Adr:Ext [b6,b5,Ab,Aa] Fb Ke:=(Ext.any (Y:=[b6,b5,Ab,Aa]) Cq)
  have Ho:=Adm.ext Cq (by simp)
  have L2:=Adn.ext Cq (by simp)
  have Hp:=Ado.ext Cq (by simp)
  have L3:=Adp.ext Cq (by simp)
  refine Tree.node (rs:=[1]) (by kernel_rfl) ⟨(fun _ _=>Hp),(fun _ _=>Ho),offF rfl,offF rfl,offF rfl,offF rfl,offF rfl,offF rfl,offF rfl,offF rfl,offF rfl,offF rfl,offF rfl,offF rfl,(fun _ _=>Hp),(fun _ _=>Ho),offF rfl,offF rfl,offF rfl,(fun _ _=>L3),(fun _ _=>L2),offF rfl,offF rfl,offF rfl,offF rfl,offF rfl,trivial⟩ ⟨⟨_,rfl,[3,4,8,18,23,26,28],by kernel_rfl,?_⟩,trivial⟩
  intro Azk Av4 Ads
  refine WL.c (Sure.none rfl) rfl (C.call1 (x:=.tmp 36) rfl cl11 ((Ads 0 (by kernel_rfl) 36 rfl).trans (B0 0 _ 36 rfl rfl))) (Fnc.mono (keep_Kept (p:=p) ⟨B9,Ca,Cb,Cc,Cd,Ce,rfl,(Lr.ext (Ext.pre Cy)),(Ls.ext (Ext.pre Cy)),(Lt.ext (Ext.pre Cy)),(Lu.ext (Ext.pre Cy)),(Lv.ext (Ext.pre Cy)),(Lw.ext (Ext.pre Cy)),Hn⟩ (by assumption) (X:=(b6 :: (b5 :: (Ab :: (Aa :: X))))) (inCons L3.lt (inCons Hp.lt (inCons L2.lt (inCons Ho.lt (inMono hX Qa.size)))))) ?_)
  rintro _ Hq ⟨Av5,rfl,Adt,Cr⟩
  have Qb:Ext [b6,b5,Ab,Aa] w Hq:=Qa.trans (Ext.any (Y:=[b6,b5,Ab,Aa]) Cr)
  have Cz:Ext [b6,b5,Ab,Aa] Dc Hq:=Cy.trans (Ext.any (Y:=[b6,b5,Ab,Aa]) Cr)
  have Adu:Ext [b6,b5,Ab,Aa] Fa Hq:=Adq.trans (Ext.any (Y:=[b6,b5,Ab,Aa]) Cr)
  have Adv:Ext [b6,b5,Ab,Aa] Fb Hq:=Adr.trans (Ext.any (Y:=[b6,b5,Ab,Aa]) Cr)
  have Hr:=Ho.ext Cr (by simp)
  have L4:=L2.ext Cr (by simp)
  have L5:=Hp.ext Cr (by simp)
  have L6:=L3.ext Cr (by simp)
  obtain ⟨Al8,Al9,Ama,Amb,Amc,Amd,rfl,Adw,Adx,Ady,Adz,Ad0,Ad1,Qc⟩:=Adt
  obtain ⟨Ari,Arj,Ark,Arl,Arm,Arn,Aro,Arp,Arq,Arr,Ars,Art⟩:=(show PeerD.InR (keptP p) from Qc)
  refine WL.nil ⟨_,rfl,cstN rfl,?_⟩
  refine Tree.node (rs:=[3]) (by kernel_rfl) ⟨offN (by kernel_rfl),(fun _ _=>Hr),offF rfl,offF rfl,offF rfl,offF rfl,offF rfl,offF rfl,offF rfl,offF rfl,offF rfl,offF rfl,offF rfl,offF rfl,(fun _ _=>L5),(fun _ _=>Hr),offF rfl,offF rfl,offF rfl,(fun _ _=>L6),(fun _ _=>L4),offF rfl,offF rfl,offF rfl,offF rfl,offF rfl,trivial⟩ ⟨⟨_,rfl,[4,8,18,23,26,28],by kernel_rfl,?_⟩,trivial⟩
  intro Azl Av6 Ad2
  refine WL.c (Sure.none rfl) rfl (C.call1 (x:=.tmp 38) rfl cl12 ((Ad2 2 (by kernel_rfl) 38 rfl).trans (B0 2 _ 38 rfl rfl))) (Fnc.mono (ref12_Kept (p:=p) ⟨v1,v3,v5,v7,v9,Bq,rfl,(Ll.ext (Ext.pre Cz)),(Lm.ext (Ext.pre Cz)),(Ln.ext (Ext.pre Cz)),(Lo.ext (Ext.pre Cz)),(Lp.ext (Ext.pre Cz)),(Lq.ext (Ext.pre Cz)),Cu⟩ (by assumption) (X:=(b6 :: (b5 :: (Ab :: (Aa :: X))))) (inCons L6.lt (inCons L5.lt (inCons L4.lt (inCons Hr.lt (inMono hX Qb.size)))))) ?_)
  rintro _ Hs ⟨Av7,rfl,Ad3,Cn⟩
  have Ad4:Ext [b6,b5,Ab,Aa] w Hs:=Qb.trans (Ext.any (Y:=[b6,b5,Ab,Aa]) Cn)
  have Ad5:Ext [b6,b5,Ab,Aa] Dc Hs:=Cz.trans (Ext.any (Y:=[b6,b5,Ab,Aa]) Cn)
  have Ad6:Ext [b6,b5,Ab,Aa] Fa Hs:=Adu.trans (Ext.any (Y:=[b6,b5,Ab,Aa]) Cn)
  have Ad7:Ext [b6,b5,Ab,Aa] Fb Hs:=Adv.trans (Ext.any (Y:=[b6,b5,Ab,Aa]) Cn)
  have D3:Ext [b6,b5,Ab,Aa] Hq Hs:=(Ext.any (Y:=[b6,b5,Ab,Aa]) Cn)
  have Qd:=Hr.ext Cn (by simp)
  have Qe:=L4.ext Cn (by simp)
  have Qf:=L5.ext Cn (by simp)
  have Qg:=L6.ext Cn (by simp)
  obtain ⟨Ame,Amf,Amg,Amh,Ami,Amj,rfl,Ad8,Ad9,Aea,Aeb,Aec,Aed,Qh⟩:=Ad3
  obtain ⟨Aru,Arv,Arw,Arx,Ary,Arz,Ar0,Ar1,Ar2,Ar3,Ar4,Ar5⟩:=(show PeerD.InR (keptP p) from Qh)
  refine WL.nil ⟨_,rfl,cstN rfl,?_⟩
  refine Tree.node (rs:=[4]) (by kernel_rfl) ⟨offN (by kernel_rfl),offN (by kernel_rfl),offF rfl,offF rfl,offF rfl,offF rfl,offF rfl,offF rfl,offF rfl,offF rfl,offF rfl,offF rfl,offF rfl,offF rfl,(fun _ _=>Qf),(fun _ _=>Qd),offF rfl,offF rfl,offF rfl,(fun _ _=>Qg),(fun _ _=>Qe),offF rfl,offF rfl,offF rfl,offF rfl,offF rfl,trivial⟩ ⟨⟨_,rfl,[8,18,23,26,28],by kernel_rfl,?_⟩,trivial⟩
  intro Azm Av8 Qi
  refine WL.c (Sure.none rfl) rfl (C.call2 (x:=.tmp 37) (y:=.tmp 39) rfl cl10 ((Qi 1 (by kernel_rfl) 37 rfl).trans rfl) ((Qi 3 (by kernel_rfl) 39 rfl).trans rfl)) (Fnc.mono (ref_Same (a:=(keptP p)) ⟨Al8,Al9,Ama,Amb,Amc,Amd,rfl,(Adw.ext (Ext.pre D3)),(Adx.ext (Ext.pre D3)),(Ady.ext (Ext.pre D3)),(Adz.ext (Ext.pre D3)),(Ad0.ext (Ext.pre D3)),(Ad1.ext (Ext.pre D3)),Qc⟩ (b:=(keptP p)) ⟨Ame,Amf,Amg,Amh,Ami,Amj,rfl,Ad8,Ad9,Aea,Aeb,Aec,Aed,Qh⟩) ?_)
  rintro _ Kf ⟨rfl,Cs⟩
  have Aee:Ext [b6,b5,Ab,Aa] w Kf:=Ad4.trans (Ext.any (Y:=[b6,b5,Ab,Aa]) Cs)
  have Aef:Ext [b6,b5,Ab,Aa] Dc Kf:=Ad5.trans (Ext.any (Y:=[b6,b5,Ab,Aa]) Cs)
  have Aeg:Ext [b6,b5,Ab,Aa] Fa Kf:=Ad6.trans (Ext.any (Y:=[b6,b5,Ab,Aa]) Cs)
  have Aeh:Ext [b6,b5,Ab,Aa] Fb Kf:=Ad7.trans (Ext.any (Y:=[b6,b5,Ab,Aa]) Cs)
  have Qj:=Qd.ext Cs (by simp)
  have Qk:=Qe.ext Cs (by simp)
  have Ql:=Qf.ext Cs (by simp)
  have Qm:=Qg.ext Cs (by simp)
  refine WL.nil ⟨_,rfl,cstY rfl (congrArg Value.bool (samePeerB_refl _)),?_⟩
  refine Tree.node (rs:=[8]) (by kernel_rfl) ⟨offN (by kernel_rfl),offN (by kernel_rfl),offF rfl,offF rfl,offF rfl,offF rfl,offF rfl,offF rfl,offF rfl,offF rfl,offF rfl,offF rfl,offF rfl,offF rfl,(fun _ _=>Ql),(fun _ _=>Qj),offF rfl,offF rfl,offF rfl,(fun _ _=>Qm),(fun _ _=>Qk),offF rfl,offF rfl,offF rfl,offF rfl,offF rfl,trivial⟩ ⟨⟨_,rfl,[18,23,26,28],by kernel_rfl,?_⟩,trivial⟩
  intro Azn Av9 L7
  refine WL.c (Sure.yes rfl rfl ((L7 5 (by kernel_rfl) 41 rfl).trans (B0 5 _ 41 rfl rfl))) rfl (C.call2 (x:=.tmp 42) (y:=.tmp 43) rfl cl13 ((L7 6 (by kernel_rfl) 42 rfl).trans (B0 6 _ 42 rfl rfl)) ((L7 7 (by kernel_rfl) 43 rfl).trans (B0 7 _ 43 rfl rfl))) (Fnc.mono (law_same (Adh.ext (Ext.pre Aeg)) (Adi.ext (Ext.pre Aeh))) ?_)
  rintro _ Tt ⟨rfl,D4⟩
  have Aei:Ext [b6,b5,Ab,Aa] w Tt:=Aee.trans (Ext.any (Y:=[b6,b5,Ab,Aa]) D4)
  have B1:Ext [b6,b5,Ab,Aa] Dc Tt:=Aef.trans (Ext.any (Y:=[b6,b5,Ab,Aa]) D4)
  have Aej:=Qj.ext D4 (by simp)
  have Qn:=Qk.ext D4 (by simp)
  have Aek:=Ql.ext D4 (by simp)
  have Qo:=Qm.ext D4 (by simp)
  refine WL.nil ⟨_,rfl,cstY rfl (congrArg Value.bool (law_same_lists Cu Cf hsp hsq)),?_⟩
  refine Tree.node (rs:=[18]) (by kernel_rfl) ⟨offN (by kernel_rfl),offN (by kernel_rfl),offF rfl,offF rfl,offF rfl,offF rfl,offF rfl,offF rfl,offF rfl,offF rfl,offF rfl,offF rfl,offF rfl,offF rfl,(fun _ _=>Aek),(fun _ _=>Aej),offF rfl,offF rfl,offF rfl,(fun _ _=>Qo),(fun _ _=>Qn),offF rfl,offF rfl,offF rfl,offF rfl,offF rfl,trivial⟩ ⟨⟨_,rfl,[23,26,28],by kernel_rfl,?_⟩,trivial⟩
  intro Azo Awa L8
  refine WL.c (Sure.yes rfl rfl ((L8 15 (by kernel_rfl) 51 rfl).trans (B0 15 _ 51 rfl rfl))) rfl (C.call2 (x:=.tmp 52) (y:=.tmp 53) rfl cl10 ((L8 16 (by kernel_rfl) 52 rfl).trans (B0 16 _ 52 rfl rfl)) ((L8 17 (by kernel_rfl) 53 rfl).trans (B0 17 _ 53 rfl rfl))) (Fnc.mono (ref_Same (a:=p) ⟨B9,Ca,Cb,Cc,Cd,Ce,rfl,(Lr.ext (Ext.pre B1)),(Ls.ext (Ext.pre B1)),(Lt.ext (Ext.pre B1)),(Lu.ext (Ext.pre B1)),(Lv.ext (Ext.pre B1)),(Lw.ext (Ext.pre B1)),Hn⟩ (b:=p) ⟨v1,v3,v5,v7,v9,Bq,rfl,(Ll.ext (Ext.pre B1)),(Lm.ext (Ext.pre B1)),(Ln.ext (Ext.pre B1)),(Lo.ext (Ext.pre B1)),(Lp.ext (Ext.pre B1)),(Lq.ext (Ext.pre B1)),Cu⟩) ?_)
  rintro _ Tu ⟨rfl,Ht⟩
  have Ael:Ext [b6,b5,Ab,Aa] w Tu:=Aei.trans (Ext.any (Y:=[b6,b5,Ab,Aa]) Ht)
  have B7:Ext [b6,b5,Ab,Aa] Dc Tu:=B1.trans (Ext.any (Y:=[b6,b5,Ab,Aa]) Ht)
  have Aem:=Qn.ext Ht (by simp)
  have Aen:=Qo.ext Ht (by simp)
  refine WL.nil ⟨_,rfl,cstY rfl (congrArg Value.bool (samePeerB_refl _)),?_⟩
  refine Tree.node (rs:=[23]) (by kernel_rfl) ⟨offN (by kernel_rfl),offN (by kernel_rfl),offF rfl,offF rfl,offF rfl,offF rfl,offF rfl,offF rfl,offF rfl,offF rfl,offF rfl,offF rfl,offF rfl,offF rfl,offN (by kernel_rfl),offN (by kernel_rfl),offF rfl,offF rfl,offF rfl,(fun _ _=>Aen),(fun _ _=>Aem),offF rfl,offF rfl,offF rfl,offF rfl,offF rfl,trivial⟩ ⟨⟨_,rfl,[26,28],by kernel_rfl,?_⟩,trivial⟩
  intro Azp Awb L9
  refine WL.c (Sure.yes rfl rfl ((L9 20 (by kernel_rfl) 56 rfl).trans (B0 20 _ 56 rfl rfl))) rfl (C.call2 (x:=.tmp 57) (y:=.tmp 58) rfl cl10 ((L9 21 (by kernel_rfl) 57 rfl).trans (B0 21 _ 57 rfl rfl)) ((L9 22 (by kernel_rfl) 58 rfl).trans (B0 22 _ 58 rfl rfl))) (Fnc.mono (ref_Same (a:=q) ⟨C6,C7,C8,C9,Da,Db,rfl,(P0.ext (Ext.pre B7)),(P1.ext (Ext.pre B7)),(P2.ext (Ext.pre B7)),(P3.ext (Ext.pre B7)),(P4.ext (Ext.pre B7)),(P5.ext (Ext.pre B7)),Lx⟩ (b:=q) ⟨Bi,Bj,Bk,Bl,Bm,Bn,rfl,(Pu.ext (Ext.pre B7)),(Pv.ext (Ext.pre B7)),(Pw.ext (Ext.pre B7)),(Px.ext (Ext.pre B7)),(Py.ext (Ext.pre B7)),(Pz.ext (Ext.pre B7)),Cf⟩) ?_)
  rintro _ Amk ⟨rfl,Aeo⟩
  have Aep:Ext [b6,b5,Ab,Aa] w Amk:=Ael.trans (Ext.any (Y:=[b6,b5,Ab,Aa]) Aeo)
  refine WL.nil ⟨_,rfl,cstY rfl (congrArg Value.bool (samePeerB_refl _)),?_⟩
  refine Tree.node (rs:=[26]) (by kernel_rfl) ⟨offN (by kernel_rfl),offN (by kernel_rfl),offF rfl,offF rfl,offF rfl,offF rfl,offF rfl,offF rfl,offF rfl,offF rfl,offF rfl,offF rfl,offF rfl,offF rfl,offN (by kernel_rfl),offN (by kernel_rfl),offF rfl,offF rfl,offF rfl,offN (by kernel_rfl),offN (by kernel_rfl),offF rfl,offF rfl,offF rfl,offF rfl,offF rfl,trivial⟩ ⟨⟨_,rfl,[28],by kernel_rfl,?_⟩,trivial⟩
  intro Azq Awc Aeq
  refine WL.c (Sure.yes rfl rfl ((Aeq 25 (by kernel_rfl) 61 rfl).trans (B0 25 _ 61 rfl rfl))) rfl (C.call0 rfl cl6 ) (Fnc.mono (law_alive ) ?_)
  rintro _ Aml ⟨rfl,Aer⟩
  have Aes:Ext [b6,b5,Ab,Aa] w Aml:=Aep.trans (Ext.any (Y:=[b6,b5,Ab,Aa]) Aer)
  refine WL.nil ⟨_,rfl,cstY rfl (congrArg Value.bool (rfl)),?_⟩
  refine Tree.node (rs:=[28]) (by kernel_rfl) ⟨offN (by kernel_rfl),offN (by kernel_rfl),offF rfl,offF rfl,offF rfl,offF rfl,offF rfl,offF rfl,offF rfl,offF rfl,offF rfl,offF rfl,offF rfl,offF rfl,offN (by kernel_rfl),offN (by kernel_rfl),offF rfl,offF rfl,offF rfl,offN (by kernel_rfl),offN (by kernel_rfl),offF rfl,offF rfl,offF rfl,offF rfl,offF rfl,trivial⟩ ⟨⟨_,rfl,[],by kernel_rfl,?_⟩,trivial⟩
  intro Azr Awd Aet
  refine WL.z (.bool (true)) (V.assign (x:=.tmp 63) rfl ((Aet 27 (by kernel_rfl) 63 rfl).trans (B0 27 _ 63 rfl rfl))) ?_
  refine WL.nil ⟨_,rfl,cstN rfl,?_⟩
  refine Tree.leaf ?_
  refine WP.ret ?_
  refine resOf.c1 rfl (v:=.bool (true)) rfl ?_
  exact ⟨(bool_eq (by rfl)),((Aes).done (geCons Qz (geCons Qy (geCons F1 (geCons F0 geNil)))))⟩
end Go.Proofs.Ytiaicihpocoeiaa.X1
namespace Go.Proofs.Ytiaicihpocoeiaa.X1
open T W Go.RowKit
set_option maxRecDepth 100000
set_option maxHeartbeats 400000
theorem fl29_4:FieldOf Try.prog 29 4 24 4 1:=fld (by kernel_rfl)
theorem fl29_5:FieldOf Try.prog 29 5 3 5 1:=fld (by kernel_rfl)
theorem fl29_11:FieldOf Try.prog 29 11 23 11 1:=fld (by kernel_rfl)
theorem fl29_12:FieldOf Try.prog 29 12 3 12 1:=fld (by kernel_rfl)
theorem fl29_14:FieldOf Try.prog 29 14 22 14 1:=fld (by kernel_rfl)
theorem fl29_16:FieldOf Try.prog 29 16 23 16 1:=fld (by kernel_rfl)
theorem u24:Try.prog.underlying 24 = some (.int .u8):=by kernel_rfl
theorem u46:Try.prog.underlying 46 = some (.int .u8):=by kernel_rfl
theorem fl73_0:FieldOf Try.prog 73 0 3 0 1:=fld (by kernel_rfl)
theorem fl73_1:FieldOf Try.prog 73 1 23 1 1:=fld (by kernel_rfl)
theorem fl73_2:FieldOf Try.prog 73 2 23 2 1:=fld (by kernel_rfl)
theorem fl53_0:FieldOf Try.prog 53 0 23 0 1:=fld (by kernel_rfl)
theorem fl53_1:FieldOf Try.prog 53 1 23 1 1:=fld (by kernel_rfl)
theorem fl53_2:FieldOf Try.prog 53 2 22 2 1:=fld (by kernel_rfl)
theorem ru3 {H:Type} {enc:TypeId × Value → H}:Ru enc Try.prog 3 (intR .i64) (fun (_:Int)=>True):=Ru.int u3
theorem ru22 {H:Type} {enc:TypeId × Value → H}:Ru enc Try.prog 22 (slR (intR .i64) nz1) (fun (xs:List Int)=>xs.length ≤ 1048576 ∧ ∀ (i:Nat) (x:Int),xs[i]? = some x → (fun (_:Int)=>True) x):=Ru.slice u22 (by kernel_rfl) nz1 ru3
theorem ru23 {H:Type} {enc:TypeId × Value → H}:Ru enc Try.prog 23 (intR .u64) (fun (_:Int)=>True):=Ru.int u23
theorem ru24 {H:Type} {enc:TypeId × Value → H}:Ru enc Try.prog 24 (intR .u8) (fun (_:Int)=>True):=Ru.int u24
theorem ru9 {H:Type} {enc:TypeId × Value → H}:Ru enc Try.prog 9 strR (fun (s:ByteArray)=>s.size ≤ 1048576):=Ru.str u9
theorem ru46 {H:Type} {enc:TypeId × Value → H}:Ru enc Try.prog 46 (intR .u8) (fun (_:Int)=>True):=Ru.int u46
def EntryD.Few (x:EntryD):Prop:=(fun (s:ByteArray)=>s.size ≤ 1048576) x.Data ∧ (fun (xs:List Int)=>xs.length ≤ 1048576 ∧ ∀ (i:Nat) (x:Int),xs[i]? = some x → (fun (_:Int)=>True) x) x.Members
theorem ru48 {H:Type} {enc:TypeId × Value → H}:Ru enc Try.prog 48 entryR EntryD.Few:=by
 intro w fuel cs x h hw
 have hl:cs.length = 4:=(ru_len h fl48_0).trans (by kernel_rfl)
 match cs,hl with
 | [c0,c1,c2,c3],_ =>
  obtain ⟨d0,⟨e0,k0⟩,_⟩:=ru_field h hw fl48_0 (by kernel_rfl) ru23
  replace e0:[c0] = [.int .u64 (d0)]:=e0
  obtain ⟨d1,⟨e1,k1⟩,_⟩:=ru_field h hw fl48_1 (by kernel_rfl) ru46
  replace e1:[c1] = [.int .u8 (d1)]:=e1
  obtain ⟨d2,⟨e2,k2⟩,g2⟩:=ru_field h hw fl48_2 (by kernel_rfl) ru9
  replace e2:[c2] = [.string (d2)]:=e2
  obtain ⟨d3,⟨v3,e3,s3⟩,g3⟩:=ru_field h hw fl48_3 (by kernel_rfl) ru22
  replace e3:[c3] = [v3]:=e3
  cases e0
  cases e1
  cases e2
  cases e3
  exact ⟨{ Term:=d0,Kind:=d1,Data:=d2,Members:=d3 },⟨_,rfl,s3,⟨k0,k1,k2⟩⟩,⟨g2,g3⟩⟩
theorem ru25 {H:Type} {enc:TypeId × Value → H}:Ru enc Try.prog 25 (slR entryR nz4) (fun (xs:List EntryD)=>xs.length ≤ 1048576 ∧ ∀ (i:Nat) (x:EntryD),xs[i]? = some x → (EntryD.Few) x):=Ru.slice u25 (by kernel_rfl) nz4 ru48
def FollowD.Few (x:FollowD):Prop:=True
theorem ru73 {H:Type} {enc:TypeId × Value → H}:Ru enc Try.prog 73 followR FollowD.Few:=by
 intro w fuel cs x h hw
 have hl:cs.length = 3:=(ru_len h fl73_0).trans (by kernel_rfl)
 match cs,hl with
 | [c0,c1,c2],_ =>
  obtain ⟨d0,⟨e0,k0⟩,_⟩:=ru_field h hw fl73_0 (by kernel_rfl) ru3
  replace e0:[c0] = [.int .i64 (d0)]:=e0
  obtain ⟨d1,⟨e1,k1⟩,_⟩:=ru_field h hw fl73_1 (by kernel_rfl) ru23
  replace e1:[c1] = [.int .u64 (d1)]:=e1
  obtain ⟨d2,⟨e2,k2⟩,_⟩:=ru_field h hw fl73_2 (by kernel_rfl) ru23
  replace e2:[c2] = [.int .u64 (d2)]:=e2
  cases e0
  cases e1
  cases e2
  exact ⟨{ Id:=d0,Next:=d1,Match:=d2 },⟨rfl,⟨k0,k1,k2⟩⟩,trivial⟩
theorem ru26 {H:Type} {enc:TypeId × Value → H}:Ru enc Try.prog 26 (slR followR nz3) (fun (xs:List FollowD)=>xs.length ≤ 1048576 ∧ ∀ (i:Nat) (x:FollowD),xs[i]? = some x → (FollowD.Few) x):=Ru.slice u26 (by kernel_rfl) nz3 ru73
def ReadD.Few (x:ReadD):Prop:=(fun (xs:List Int)=>xs.length ≤ 1048576 ∧ ∀ (i:Nat) (x:Int),xs[i]? = some x → (fun (_:Int)=>True) x) x.Acks
theorem ru53 {H:Type} {enc:TypeId × Value → H}:Ru enc Try.prog 53 readR ReadD.Few:=by
 intro w fuel cs x h hw
 have hl:cs.length = 3:=(ru_len h fl53_0).trans (by kernel_rfl)
 match cs,hl with
 | [c0,c1,c2],_ =>
  obtain ⟨d0,⟨e0,k0⟩,_⟩:=ru_field h hw fl53_0 (by kernel_rfl) ru23
  replace e0:[c0] = [.int .u64 (d0)]:=e0
  obtain ⟨d1,⟨e1,k1⟩,_⟩:=ru_field h hw fl53_1 (by kernel_rfl) ru23
  replace e1:[c1] = [.int .u64 (d1)]:=e1
  obtain ⟨d2,⟨v2,e2,s2⟩,g2⟩:=ru_field h hw fl53_2 (by kernel_rfl) ru22
  replace e2:[c2] = [v2]:=e2
  cases e0
  cases e1
  cases e2
  exact ⟨{ Round:=d0,Index:=d1,Acks:=d2 },⟨_,rfl,s2,⟨k0,k1⟩⟩,g2⟩
theorem ru27 {H:Type} {enc:TypeId × Value → H}:Ru enc Try.prog 27 (slR readR nz3) (fun (xs:List ReadD)=>xs.length ≤ 1048576 ∧ ∀ (i:Nat) (x:ReadD),xs[i]? = some x → (ReadD.Few) x):=Ru.slice u27 (by kernel_rfl) nz3 ru53
def PeerD.Few (x:PeerD):Prop:=(fun (xs:List Int)=>xs.length ≤ 1048576 ∧ ∀ (i:Nat) (x:Int),xs[i]? = some x → (fun (_:Int)=>True) x) x.Members ∧ (fun (xs:List Int)=>xs.length ≤ 1048576 ∧ ∀ (i:Nat) (x:Int),xs[i]? = some x → (fun (_:Int)=>True) x) x.BaseMembers ∧ (fun (s:ByteArray)=>s.size ≤ 1048576) x.Snap ∧ (fun (xs:List EntryD)=>xs.length ≤ 1048576 ∧ ∀ (i:Nat) (x:EntryD),xs[i]? = some x → (EntryD.Few) x) x.Log ∧ (fun (xs:List Int)=>xs.length ≤ 1048576 ∧ ∀ (i:Nat) (x:Int),xs[i]? = some x → (fun (_:Int)=>True) x) x.Votes ∧ (fun (xs:List FollowD)=>xs.length ≤ 1048576 ∧ ∀ (i:Nat) (x:FollowD),xs[i]? = some x → (FollowD.Few) x) x.Follows ∧ (fun (xs:List ReadD)=>xs.length ≤ 1048576 ∧ ∀ (i:Nat) (x:ReadD),xs[i]? = some x → (ReadD.Few) x) x.Reads
theorem ru29 {H:Type} {enc:TypeId × Value → H}:Ru enc Try.prog 29 peerR PeerD.Few:=by
 intro w fuel cs x h hw
 have hl:cs.length = 18:=(ru_len h fl29_0).trans (by kernel_rfl)
 match cs,hl with
 | [c0,c1,c2,c3,c4,c5,c6,c7,c8,c9,c10,c11,c12,c13,c14,c15,c16,c17],_ =>
  obtain ⟨d0,⟨e0,k0⟩,_⟩:=ru_field h hw fl29_0 (by kernel_rfl) ru3
  replace e0:[c0] = [.int .i64 (d0)]:=e0
  obtain ⟨d1,⟨v1,e1,s1⟩,g1⟩:=ru_field h hw fl29_1 (by kernel_rfl) ru22
  replace e1:[c1] = [v1]:=e1
  obtain ⟨d2,⟨e2,k2⟩,_⟩:=ru_field h hw fl29_2 (by kernel_rfl) ru23
  replace e2:[c2] = [.int .u64 (d2)]:=e2
  obtain ⟨d3,⟨e3,k3⟩,_⟩:=ru_field h hw fl29_3 (by kernel_rfl) ru3
  replace e3:[c3] = [.int .i64 (d3)]:=e3
  obtain ⟨d4,⟨e4,k4⟩,_⟩:=ru_field h hw fl29_4 (by kernel_rfl) ru24
  replace e4:[c4] = [.int .u8 (d4)]:=e4
  obtain ⟨d5,⟨e5,k5⟩,_⟩:=ru_field h hw fl29_5 (by kernel_rfl) ru3
  replace e5:[c5] = [.int .i64 (d5)]:=e5
  obtain ⟨d6,⟨e6,k6⟩,_⟩:=ru_field h hw fl29_6 (by kernel_rfl) ru23
  replace e6:[c6] = [.int .u64 (d6)]:=e6
  obtain ⟨d7,⟨e7,k7⟩,_⟩:=ru_field h hw fl29_7 (by kernel_rfl) ru23
  replace e7:[c7] = [.int .u64 (d7)]:=e7
  obtain ⟨d8,⟨v8,e8,s8⟩,g8⟩:=ru_field h hw fl29_8 (by kernel_rfl) ru22
  replace e8:[c8] = [v8]:=e8
  obtain ⟨d9,⟨e9,k9⟩,g9⟩:=ru_field h hw fl29_9 (by kernel_rfl) ru9
  replace e9:[c9] = [.string (d9)]:=e9
  obtain ⟨Ae,⟨Af,e10,s10⟩,Ag⟩:=ru_field h hw fl29_10 (by kernel_rfl) ru25
  replace e10:[c10] = [Af]:=e10
  obtain ⟨Aa,⟨e11,Ah⟩,_⟩:=ru_field h hw fl29_11 (by kernel_rfl) ru23
  replace e11:[c11] = [.int .u64 (Aa)]:=e11
  obtain ⟨Ab,⟨e12,Ai⟩,_⟩:=ru_field h hw fl29_12 (by kernel_rfl) ru3
  replace e12:[c12] = [.int .i64 (Ab)]:=e12
  obtain ⟨Ac,⟨e13,Aj⟩,_⟩:=ru_field h hw fl29_13 (by kernel_rfl) ru3
  replace e13:[c13] = [.int .i64 (Ac)]:=e13
  obtain ⟨Ak,⟨Al,e14,s14⟩,Am⟩:=ru_field h hw fl29_14 (by kernel_rfl) ru22
  replace e14:[c14] = [Al]:=e14
  obtain ⟨An,⟨Ao,e15,s15⟩,Ap⟩:=ru_field h hw fl29_15 (by kernel_rfl) ru26
  replace e15:[c15] = [Ao]:=e15
  obtain ⟨Ad,⟨e16,Aq⟩,_⟩:=ru_field h hw fl29_16 (by kernel_rfl) ru23
  replace e16:[c16] = [.int .u64 (Ad)]:=e16
  obtain ⟨Ar,⟨As,e17,s17⟩,Au⟩:=ru_field h hw fl29_17 (by kernel_rfl) ru27
  replace e17:[c17] = [As]:=e17
  cases e0
  cases e1
  cases e2
  cases e3
  cases e4
  cases e5
  cases e6
  cases e7
  cases e8
  cases e9
  cases e10
  cases e11
  cases e12
  cases e13
  cases e14
  cases e15
  cases e16
  cases e17
  exact ⟨{ Id:=d0,Members:=d1,Term:=d2,Vote:=d3,Role:=d4,Lead:=d5,Base:=d6,BaseTerm:=d7,BaseMembers:=d8,Snap:=d9,Log:=Ae,Commit:=Aa,Idle:=Ab,Wait:=Ac,Votes:=Ak,Follows:=An,Round:=Ad,Reads:=Ar },⟨_,_,_,_,_,_,rfl,s1,s8,s10,s14,s15,s17,⟨k0,k2,k3,k4,k5,k6,k7,k9,Ah,Ai,Aj,Aq⟩⟩,⟨g1,g8,g9,Ag,Am,Ap,Au⟩⟩
theorem few_ksz {p:PeerD} (h:PeerD.Few p):KSz p:=by
 obtain ⟨⟨h1,_⟩,⟨h2,_⟩,h3,⟨h4,he⟩,⟨h5,_⟩,⟨h6,_⟩,⟨h7,hr⟩⟩:=h
 refine ⟨⟨by omega,by omega,by omega,by omega,by omega,by omega,fun k hk=>?_,fun k hk=>?_⟩,h4,fun k hk=>?_,h3⟩
 ·have:=(he k _ (getD_some hk default)).2.1; omega
 ·have:=(hr k _ (getD_some hk default)).1; omega
 ·exact (he k _ (getD_some hk default)).1
theorem call_KeepDiffs {W:World} {p q:PeerD} {c d:List Value} (hp:peerR.rd [] W c p) (hq:peerR.rd [] W d q) (gp:PeerD.Few p) (gq:PeerD.Few q):Fnc Try.prog 3 #[.agg c.toArray,.agg d.toArray] W fun v w'=>v = .bool true ∧ Ext [] W w' :=
 law_KeepDiffs hp hq (fun x hx=>by cases hx) (few_ksz gp) (few_ksz gq)
end Go.Proofs.Ytiaicihpocoeiaa.X1
