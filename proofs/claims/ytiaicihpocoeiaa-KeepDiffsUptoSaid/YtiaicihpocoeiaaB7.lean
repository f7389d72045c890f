/- My texts, cut to what this claim needs and merged. -/
import Derived.Test.YtiaicihpocoeiaaB6
import Derived.Test.YtiaicihpocoeiaaB2
namespace Go.Proofs.Ytiaicihpocoeiaa.T
open W Go.RowKit
set_option maxRecDepth 100000
set_option maxHeartbeats 400000
theorem ref_Own {w:World} {X:List Nat} {p:PeerD} {c_p:List Value} (h_p:peerR.rd X w c_p p) (hF:Fits p) (hX:∀ x ∈ X,x < w.heap.size):Fnc Try.prog 7 #[.agg c_p.toArray] w (fun v w'=>∃ (u0:List Value),v = .agg u0.toArray ∧ peerR.rd X w' u0 (p) ∧ Ext [] w w'):=by
 obtain ⟨v1,v3,v5,v7,v9,Az,rfl,J8,J9,K1,Ka,F8,F9,Kc⟩:=h_p
 obtain ⟨Di,Dj,Dk,Dl,Dm,Dn,Do,K5,Dp,Dq,Dr,Ds⟩:=(show PeerD.InR p from Kc)
 have Di:=inK_i64 Di
 have Dj:=inK_u64 Dj
 have Dk:=inK_i64 Dk
 have Dl:=inK_u8 Dl
 have Dm:=inK_i64 Dm
 have Dn:=inK_u64 Dn
 have Do:=inK_u64 Do
 have Dp:=inK_u64 Dp
 have Dq:=inK_i64 Dq
 have Dr:=inK_i64 Dr
 have Ds:=inK_u64 Ds
 have K6:=J8.le'
 have K7:=J9.le'
 have K8:=Ka.le'
 have K9:=F8.le'
 have La:=F9.le'
 have hfe:=hF.ents
 have hfl:=hF.log
 refine Fnc.of_WP (n:=54) Try.func7 rfl Try.ntmps7 (by simp) ?_
 intro E hE
 have h0:E 0 = .agg (peerA p v1 v3 v5 v7 v9 Az):=hE 0 (by simp)
 clear hE
 refine WP.sr ?_
 refine WL.box (x:=.tmp 0) (cs:=(peerC p v1 v3 v5 v7 v9 Az)) (Sure.none rfl) rfl rfl h0 rfl (fun Aa Lh Bo Ld Ga=>?_)
 have Kd:=(Sl.new (b:=Aa) nz1 J8 (by omega)).ext (Ext.any Bo)
 have Ke:=(Sl.new (b:=Aa) nz1 J9 (by omega)).ext (Ext.any Bo)
 have Kf:=(Sl.new (b:=Aa) nz4 K1 (by omega)).ext (Ext.any Bo)
 have Kg:=(Sl.new (b:=Aa) nz1 Ka (by omega)).ext (Ext.any Bo)
 have Kh:=(Sl.new (b:=Aa) nz3 F8 (by omega)).ext (Ext.any Bo)
 have Ki:=(Sl.new (b:=Aa) nz3 F9 (by omega)).ext (Ext.any Bo)
 have Gb:Ext [Aa] _ _:=(Ext.refl _ _).trans (Ext.any Bo)
 have Da:w.heap.size ≤ Aa:=by have:=Nat.le_refl w.heap.size; omega
 refine WL.alloc (cs:=peerZ) (Sure.none rfl) rfl rfl z29 rfl (fun Ab Ai Bb Le Gc=>?_)
 have Hc:Aa < Ab:=by have:=Ga.lt; omega
 have Gd:=Ga.ext Bb (by simp)
 have Ge:=(Sl.new (b:=Ab) nz1 Kd (by omega)).ext (Ext.any Bb)
 have Gf:=(Sl.new (b:=Ab) nz1 Ke (by omega)).ext (Ext.any Bb)
 have Kj:=(Sl.new (b:=Ab) nz4 Kf (by omega)).ext (Ext.any Bb)
 have Gg:=(Sl.new (b:=Ab) nz1 Kg (by omega)).ext (Ext.any Bb)
 have Gh:=(Sl.new (b:=Ab) nz3 Kh (by omega)).ext (Ext.any Bb)
 have Gi:=(Sl.new (b:=Ab) nz3 Ki (by omega)).ext (Ext.any Bb)
 have Dc:Ext [Ab,Aa] _ _:=(Ext.cons Gb).trans (Ext.any Bb)
 have Db:w.heap.size ≤ Ab:=by have:=Gb.size; omega
 refine WL.nil ?_
 refine WP.sr ?_
 refine WL.lit (R:=(intR .i64)) (X:=(Ab :: (Aa :: X))) (vs:=[]) (xs:=[]) (Sure.none rfl) rfl rfl u22 e3 (by show 0 < (1:Nat); decide) (by show _ * (1:Nat) ≤ 1024; decide) rfl rfl rfl (by intro i v x hv hx; match i,hv,hx with | i + 0,hv,_=>simp at hv) (fun K2 Kb Ce Kk hlit61=>?_)
 have Cf:∀ g,(K2).ownBlock = some g → g ∉ (Ab :: (Aa :: X)):=by intro g hg hm; have h1:=hlit61 g hg; have h2:=(inCons Gc.lt (inCons Gd.lt (inMono hX Dc.size))) g hm; omega
 have Hd:w.heap.size ≤ Ai.heap.size:=Dc.size
 have Gj:Ext [Ab,Aa] w Kb:=Dc.trans (Ext.any (Y:=[Ab,Aa]) Ce)
 have Cg:Ext [Ab,Aa] Ai Kb:=(Ext.any (Y:=[Ab,Aa]) Ce)
 have Dd:=Gd.ext Ce (by simp)
 have Gk:=Gc.ext Ce (by simp)
 have Ch:=Kk.low (B':=Ai.heap.size) (Nat.le_refl _)
 refine WL.f (v1) fl29_1 rfl p22 (Dd.cell rfl) ?_
 refine WL.appendOwn (R:=(intR .i64)) (X:=(Ab :: (Aa :: X))) (B:=Ai.heap.size) (xs:=[]) (ys:=p.Members) (Sure.none rfl) rfl rfl u22 e3 rfl (by show 0 < (1:Nat); decide) rfl rfl Ch (Ge.ext (Ext.pre Cg)) (fun g hg=>(Sl.new nz1 Ge (Nat.le_trans (Nat.le_refl _) (Ch.lt g hg).1)).ext (Ext.cons (Ext.pre Cg))) Cg.size (by first | (have h1:=hF.mem; have h2:=hF.base; have h3:=hF.votes; have h4:=hF.follows; simp only [List.length_nil,maxLen]; omega) | (have h1:=hF.acks k (by omega); simp only [List.length_nil,maxLen]; omega) | (simp only [List.length_nil,List.length_cons,maxLen]; have:=hF.reads; omega)) (by first | (have h1:=hF.mem; have h2:=hF.base; have h3:=hF.votes; have h4:=hF.follows; simp only [List.length_nil,maxLen]; omega) | (have h1:=hF.acks k (by omega); simp only [List.length_nil,maxLen]; omega) | (simp only [List.length_nil,List.length_cons,maxLen]; have:=hF.reads; omega)) (fun Aq Ao De Ci hf73=>?_)
 have He:=after_no hf73 Cf (inCons Gk.lt (inCons Dd.lt (inMono hX Gj.size)))
 have Kl:=Ext.ownB (Gj) Ci (fun k hk=>(Owns.lt Ch k hk).1) Hd
 have Km:=Ext.ownB (Cg) Ci (fun k hk=>(Owns.lt Ch k hk).1) (Nat.le_refl _)
 have Kn:=Dd.grown Ci (fun g hg e=>Cf g hg (by simp [e]))
 have Ko:=Gk.grown Ci (fun g hg e=>Cf g hg (by simp [e]))
 have De:=De.castE (List.nil_append _)
 refine WL.z (.pointer (some ⟨Aa,1,none⟩)) (V.fieldAddr rfl fl29_1 rfl) ?_
 have Gl:=Owns.sl' De He
 refine WL.store (Sure.none rfl) rfl rfl s22 rfl rfl Gl.one Kn (by show (1:Nat) < 18; decide) (fun Bn Cj Ck=>?_)
 replace Ck:Box Bn Aa 29 (peerC p Aq v3 v5 v7 v9 Az):=Ck
 have Gm:=Ko.ext Cj (by simp; omega)
 have Df:Ext [Ab,Aa] w Bn:=Kl.trans (Cj.mono (by simp))
 have Gn:Ext [Ab,Aa] Ai Bn:=Km.trans (Cj.mono (by simp))
 have Gp:Ext [Ab,Aa] Ao Bn:=(Cj.mono (by simp))
 refine WL.nil ?_
 refine WP.sr ?_
 refine WL.lit (R:=(intR .i64)) (X:=(Ab :: (Aa :: X))) (vs:=[]) (xs:=[]) (Sure.none rfl) rfl rfl u22 e3 (by show 0 < (1:Nat); decide) (by show _ * (1:Nat) ≤ 1024; decide) rfl rfl rfl (by intro i v x hv hx; match i,hv,hx with | i + 0,hv,_=>simp at hv) (fun K3 Dt Bx Kq hlit91=>?_)
 have Cl:∀ g,(K3).ownBlock = some g → g ∉ (Ab :: (Aa :: X)):=by intro g hg hm; have h1:=hlit91 g hg; have h2:=(inCons Gm.lt (inCons Ck.lt (inMono hX Df.size))) g hm; omega
 have Hf:w.heap.size ≤ Bn.heap.size:=Df.size
 have Du:Ai.heap.size ≤ Bn.heap.size:=Gn.size
 have Hg:Ao.heap.size ≤ Bn.heap.size:=Gp.size
 have Gq:Ext [Ab,Aa] w Dt:=Df.trans (Ext.any (Y:=[Ab,Aa]) Bx)
 have Dg:Ext [Ab,Aa] Ai Dt:=Gn.trans (Ext.any (Y:=[Ab,Aa]) Bx)
 have Kr:Ext [Ab,Aa] Ao Dt:=Gp.trans (Ext.any (Y:=[Ab,Aa]) Bx)
 have Ks:Ext [Ab,Aa] Bn Dt:=(Ext.any (Y:=[Ab,Aa]) Bx)
 have Cm:=Ck.ext Bx (by simp)
 have Dv:=Gm.ext Bx (by simp)
 have Bq:=Kq.low (B':=Bn.heap.size) (Nat.le_refl _)
 refine WL.f (v3) fl29_8 rfl p22 (Cm.cell rfl) ?_
 refine WL.appendOwn (R:=(intR .i64)) (X:=(Ab :: (Aa :: X))) (B:=Bn.heap.size) (xs:=[]) (ys:=p.BaseMembers) (Sure.none rfl) rfl rfl u22 e3 rfl (by show 0 < (1:Nat); decide) rfl rfl Bq (Gf.ext (Ext.pre Dg)) (fun g hg=>(Sl.new nz1 Gf (Nat.le_trans Du (Bq.lt g hg).1)).ext (Ext.cons (Ext.pre Dg))) Ks.size (by first | (have h1:=hF.mem; have h2:=hF.base; have h3:=hF.votes; have h4:=hF.follows; simp only [List.length_nil,maxLen]; omega) | (have h1:=hF.acks k (by omega); simp only [List.length_nil,maxLen]; omega) | (simp only [List.length_nil,List.length_cons,maxLen]; have:=hF.reads; omega)) (by first | (have h1:=hF.mem; have h2:=hF.base; have h3:=hF.votes; have h4:=hF.follows; simp only [List.length_nil,maxLen]; omega) | (have h1:=hF.acks k (by omega); simp only [List.length_nil,maxLen]; omega) | (simp only [List.length_nil,List.length_cons,maxLen]; have:=hF.reads; omega)) (fun Ah Aj Cn Br hf107=>?_)
 have Gr:=after_no hf107 Cl (inCons Dv.lt (inCons Cm.lt (inMono hX Gq.size)))
 have Hh:=Ext.ownB (Gq) Br (fun k hk=>(Owns.lt Bq k hk).1) Hf
 have Hi:=Ext.ownB (Dg) Br (fun k hk=>(Owns.lt Bq k hk).1) Du
 have Hj:=Ext.ownB (Kr) Br (fun k hk=>(Owns.lt Bq k hk).1) Hg
 have Hk:=Cm.grown Br (fun g hg e=>Cl g hg (by simp [e]))
 have Hl:=Dv.grown Br (fun g hg e=>Cl g hg (by simp [e]))
 have Cn:=Cn.castE (List.nil_append _)
 refine WL.z (.pointer (some ⟨Aa,8,none⟩)) (V.fieldAddr rfl fl29_8 rfl) ?_
 have Dw:=Owns.sl' Cn Gr
 refine WL.store (Sure.none rfl) rfl rfl s22 rfl rfl Dw.one Hk (by show (8:Nat) < 18; decide) (fun Ak Bs B2=>?_)
 replace B2:Box Ak Aa 29 (peerC p Aq Ah v5 v7 v9 Az):=B2
 have Dx:=Hl.ext Bs (by simp; omega)
 have Co:Ext [Ab,Aa] w Ak:=Hh.trans (Bs.mono (by simp))
 have Dy:Ext [Ab,Aa] Ai Ak:=Hi.trans (Bs.mono (by simp))
 have Dz:Ext [Ab,Aa] Ao Ak:=Hj.trans (Bs.mono (by simp))
 have D0:Ext [Ab,Aa] Aj Ak:=(Bs.mono (by simp))
 refine WL.nil ?_
 refine WP.sr ?_
 refine WL.lit (R:=(intR .i64)) (X:=(Ab :: (Aa :: X))) (vs:=[]) (xs:=[]) (Sure.none rfl) rfl rfl u22 e3 (by show 0 < (1:Nat); decide) (by show _ * (1:Nat) ≤ 1024; decide) rfl rfl rfl (by intro i v x hv hx; match i,hv,hx with | i + 0,hv,_=>simp at hv) (fun Kt B6 A5 Hm hlit129=>?_)
 have B7:∀ g,(Kt).ownBlock = some g → g ∉ (Ab :: (Aa :: X)):=by intro g hg hm; have h1:=hlit129 g hg; have h2:=(inCons Dx.lt (inCons B2.lt (inMono hX Co.size))) g hm; omega
 have Gs:w.heap.size ≤ Ak.heap.size:=Co.size
 have C4:Ai.heap.size ≤ Ak.heap.size:=Dy.size
 have Gt:Ao.heap.size ≤ Ak.heap.size:=Dz.size
 have Gu:Aj.heap.size ≤ Ak.heap.size:=D0.size
 have D1:Ext [Ab,Aa] w B6:=Co.trans (Ext.any (Y:=[Ab,Aa]) A5)
 have Cp:Ext [Ab,Aa] Ai B6:=Dy.trans (Ext.any (Y:=[Ab,Aa]) A5)
 have Hn:Ext [Ab,Aa] Ao B6:=Dz.trans (Ext.any (Y:=[Ab,Aa]) A5)
 have Ho:Ext [Ab,Aa] Aj B6:=D0.trans (Ext.any (Y:=[Ab,Aa]) A5)
 have Hp:Ext [Ab,Aa] Ak B6:=(Ext.any (Y:=[Ab,Aa]) A5)
 have Cq:=B2.ext A5 (by simp)
 have D3:=Dx.ext A5 (by simp)
 have Bf:=Hm.low (B':=Ak.heap.size) (Nat.le_refl _)
 refine WL.f (v7) fl29_14 rfl p22 (Cq.cell rfl) ?_
 refine WL.appendOwn (R:=(intR .i64)) (X:=(Ab :: (Aa :: X))) (B:=Ak.heap.size) (xs:=[]) (ys:=p.Votes) (Sure.none rfl) rfl rfl u22 e3 rfl (by show 0 < (1:Nat); decide) rfl rfl Bf (Gg.ext (Ext.pre Cp)) (fun g hg=>(Sl.new nz1 Gg (Nat.le_trans C4 (Bf.lt g hg).1)).ext (Ext.cons (Ext.pre Cp))) Hp.size (by first | (have h1:=hF.mem; have h2:=hF.base; have h3:=hF.votes; have h4:=hF.follows; simp only [List.length_nil,maxLen]; omega) | (have h1:=hF.acks k (by omega); simp only [List.length_nil,maxLen]; omega) | (simp only [List.length_nil,List.length_cons,maxLen]; have:=hF.reads; omega)) (by first | (have h1:=hF.mem; have h2:=hF.base; have h3:=hF.votes; have h4:=hF.follows; simp only [List.length_nil,maxLen]; omega) | (have h1:=hF.acks k (by omega); simp only [List.length_nil,maxLen]; omega) | (simp only [List.length_nil,List.length_cons,maxLen]; have:=hF.reads; omega)) (fun Al A6 Cr Bg hf149=>?_)
 have Gv:=after_no hf149 B7 (inCons D3.lt (inCons Cq.lt (inMono hX D1.size)))
 have Hq:=Ext.ownB (D1) Bg (fun k hk=>(Owns.lt Bf k hk).1) Gs
 have Hr:=Ext.ownB (Cp) Bg (fun k hk=>(Owns.lt Bf k hk).1) C4
 have Hs:=Ext.ownB (Hn) Bg (fun k hk=>(Owns.lt Bf k hk).1) Gt
 have Ht:=Ext.ownB (Ho) Bg (fun k hk=>(Owns.lt Bf k hk).1) Gu
 have Hu:=Cq.grown Bg (fun g hg e=>B7 g hg (by simp [e]))
 have Hv:=D3.grown Bg (fun g hg e=>B7 g hg (by simp [e]))
 have Cr:=Cr.castE (List.nil_append _)
 refine WL.z (.pointer (some ⟨Aa,14,none⟩)) (V.fieldAddr rfl fl29_14 rfl) ?_
 have D4:=Owns.sl' Cr Gv
 refine WL.store (Sure.none rfl) rfl rfl s22 rfl rfl D4.one Hu (by show (14:Nat) < 18; decide) (fun By Bh Bt=>?_)
 replace Bt:Box By Aa 29 (peerC p Aq Ah v5 Al v9 Az):=Bt
 have D5:=Hv.ext Bh (by simp; omega)
 have D6:Ext [Ab,Aa] w By:=Hq.trans (Bh.mono (by simp))
 have D7:Ext [Ab,Aa] Ai By:=Hr.trans (Bh.mono (by simp))
 have Hw:Ext [Ab,Aa] Ao By:=Hs.trans (Bh.mono (by simp))
 have Hx:Ext [Ab,Aa] Aj By:=Ht.trans (Bh.mono (by simp))
 have Hy:Ext [Ab,Aa] A6 By:=(Bh.mono (by simp))
 refine WL.nil ?_
 refine WP.sr ?_
 refine WL.f (v5) fl29_10 rfl p25 (Bt.cell rfl) ?_
 refine WL.c (Sure.none rfl) rfl (C.call1 rfl cl17 rfl) (Fnc.mono (ref_OwnEntries (Kj.ext (Ext.pre D7)) (by omega) (by assumption) (X:=(Ab :: (Aa :: X))) (inCons D5.lt (inCons Bt.lt (inMono hX D6.size)))) ?_)
 rintro Ap Am ⟨_,rfl,D8,A7⟩
 have Hz:Ext [Ab,Aa] w Am:=D6.trans (Ext.any (Y:=[Ab,Aa]) A7)
 have H0:Ext [Ab,Aa] Ai Am:=D7.trans (Ext.any (Y:=[Ab,Aa]) A7)
 have H1:Ext [Ab,Aa] Ao Am:=Hw.trans (Ext.any (Y:=[Ab,Aa]) A7)
 have H2:Ext [Ab,Aa] Aj Am:=Hx.trans (Ext.any (Y:=[Ab,Aa]) A7)
 have H3:Ext [Ab,Aa] A6 Am:=Hy.trans (Ext.any (Y:=[Ab,Aa]) A7)
 have H4:=Bt.ext A7 (by simp)
 have H5:=D5.ext A7 (by simp)
 refine WL.z (.pointer (some ⟨Aa,10,none⟩)) (V.fieldAddr rfl fl29_10 rfl) ?_
 refine WL.store (Sure.none rfl) rfl rfl s25 rfl rfl D8.one H4 (by show (10:Nat) < 18; decide) (fun Af A8 B3=>?_)
 replace B3:Box Af Aa 29 (peerC p Aq Ah Ap Al v9 Az):=B3
 have D9:=H5.ext A8 (by simp; omega)
 have Cs:Ext [Ab,Aa] w Af:=Hz.trans (A8.mono (by simp))
 have Fa:Ext [Ab,Aa] Ai Af:=H0.trans (A8.mono (by simp))
 have Fb:Ext [Ab,Aa] Ao Af:=H1.trans (A8.mono (by simp))
 have Fc:Ext [Ab,Aa] Aj Af:=H2.trans (A8.mono (by simp))
 have Fd:Ext [Ab,Aa] A6 Af:=H3.trans (A8.mono (by simp))
 have Fe:Ext [Ab,Aa] Am Af:=(A8.mono (by simp))
 refine WL.nil ?_
 refine WP.sr ?_
 refine WL.lit (R:=followR) (X:=(Ab :: (Aa :: X))) (vs:=[]) (xs:=[]) (Sure.none rfl) rfl rfl u26 e73 (by show 0 < (3:Nat); decide) (by show _ * (3:Nat) ≤ 1024; decide) rfl rfl rfl (by intro i v x hv hx; match i,hv,hx with | i + 0,hv,_=>simp at hv) (fun Ku Bp An H6 hlit202=>?_)
 have B8:∀ g,(Ku).ownBlock = some g → g ∉ (Ab :: (Aa :: X)):=by intro g hg hm; have h1:=hlit202 g hg; have h2:=(inCons D9.lt (inCons B3.lt (inMono hX Cs.size))) g hm; omega
 have Gw:w.heap.size ≤ Af.heap.size:=Cs.size
 have C5:Ai.heap.size ≤ Af.heap.size:=Fa.size
 have Gx:Ao.heap.size ≤ Af.heap.size:=Fb.size
 have Gy:Aj.heap.size ≤ Af.heap.size:=Fc.size
 have Gz:A6.heap.size ≤ Af.heap.size:=Fd.size
 have G0:Am.heap.size ≤ Af.heap.size:=Fe.size
 have Ff:Ext [Ab,Aa] w Bp:=Cs.trans (Ext.any (Y:=[Ab,Aa]) An)
 have Ct:Ext [Ab,Aa] Ai Bp:=Fa.trans (Ext.any (Y:=[Ab,Aa]) An)
 have H7:Ext [Ab,Aa] Ao Bp:=Fb.trans (Ext.any (Y:=[Ab,Aa]) An)
 have H8:Ext [Ab,Aa] Aj Bp:=Fc.trans (Ext.any (Y:=[Ab,Aa]) An)
 have H9:Ext [Ab,Aa] A6 Bp:=Fd.trans (Ext.any (Y:=[Ab,Aa]) An)
 have Ia:Ext [Ab,Aa] Am Bp:=Fe.trans (Ext.any (Y:=[Ab,Aa]) An)
 have Ib:Ext [Ab,Aa] Af Bp:=(Ext.any (Y:=[Ab,Aa]) An)
 have Cu:=B3.ext An (by simp)
 have Fg:=D9.ext An (by simp)
 have Ar:=H6.low (B':=Af.heap.size) (Nat.le_refl _)
 refine WL.f (v9) fl29_15 rfl p26 (Cu.cell rfl) ?_
 refine WL.appendOwn (R:=followR) (X:=(Ab :: (Aa :: X))) (B:=Af.heap.size) (xs:=[]) (ys:=p.Follows) (Sure.none rfl) rfl rfl u26 e73 rfl (by show 0 < (3:Nat); decide) rfl rfl Ar (Gh.ext (Ext.pre Ct)) (fun g hg=>(Sl.new nz3 Gh (Nat.le_trans C5 (Ar.lt g hg).1)).ext (Ext.cons (Ext.pre Ct))) Ib.size (by first | (have h1:=hF.mem; have h2:=hF.base; have h3:=hF.votes; have h4:=hF.follows; simp only [List.length_nil,maxLen]; omega) | (have h1:=hF.acks k (by omega); simp only [List.length_nil,maxLen]; omega) | (simp only [List.length_nil,List.length_cons,maxLen]; have:=hF.reads; omega)) (by first | (have h1:=hF.mem; have h2:=hF.base; have h3:=hF.votes; have h4:=hF.follows; simp only [List.length_nil,maxLen]; omega) | (have h1:=hF.acks k (by omega); simp only [List.length_nil,maxLen]; omega) | (simp only [List.length_nil,List.length_cons,maxLen]; have:=hF.reads; omega)) (fun Ax Cv Cw As hf230=>?_)
 have G1:=after_no hf230 B8 (inCons Fg.lt (inCons Cu.lt (inMono hX Ff.size)))
 have Ic:=Ext.ownB (Ff) As (fun k hk=>(Owns.lt Ar k hk).1) Gw
 have Ie:=Ext.ownB (Ct) As (fun k hk=>(Owns.lt Ar k hk).1) C5
 have If:=Ext.ownB (H7) As (fun k hk=>(Owns.lt Ar k hk).1) Gx
 have Ig:=Ext.ownB (H8) As (fun k hk=>(Owns.lt Ar k hk).1) Gy
 have Ih:=Ext.ownB (H9) As (fun k hk=>(Owns.lt Ar k hk).1) Gz
 have Ii:=Ext.ownB (Ia) As (fun k hk=>(Owns.lt Ar k hk).1) G0
 have Ij:=Cu.grown As (fun g hg e=>B8 g hg (by simp [e]))
 have Ik:=Fg.grown As (fun g hg e=>B8 g hg (by simp [e]))
 have Cw:=Cw.castE (List.nil_append _)
 refine WL.z (.pointer (some ⟨Aa,15,none⟩)) (V.fieldAddr rfl fl29_15 rfl) ?_
 have Fh:=Owns.sl' Cw G1
 refine WL.store (Sure.none rfl) rfl rfl s26 rfl rfl Fh.one Ij (by show (15:Nat) < 18; decide) (fun Ae Au Cx=>?_)
 replace Cx:Box Ae Aa 29 (peerC p Aq Ah Ap Al Ax Az):=Cx
 have Il:=Ik.ext Au (by simp; omega)
 have Im:Ext [Ab,Aa] w Ae:=Ic.trans (Au.mono (by simp))
 have In:Ext [Ab,Aa] Ai Ae:=Ie.trans (Au.mono (by simp))
 have Io:Ext [Ab,Aa] Ao Ae:=If.trans (Au.mono (by simp))
 have Ip:Ext [Ab,Aa] Aj Ae:=Ig.trans (Au.mono (by simp))
 have Iq:Ext [Ab,Aa] A6 Ae:=Ih.trans (Au.mono (by simp))
 have Ir:Ext [Ab,Aa] Am Ae:=Ii.trans (Au.mono (by simp))
 have Is:Ext [Ab,Aa] Cv Ae:=(Au.mono (by simp))
 refine WL.nil ?_
 refine WP.sr ?_
 refine WL.m rfl ?_
 refine WL.nil ?_
 refine WP.seq ?_
 refine WP.sr ?_
 refine WL.m rfl ?_
 refine WL.nil ?_
 refine WP.block ?_
 refine WP.loop (σ:=Nat) (fun k Ad Ag=>Ad 0 = .agg (peerA p v1 v3 v5 v7 v9 Az) ∧ Ad 1 = .pointer (some ⟨Aa,0,none⟩) ∧ Ad 2 = .pointer (some ⟨Ab,0,none⟩) ∧ Ad 4 = .int .i64 ((k:Int)) ∧ Ext [Ab,Aa] Ae Ag ∧ Box Ag Aa 29 (peerC p Aq Ah Ap Al Ax Az) ∧ Box Ag Ab 29 peerZ ∧ (Owns readR 53 Ae.heap.size (Ab :: (Aa :: X)) Ag (Ad 3) (p.Reads.take k) ∧ (∀ g,(Ad 3).ownBlock = some g → g ∉ (Ab :: (Aa :: X)))) ∧ k ≤ p.Reads.length) (fun k=>p.Reads.length - k) (0) ?_ ?_
 ·exact ⟨h0,rfl,rfl,(int_eq (by omega)),(Ext.refl _ _),Cx,Il,⟨(Owns.castE (by rfl) Owns.nil),(nil_block rfl)⟩,(by omega)⟩
 rintro k Ad Ag ⟨G2,Bc,B9,Ca,Av,hbb32_273,hbb44_273,⟨Bz,Cb⟩,K0⟩
 have Fi:Ext [Ab,Aa] w Ag:=Im.trans Av
 have It:Ext [Ab,Aa] Ai Ag:=In.trans Av
 have Iu:Ext [Ab,Aa] Ao Ag:=Io.trans Av
 have Iv:Ext [Ab,Aa] Aj Ag:=Ip.trans Av
 have Iw:Ext [Ab,Aa] A6 Ag:=Iq.trans Av
 have Ix:Ext [Ab,Aa] Am Ag:=Ir.trans Av
 have Iy:Ext [Ab,Aa] Cv Ag:=Is.trans Av
 have Fj:Ext [Ab,Aa] Ae Ag:=Av
 have htk:(p.Reads.take k).length ≤ k:=List.length_take_le _ _
 refine WP.seq ?_
 refine WP.sr ?_
 refine WL.m rfl ?_
 refine WL.f (x:=.tmp 1) (Az) fl29_17 Bc p27 (hbb32_273.cell rfl) ?_
 obtain ⟨a286,c287,Iz⟩:=Gi.shape
 refine WL.z (.int .i64 (((p.Reads).length:Int))) (V.lenSlice rfl rfl u27 (Eq.trans (b:=Az) rfl Iz)) ?_
 refine WL.z (.bool (decide ((k:Int) < ((p.Reads).length:Int)))) (V.cmp (x:=.tmp 30) rfl Ca rfl rfl) ?_
 refine WL.nil ?_
 refine WP.condp (t:=(k:Int) < ((p.Reads).length:Int)) rfl (fun I0=>?_) (fun I0=>?_)
 rotate_left
 ·refine WP.exit ?_
  refine WP.sr ?_
  refine WL.m rfl ?_
  refine WL.z (.pointer (some ⟨Aa,17,none⟩)) (V.fieldAddr (x:=.tmp 1) rfl fl29_17 Bc) ?_
  have Fk:=Owns.sl' Bz Cb
  refine WL.store (Sure.none rfl) rfl rfl s27 rfl rfl Fk.one hbb32_273 (by show (17:Nat) < 18; decide) (fun Bd Aw Cy=>?_)
  replace Cy:Box Bd Aa 29 [.int .i64 (p.Id),Aq,.int .u64 (p.Term),.int .i64 (p.Vote),.int .u8 (p.Role),.int .i64 (p.Lead),.int .u64 (p.Base),.int .u64 (p.BaseTerm),Ah,.string (p.Snap),Ap,.int .u64 (p.Commit),.int .i64 (p.Idle),.int .i64 (p.Wait),Al,Ax,.int .u64 (p.Round),Ad 3]:=Cy
  have I1:=hbb44_273.ext Aw (by simp; omega)
  have I2:Ext [Ab,Aa] w Bd:=Fi.trans (Aw.mono (by simp))
  have I3:Ext [Ab,Aa] Ao Bd:=Iu.trans (Aw.mono (by simp))
  have I4:Ext [Ab,Aa] Aj Bd:=Iv.trans (Aw.mono (by simp))
  have I5:Ext [Ab,Aa] A6 Bd:=Iw.trans (Aw.mono (by simp))
  have I6:Ext [Ab,Aa] Am Bd:=Ix.trans (Aw.mono (by simp))
  have I7:Ext [Ab,Aa] Cv Bd:=Iy.trans (Aw.mono (by simp))
  have I8:Ext [Ab,Aa] Ag Bd:=(Aw.mono (by simp))
  refine WL.nil ?_
  refine WP.sr ?_
  refine WL.z (.agg #[.int .i64 (p.Id),Aq,.int .u64 (p.Term),.int .i64 (p.Vote),.int .u8 (p.Role),.int .i64 (p.Lead),.int .u64 (p.Base),.int .u64 (p.BaseTerm),Ah,.string (p.Snap),Ap,.int .u64 (p.Commit),.int .i64 (p.Idle),.int .i64 (p.Wait),Al,Ax,.int .u64 (p.Round),Ad 3]) (V.loadAgg (x:=.tmp 1) (cs:=[.int .i64 (p.Id),Aq,.int .u64 (p.Term),.int .i64 (p.Vote),.int .u8 (p.Role),.int .i64 (p.Lead),.int .u64 (p.Base),.int .u64 (p.BaseTerm),Ah,.string (p.Snap),Ap,.int .u64 (p.Commit),.int .i64 (p.Idle),.int .i64 (p.Wait),Al,Ax,.int .u64 (p.Round),Ad 3]) rfl a29 Bc (At.box Cy) rfl) ?_
  refine WL.storeAgg (x:=.tmp 2) (vs:=[.int .i64 (p.Id),Aq,.int .u64 (p.Term),.int .i64 (p.Vote),.int .u8 (p.Role),.int .i64 (p.Lead),.int .u64 (p.Base),.int .u64 (p.BaseTerm),Ah,.string (p.Snap),Ap,.int .u64 (p.Commit),.int .i64 (p.Idle),.int .i64 (p.Wait),Al,Ax,.int .u64 (p.Round),Ad 3]) (Sure.none rfl) rfl rfl s29 B9 rfl rfl (by intro u hu; simp only [List.mem_cons,List.not_mem_nil,or_false] at hu; rcases hu with rfl | rfl | rfl | rfl | rfl | rfl | rfl | rfl | rfl | rfl | rfl | rfl | rfl | rfl | rfl | rfl | rfl | rfl <;> first | rfl | exact Sl.one (by assumption)) I1 (by show (0:Nat) + 18 ≤ 18; decide) (fun Be A9 Cz=>?_)
  replace Cz:Box Be Ab 29 [.int .i64 (p.Id),Aq,.int .u64 (p.Term),.int .i64 (p.Vote),.int .u8 (p.Role),.int .i64 (p.Lead),.int .u64 (p.Base),.int .u64 (p.BaseTerm),Ah,.string (p.Snap),Ap,.int .u64 (p.Commit),.int .i64 (p.Idle),.int .i64 (p.Wait),Al,Ax,.int .u64 (p.Round),Ad 3]:=Cz
  have I9:Ext [Ab,Aa] w Be:=I2.trans (A9.mono (by simp))
  have Ja:Ext [Ab,Aa] Ao Be:=I3.trans (A9.mono (by simp))
  have Jb:Ext [Ab,Aa] Aj Be:=I4.trans (A9.mono (by simp))
  have Jc:Ext [Ab,Aa] A6 Be:=I5.trans (A9.mono (by simp))
  have Jd:Ext [Ab,Aa] Am Be:=I6.trans (A9.mono (by simp))
  have Je:Ext [Ab,Aa] Cv Be:=I7.trans (A9.mono (by simp))
  have Jf:Ext [Ab,Aa] Ag Be:=I8.trans (A9.mono (by simp))
  refine WL.nil ?_
  refine WP.ret ?_
  refine resOf.c1 rfl (v:=.agg #[.int .i64 (p.Id),Aq,.int .u64 (p.Term),.int .i64 (p.Vote),.int .u8 (p.Role),.int .i64 (p.Lead),.int .u64 (p.Base),.int .u64 (p.BaseTerm),Ah,.string (p.Snap),Ap,.int .u64 (p.Commit),.int .i64 (p.Idle),.int .i64 (p.Wait),Al,Ax,.int .u64 (p.Round),Ad 3]) ⟨_,_,B9,run_loadVar_agg a29 (At.box Cz) rfl⟩ ?_
  exact ⟨[.int .i64 (p.Id),Aq,.int .u64 (p.Term),.int .i64 (p.Vote),.int .u8 (p.Role),.int .i64 (p.Lead),.int .u64 (p.Base),.int .u64 (p.BaseTerm),Ah,.string (p.Snap),Ap,.int .u64 (p.Commit),.int .i64 (p.Idle),.int .i64 (p.Wait),Al,Ax,.int .u64 (p.Round),Ad 3],rfl,(Rep.base (O:=[Ab,Aa]) (castRd (R:=peerR) (show (({ Id:=p.Id,Members:=p.Members,Term:=p.Term,Vote:=p.Vote,Role:=p.Role,Lead:=p.Lead,Base:=p.Base,BaseTerm:=p.BaseTerm,BaseMembers:=p.BaseMembers,Snap:=p.Snap,Log:=p.Log,Commit:=p.Commit,Idle:=p.Idle,Wait:=p.Wait,Votes:=p.Votes,Follows:=p.Follows,Round:=p.Round,Reads:=p.Reads.take k }:PeerD):PeerD) = p from (by rw [List.take_of_length_le (by omega)])) ⟨Aq,Ah,Ap,Al,Ax,Ad 3,rfl,(Gl.ext (Ext.pre Ja)),(Dw.ext (Ext.pre Jb)),(D8.ext (Ext.pre Jd)),(D4.ext (Ext.pre Jc)),(Fh.ext (Ext.pre Je)),(Fk.ext (Ext.pre Jf)),⟨(inK_i64' (n:=p.Id) (by omega)),(inK_u64' (n:=p.Term) (by omega)),(inK_i64' (n:=p.Vote) (by omega)),(inK_u8' (n:=p.Role) (by omega)),(inK_i64' (n:=p.Lead) (by omega)),(inK_u64' (n:=p.Base) (by omega)),(inK_u64' (n:=p.BaseTerm) (by omega)),(by show (p.Snap).size ≤ maxLen; omega),(inK_u64' (n:=p.Commit) (by omega)),(inK_i64' (n:=p.Idle) (by omega)),(inK_i64' (n:=p.Wait) (by omega)),(inK_u64' (n:=p.Round) (by omega))⟩⟩)),((I9).done (geCons Db (geCons Da geNil)))⟩
 refine WP.skip ?_
 refine WP.seq ?_
 refine WP.block ?_
 refine WP.sr ?_
 refine WL.f (x:=.tmp 1) (Az) fl29_17 Bc p27 (hbb32_273.cell rfl) ?_
 refine WL.m rfl ?_
 have hlt298:k < (p.Reads).length:=by first | omega | (simp at *; omega)
 obtain ⟨Kv,Kw,c292,Lb,Jg,hnb295,Jh,G3⟩:=(Gi.ext (Ext.pre It)).get (i:=k) (x:=(p.Reads.getD k default)) (getD_some hlt298 _)
 obtain ⟨Cc,rfl,Fl,Ji⟩:=Jh
 obtain ⟨C6,C7⟩:=(show ReadD.InR (p.Reads.getD k default) from Ji)
 have C6:=inK_u64 C6
 have C7:=inK_u64 C7
 have K4:=Fl.le'
 refine WL.z (.pointer (some ⟨Kv,Kw + k * 3,none⟩)) (V.indexAddr (i:=.tmp 39) (m:=k) (j:=(k:Int)) rfl u27 s53 (Eq.trans (b:=Az) rfl Jg) Ca rfl hlt298) ?_
 refine WL.z (.agg #[.int .u64 ((p.Reads.getD k default).Round),.int .u64 ((p.Reads.getD k default).Index),Cc]) (V.loadAgg (cs:=[.int .u64 ((p.Reads.getD k default).Round),.int .u64 ((p.Reads.getD k default).Index),Cc]) rfl a53 rfl G3 rfl) ?_
 refine WL.alloc (cs:=[.int .u64 (0),.int .u64 (0),.slice none 0 0]) (Sure.none rfl) rfl rfl z53 rfl (fun Ac Dh Bi Lc Jj=>?_)
 have Ha:Aa < Ac:=by have:=hbb32_273.lt; omega
 have Jk:=hbb32_273.ext Bi (by simp)
 have Hb:Ab < Ac:=by have:=hbb44_273.lt; omega
 have Jl:=hbb44_273.ext Bi (by simp)
 have Jm:=(Owns.new (b:=Ac) Bz (by omega)).keep Bi (by intro g hg hm; simp at hm) (by simp)
 have A4:∀ g,(Ad 3).ownBlock = some g → g ∉ (Ac :: (Ab :: (Aa :: X))):=fun g hg hm=>(List.mem_cons.1 hm).elim (fun h=>by have:=(Bz.lt g hg).2; omega) (fun h=>Cb g hg h)
 have Fm:=(Sl.new (b:=Ac) nz1 Fl (by omega)).ext (Ext.any Bi)
 have Jn:Ext [Ac,Ab,Aa] _ _:=(Ext.cons Fi).trans (Ext.any Bi)
 have Jo:Ext [Ac,Ab,Aa] _ _:=(Ext.cons Fj).trans (Ext.any Bi)
 have B1:Ae.heap.size ≤ Ac:=by have:=Fj.size; omega
 refine WL.storeAgg (vs:=[.int .u64 ((p.Reads.getD k default).Round),.int .u64 ((p.Reads.getD k default).Index),Cc]) (Sure.none rfl) rfl rfl s53 rfl rfl rfl (by intro u hu; simp only [List.mem_cons,List.not_mem_nil,or_false] at hu; rcases hu with rfl | rfl | rfl <;> first | rfl | exact Sl.one (by assumption)) Jj (by show (0:Nat) + 3 ≤ 3; decide) (fun Ay Bj B4=>?_)
 replace B4:Box Ay Ac 53 [.int .u64 ((p.Reads.getD k default).Round),.int .u64 ((p.Reads.getD k default).Index),Cc]:=B4
 have Fo:=Jk.ext Bj (by simp; omega)
 have Fp:=Jl.ext Bj (by simp; omega)
 have C0:Ext [Ac,Ab,Aa] w Ay:=Jn.trans (Bj.mono (by simp))
 have Fq:Ext [Ac,Ab,Aa] Ae Ay:=Jo.trans (Bj.mono (by simp))
 have Fs:Ext [Ac,Ab,Aa] Dh Ay:=(Bj.mono (by simp))
 have Ft:=Owns.keep (Y:=[Ac,Ab,Aa]) Jm (Bj.mono (by simp)) (fun g hg hm=>A4 g hg (mem_pre (O:=[Ac,Ab,Aa]) (X:=X) hm)) (fun b hb=>mem_pre (O:=[Ac,Ab,Aa]) (X:=X) hb)
 refine WL.nil ?_
 refine WP.sr ?_
 refine WL.lit (R:=(intR .i64)) (X:=(Ac :: (Ab :: (Aa :: X)))) (vs:=[]) (xs:=[]) (Sure.none rfl) rfl rfl u22 e3 (by show 0 < (1:Nat); decide) (by show _ * (1:Nat) ≤ 1024; decide) rfl rfl rfl (by intro i v x hv hx; match i,hv,hx with | i + 0,hv,_=>simp at hv) (fun Kx C1 Ba Jp hlit349=>?_)
 have Bu:∀ g,(Kx).ownBlock = some g → g ∉ (Ac :: (Ab :: (Aa :: X))):=by intro g hg hm; have h1:=hlit349 g hg; have h2:=(inCons B4.lt (inCons Fp.lt (inCons Fo.lt (inMono hX C0.size)))) g hm; omega
 have G4:w.heap.size ≤ Ay.heap.size:=C0.size
 have G5:Ae.heap.size ≤ Ay.heap.size:=Fq.size
 have G6:Dh.heap.size ≤ Ay.heap.size:=Fs.size
 have Fu:Ext [Ac,Ab,Aa] w C1:=C0.trans (Ext.any (Y:=[Ac,Ab,Aa]) Ba)
 have Jq:Ext [Ac,Ab,Aa] Ae C1:=Fq.trans (Ext.any (Y:=[Ac,Ab,Aa]) Ba)
 have Fv:Ext [Ac,Ab,Aa] Dh C1:=Fs.trans (Ext.any (Y:=[Ac,Ab,Aa]) Ba)
 have Fw:Ext [Ac,Ab,Aa] Ay C1:=(Ext.any (Y:=[Ac,Ab,Aa]) Ba)
 have Fx:=Fo.ext Ba (by simp)
 have Fy:=Fp.ext Ba (by simp)
 have C2:=B4.ext Ba (by simp)
 have Bv:=Jp.low (B':=Ay.heap.size) (Nat.le_refl _)
 refine WL.f (Cc) fl53_2 rfl p22 (C2.cell rfl) ?_
 refine WL.appendOwn (R:=(intR .i64)) (X:=(Ac :: (Ab :: (Aa :: X)))) (B:=Ay.heap.size) (xs:=[]) (ys:=(p.Reads.getD k default).Acks) (Sure.none rfl) rfl rfl u22 e3 rfl (by show 0 < (1:Nat); decide) rfl rfl Bv (Fm.ext (Ext.pre Fv)) (fun g hg=>(Sl.new nz1 Fm (Nat.le_trans G6 (Bv.lt g hg).1)).ext (Ext.cons (Ext.pre Fv))) Fw.size (by first | (have h1:=hF.mem; have h2:=hF.base; have h3:=hF.votes; have h4:=hF.follows; simp only [List.length_nil,maxLen]; omega) | (have h1:=hF.acks k (by omega); simp only [List.length_nil,maxLen]; omega) | (simp only [List.length_nil,List.length_cons,maxLen]; have:=hF.reads; omega)) (by first | (have h1:=hF.mem; have h2:=hF.base; have h3:=hF.votes; have h4:=hF.follows; simp only [List.length_nil,maxLen]; omega) | (have h1:=hF.acks k (by omega); simp only [List.length_nil,maxLen]; omega) | (simp only [List.length_nil,List.length_cons,maxLen]; have:=hF.reads; omega)) (fun Cd Ky B5 Bk hf375=>?_)
 have C8:=after_no hf375 Bu (inCons C2.lt (inCons Fy.lt (inCons Fx.lt (inMono hX Fu.size))))
 have Jr:=Ext.ownB (Fu) Bk (fun k hk=>(Owns.lt Bv k hk).1) G4
 have Js:=Ext.ownB (Jq) Bk (fun k hk=>(Owns.lt Bv k hk).1) G5
 have Jt:=Ext.ownB (Fw) Bk (fun k hk=>(Owns.lt Bv k hk).1) (Nat.le_refl _)
 have Ju:=Fx.grown Bk (fun g hg e=>Bu g hg (by simp [e]))
 have Jv:=Fy.grown Bk (fun g hg e=>Bu g hg (by simp [e]))
 have Jw:=C2.grown Bk (fun g hg e=>Bu g hg (by simp [e]))
 have Jx:=Owns.keep (Y:=[Ac,Ab,Aa]) Ft (Jt) (fun g hg hm=>A4 g hg (mem_pre (O:=[Ac,Ab,Aa]) (X:=X) hm)) (fun b hb=>mem_pre (O:=[Ac,Ab,Aa]) (X:=X) hb)
 have B5:=B5.castE (List.nil_append _)
 refine WL.z (.pointer (some ⟨Ac,2,none⟩)) (V.fieldAddr rfl fl53_2 rfl) ?_
 have Jy:=Owns.sl' B5 C8
 have hf390:=Owns.far (T:=Ad 3) (flat_int _) B5 C8 (fun g hg=>(Ft.lt g hg).2)
 refine WL.store (Sure.none rfl) rfl rfl s22 rfl rfl Jy.one Jw (by show (2:Nat) < 3; decide) (fun B0 Bl Bw=>?_)
 replace Bw:Box B0 Ac 53 [.int .u64 ((p.Reads.getD k default).Round),.int .u64 ((p.Reads.getD k default).Index),Cd]:=Bw
 have Fz:=Ju.ext Bl (by simp; omega)
 have F0:=Jv.ext Bl (by simp; omega)
 have F1:Ext [Ac,Ab,Aa] w B0:=Jr.trans (Bl.mono (by simp))
 have Jz:Ext [Ac,Ab,Aa] Ae B0:=Js.trans (Bl.mono (by simp))
 have J0:Ext [Ac,Ab,Aa] Ky B0:=(Bl.mono (by simp))
 have F2:=Owns.keep (Y:=[Ac,Ab,Aa]) Jx (Bl.mono (by simp)) (fun g hg hm=>A4 g hg (mem_pre (O:=[Ac,Ab,Aa]) (X:=X) hm)) (fun b hb=>mem_pre (O:=[Ac,Ab,Aa]) (X:=X) hb)
 refine WL.nil ?_
 refine WP.region ?_
 refine WL.m rfl ?_
 refine WL.z (.agg #[.int .u64 ((p.Reads.getD k default).Round),.int .u64 ((p.Reads.getD k default).Index),Cd]) (V.loadAgg (cs:=[.int .u64 ((p.Reads.getD k default).Round),.int .u64 ((p.Reads.getD k default).Index),Cd]) rfl a53 rfl (At.box Bw) rfl) ?_
 refine WL.lit (R:=readR) (X:=(avoid (Ad 3) (Ac :: (Ab :: (Aa :: X))))) (vs:=[.agg #[.int .u64 ((p.Reads.getD k default).Round),.int .u64 ((p.Reads.getD k default).Index),Cd]]) (xs:=[({ Round:=(p.Reads.getD k default).Round,Index:=(p.Reads.getD k default).Index,Acks:=((p.Reads.getD k default).Acks) }:ReadD)]) (Sure.none rfl) rfl rfl u27 e53 (by show 0 < (3:Nat); decide) (by show _ * (3:Nat) ≤ 1024; decide) rfl rfl rfl (by intro i v x hv hx; match i,hv,hx with | 0,rfl,rfl=>exact ⟨Cd,rfl,(hf390.ext (Ext.avoid J0)),⟨(inK_u64' (n:=(p.Reads.getD k default).Round) (by omega)),(inK_u64' (n:=(p.Reads.getD k default).Index) (by omega))⟩⟩ | i + 1,hv,_=>simp at hv) (fun Kz G7 Bm J1 hlit410=>?_)
 have C9:∀ g,(Kz).ownBlock = some g → g ∉ (Ac :: (Ab :: (Aa :: X))):=by intro g hg hm; have h1:=hlit410 g hg; have h2:=(inCons Bw.lt (inCons F0.lt (inCons Fz.lt (inMono hX F1.size)))) g hm; omega
 have J2:Ext [Ac,Ab,Aa] w G7:=F1.trans (Ext.any (Y:=[Ac,Ab,Aa]) Bm)
 have F3:Ext [Ac,Ab,Aa] Ae G7:=Jz.trans (Ext.any (Y:=[Ac,Ab,Aa]) Bm)
 have F4:=Fz.ext Bm (by simp)
 have F5:=F0.ext Bm (by simp)
 have J3:=Bw.ext Bm (by simp)
 have F6:=F2.keep Bm (by intro g hg hm; simp at hm) (by simp)
 have F7:=J1.low (B':=B0.heap.size) (Nat.le_refl _)
 have G8:=avoid_no (T:=Ad 3) (n:=B0.heap.size) (fun g hg=>Nat.le_of_eq (hlit410 g hg).symm) (fun g hg=>(F2.lt g hg).2) C9
 refine WL.appendOwn (R:=readR) (X:=(Ac :: (Ab :: (Aa :: X)))) (B:=Ae.heap.size) (xs:=p.Reads.take k) (ys:=[({ Round:=(p.Reads.getD k default).Round,Index:=(p.Reads.getD k default).Index,Acks:=((p.Reads.getD k default).Acks) }:ReadD)]) (Sure.none rfl) rfl rfl u27 e53 rfl (by show 0 < (3:Nat); decide) rfl rfl F6 (Owns.sl' (Owns.mono F7 (fun b hb=>avoid_mem hb)) C9) (fun g hg=>avoid_far (Owns.sl' F7 G8) hg) F3.size (by first | (have h1:=hF.mem; have h2:=hF.base; have h3:=hF.votes; have h4:=hF.follows; simp only [List.length_nil,maxLen]; omega) | (have h1:=hF.acks k (by omega); simp only [List.length_nil,maxLen]; omega) | (simp only [List.length_nil,List.length_cons,maxLen]; have:=hF.reads; omega)) (by first | (have h1:=hF.mem; have h2:=hF.base; have h3:=hF.votes; have h4:=hF.follows; simp only [List.length_nil,maxLen]; omega) | (have h1:=hF.acks k (by omega); simp only [List.length_nil,maxLen]; omega) | (simp only [List.length_nil,List.length_cons,maxLen]; have:=hF.reads; omega)) (fun Lf Lg J4 C3 hf441=>?_)
 have G9:=after_no hf441 A4 (inCons J3.lt (inCons F5.lt (inCons F4.lt (inMono hX J2.size))))
 have J5:=Ext.ownB (F3) C3 (fun k hk=>(Owns.lt F6 k hk).1) (Nat.le_refl _)
 have J6:=F4.grown C3 (fun g hg e=>A4 g hg (by simp [e]))
 have J7:=F5.grown C3 (fun g hg e=>A4 g hg (by simp [e]))
 refine WL.m rfl ?_
 refine WL.nil ?_
 refine WP.region ?_
 refine WL.m rfl ?_
 refine WL.z (.int .i64 ((k:Int) + 1)) (V.arith (x:=.tmp 35) rfl Ca rfl rfl (wrap_i64 (by omega) (by omega))) ?_
 refine WL.m rfl ?_
 refine WL.nil ?_
 exact ⟨k + 1,⟨G2,Bc,B9,(int_eq (by omega)),(Ext.drop J5 B1),J6,J7,⟨(Owns.castE (by exact take_step (by omega)) (Owns.base (O:=[Ac]) J4)),(base_no (O:=[Ac]) G9)⟩,(by omega)⟩,(by omega)⟩
end Go.Proofs.Ytiaicihpocoeiaa.T
namespace Go.Proofs.Ytiaicihpocoeiaa.T
open W Go.RowKit
set_option maxRecDepth 100000
set_option maxHeartbeats 400000
def refM1 (p:PeerD):Bool:=idB p.Id && (!decide (p.Wait ≤ 0) && (!decide (p.Idle < 0) && (!decide (p.Role > 2) && ((!decide (p.Vote ≠ 0) || idB p.Vote) && (!decide (p.Lead ≠ 0) || idB p.Lead)))))
def refM2 (p:PeerD):Bool:=!decide ((p.BaseMembers.length:Int) = 0) && (idsB p.BaseMembers && (!decide (p.BaseTerm > p.Term) && ((decide (p.Base = 0) == decide (p.BaseTerm = 0)) && (!decide (p.Base = 0) || seqB p.Snap (ByteArray.mk #[])))))
def refM3 (p:PeerD):Bool:=!decide (p.Base > 4611686018427387904) && (!decide (p.Term > 4611686018427387904) && (!decide (p.Round > 4611686018427387904) && (!decide (p.Idle > 1073741824) && (!decide (p.Wait > 1073741824) && entsB p.Log p.BaseTerm p.Term))))
def refM4 (p:PeerD):Bool:=eqB ieq p.Members (membersOf p (lastI p)) && (!decide (p.Commit < p.Base) && (!decide (p.Commit > lastI p) && idsB p.Votes))
def refM5 (p:PeerD):Bool :=
  if decide (p.Role = 1) = true then hasB p.Members p.Id && (!decide (p.Vote ≠ p.Id) && (hasB p.Votes p.Id && (!decide (p.Lead ≠ 0) && (decide ((p.Follows.length:Int) = 0) && decide ((p.Reads.length:Int) = 0)))))
  else if decide (p.Role = 2) = true then decide ((p.Votes.length:Int) = 0) && (decide (p.Lead = p.Id) && (decide (p.Term > 0) && (decide (lastT p ≤ p.Term) && (followsB p (lastI p) && readsB p))))
  else !decide ((p.Votes.length:Int) > 0) && (decide ((p.Follows.length:Int) = 0) && decide ((p.Reads.length:Int) = 0))
def refMayB (p:PeerD):Bool:=refM1 p && (refM2 p && (refM3 p && (refM4 p && refM5 p)))
set_option maxHeartbeats 8000000 in
theorem ref_May {w:World} {X:List Nat} {p:PeerD} {c_p:List Value} (h_p:peerR.rd X w c_p p) (hX:∀ x ∈ X,x < w.heap.size) (hF:Fits p):Fnc Try.prog 28 #[.agg c_p.toArray] w (fun v w'=>v = .bool (refMayB p) ∧ Ext [] w w'):=by
 obtain ⟨v1,v3,v5,v7,v9,Ah,rfl,Gs,Gt,F0,Gu,F1,F2,A9⟩:=h_p
 obtain ⟨G0,G1,G2,G3,G4,Ck,Cl,G5,Cm,G6,G7,G8⟩:=(show PeerD.InR p from A9)
 have Ck:=inK_u64 Ck
 have Cl:=inK_u64 Cl
 have Cm:=inK_u64 Cm
 have G9:=F0.le'
 have hlI:lastI p = p.Base + (p.Log.length:Int):=rfl
 refine Fnc.of_WP (n:=223) Try.func28 rfl Try.ntmps28 (by simp) ?_
 intro E hE
 have h0:E 0 = .agg (peerA p v1 v3 v5 v7 v9 Ah):=hE 0 (by simp)
 clear hE
 refine WP.sr ?_
 refine WL.box (x:=.tmp 0) (cs:=(peerC p v1 v3 v5 v7 v9 Ah)) (Sure.none rfl) rfl rfl h0 rfl (fun Aa A8 Bc Hs Cz=>?_)
 have Aq:=(Sl.new (b:=Aa) nz1 Gs (by omega)).ext (Ext.any Bc)
 have Aw:=(Sl.new (b:=Aa) nz1 Gt (by omega)).ext (Ext.any Bc)
 have Ba:=(Sl.new (b:=Aa) nz4 F0 (by omega)).ext (Ext.any Bc)
 have As:=(Sl.new (b:=Aa) nz1 Gu (by omega)).ext (Ext.any Bc)
 have Ax:=(Sl.new (b:=Aa) nz3 F1 (by omega)).ext (Ext.any Bc)
 have Ay:=(Sl.new (b:=Aa) nz3 F2 (by omega)).ext (Ext.any Bc)
 have F3:Ext [Aa] _ _:=(Ext.refl _ _).trans (Ext.any Bc)
 have Ac:w.heap.size ≤ Aa:=by have:=Nat.le_refl w.heap.size; omega
 refine WL.m rfl ?_
 refine WL.nil ?_
 refine WP.seq ?_
 refine WP.seq_cut (fun Cn Bm=>Cn 0 = .agg (peerA p v1 v3 v5 v7 v9 Ah) ∧ Cn 1 = .pointer (some ⟨Aa,0,none⟩) ∧ Cn 45 = .bool (!refM1 p) ∧ Ext [Aa] A8 Bm ∧ Box Bm Aa 29 (peerC p v1 v3 v5 v7 v9 Ah)) ?_ ?_
 ·refine WP.region ?_
  refine WL.f (.int .i64 (p.Id)) fl29_0 rfl p3 (Cz.cell rfl) ?_
  refine WL.c (Sure.none rfl) rfl (C.call1 rfl cl55 rfl) (Fnc.mono (ref_id p.Id) ?_)
  rintro _ Gv ⟨rfl,C0⟩
  have Bd:Ext [Aa] A8 Gv:=(Ext.any (Y:=[Aa]) C0)
  have Am:=Cz.ext C0 (by simp)
  refine WL.z (.bool (!(idB p.Id))) (V.not rfl rfl) ?_
  refine WL.vbn (c:=idB p.Id) (Sure.none rfl) rfl (V.move rfl rfl) (fun F4=>?_) (fun F4=>?_)
  ·refine WL.skips [(9,some true)] [(45,some true)] (kc (some true) rfl kn) (by kernel_rfl) (fun Ie hK54 C1=>?_)
   exact ⟨((C1 0 rfl).trans h0),(C1 1 rfl),(Eq.trans (hK54 45 (some true) rfl) (bool_eq (by first | assumption | grind [refM1]))),Bd,Am⟩
  refine WL.fy (.int .i64 (p.Wait)) rfl fl29_13 rfl p3 (Am.cell rfl) ?_
  refine WL.y (.bool (decide (p.Wait ≤ 0))) rfl (V.cmp rfl rfl rfl rfl) ?_
  refine WL.k (a:=false) rfl rfl ?_
  refine WL.vbp (c:=p.Wait ≤ 0) (Sure.none rfl) rfl (V.move rfl rfl) (fun F5=>?_) (fun F5=>?_)
  ·refine WL.skips [(14,some true)] [(45,some true)] (kc (some true) rfl kn) (by kernel_rfl) (fun If hK58 C2=>?_)
   exact ⟨((C2 0 rfl).trans h0),(C2 1 rfl),(Eq.trans (hK58 45 (some true) rfl) (bool_eq (by first | assumption | grind [refM1]))),Bd,Am⟩
  refine WL.fy (.int .i64 (p.Idle)) rfl fl29_12 rfl p3 (Am.cell rfl) ?_
  refine WL.y (.bool (decide (p.Idle < 0))) rfl (V.cmp rfl rfl rfl rfl) ?_
  refine WL.k (a:=false) rfl rfl ?_
  refine WL.vbp (c:=p.Idle < 0) (Sure.none rfl) rfl (V.move rfl rfl) (fun F6=>?_) (fun F6=>?_)
  ·refine WL.skips [(19,some true)] [(45,some true)] (kc (some true) rfl kn) (by kernel_rfl) (fun Ig hK62 C3=>?_)
   exact ⟨((C3 0 rfl).trans h0),(C3 1 rfl),(Eq.trans (hK62 45 (some true) rfl) (bool_eq (by first | assumption | grind [refM1]))),Bd,Am⟩
  refine WL.fy (.int .u8 (p.Role)) rfl fl29_4 rfl p24 (Am.cell rfl) ?_
  refine WL.y (.bool (decide (p.Role > 2))) rfl (V.cmp rfl rfl rfl rfl) ?_
  refine WL.k (a:=false) rfl rfl ?_
  refine WL.vbp (c:=p.Role > 2) (Sure.none rfl) rfl (V.move rfl rfl) (fun F7=>?_) (fun F7=>?_)
  ·refine WL.skips [(24,some true)] [(45,some true)] (kc (some true) rfl kn) (by kernel_rfl) (fun Ih hK66 C4=>?_)
   exact ⟨((C4 0 rfl).trans h0),(C4 1 rfl),(Eq.trans (hK66 45 (some true) rfl) (bool_eq (by first | assumption | grind [refM1]))),Bd,Am⟩
  refine WL.fy (.int .i64 (p.Vote)) rfl fl29_3 rfl p3 (Am.cell rfl) ?_
  refine WL.y (.bool (decide (p.Vote ≠ 0))) rfl (V.cmp rfl rfl rfl rfl) ?_
  refine WL.vbp (c:=p.Vote ≠ 0) (Sure.yes rfl rfl rfl) rfl (V.move rfl rfl) (fun F8=>?_) (fun F8=>?_)
  rotate_left
  ·refine WL.s (Shut.no rfl rfl rfl rfl) rfl ?_
   refine WL.s (Shut.no rfl rfl rfl rfl) rfl ?_
   refine WL.s (Shut.no rfl rfl rfl rfl) rfl ?_
   refine WL.s (Shut.no rfl rfl rfl rfl) rfl ?_
   refine WL.ky (a:=false) rfl rfl rfl ?_
   refine WL.k (a:=false) rfl rfl ?_
   refine WL.m rfl ?_
   refine WL.fy (.int .i64 (p.Lead)) rfl fl29_5 rfl p3 (Am.cell rfl) ?_
   refine WL.y (.bool (decide (p.Lead ≠ 0))) rfl (V.cmp rfl rfl rfl rfl) ?_
   refine WL.vbp (c:=p.Lead ≠ 0) (Sure.yes rfl rfl rfl) rfl (V.move rfl rfl) (fun F9=>?_) (fun F9=>?_)
   rotate_left
   ·refine WL.skips [(39,some false),(35,some false)] [(45,some false)] (kc (some false) rfl (kc (some false) rfl kn)) (by kernel_rfl) (fun Ii hK98 C5=>?_)
    exact ⟨((C5 0 rfl).trans h0),(C5 1 rfl),(Eq.trans (hK98 45 (some false) rfl) (bool_eq (by first | assumption | grind [refM1]))),Bd,Am⟩
   refine WL.fy (.int .i64 (p.Lead)) rfl fl29_5 rfl p3 (Am.cell rfl) ?_
   refine WL.c (Sure.yes rfl rfl rfl) rfl (C.call1 rfl cl55 rfl) (Fnc.mono (ref_id p.Lead) ?_)
   rintro _ Gw ⟨rfl,C6⟩
   have Ga:Ext [Aa] A8 Gw:=Bd.trans (Ext.any (Y:=[Aa]) C6)
   have Gb:=Am.ext C6 (by simp)
   refine WL.y (.bool (!(idB p.Lead))) rfl (V.not rfl rfl) ?_
   refine WL.ky (a:=true) rfl rfl rfl ?_
   refine WL.k (a:=false) rfl rfl ?_
   refine WL.nil ?_
   exact ⟨h0,rfl,(bool_eq (by first | assumption | grind [refM1])),Ga,Gb⟩
  refine WL.fy (.int .i64 (p.Vote)) rfl fl29_3 rfl p3 (Am.cell rfl) ?_
  refine WL.c (Sure.yes rfl rfl rfl) rfl (C.call1 rfl cl55 rfl) (Fnc.mono (ref_id p.Vote) ?_)
  rintro _ Gx ⟨rfl,C7⟩
  have Cj:Ext [Aa] A8 Gx:=Bd.trans (Ext.any (Y:=[Aa]) C7)
  have Bn:=Am.ext C7 (by simp)
  refine WL.y (.bool (!(idB p.Vote))) rfl (V.not rfl rfl) ?_
  refine WL.ky (a:=true) rfl rfl rfl ?_
  refine WL.k (a:=false) rfl rfl ?_
  refine WL.vbn (c:=idB p.Vote) (Sure.none rfl) rfl (V.move rfl rfl) (fun Gc=>?_) (fun Gc=>?_)
  ·refine WL.skips [(35,some true)] [(45,some true)] (kc (some true) rfl kn) (by kernel_rfl) (fun Ij hK77 C8=>?_)
   exact ⟨((C8 0 rfl).trans h0),(C8 1 rfl),(Eq.trans (hK77 45 (some true) rfl) (bool_eq (by first | assumption | grind [refM1]))),Cj,Bn⟩
  refine WL.fy (.int .i64 (p.Lead)) rfl fl29_5 rfl p3 (Bn.cell rfl) ?_
  refine WL.y (.bool (decide (p.Lead ≠ 0))) rfl (V.cmp rfl rfl rfl rfl) ?_
  refine WL.vbp (c:=p.Lead ≠ 0) (Sure.yes rfl rfl rfl) rfl (V.move rfl rfl) (fun Gd=>?_) (fun Gd=>?_)
  rotate_left
  ·refine WL.skips [(39,some false),(35,some false)] [(45,some false)] (kc (some false) rfl (kc (some false) rfl kn)) (by kernel_rfl) (fun Ik hK88 C9=>?_)
   exact ⟨((C9 0 rfl).trans h0),(C9 1 rfl),(Eq.trans (hK88 45 (some false) rfl) (bool_eq (by first | assumption | grind [refM1]))),Cj,Bn⟩
  refine WL.fy (.int .i64 (p.Lead)) rfl fl29_5 rfl p3 (Bn.cell rfl) ?_
  refine WL.c (Sure.yes rfl rfl rfl) rfl (C.call1 rfl cl55 rfl) (Fnc.mono (ref_id p.Lead) ?_)
  rintro _ Gy ⟨rfl,Da⟩
  have Ge:Ext [Aa] A8 Gy:=Cj.trans (Ext.any (Y:=[Aa]) Da)
  have Gf:=Bn.ext Da (by simp)
  refine WL.y (.bool (!(idB p.Lead))) rfl (V.not rfl rfl) ?_
  refine WL.ky (a:=true) rfl rfl rfl ?_
  refine WL.k (a:=false) rfl rfl ?_
  refine WL.nil ?_
  exact ⟨h0,rfl,(bool_eq (by first | assumption | grind [refM1])),Ge,Gf⟩
 rintro Cn Bm ⟨Av,Ak,Ao,Co,hbb32_100⟩
 have Cp:Ext [Aa] w Bm:=F3.trans Co
 have Cq:Ext [Aa] A8 Bm:=Co
 refine WP.condn (t:=refM1 p) Ao (fun Dg=>?_) (fun Dg=>?_)
 ·refine WP.sr ?_
  refine WL.m rfl ?_
  refine WL.nil ?_
  refine WP.ret ?_
  refine resOf.c1 rfl (v:=.bool (false)) rfl ?_
  exact ⟨(bool_eq (by first | assumption | grind [refMayB,refM3,refM4,refM5])),((Cp).done (geCons Ac geNil))⟩
 refine WP.skip ?_
 refine WP.seq ?_
 refine WP.seq_cut (fun Bo Bp=>Bo 0 = .agg (peerA p v1 v3 v5 v7 v9 Ah) ∧ Bo 1 = .pointer (some ⟨Aa,0,none⟩) ∧ Bo 45 = .bool (!refM1 p) ∧ Bo 81 = .bool (!refM2 p) ∧ Ext [Aa] Bm Bp ∧ Box Bp Aa 29 (peerC p v1 v3 v5 v7 v9 Ah)) ?_ ?_
 ·refine WP.region ?_
  refine WL.f (x:=.tmp 1) (v3) fl29_8 Ak p22 (hbb32_100.cell rfl) ?_
  obtain ⟨a107,c108,Dh⟩:=Aw.shape
  refine WL.z (.int .i64 (((p.BaseMembers).length:Int))) (V.lenSlice rfl rfl u22 (Eq.trans (b:=v3) rfl Dh)) ?_
  refine WL.z (.bool (decide (((p.BaseMembers).length:Int) = 0))) (V.cmp rfl rfl rfl rfl) ?_
  refine WL.vbp (c:=((p.BaseMembers).length:Int) = 0) (Sure.none rfl) rfl (V.move rfl rfl) (fun Di=>?_) (fun Di=>?_)
  ·refine WL.skips [(50,some true)] [(81,some true)] (kc (some true) rfl kn) (by kernel_rfl) (fun Ht hK112 B3=>?_)
   exact ⟨((B3 0 rfl).trans Av),((B3 1 rfl).trans Ak),((B3 45 rfl).trans Ao),(Eq.trans (hK112 81 (some true) rfl) (bool_eq (by first | assumption | grind [refM2]))),(Ext.refl _ _),hbb32_100⟩
  refine WL.fy (x:=.tmp 1) (v3) rfl fl29_8 Ak p22 (hbb32_100.cell rfl) ?_
  refine WL.c (Sure.yes rfl rfl rfl) rfl (C.call1 rfl cl56 rfl) (Fnc.mono (ref_ids (Aw.ext (Ext.pre Cq))) ?_)
  rintro _ Gg ⟨rfl,Cr⟩
  have Bg:Ext [Aa] Bm Gg:=(Ext.any (Y:=[Aa]) Cr)
  have An:=hbb32_100.ext Cr (by simp)
  refine WL.y (.bool (!(idsB p.BaseMembers))) rfl (V.not rfl rfl) ?_
  refine WL.k (a:=false) rfl rfl ?_
  refine WL.vbn (c:=idsB p.BaseMembers) (Sure.none rfl) rfl (V.move rfl rfl) (fun Dj=>?_) (fun Dj=>?_)
  ·refine WL.skips [(56,some true)] [(81,some true)] (kc (some true) rfl kn) (by kernel_rfl) (fun Hu hK122 B4=>?_)
   exact ⟨((B4 0 rfl).trans Av),((B4 1 rfl).trans Ak),((B4 45 rfl).trans Ao),(Eq.trans (hK122 81 (some true) rfl) (bool_eq (by first | assumption | grind [refM2]))),Bg,An⟩
  refine WL.fy (x:=.tmp 1) (.int .u64 (p.BaseTerm)) rfl fl29_7 Ak p23 (An.cell rfl) ?_
  refine WL.fy (x:=.tmp 1) (.int .u64 (p.Term)) rfl fl29_2 Ak p23 (An.cell rfl) ?_
  refine WL.y (.bool (decide (p.BaseTerm > p.Term))) rfl (V.cmp rfl rfl rfl rfl) ?_
  refine WL.k (a:=false) rfl rfl ?_
  refine WL.vbp (c:=p.BaseTerm > p.Term) (Sure.none rfl) rfl (V.move rfl rfl) (fun Dk=>?_) (fun Dk=>?_)
  ·refine WL.skips [(63,some true)] [(81,some true)] (kc (some true) rfl kn) (by kernel_rfl) (fun Hv hK126 B5=>?_)
   exact ⟨((B5 0 rfl).trans Av),((B5 1 rfl).trans Ak),((B5 45 rfl).trans Ao),(Eq.trans (hK126 81 (some true) rfl) (bool_eq (by first | assumption | grind [refM2]))),Bg,An⟩
  refine WL.fy (x:=.tmp 1) (.int .u64 (p.Base)) rfl fl29_6 Ak p23 (An.cell rfl) ?_
  refine WL.y (.bool (decide (p.Base = 0))) rfl (V.cmp rfl rfl rfl rfl) ?_
  refine WL.fy (x:=.tmp 1) (.int .u64 (p.BaseTerm)) rfl fl29_7 Ak p23 (An.cell rfl) ?_
  refine WL.y (.bool (decide (p.BaseTerm = 0))) rfl (V.cmp rfl rfl rfl rfl) ?_
  refine WL.y (.bool (!((decide (p.Base = 0)) == (decide (p.BaseTerm = 0))))) rfl (V.bcmpNe rfl u4 rfl rfl) ?_
  refine WL.k (a:=false) rfl rfl ?_
  refine WL.vbn (c:=(decide (p.Base = 0)) == (decide (p.BaseTerm = 0))) (Sure.none rfl) rfl (V.move rfl rfl) (fun Dl=>?_) (fun Dl=>?_)
  ·refine WL.skips [(72,some true)] [(81,some true)] (kc (some true) rfl kn) (by kernel_rfl) (fun Hw hK130 B6=>?_)
   exact ⟨((B6 0 rfl).trans Av),((B6 1 rfl).trans Ak),((B6 45 rfl).trans Ao),(Eq.trans (hK130 81 (some true) rfl) (bool_eq (by first | assumption | grind [refM2]))),Bg,An⟩
  refine WL.fy (x:=.tmp 1) (.int .u64 (p.Base)) rfl fl29_6 Ak p23 (An.cell rfl) ?_
  refine WL.y (.bool (decide (p.Base = 0))) rfl (V.cmp rfl rfl rfl rfl) ?_
  refine WL.vbp (c:=p.Base = 0) (Sure.yes rfl rfl rfl) rfl (V.move rfl rfl) (fun Dm=>?_) (fun Dm=>?_)
  rotate_left
  ·refine WL.skips [(76,some false),(72,some false)] [(81,some false)] (kc (some false) rfl (kc (some false) rfl kn)) (by kernel_rfl) (fun Hx hK134 B7=>?_)
   exact ⟨((B7 0 rfl).trans Av),((B7 1 rfl).trans Ak),((B7 45 rfl).trans Ao),(Eq.trans (hK134 81 (some false) rfl) (bool_eq (by first | assumption | grind [refM2]))),Bg,An⟩
  refine WL.fy (x:=.tmp 1) (.string (p.Snap)) rfl fl29_9 Ak p9 (An.cell rfl) ?_
  refine WL.y (.bool (!(seqB p.Snap (ByteArray.mk #[])))) rfl (V.scmp rfl rfl rfl rfl) ?_
  refine WL.ky (a:=true) rfl rfl rfl ?_
  refine WL.k (a:=false) rfl rfl ?_
  refine WL.nil ?_
  exact ⟨Av,Ak,Ao,(bool_eq (by first | assumption | grind [refM2])),Bg,An⟩
 rintro Bo Bp ⟨Gz,Ab,Gr,Cy,Cs,hbb32_136⟩
 have Az:Ext [Aa] w Bp:=Cp.trans Cs
 have Ct:Ext [Aa] A8 Bp:=Cq.trans Cs
 refine WP.condn (t:=refM2 p) Cy (fun Dn=>?_) (fun Dn=>?_)
 ·refine WP.sr ?_
  refine WL.m rfl ?_
  refine WL.nil ?_
  refine WP.ret ?_
  refine resOf.c1 rfl (v:=.bool (false)) rfl ?_
  exact ⟨(bool_eq (by first | assumption | grind [refMayB,refM3,refM4,refM5])),((Az).done (geCons Ac geNil))⟩
 refine WP.skip ?_
 refine WP.seq ?_
 refine WP.sr ?_
 refine WL.f (x:=.tmp 1) (.int .u64 (p.Base)) fl29_6 Ab p23 (hbb32_136.cell rfl) ?_
 refine WL.z (.bool (decide (p.Base > 4611686018427387904))) (V.cmp rfl rfl rfl rfl) ?_
 refine WL.vbp (c:=p.Base > 4611686018427387904) (Sure.none rfl) rfl (V.move rfl rfl) (fun Do=>?_) (fun Do=>?_)
 ·refine WL.skips [(85,some true)] [(114,some true)] (kc (some true) rfl kn) (by kernel_rfl) (fun Hy hK143 Ha=>?_)
  refine WP.cond_true (hK143 114 (some true) rfl) ?_
  refine WP.sr ?_
  refine WL.m rfl ?_
  refine WL.nil ?_
  refine WP.ret ?_
  refine resOf.c1 rfl (v:=.bool (false)) rfl ?_
  exact ⟨(bool_eq (by first | assumption | grind [refMayB,refM3,refM4,refM5])),((Az).done (geCons Ac geNil))⟩
 refine WL.fy (x:=.tmp 1) (.int .u64 (p.Term)) rfl fl29_2 Ab p23 (hbb32_136.cell rfl) ?_
 refine WL.y (.bool (decide (p.Term > 4611686018427387904))) rfl (V.cmp rfl rfl rfl rfl) ?_
 refine WL.k (a:=false) rfl rfl ?_
 refine WL.vbp (c:=p.Term > 4611686018427387904) (Sure.none rfl) rfl (V.move rfl rfl) (fun Dp=>?_) (fun Dp=>?_)
 ·refine WL.skips [(90,some true)] [(114,some true)] (kc (some true) rfl kn) (by kernel_rfl) (fun Hz hK147 Hb=>?_)
  refine WP.cond_true (hK147 114 (some true) rfl) ?_
  refine WP.sr ?_
  refine WL.m rfl ?_
  refine WL.nil ?_
  refine WP.ret ?_
  refine resOf.c1 rfl (v:=.bool (false)) rfl ?_
  exact ⟨(bool_eq (by first | assumption | grind [refMayB,refM3,refM4,refM5])),((Az).done (geCons Ac geNil))⟩
 refine WL.fy (x:=.tmp 1) (.int .u64 (p.Round)) rfl fl29_16 Ab p23 (hbb32_136.cell rfl) ?_
 refine WL.y (.bool (decide (p.Round > 4611686018427387904))) rfl (V.cmp rfl rfl rfl rfl) ?_
 refine WL.k (a:=false) rfl rfl ?_
 refine WL.vbp (c:=p.Round > 4611686018427387904) (Sure.none rfl) rfl (V.move rfl rfl) (fun Dq=>?_) (fun Dq=>?_)
 ·refine WL.skips [(95,some true)] [(114,some true)] (kc (some true) rfl kn) (by kernel_rfl) (fun H0 hK151 Hc=>?_)
  refine WP.cond_true (hK151 114 (some true) rfl) ?_
  refine WP.sr ?_
  refine WL.m rfl ?_
  refine WL.nil ?_
  refine WP.ret ?_
  refine resOf.c1 rfl (v:=.bool (false)) rfl ?_
  exact ⟨(bool_eq (by first | assumption | grind [refMayB,refM3,refM4,refM5])),((Az).done (geCons Ac geNil))⟩
 refine WL.fy (x:=.tmp 1) (.int .i64 (p.Idle)) rfl fl29_12 Ab p3 (hbb32_136.cell rfl) ?_
 refine WL.y (.bool (decide (p.Idle > 1073741824))) rfl (V.cmp rfl rfl rfl rfl) ?_
 refine WL.k (a:=false) rfl rfl ?_
 refine WL.vbp (c:=p.Idle > 1073741824) (Sure.none rfl) rfl (V.move rfl rfl) (fun Dr=>?_) (fun Dr=>?_)
 ·refine WL.skips [(100,some true)] [(114,some true)] (kc (some true) rfl kn) (by kernel_rfl) (fun H1 hK155 Hd=>?_)
  refine WP.cond_true (hK155 114 (some true) rfl) ?_
  refine WP.sr ?_
  refine WL.m rfl ?_
  refine WL.nil ?_
  refine WP.ret ?_
  refine resOf.c1 rfl (v:=.bool (false)) rfl ?_
  exact ⟨(bool_eq (by first | assumption | grind [refMayB,refM3,refM4,refM5])),((Az).done (geCons Ac geNil))⟩
 refine WL.fy (x:=.tmp 1) (.int .i64 (p.Wait)) rfl fl29_13 Ab p3 (hbb32_136.cell rfl) ?_
 refine WL.y (.bool (decide (p.Wait > 1073741824))) rfl (V.cmp rfl rfl rfl rfl) ?_
 refine WL.k (a:=false) rfl rfl ?_
 refine WL.vbp (c:=p.Wait > 1073741824) (Sure.none rfl) rfl (V.move rfl rfl) (fun Ds=>?_) (fun Ds=>?_)
 ·refine WL.skips [(105,some true)] [(114,some true)] (kc (some true) rfl kn) (by kernel_rfl) (fun H2 hK159 He=>?_)
  refine WP.cond_true (hK159 114 (some true) rfl) ?_
  refine WP.sr ?_
  refine WL.m rfl ?_
  refine WL.nil ?_
  refine WP.ret ?_
  refine resOf.c1 rfl (v:=.bool (false)) rfl ?_
  exact ⟨(bool_eq (by first | assumption | grind [refMayB,refM3,refM4,refM5])),((Az).done (geCons Ac geNil))⟩
 refine WL.fy (x:=.tmp 1) (v5) rfl fl29_10 Ab p25 (hbb32_136.cell rfl) ?_
 refine WL.fy (x:=.tmp 1) (.int .u64 (p.BaseTerm)) rfl fl29_7 Ab p23 (hbb32_136.cell rfl) ?_
 refine WL.fy (x:=.tmp 1) (.int .u64 (p.Term)) rfl fl29_2 Ab p23 (hbb32_136.cell rfl) ?_
 refine WL.c (Sure.yes rfl rfl rfl) rfl (C.call3 rfl cl57 rfl rfl rfl) (Fnc.mono (ref_entries (Ba.ext (Ext.pre Ct)) p.BaseTerm p.Term (by omega)) ?_)
 rintro _ Db ⟨rfl,B8⟩
 have Cu:Ext [Aa] w Db:=Az.trans (Ext.any (Y:=[Aa]) B8)
 have A4:Ext [Aa] A8 Db:=Ct.trans (Ext.any (Y:=[Aa]) B8)
 have Cv:=hbb32_136.ext B8 (by simp)
 refine WL.y (.bool (!(entsB p.Log p.BaseTerm p.Term))) rfl (V.not rfl rfl) ?_
 refine WL.k (a:=false) rfl rfl ?_
 refine WL.nil ?_
 refine WP.condn (t:=entsB p.Log p.BaseTerm p.Term) rfl (fun Dt=>?_) (fun Dt=>?_)
 ·refine WP.sr ?_
  refine WL.m rfl ?_
  refine WL.nil ?_
  refine WP.ret ?_
  refine resOf.c1 rfl (v:=.bool (false)) rfl ?_
  exact ⟨(bool_eq (by first | assumption | grind [refMayB,refM3,refM4,refM5])),((Cu).done (geCons Ac geNil))⟩
 refine WP.skip ?_
 refine WP.sr ?_
 refine WL.z (.agg (peerA p v1 v3 v5 v7 v9 Ah)) (V.loadAgg (x:=.tmp 1) (cs:=(peerC p v1 v3 v5 v7 v9 Ah)) rfl a29 Ab (At.box Cv) rfl) ?_
 refine WL.c (Sure.none rfl) rfl (C.call1 rfl cl30 rfl) (Fnc.mono (ref_Last (p:=p) ⟨v1,v3,v5,v7,v9,Ah,rfl,(Aq.ext (Ext.pre A4)),(Aw.ext (Ext.pre A4)),(Ba.ext (Ext.pre A4)),(As.ext (Ext.pre A4)),(Ax.ext (Ext.pre A4)),(Ay.ext (Ext.pre A4)),A9⟩ (by omega)) ?_)
 rintro _ Dc ⟨rfl,B9⟩
 have Au:Ext [Aa] w Dc:=Cu.trans (Ext.any (Y:=[Aa]) B9)
 have Af:Ext [Aa] A8 Dc:=A4.trans (Ext.any (Y:=[Aa]) B9)
 have Ai:=Cv.ext B9 (by simp)
 refine WL.m rfl ?_
 refine WL.z (.int .u64 (lastI p)) (V.extract rfl rfl rfl) ?_
 refine WL.z (.int .u64 (lastT p)) (V.extract rfl rfl rfl) ?_
 refine WL.m rfl ?_
 refine WL.m rfl ?_
 refine WL.nil ?_
 refine WP.seq ?_
 refine WP.seq ?_
 refine W.bsplit (c:=!(eqB ieq p.Members (membersOf p (lastI p)))) (fun A5=>?_) (fun A5=>?_)
 ·have hc177r:=A5
  replace A5:=bnot_true A5
  refine WP.anyMake [fun v _=>v = (.pointer (some ⟨Aa,1,none⟩):Value),fun v _=>v = (v1:Value),fun v _=>v = (.agg (peerA p v1 v3 v5 v7 v9 Ah):Value),fun v _=>v = (.int .u64 (lastI p):Value),fun v w=>Sl (intR .i64) (Aa :: X) w v (membersOf p (lastI p)),fun v _=>v = (.bool (eqB ieq p.Members (membersOf p (lastI p))):Value),fun v _=>v = (.bool (!(eqB ieq p.Members (membersOf p (lastI p)))):Value),fun v _=>v = (.bool (true):Value),fun v _=>v = (undef:Value),fun v _=>v = (undef:Value),fun v _=>v = (undef:Value),fun v _=>v = (undef:Value),fun v _=>v = (undef:Value),fun v _=>v = (.bool (true):Value),fun v _=>v = (.bool (true):Value),fun v _=>v = (undef:Value),fun v _=>v = (undef:Value),fun v _=>v = (undef:Value),fun v _=>v = (undef:Value),fun v _=>v = (.bool (true):Value),fun v _=>v = (.bool (true):Value),fun v _=>v = (undef:Value),fun v _=>v = (undef:Value),fun v _=>v = (undef:Value),fun v _=>v = (undef:Value),fun v _=>v = (.bool (true):Value)] mo (by kernel_rfl) (by kernel_rfl) (by kernel_rfl) ⟨Stab.eq _,Stab.eq _,Stab.eq _,Stab.eq _,Stab.sl,Stab.eq _,Stab.eq _,Stab.eq _,Stab.eq _,Stab.eq _,Stab.eq _,Stab.eq _,Stab.eq _,Stab.eq _,Stab.eq _,Stab.eq _,Stab.eq _,Stab.eq _,Stab.eq _,Stab.eq _,Stab.eq _,Stab.eq _,Stab.eq _,Stab.eq _,Stab.eq _,Stab.eq _,trivial⟩ ⟨?_,?_,?_,?_,?_,?_,?_,?_,?_,?_,?_,?_,?_,?_,?_,?_,?_,?_,?_,?_,?_,?_,?_,?_,?_,?_,trivial⟩ ?_
  ·intro E' w' hw hE hp
   exact .inr ⟨(Sure.none rfl),.inl ⟨.pointer (some ⟨Aa,1,none⟩),V.fieldAddr (x:=.tmp 1) rfl fl29_1 ((hE 1 (by kernel_rfl)).trans Ab),rfl⟩⟩
  ·intro E' w' hw hE hp
   have Bq:E' 120 = (.pointer (some ⟨Aa,1,none⟩):Value):=hp 0 (by kernel_rfl)
   exact .inr ⟨(Sure.none rfl),.inl ⟨v1,V.load (x:=.tmp 120) rfl p22 Bq ((Ai.ext hw (by simp)).cell rfl),rfl⟩⟩
  ·intro E' w' hw hE hp
   exact .inr ⟨(Sure.none rfl),.inl ⟨.agg (peerA p v1 v3 v5 v7 v9 Ah),V.loadAgg (x:=.tmp 1) (cs:=(peerC p v1 v3 v5 v7 v9 Ah)) rfl a29 ((hE 1 (by kernel_rfl)).trans Ab) ((At.box Ai).ext hw (by simp)) rfl,rfl⟩⟩
  ·intro E' w' hw hE hp
   exact .inr ⟨(Sure.none rfl),.inl ⟨.int .u64 (lastI p),V.move (x:=.tmp 3) rfl ((hE 3 (by kernel_rfl)).trans rfl),rfl⟩⟩
  ·intro E' w' hw hE hp
   have Br:E' 122 = (.agg (peerA p v1 v3 v5 v7 v9 Ah):Value):=hp 2 (by kernel_rfl)
   have Bs:E' 123 = (.int .u64 (lastI p):Value):=hp 3 (by kernel_rfl)
   exact .inr ⟨(Sure.none rfl),.inr ⟨_,_,C.call2 (x:=.tmp 122) (y:=.tmp 123) rfl cl58 Br Bs,Fnc.mono (ref_Members (p:=p) ⟨v1,v3,v5,v7,v9,Ah,rfl,((Aq.ext (Ext.pre Af)).ext (Ext.any hw)),((Aw.ext (Ext.pre Af)).ext (Ext.any hw)),((Ba.ext (Ext.pre Af)).ext (Ext.any hw)),((As.ext (Ext.pre Af)).ext (Ext.any hw)),((Ax.ext (Ext.pre Af)).ext (Ext.any hw)),((Ay.ext (Ext.pre Af)).ext (Ext.any hw)),A9⟩ (lastI p) (by omega) (by omega) (by assumption) (X:=(Aa :: X)) (inMono (inCons Ai.lt (inMono hX Au.size)) hw.size)) (fun v w'' ⟨_,e,hs,hx⟩=>⟨hx,by subst e; exact hs⟩)⟩⟩
  ·intro E' w' hw hE hp
   have Bt:E' 121 = (v1:Value):=hp 1 (by kernel_rfl)
   have Bu:Sl (intR .i64) (Aa :: X) w' (E' 124) (membersOf p (lastI p)):=hp 4 (by kernel_rfl)
   exact .inr ⟨(Sure.none rfl),.inr ⟨_,_,C.call2 (x:=.tmp 121) rfl cl38 Bt rfl,Fnc.mono (ref_sameInts ((Aq.ext (Ext.pre Af)).ext (Ext.any hw)) Bu) (fun v w'' h=>⟨h.2,h.1⟩)⟩⟩
  ·intro E' w' hw hE hp
   have Bv:E' 125 = (.bool (eqB ieq p.Members (membersOf p (lastI p))):Value):=hp 5 (by kernel_rfl)
   exact .inr ⟨(Sure.none rfl),.inl ⟨.bool (!(eqB ieq p.Members (membersOf p (lastI p)))),V.not (x:=.tmp 125) rfl Bv,rfl⟩⟩
  ·intro E' w' hw hE hp
   have Bw:E' 126 = (.bool (!(eqB ieq p.Members (membersOf p (lastI p)))):Value):=hp 6 (by kernel_rfl)
   exact .inr ⟨(Sure.none rfl),.inl ⟨.bool (!(eqB ieq p.Members (membersOf p (lastI p)))),V.move (x:=.tmp 126) rfl Bw,(congrArg Value.bool hc177r)⟩⟩
  ·intro E' w' hw hE hp
   have Ag:E' 127 = (.bool (true):Value):=hp 7 (by kernel_rfl)
   exact .inl ⟨(Shut.no rfl rfl Ag rfl),rfl⟩
  ·intro E' w' hw hE hp
   have Ag:E' 127 = (.bool (true):Value):=hp 7 (by kernel_rfl)
   have B1:E' 128 = (undef:Value):=hp 8 (by kernel_rfl)
   exact .inl ⟨(Shut.no rfl rfl Ag rfl),rfl⟩
  ·intro E' w' hw hE hp
   have Ag:E' 127 = (.bool (true):Value):=hp 7 (by kernel_rfl)
   exact .inl ⟨(Shut.no rfl rfl Ag rfl),rfl⟩
  ·intro E' w' hw hE hp
   have Ag:E' 127 = (.bool (true):Value):=hp 7 (by kernel_rfl)
   have Bi:E' 130 = (undef:Value):=hp 10 (by kernel_rfl)
   exact .inl ⟨(Shut.no rfl rfl Ag rfl),rfl⟩
  ·intro E' w' hw hE hp
   have Ag:E' 127 = (.bool (true):Value):=hp 7 (by kernel_rfl)
   have B2:E' 129 = (undef:Value):=hp 9 (by kernel_rfl)
   have Bj:E' 131 = (undef:Value):=hp 11 (by kernel_rfl)
   exact .inl ⟨(Shut.no rfl rfl Ag rfl),rfl⟩
  ·intro E' w' hw hE hp
   have Ag:E' 127 = (.bool (true):Value):=hp 7 (by kernel_rfl)
   have Bk:E' 132 = (undef:Value):=hp 12 (by kernel_rfl)
   exact .inr ⟨(Sure.none rfl),.inl ⟨.bool (true),V.pick (c:=.tmp 127) (y:=.tmp 132) rfl Ag rfl,rfl⟩⟩
  ·intro E' w' hw hE hp
   have Be:E' 133 = (.bool (true):Value):=hp 13 (by kernel_rfl)
   exact .inr ⟨(Sure.none rfl),.inl ⟨.bool (true),V.move (x:=.tmp 133) rfl Be,rfl⟩⟩
  ·intro E' w' hw hE hp
   have Ad:E' 134 = (.bool (true):Value):=hp 14 (by kernel_rfl)
   exact .inl ⟨(Shut.no rfl rfl Ad rfl),rfl⟩
  ·intro E' w' hw hE hp
   have Ad:E' 134 = (.bool (true):Value):=hp 14 (by kernel_rfl)
   have Bx:E' 135 = (undef:Value):=hp 15 (by kernel_rfl)
   exact .inl ⟨(Shut.no rfl rfl Ad rfl),rfl⟩
  ·intro E' w' hw hE hp
   have Ad:E' 134 = (.bool (true):Value):=hp 14 (by kernel_rfl)
   exact .inl ⟨(Shut.no rfl rfl Ad rfl),rfl⟩
  ·intro E' w' hw hE hp
   have Ad:E' 134 = (.bool (true):Value):=hp 14 (by kernel_rfl)
   have By:E' 136 = (undef:Value):=hp 16 (by kernel_rfl)
   have Bz:E' 137 = (undef:Value):=hp 17 (by kernel_rfl)
   exact .inl ⟨(Shut.no rfl rfl Ad rfl),rfl⟩
  ·intro E' w' hw hE hp
   have Ad:E' 134 = (.bool (true):Value):=hp 14 (by kernel_rfl)
   have B0:E' 138 = (undef:Value):=hp 18 (by kernel_rfl)
   exact .inr ⟨(Sure.none rfl),.inl ⟨.bool (true),V.pick (c:=.tmp 134) (y:=.tmp 138) rfl Ad rfl,rfl⟩⟩
  ·intro E' w' hw hE hp
   have Bf:E' 139 = (.bool (true):Value):=hp 19 (by kernel_rfl)
   exact .inr ⟨(Sure.none rfl),.inl ⟨.bool (true),V.move (x:=.tmp 139) rfl Bf,rfl⟩⟩
  ·intro E' w' hw hE hp
   have Ae:E' 140 = (.bool (true):Value):=hp 20 (by kernel_rfl)
   exact .inl ⟨(Shut.no rfl rfl Ae rfl),rfl⟩
  ·intro E' w' hw hE hp
   have Ae:E' 140 = (.bool (true):Value):=hp 20 (by kernel_rfl)
   have Ca:E' 141 = (undef:Value):=hp 21 (by kernel_rfl)
   exact .inl ⟨(Shut.no rfl rfl Ae rfl),rfl⟩
  ·intro E' w' hw hE hp
   have Ae:E' 140 = (.bool (true):Value):=hp 20 (by kernel_rfl)
   have Cb:E' 142 = (undef:Value):=hp 22 (by kernel_rfl)
   exact .inl ⟨(Shut.no rfl rfl Ae rfl),rfl⟩
  ·intro E' w' hw hE hp
   have Ae:E' 140 = (.bool (true):Value):=hp 20 (by kernel_rfl)
   have Cc:E' 143 = (undef:Value):=hp 23 (by kernel_rfl)
   exact .inl ⟨(Shut.no rfl rfl Ae rfl),rfl⟩
  ·intro E' w' hw hE hp
   have Ae:E' 140 = (.bool (true):Value):=hp 20 (by kernel_rfl)
   have Cd:E' 144 = (undef:Value):=hp 24 (by kernel_rfl)
   exact .inr ⟨(Sure.none rfl),.inl ⟨.bool (true),V.pick (c:=.tmp 140) (y:=.tmp 144) rfl Ae rfl,rfl⟩⟩
  ·intro Gh Gi Du Hf Dv
   have Dw:Ext [Aa] w Gi:=Au.trans (Ext.any (Y:=[Aa]) Du)
   have Dx:Gh 145 = (.bool (true):Value):=Dv 25 (of_decide_eq_true (by kernel_rfl))
   refine WP.cond_true Dx ?_
   refine WP.sr ?_
   refine WL.m rfl ?_
   refine WL.nil ?_
   refine WP.ret ?_
   refine resOf.c1 rfl (v:=.bool (false)) rfl ?_
   exact ⟨(bool_eq (by first | assumption | grind [refMayB,refM3,refM4,refM5])),((Dw).done (geCons Ac geNil))⟩
 have hc177r:=A5
 replace A5:=bnot_false A5
 refine W.bsplit (c:=decide (p.Commit < p.Base)) (fun A6=>?_) (fun A6=>?_)
 ·have hc191r:=A6
  replace A6:=of_decide_eq_true A6
  refine WP.anyMake [fun v _=>v = (.pointer (some ⟨Aa,1,none⟩):Value),fun v _=>v = (v1:Value),fun v _=>v = (.agg (peerA p v1 v3 v5 v7 v9 Ah):Value),fun v _=>v = (.int .u64 (lastI p):Value),fun v w=>Sl (intR .i64) (Aa :: X) w v (membersOf p (lastI p)),fun v _=>v = (.bool (eqB ieq p.Members (membersOf p (lastI p))):Value),fun v _=>v = (.bool (!(eqB ieq p.Members (membersOf p (lastI p)))):Value),fun v _=>v = (.bool (false):Value),fun v _=>v = (.pointer (some ⟨Aa,11,none⟩):Value),fun v _=>v = (.int .u64 (p.Commit):Value),fun v _=>v = (.pointer (some ⟨Aa,6,none⟩):Value),fun v _=>v = (.int .u64 (p.Base):Value),fun v _=>v = (.bool (decide (p.Commit < p.Base)):Value),fun v _=>v = (.bool (decide (p.Commit < p.Base)):Value),fun v _=>v = (.bool (true):Value),fun v _=>v = (undef:Value),fun v _=>v = (undef:Value),fun v _=>v = (undef:Value),fun v _=>v = (undef:Value),fun v _=>v = (.bool (true):Value),fun v _=>v = (.bool (true):Value),fun v _=>v = (undef:Value),fun v _=>v = (undef:Value),fun v _=>v = (undef:Value),fun v _=>v = (undef:Value),fun v _=>v = (.bool (true):Value)] mo (by kernel_rfl) (by kernel_rfl) (by kernel_rfl) ⟨Stab.eq _,Stab.eq _,Stab.eq _,Stab.eq _,Stab.sl,Stab.eq _,Stab.eq _,Stab.eq _,Stab.eq _,Stab.eq _,Stab.eq _,Stab.eq _,Stab.eq _,Stab.eq _,Stab.eq _,Stab.eq _,Stab.eq _,Stab.eq _,Stab.eq _,Stab.eq _,Stab.eq _,Stab.eq _,Stab.eq _,Stab.eq _,Stab.eq _,Stab.eq _,trivial⟩ ⟨?_,?_,?_,?_,?_,?_,?_,?_,?_,?_,?_,?_,?_,?_,?_,?_,?_,?_,?_,?_,?_,?_,?_,?_,?_,?_,trivial⟩ ?_
  ·intro E' w' hw hE hp
   exact .inr ⟨(Sure.none rfl),.inl ⟨.pointer (some ⟨Aa,1,none⟩),V.fieldAddr (x:=.tmp 1) rfl fl29_1 ((hE 1 (by kernel_rfl)).trans Ab),rfl⟩⟩
  ·intro E' w' hw hE hp
   have Bq:E' 120 = (.pointer (some ⟨Aa,1,none⟩):Value):=hp 0 (by kernel_rfl)
   exact .inr ⟨(Sure.none rfl),.inl ⟨v1,V.load (x:=.tmp 120) rfl p22 Bq ((Ai.ext hw (by simp)).cell rfl),rfl⟩⟩
  ·intro E' w' hw hE hp
   exact .inr ⟨(Sure.none rfl),.inl ⟨.agg (peerA p v1 v3 v5 v7 v9 Ah),V.loadAgg (x:=.tmp 1) (cs:=(peerC p v1 v3 v5 v7 v9 Ah)) rfl a29 ((hE 1 (by kernel_rfl)).trans Ab) ((At.box Ai).ext hw (by simp)) rfl,rfl⟩⟩
  ·intro E' w' hw hE hp
   exact .inr ⟨(Sure.none rfl),.inl ⟨.int .u64 (lastI p),V.move (x:=.tmp 3) rfl ((hE 3 (by kernel_rfl)).trans rfl),rfl⟩⟩
  ·intro E' w' hw hE hp
   have Br:E' 122 = (.agg (peerA p v1 v3 v5 v7 v9 Ah):Value):=hp 2 (by kernel_rfl)
   have Bs:E' 123 = (.int .u64 (lastI p):Value):=hp 3 (by kernel_rfl)
   exact .inr ⟨(Sure.none rfl),.inr ⟨_,_,C.call2 (x:=.tmp 122) (y:=.tmp 123) rfl cl58 Br Bs,Fnc.mono (ref_Members (p:=p) ⟨v1,v3,v5,v7,v9,Ah,rfl,((Aq.ext (Ext.pre Af)).ext (Ext.any hw)),((Aw.ext (Ext.pre Af)).ext (Ext.any hw)),((Ba.ext (Ext.pre Af)).ext (Ext.any hw)),((As.ext (Ext.pre Af)).ext (Ext.any hw)),((Ax.ext (Ext.pre Af)).ext (Ext.any hw)),((Ay.ext (Ext.pre Af)).ext (Ext.any hw)),A9⟩ (lastI p) (by omega) (by omega) (by assumption) (X:=(Aa :: X)) (inMono (inCons Ai.lt (inMono hX Au.size)) hw.size)) (fun v w'' ⟨_,e,hs,hx⟩=>⟨hx,by subst e; exact hs⟩)⟩⟩
  ·intro E' w' hw hE hp
   have Bt:E' 121 = (v1:Value):=hp 1 (by kernel_rfl)
   have Bu:Sl (intR .i64) (Aa :: X) w' (E' 124) (membersOf p (lastI p)):=hp 4 (by kernel_rfl)
   exact .inr ⟨(Sure.none rfl),.inr ⟨_,_,C.call2 (x:=.tmp 121) rfl cl38 Bt rfl,Fnc.mono (ref_sameInts ((Aq.ext (Ext.pre Af)).ext (Ext.any hw)) Bu) (fun v w'' h=>⟨h.2,h.1⟩)⟩⟩
  ·intro E' w' hw hE hp
   have Bv:E' 125 = (.bool (eqB ieq p.Members (membersOf p (lastI p))):Value):=hp 5 (by kernel_rfl)
   exact .inr ⟨(Sure.none rfl),.inl ⟨.bool (!(eqB ieq p.Members (membersOf p (lastI p)))),V.not (x:=.tmp 125) rfl Bv,rfl⟩⟩
  ·intro E' w' hw hE hp
   have Bw:E' 126 = (.bool (!(eqB ieq p.Members (membersOf p (lastI p)))):Value):=hp 6 (by kernel_rfl)
   exact .inr ⟨(Sure.none rfl),.inl ⟨.bool (!(eqB ieq p.Members (membersOf p (lastI p)))),V.move (x:=.tmp 126) rfl Bw,(congrArg Value.bool hc177r)⟩⟩
  ·intro E' w' hw hE hp
   have Ag:E' 127 = (.bool (false):Value):=hp 7 (by kernel_rfl)
   exact .inr ⟨(Sure.yes rfl rfl Ag),.inl ⟨.pointer (some ⟨Aa,11,none⟩),V.fieldAddr (x:=.tmp 1) rfl fl29_11 ((hE 1 (by kernel_rfl)).trans Ab),rfl⟩⟩
  ·intro E' w' hw hE hp
   have Ag:E' 127 = (.bool (false):Value):=hp 7 (by kernel_rfl)
   have B1:E' 128 = (.pointer (some ⟨Aa,11,none⟩):Value):=hp 8 (by kernel_rfl)
   exact .inr ⟨(Sure.yes rfl rfl Ag),.inl ⟨.int .u64 (p.Commit),V.load (x:=.tmp 128) rfl p23 B1 ((Ai.ext hw (by simp)).cell rfl),rfl⟩⟩
  ·intro E' w' hw hE hp
   have Ag:E' 127 = (.bool (false):Value):=hp 7 (by kernel_rfl)
   exact .inr ⟨(Sure.yes rfl rfl Ag),.inl ⟨.pointer (some ⟨Aa,6,none⟩),V.fieldAddr (x:=.tmp 1) rfl fl29_6 ((hE 1 (by kernel_rfl)).trans Ab),rfl⟩⟩
  ·intro E' w' hw hE hp
   have Ag:E' 127 = (.bool (false):Value):=hp 7 (by kernel_rfl)
   have Bi:E' 130 = (.pointer (some ⟨Aa,6,none⟩):Value):=hp 10 (by kernel_rfl)
   exact .inr ⟨(Sure.yes rfl rfl Ag),.inl ⟨.int .u64 (p.Base),V.load (x:=.tmp 130) rfl p23 Bi ((Ai.ext hw (by simp)).cell rfl),rfl⟩⟩
  ·intro E' w' hw hE hp
   have Ag:E' 127 = (.bool (false):Value):=hp 7 (by kernel_rfl)
   have B2:E' 129 = (.int .u64 (p.Commit):Value):=hp 9 (by kernel_rfl)
   have Bj:E' 131 = (.int .u64 (p.Base):Value):=hp 11 (by kernel_rfl)
   exact .inr ⟨(Sure.yes rfl rfl Ag),.inl ⟨.bool (decide (p.Commit < p.Base)),V.cmp (x:=.tmp 129) (y:=.tmp 131) rfl B2 Bj rfl,rfl⟩⟩
  ·intro E' w' hw hE hp
   have Ag:E' 127 = (.bool (false):Value):=hp 7 (by kernel_rfl)
   have Bk:E' 132 = (.bool (decide (p.Commit < p.Base)):Value):=hp 12 (by kernel_rfl)
   exact .inr ⟨(Sure.none rfl),.inl ⟨.bool (decide (p.Commit < p.Base)),V.pick (c:=.tmp 127) (y:=.tmp 132) rfl Ag Bk,rfl⟩⟩
  ·intro E' w' hw hE hp
   have Be:E' 133 = (.bool (decide (p.Commit < p.Base)):Value):=hp 13 (by kernel_rfl)
   exact .inr ⟨(Sure.none rfl),.inl ⟨.bool (decide (p.Commit < p.Base)),V.move (x:=.tmp 133) rfl Be,(congrArg Value.bool hc191r)⟩⟩
  ·intro E' w' hw hE hp
   have Ad:E' 134 = (.bool (true):Value):=hp 14 (by kernel_rfl)
   exact .inl ⟨(Shut.no rfl rfl Ad rfl),rfl⟩
  ·intro E' w' hw hE hp
   have Ad:E' 134 = (.bool (true):Value):=hp 14 (by kernel_rfl)
   have Bx:E' 135 = (undef:Value):=hp 15 (by kernel_rfl)
   exact .inl ⟨(Shut.no rfl rfl Ad rfl),rfl⟩
  ·intro E' w' hw hE hp
   have Ad:E' 134 = (.bool (true):Value):=hp 14 (by kernel_rfl)
   exact .inl ⟨(Shut.no rfl rfl Ad rfl),rfl⟩
  ·intro E' w' hw hE hp
   have Ad:E' 134 = (.bool (true):Value):=hp 14 (by kernel_rfl)
   have By:E' 136 = (undef:Value):=hp 16 (by kernel_rfl)
   have Bz:E' 137 = (undef:Value):=hp 17 (by kernel_rfl)
   exact .inl ⟨(Shut.no rfl rfl Ad rfl),rfl⟩
  ·intro E' w' hw hE hp
   have Ad:E' 134 = (.bool (true):Value):=hp 14 (by kernel_rfl)
   have B0:E' 138 = (undef:Value):=hp 18 (by kernel_rfl)
   exact .inr ⟨(Sure.none rfl),.inl ⟨.bool (true),V.pick (c:=.tmp 134) (y:=.tmp 138) rfl Ad rfl,rfl⟩⟩
  ·intro E' w' hw hE hp
   have Bf:E' 139 = (.bool (true):Value):=hp 19 (by kernel_rfl)
   exact .inr ⟨(Sure.none rfl),.inl ⟨.bool (true),V.move (x:=.tmp 139) rfl Bf,rfl⟩⟩
  ·intro E' w' hw hE hp
   have Ae:E' 140 = (.bool (true):Value):=hp 20 (by kernel_rfl)
   exact .inl ⟨(Shut.no rfl rfl Ae rfl),rfl⟩
  ·intro E' w' hw hE hp
   have Ae:E' 140 = (.bool (true):Value):=hp 20 (by kernel_rfl)
   have Ca:E' 141 = (undef:Value):=hp 21 (by kernel_rfl)
   exact .inl ⟨(Shut.no rfl rfl Ae rfl),rfl⟩
  ·intro E' w' hw hE hp
   have Ae:E' 140 = (.bool (true):Value):=hp 20 (by kernel_rfl)
   have Cb:E' 142 = (undef:Value):=hp 22 (by kernel_rfl)
   exact .inl ⟨(Shut.no rfl rfl Ae rfl),rfl⟩
  ·intro E' w' hw hE hp
   have Ae:E' 140 = (.bool (true):Value):=hp 20 (by kernel_rfl)
   have Cc:E' 143 = (undef:Value):=hp 23 (by kernel_rfl)
   exact .inl ⟨(Shut.no rfl rfl Ae rfl),rfl⟩
  ·intro E' w' hw hE hp
   have Ae:E' 140 = (.bool (true):Value):=hp 20 (by kernel_rfl)
   have Cd:E' 144 = (undef:Value):=hp 24 (by kernel_rfl)
   exact .inr ⟨(Sure.none rfl),.inl ⟨.bool (true),V.pick (c:=.tmp 140) (y:=.tmp 144) rfl Ae rfl,rfl⟩⟩
  ·intro Gj Gk Dy Hg Dz
   have D0:Ext [Aa] w Gk:=Au.trans (Ext.any (Y:=[Aa]) Dy)
   have D1:Gj 145 = (.bool (true):Value):=Dz 25 (of_decide_eq_true (by kernel_rfl))
   refine WP.cond_true D1 ?_
   refine WP.sr ?_
   refine WL.m rfl ?_
   refine WL.nil ?_
   refine WP.ret ?_
   refine resOf.c1 rfl (v:=.bool (false)) rfl ?_
   exact ⟨(bool_eq (by first | assumption | grind [refMayB,refM3,refM4,refM5])),((D0).done (geCons Ac geNil))⟩
 have hc191r:=A6
 replace A6:=of_decide_eq_false A6
 refine W.bsplit (c:=decide (p.Commit > (lastI p))) (fun A7=>?_) (fun A7=>?_)
 ·have hc205r:=A7
  replace A7:=of_decide_eq_true A7
  refine WP.anyMake [fun v _=>v = (.pointer (some ⟨Aa,1,none⟩):Value),fun v _=>v = (v1:Value),fun v _=>v = (.agg (peerA p v1 v3 v5 v7 v9 Ah):Value),fun v _=>v = (.int .u64 (lastI p):Value),fun v w=>Sl (intR .i64) (Aa :: X) w v (membersOf p (lastI p)),fun v _=>v = (.bool (eqB ieq p.Members (membersOf p (lastI p))):Value),fun v _=>v = (.bool (!(eqB ieq p.Members (membersOf p (lastI p)))):Value),fun v _=>v = (.bool (false):Value),fun v _=>v = (.pointer (some ⟨Aa,11,none⟩):Value),fun v _=>v = (.int .u64 (p.Commit):Value),fun v _=>v = (.pointer (some ⟨Aa,6,none⟩):Value),fun v _=>v = (.int .u64 (p.Base):Value),fun v _=>v = (.bool (decide (p.Commit < p.Base)):Value),fun v _=>v = (.bool (decide (p.Commit < p.Base)):Value),fun v _=>v = (.bool (false):Value),fun v _=>v = (.pointer (some ⟨Aa,11,none⟩):Value),fun v _=>v = (.int .u64 (p.Commit):Value),fun v _=>v = (.int .u64 (lastI p):Value),fun v _=>v = (.bool (decide (p.Commit > (lastI p))):Value),fun v _=>v = (.bool (decide (p.Commit > (lastI p))):Value),fun v _=>v = (.bool (true):Value),fun v _=>v = (undef:Value),fun v _=>v = (undef:Value),fun v _=>v = (undef:Value),fun v _=>v = (undef:Value),fun v _=>v = (.bool (true):Value)] mo (by kernel_rfl) (by kernel_rfl) (by kernel_rfl) ⟨Stab.eq _,Stab.eq _,Stab.eq _,Stab.eq _,Stab.sl,Stab.eq _,Stab.eq _,Stab.eq _,Stab.eq _,Stab.eq _,Stab.eq _,Stab.eq _,Stab.eq _,Stab.eq _,Stab.eq _,Stab.eq _,Stab.eq _,Stab.eq _,Stab.eq _,Stab.eq _,Stab.eq _,Stab.eq _,Stab.eq _,Stab.eq _,Stab.eq _,Stab.eq _,trivial⟩ ⟨?_,?_,?_,?_,?_,?_,?_,?_,?_,?_,?_,?_,?_,?_,?_,?_,?_,?_,?_,?_,?_,?_,?_,?_,?_,?_,trivial⟩ ?_
  ·intro E' w' hw hE hp
   exact .inr ⟨(Sure.none rfl),.inl ⟨.pointer (some ⟨Aa,1,none⟩),V.fieldAddr (x:=.tmp 1) rfl fl29_1 ((hE 1 (by kernel_rfl)).trans Ab),rfl⟩⟩
  ·intro E' w' hw hE hp
   have Bq:E' 120 = (.pointer (some ⟨Aa,1,none⟩):Value):=hp 0 (by kernel_rfl)
   exact .inr ⟨(Sure.none rfl),.inl ⟨v1,V.load (x:=.tmp 120) rfl p22 Bq ((Ai.ext hw (by simp)).cell rfl),rfl⟩⟩
  ·intro E' w' hw hE hp
   exact .inr ⟨(Sure.none rfl),.inl ⟨.agg (peerA p v1 v3 v5 v7 v9 Ah),V.loadAgg (x:=.tmp 1) (cs:=(peerC p v1 v3 v5 v7 v9 Ah)) rfl a29 ((hE 1 (by kernel_rfl)).trans Ab) ((At.box Ai).ext hw (by simp)) rfl,rfl⟩⟩
  ·intro E' w' hw hE hp
   exact .inr ⟨(Sure.none rfl),.inl ⟨.int .u64 (lastI p),V.move (x:=.tmp 3) rfl ((hE 3 (by kernel_rfl)).trans rfl),rfl⟩⟩
  ·intro E' w' hw hE hp
   have Br:E' 122 = (.agg (peerA p v1 v3 v5 v7 v9 Ah):Value):=hp 2 (by kernel_rfl)
   have Bs:E' 123 = (.int .u64 (lastI p):Value):=hp 3 (by kernel_rfl)
   exact .inr ⟨(Sure.none rfl),.inr ⟨_,_,C.call2 (x:=.tmp 122) (y:=.tmp 123) rfl cl58 Br Bs,Fnc.mono (ref_Members (p:=p) ⟨v1,v3,v5,v7,v9,Ah,rfl,((Aq.ext (Ext.pre Af)).ext (Ext.any hw)),((Aw.ext (Ext.pre Af)).ext (Ext.any hw)),((Ba.ext (Ext.pre Af)).ext (Ext.any hw)),((As.ext (Ext.pre Af)).ext (Ext.any hw)),((Ax.ext (Ext.pre Af)).ext (Ext.any hw)),((Ay.ext (Ext.pre Af)).ext (Ext.any hw)),A9⟩ (lastI p) (by omega) (by omega) (by assumption) (X:=(Aa :: X)) (inMono (inCons Ai.lt (inMono hX Au.size)) hw.size)) (fun v w'' ⟨_,e,hs,hx⟩=>⟨hx,by subst e; exact hs⟩)⟩⟩
  ·intro E' w' hw hE hp
   have Bt:E' 121 = (v1:Value):=hp 1 (by kernel_rfl)
   have Bu:Sl (intR .i64) (Aa :: X) w' (E' 124) (membersOf p (lastI p)):=hp 4 (by kernel_rfl)
   exact .inr ⟨(Sure.none rfl),.inr ⟨_,_,C.call2 (x:=.tmp 121) rfl cl38 Bt rfl,Fnc.mono (ref_sameInts ((Aq.ext (Ext.pre Af)).ext (Ext.any hw)) Bu) (fun v w'' h=>⟨h.2,h.1⟩)⟩⟩
  ·intro E' w' hw hE hp
   have Bv:E' 125 = (.bool (eqB ieq p.Members (membersOf p (lastI p))):Value):=hp 5 (by kernel_rfl)
   exact .inr ⟨(Sure.none rfl),.inl ⟨.bool (!(eqB ieq p.Members (membersOf p (lastI p)))),V.not (x:=.tmp 125) rfl Bv,rfl⟩⟩
  ·intro E' w' hw hE hp
   have Bw:E' 126 = (.bool (!(eqB ieq p.Members (membersOf p (lastI p)))):Value):=hp 6 (by kernel_rfl)
   exact .inr ⟨(Sure.none rfl),.inl ⟨.bool (!(eqB ieq p.Members (membersOf p (lastI p)))),V.move (x:=.tmp 126) rfl Bw,(congrArg Value.bool hc177r)⟩⟩
  ·intro E' w' hw hE hp
   have Ag:E' 127 = (.bool (false):Value):=hp 7 (by kernel_rfl)
   exact .inr ⟨(Sure.yes rfl rfl Ag),.inl ⟨.pointer (some ⟨Aa,11,none⟩),V.fieldAddr (x:=.tmp 1) rfl fl29_11 ((hE 1 (by kernel_rfl)).trans Ab),rfl⟩⟩
  ·intro E' w' hw hE hp
   have Ag:E' 127 = (.bool (false):Value):=hp 7 (by kernel_rfl)
   have B1:E' 128 = (.pointer (some ⟨Aa,11,none⟩):Value):=hp 8 (by kernel_rfl)
   exact .inr ⟨(Sure.yes rfl rfl Ag),.inl ⟨.int .u64 (p.Commit),V.load (x:=.tmp 128) rfl p23 B1 ((Ai.ext hw (by simp)).cell rfl),rfl⟩⟩
  ·intro E' w' hw hE hp
   have Ag:E' 127 = (.bool (false):Value):=hp 7 (by kernel_rfl)
   exact .inr ⟨(Sure.yes rfl rfl Ag),.inl ⟨.pointer (some ⟨Aa,6,none⟩),V.fieldAddr (x:=.tmp 1) rfl fl29_6 ((hE 1 (by kernel_rfl)).trans Ab),rfl⟩⟩
  ·intro E' w' hw hE hp
   have Ag:E' 127 = (.bool (false):Value):=hp 7 (by kernel_rfl)
   have Bi:E' 130 = (.pointer (some ⟨Aa,6,none⟩):Value):=hp 10 (by kernel_rfl)
   exact .inr ⟨(Sure.yes rfl rfl Ag),.inl ⟨.int .u64 (p.Base),V.load (x:=.tmp 130) rfl p23 Bi ((Ai.ext hw (by simp)).cell rfl),rfl⟩⟩
  ·intro E' w' hw hE hp
   have Ag:E' 127 = (.bool (false):Value):=hp 7 (by kernel_rfl)
   have B2:E' 129 = (.int .u64 (p.Commit):Value):=hp 9 (by kernel_rfl)
   have Bj:E' 131 = (.int .u64 (p.Base):Value):=hp 11 (by kernel_rfl)
   exact .inr ⟨(Sure.yes rfl rfl Ag),.inl ⟨.bool (decide (p.Commit < p.Base)),V.cmp (x:=.tmp 129) (y:=.tmp 131) rfl B2 Bj rfl,rfl⟩⟩
  ·intro E' w' hw hE hp
   have Ag:E' 127 = (.bool (false):Value):=hp 7 (by kernel_rfl)
   have Bk:E' 132 = (.bool (decide (p.Commit < p.Base)):Value):=hp 12 (by kernel_rfl)
   exact .inr ⟨(Sure.none rfl),.inl ⟨.bool (decide (p.Commit < p.Base)),V.pick (c:=.tmp 127) (y:=.tmp 132) rfl Ag Bk,rfl⟩⟩
  ·intro E' w' hw hE hp
   have Be:E' 133 = (.bool (decide (p.Commit < p.Base)):Value):=hp 13 (by kernel_rfl)
   exact .inr ⟨(Sure.none rfl),.inl ⟨.bool (decide (p.Commit < p.Base)),V.move (x:=.tmp 133) rfl Be,(congrArg Value.bool hc191r)⟩⟩
  ·intro E' w' hw hE hp
   have Ad:E' 134 = (.bool (false):Value):=hp 14 (by kernel_rfl)
   exact .inr ⟨(Sure.yes rfl rfl Ad),.inl ⟨.pointer (some ⟨Aa,11,none⟩),V.fieldAddr (x:=.tmp 1) rfl fl29_11 ((hE 1 (by kernel_rfl)).trans Ab),rfl⟩⟩
  ·intro E' w' hw hE hp
   have Ad:E' 134 = (.bool (false):Value):=hp 14 (by kernel_rfl)
   have Bx:E' 135 = (.pointer (some ⟨Aa,11,none⟩):Value):=hp 15 (by kernel_rfl)
   exact .inr ⟨(Sure.yes rfl rfl Ad),.inl ⟨.int .u64 (p.Commit),V.load (x:=.tmp 135) rfl p23 Bx ((Ai.ext hw (by simp)).cell rfl),rfl⟩⟩
  ·intro E' w' hw hE hp
   have Ad:E' 134 = (.bool (false):Value):=hp 14 (by kernel_rfl)
   exact .inr ⟨(Sure.yes rfl rfl Ad),.inl ⟨.int .u64 (lastI p),V.move (x:=.tmp 3) rfl ((hE 3 (by kernel_rfl)).trans rfl),rfl⟩⟩
  ·intro E' w' hw hE hp
   have Ad:E' 134 = (.bool (false):Value):=hp 14 (by kernel_rfl)
   have By:E' 136 = (.int .u64 (p.Commit):Value):=hp 16 (by kernel_rfl)
   have Bz:E' 137 = (.int .u64 (lastI p):Value):=hp 17 (by kernel_rfl)
   exact .inr ⟨(Sure.yes rfl rfl Ad),.inl ⟨.bool (decide (p.Commit > (lastI p))),V.cmp (x:=.tmp 136) (y:=.tmp 137) rfl By Bz rfl,rfl⟩⟩
  ·intro E' w' hw hE hp
   have Ad:E' 134 = (.bool (false):Value):=hp 14 (by kernel_rfl)
   have B0:E' 138 = (.bool (decide (p.Commit > (lastI p))):Value):=hp 18 (by kernel_rfl)
   exact .inr ⟨(Sure.none rfl),.inl ⟨.bool (decide (p.Commit > (lastI p))),V.pick (c:=.tmp 134) (y:=.tmp 138) rfl Ad B0,rfl⟩⟩
  ·intro E' w' hw hE hp
   have Bf:E' 139 = (.bool (decide (p.Commit > (lastI p))):Value):=hp 19 (by kernel_rfl)
   exact .inr ⟨(Sure.none rfl),.inl ⟨.bool (decide (p.Commit > (lastI p))),V.move (x:=.tmp 139) rfl Bf,(congrArg Value.bool hc205r)⟩⟩
  ·intro E' w' hw hE hp
   have Ae:E' 140 = (.bool (true):Value):=hp 20 (by kernel_rfl)
   exact .inl ⟨(Shut.no rfl rfl Ae rfl),rfl⟩
  ·intro E' w' hw hE hp
   have Ae:E' 140 = (.bool (true):Value):=hp 20 (by kernel_rfl)
   have Ca:E' 141 = (undef:Value):=hp 21 (by kernel_rfl)
   exact .inl ⟨(Shut.no rfl rfl Ae rfl),rfl⟩
  ·intro E' w' hw hE hp
   have Ae:E' 140 = (.bool (true):Value):=hp 20 (by kernel_rfl)
   have Cb:E' 142 = (undef:Value):=hp 22 (by kernel_rfl)
   exact .inl ⟨(Shut.no rfl rfl Ae rfl),rfl⟩
  ·intro E' w' hw hE hp
   have Ae:E' 140 = (.bool (true):Value):=hp 20 (by kernel_rfl)
   have Cc:E' 143 = (undef:Value):=hp 23 (by kernel_rfl)
   exact .inl ⟨(Shut.no rfl rfl Ae rfl),rfl⟩
  ·intro E' w' hw hE hp
   have Ae:E' 140 = (.bool (true):Value):=hp 20 (by kernel_rfl)
   have Cd:E' 144 = (undef:Value):=hp 24 (by kernel_rfl)
   exact .inr ⟨(Sure.none rfl),.inl ⟨.bool (true),V.pick (c:=.tmp 140) (y:=.tmp 144) rfl Ae rfl,rfl⟩⟩
  ·intro Gl Gm D3 Hh D4
   have D5:Ext [Aa] w Gm:=Au.trans (Ext.any (Y:=[Aa]) D3)
   have D6:Gl 145 = (.bool (true):Value):=D4 25 (of_decide_eq_true (by kernel_rfl))
   refine WP.cond_true D6 ?_
   refine WP.sr ?_
   refine WL.m rfl ?_
   refine WL.nil ?_
   refine WP.ret ?_
   refine resOf.c1 rfl (v:=.bool (false)) rfl ?_
   exact ⟨(bool_eq (by first | assumption | grind [refMayB,refM3,refM4,refM5])),((D5).done (geCons Ac geNil))⟩
 have hc205r:=A7
 replace A7:=of_decide_eq_false A7
 refine WP.anyMake [fun v _=>v = (.pointer (some ⟨Aa,1,none⟩):Value),fun v _=>v = (v1:Value),fun v _=>v = (.agg (peerA p v1 v3 v5 v7 v9 Ah):Value),fun v _=>v = (.int .u64 (lastI p):Value),fun v w=>Sl (intR .i64) (Aa :: X) w v (membersOf p (lastI p)),fun v _=>v = (.bool (eqB ieq p.Members (membersOf p (lastI p))):Value),fun v _=>v = (.bool (!(eqB ieq p.Members (membersOf p (lastI p)))):Value),fun v _=>v = (.bool (false):Value),fun v _=>v = (.pointer (some ⟨Aa,11,none⟩):Value),fun v _=>v = (.int .u64 (p.Commit):Value),fun v _=>v = (.pointer (some ⟨Aa,6,none⟩):Value),fun v _=>v = (.int .u64 (p.Base):Value),fun v _=>v = (.bool (decide (p.Commit < p.Base)):Value),fun v _=>v = (.bool (decide (p.Commit < p.Base)):Value),fun v _=>v = (.bool (false):Value),fun v _=>v = (.pointer (some ⟨Aa,11,none⟩):Value),fun v _=>v = (.int .u64 (p.Commit):Value),fun v _=>v = (.int .u64 (lastI p):Value),fun v _=>v = (.bool (decide (p.Commit > (lastI p))):Value),fun v _=>v = (.bool (decide (p.Commit > (lastI p))):Value),fun v _=>v = (.bool (false):Value),fun v _=>v = (.pointer (some ⟨Aa,14,none⟩):Value),fun v _=>v = (v7:Value),fun v _=>v = (.bool (idsB p.Votes):Value),fun v _=>v = (.bool (!(idsB p.Votes)):Value),fun v _=>v = (.bool (!(idsB p.Votes)):Value)] mo (by kernel_rfl) (by kernel_rfl) (by kernel_rfl) ⟨Stab.eq _,Stab.eq _,Stab.eq _,Stab.eq _,Stab.sl,Stab.eq _,Stab.eq _,Stab.eq _,Stab.eq _,Stab.eq _,Stab.eq _,Stab.eq _,Stab.eq _,Stab.eq _,Stab.eq _,Stab.eq _,Stab.eq _,Stab.eq _,Stab.eq _,Stab.eq _,Stab.eq _,Stab.eq _,Stab.eq _,Stab.eq _,Stab.eq _,Stab.eq _,trivial⟩ ⟨?_,?_,?_,?_,?_,?_,?_,?_,?_,?_,?_,?_,?_,?_,?_,?_,?_,?_,?_,?_,?_,?_,?_,?_,?_,?_,trivial⟩ ?_
 ·intro E' w' hw hE hp
  exact .inr ⟨(Sure.none rfl),.inl ⟨.pointer (some ⟨Aa,1,none⟩),V.fieldAddr (x:=.tmp 1) rfl fl29_1 ((hE 1 (by kernel_rfl)).trans Ab),rfl⟩⟩
 ·intro E' w' hw hE hp
  have Bq:E' 120 = (.pointer (some ⟨Aa,1,none⟩):Value):=hp 0 (by kernel_rfl)
  exact .inr ⟨(Sure.none rfl),.inl ⟨v1,V.load (x:=.tmp 120) rfl p22 Bq ((Ai.ext hw (by simp)).cell rfl),rfl⟩⟩
 ·intro E' w' hw hE hp
  exact .inr ⟨(Sure.none rfl),.inl ⟨.agg (peerA p v1 v3 v5 v7 v9 Ah),V.loadAgg (x:=.tmp 1) (cs:=(peerC p v1 v3 v5 v7 v9 Ah)) rfl a29 ((hE 1 (by kernel_rfl)).trans Ab) ((At.box Ai).ext hw (by simp)) rfl,rfl⟩⟩
 ·intro E' w' hw hE hp
  exact .inr ⟨(Sure.none rfl),.inl ⟨.int .u64 (lastI p),V.move (x:=.tmp 3) rfl ((hE 3 (by kernel_rfl)).trans rfl),rfl⟩⟩
 ·intro E' w' hw hE hp
  have Br:E' 122 = (.agg (peerA p v1 v3 v5 v7 v9 Ah):Value):=hp 2 (by kernel_rfl)
  have Bs:E' 123 = (.int .u64 (lastI p):Value):=hp 3 (by kernel_rfl)
  exact .inr ⟨(Sure.none rfl),.inr ⟨_,_,C.call2 (x:=.tmp 122) (y:=.tmp 123) rfl cl58 Br Bs,Fnc.mono (ref_Members (p:=p) ⟨v1,v3,v5,v7,v9,Ah,rfl,((Aq.ext (Ext.pre Af)).ext (Ext.any hw)),((Aw.ext (Ext.pre Af)).ext (Ext.any hw)),((Ba.ext (Ext.pre Af)).ext (Ext.any hw)),((As.ext (Ext.pre Af)).ext (Ext.any hw)),((Ax.ext (Ext.pre Af)).ext (Ext.any hw)),((Ay.ext (Ext.pre Af)).ext (Ext.any hw)),A9⟩ (lastI p) (by omega) (by omega) (by assumption) (X:=(Aa :: X)) (inMono (inCons Ai.lt (inMono hX Au.size)) hw.size)) (fun v w'' ⟨_,e,hs,hx⟩=>⟨hx,by subst e; exact hs⟩)⟩⟩
 ·intro E' w' hw hE hp
  have Bt:E' 121 = (v1:Value):=hp 1 (by kernel_rfl)
  have Bu:Sl (intR .i64) (Aa :: X) w' (E' 124) (membersOf p (lastI p)):=hp 4 (by kernel_rfl)
  exact .inr ⟨(Sure.none rfl),.inr ⟨_,_,C.call2 (x:=.tmp 121) rfl cl38 Bt rfl,Fnc.mono (ref_sameInts ((Aq.ext (Ext.pre Af)).ext (Ext.any hw)) Bu) (fun v w'' h=>⟨h.2,h.1⟩)⟩⟩
 ·intro E' w' hw hE hp
  have Bv:E' 125 = (.bool (eqB ieq p.Members (membersOf p (lastI p))):Value):=hp 5 (by kernel_rfl)
  exact .inr ⟨(Sure.none rfl),.inl ⟨.bool (!(eqB ieq p.Members (membersOf p (lastI p)))),V.not (x:=.tmp 125) rfl Bv,rfl⟩⟩
 ·intro E' w' hw hE hp
  have Bw:E' 126 = (.bool (!(eqB ieq p.Members (membersOf p (lastI p)))):Value):=hp 6 (by kernel_rfl)
  exact .inr ⟨(Sure.none rfl),.inl ⟨.bool (!(eqB ieq p.Members (membersOf p (lastI p)))),V.move (x:=.tmp 126) rfl Bw,(congrArg Value.bool hc177r)⟩⟩
 ·intro E' w' hw hE hp
  have Ag:E' 127 = (.bool (false):Value):=hp 7 (by kernel_rfl)
  exact .inr ⟨(Sure.yes rfl rfl Ag),.inl ⟨.pointer (some ⟨Aa,11,none⟩),V.fieldAddr (x:=.tmp 1) rfl fl29_11 ((hE 1 (by kernel_rfl)).trans Ab),rfl⟩⟩
 ·intro E' w' hw hE hp
  have Ag:E' 127 = (.bool (false):Value):=hp 7 (by kernel_rfl)
  have B1:E' 128 = (.pointer (some ⟨Aa,11,none⟩):Value):=hp 8 (by kernel_rfl)
  exact .inr ⟨(Sure.yes rfl rfl Ag),.inl ⟨.int .u64 (p.Commit),V.load (x:=.tmp 128) rfl p23 B1 ((Ai.ext hw (by simp)).cell rfl),rfl⟩⟩
 ·intro E' w' hw hE hp
  have Ag:E' 127 = (.bool (false):Value):=hp 7 (by kernel_rfl)
  exact .inr ⟨(Sure.yes rfl rfl Ag),.inl ⟨.pointer (some ⟨Aa,6,none⟩),V.fieldAddr (x:=.tmp 1) rfl fl29_6 ((hE 1 (by kernel_rfl)).trans Ab),rfl⟩⟩
 ·intro E' w' hw hE hp
  have Ag:E' 127 = (.bool (false):Value):=hp 7 (by kernel_rfl)
  have Bi:E' 130 = (.pointer (some ⟨Aa,6,none⟩):Value):=hp 10 (by kernel_rfl)
  exact .inr ⟨(Sure.yes rfl rfl Ag),.inl ⟨.int .u64 (p.Base),V.load (x:=.tmp 130) rfl p23 Bi ((Ai.ext hw (by simp)).cell rfl),rfl⟩⟩
 ·intro E' w' hw hE hp
  have Ag:E' 127 = (.bool (false):Value):=hp 7 (by kernel_rfl)
  have B2:E' 129 = (.int .u64 (p.Commit):Value):=hp 9 (by kernel_rfl)
  have Bj:E' 131 = (.int .u64 (p.Base):Value):=hp 11 (by kernel_rfl)
  exact .inr ⟨(Sure.yes rfl rfl Ag),.inl ⟨.bool (decide (p.Commit < p.Base)),V.cmp (x:=.tmp 129) (y:=.tmp 131) rfl B2 Bj rfl,rfl⟩⟩
 ·intro E' w' hw hE hp
  have Ag:E' 127 = (.bool (false):Value):=hp 7 (by kernel_rfl)
  have Bk:E' 132 = (.bool (decide (p.Commit < p.Base)):Value):=hp 12 (by kernel_rfl)
  exact .inr ⟨(Sure.none rfl),.inl ⟨.bool (decide (p.Commit < p.Base)),V.pick (c:=.tmp 127) (y:=.tmp 132) rfl Ag Bk,rfl⟩⟩
 ·intro E' w' hw hE hp
  have Be:E' 133 = (.bool (decide (p.Commit < p.Base)):Value):=hp 13 (by kernel_rfl)
  exact .inr ⟨(Sure.none rfl),.inl ⟨.bool (decide (p.Commit < p.Base)),V.move (x:=.tmp 133) rfl Be,(congrArg Value.bool hc191r)⟩⟩
 ·intro E' w' hw hE hp
  have Ad:E' 134 = (.bool (false):Value):=hp 14 (by kernel_rfl)
  exact .inr ⟨(Sure.yes rfl rfl Ad),.inl ⟨.pointer (some ⟨Aa,11,none⟩),V.fieldAddr (x:=.tmp 1) rfl fl29_11 ((hE 1 (by kernel_rfl)).trans Ab),rfl⟩⟩
 ·intro E' w' hw hE hp
  have Ad:E' 134 = (.bool (false):Value):=hp 14 (by kernel_rfl)
  have Bx:E' 135 = (.pointer (some ⟨Aa,11,none⟩):Value):=hp 15 (by kernel_rfl)
  exact .inr ⟨(Sure.yes rfl rfl Ad),.inl ⟨.int .u64 (p.Commit),V.load (x:=.tmp 135) rfl p23 Bx ((Ai.ext hw (by simp)).cell rfl),rfl⟩⟩
 ·intro E' w' hw hE hp
  have Ad:E' 134 = (.bool (false):Value):=hp 14 (by kernel_rfl)
  exact .inr ⟨(Sure.yes rfl rfl Ad),.inl ⟨.int .u64 (lastI p),V.move (x:=.tmp 3) rfl ((hE 3 (by kernel_rfl)).trans rfl),rfl⟩⟩
 ·intro E' w' hw hE hp
  have Ad:E' 134 = (.bool (false):Value):=hp 14 (by kernel_rfl)
  have By:E' 136 = (.int .u64 (p.Commit):Value):=hp 16 (by kernel_rfl)
  have Bz:E' 137 = (.int .u64 (lastI p):Value):=hp 17 (by kernel_rfl)
  exact .inr ⟨(Sure.yes rfl rfl Ad),.inl ⟨.bool (decide (p.Commit > (lastI p))),V.cmp (x:=.tmp 136) (y:=.tmp 137) rfl By Bz rfl,rfl⟩⟩
 ·intro E' w' hw hE hp
  have Ad:E' 134 = (.bool (false):Value):=hp 14 (by kernel_rfl)
  have B0:E' 138 = (.bool (decide (p.Commit > (lastI p))):Value):=hp 18 (by kernel_rfl)
  exact .inr ⟨(Sure.none rfl),.inl ⟨.bool (decide (p.Commit > (lastI p))),V.pick (c:=.tmp 134) (y:=.tmp 138) rfl Ad B0,rfl⟩⟩
 ·intro E' w' hw hE hp
  have Bf:E' 139 = (.bool (decide (p.Commit > (lastI p))):Value):=hp 19 (by kernel_rfl)
  exact .inr ⟨(Sure.none rfl),.inl ⟨.bool (decide (p.Commit > (lastI p))),V.move (x:=.tmp 139) rfl Bf,(congrArg Value.bool hc205r)⟩⟩
 ·intro E' w' hw hE hp
  have Ae:E' 140 = (.bool (false):Value):=hp 20 (by kernel_rfl)
  exact .inr ⟨(Sure.yes rfl rfl Ae),.inl ⟨.pointer (some ⟨Aa,14,none⟩),V.fieldAddr (x:=.tmp 1) rfl fl29_14 ((hE 1 (by kernel_rfl)).trans Ab),rfl⟩⟩
 ·intro E' w' hw hE hp
  have Ae:E' 140 = (.bool (false):Value):=hp 20 (by kernel_rfl)
  have Ca:E' 141 = (.pointer (some ⟨Aa,14,none⟩):Value):=hp 21 (by kernel_rfl)
  exact .inr ⟨(Sure.yes rfl rfl Ae),.inl ⟨v7,V.load (x:=.tmp 141) rfl p22 Ca ((Ai.ext hw (by simp)).cell rfl),rfl⟩⟩
 ·intro E' w' hw hE hp
  have Ae:E' 140 = (.bool (false):Value):=hp 20 (by kernel_rfl)
  have Cb:E' 142 = (v7:Value):=hp 22 (by kernel_rfl)
  exact .inr ⟨(Sure.yes rfl rfl Ae),.inr ⟨_,_,C.call1 (x:=.tmp 142) rfl cl56 Cb,Fnc.mono (ref_ids ((As.ext (Ext.pre Af)).ext (Ext.any hw))) (fun v w'' h=>⟨h.2,h.1⟩)⟩⟩
 ·intro E' w' hw hE hp
  have Ae:E' 140 = (.bool (false):Value):=hp 20 (by kernel_rfl)
  have Cc:E' 143 = (.bool (idsB p.Votes):Value):=hp 23 (by kernel_rfl)
  exact .inr ⟨(Sure.yes rfl rfl Ae),.inl ⟨.bool (!(idsB p.Votes)),V.not (x:=.tmp 143) rfl Cc,rfl⟩⟩
 ·intro E' w' hw hE hp
  have Ae:E' 140 = (.bool (false):Value):=hp 20 (by kernel_rfl)
  have Cd:E' 144 = (.bool (!(idsB p.Votes)):Value):=hp 24 (by kernel_rfl)
  exact .inr ⟨(Sure.none rfl),.inl ⟨.bool (!(idsB p.Votes)),V.pick (c:=.tmp 140) (y:=.tmp 144) rfl Ae Cd,rfl⟩⟩
 ·intro Gn Dd Ce Aj D7
  have Ap:Ext [Aa] w Dd:=Au.trans (Ext.any (Y:=[Aa]) Ce)
  have Ar:Ext [Aa] A8 Dd:=Af.trans (Ext.any (Y:=[Aa]) Ce)
  have Al:=Ai.ext Ce (by simp)
  have D8:Gn 145 = (.bool (!(idsB p.Votes)):Value):=D7 25 (of_decide_eq_true (by kernel_rfl))
  refine WP.condn (t:=idsB p.Votes) D8 (fun D9=>?_) (fun D9=>?_)
  ·refine WP.sr ?_
   refine WL.m rfl ?_
   refine WL.nil ?_
   refine WP.ret ?_
   refine resOf.c1 rfl (v:=.bool (false)) rfl ?_
   exact ⟨(bool_eq (by first | assumption | grind [refMayB,refM3,refM4,refM5])),((Ap).done (geCons Ac geNil))⟩
  refine WP.skip ?_
  refine WP.seq ?_
  refine WP.sr ?_
  refine WL.f (x:=.tmp 1) (.int .u8 (p.Role)) fl29_4 ((Aj 1 (by kernel_rfl)).trans Ab) p24 (Al.cell rfl) ?_
  refine WL.nil ?_
  refine WP.block ?_
  refine WP.sr ?_
  refine WL.z (.bool (decide (p.Role = 1))) (V.cmp rfl rfl rfl rfl) ?_
  refine WL.m rfl ?_
  refine WL.nil ?_
  refine WP.condp (t:=p.Role = 1) rfl (fun Fa=>?_) (fun Fa=>?_)
  ·refine WP.sr ?_
   refine WL.f (x:=.tmp 1) (v1) fl29_1 ((Aj 1 (by kernel_rfl)).trans Ab) p22 (Al.cell rfl) ?_
   refine WL.f (x:=.tmp 1) (.int .i64 (p.Id)) fl29_0 ((Aj 1 (by kernel_rfl)).trans Ab) p3 (Al.cell rfl) ?_
   refine WL.c (Sure.none rfl) rfl (C.call2 rfl cl59 rfl rfl) (Fnc.mono (ref_Has (Aq.ext (Ext.pre Ar)) p.Id) ?_)
   rintro _ De ⟨rfl,Cf⟩
   have Cg:Ext [Aa] w De:=Ap.trans (Ext.any (Y:=[Aa]) Cf)
   have Fb:Ext [Aa] A8 De:=Ar.trans (Ext.any (Y:=[Aa]) Cf)
   have Bh:=Al.ext Cf (by simp)
   refine WL.z (.bool (!(hasB p.Members p.Id))) (V.not rfl rfl) ?_
   refine WL.vbn (c:=hasB p.Members p.Id) (Sure.none rfl) rfl (V.move rfl rfl) (fun Fc=>?_) (fun Fc=>?_)
   ·refine WL.skips [(160,some true)] [(179,some true)] (kc (some true) rfl kn) (by kernel_rfl) (fun H3 hK246 Hi=>?_)
    refine WP.cond_true (hK246 179 (some true) rfl) ?_
    refine WP.sr ?_
    refine WL.m rfl ?_
    refine WL.nil ?_
    refine WP.ret ?_
    refine resOf.c1 rfl (v:=.bool (false)) rfl ?_
    exact ⟨(bool_eq (by first | assumption | grind [refMayB,refM3,refM4,refM5])),((Cg).done (geCons Ac geNil))⟩
   refine WL.fy (x:=.tmp 1) (.int .i64 (p.Vote)) rfl fl29_3 ((Aj 1 (by kernel_rfl)).trans Ab) p3 (Bh.cell rfl) ?_
   refine WL.fy (x:=.tmp 1) (.int .i64 (p.Id)) rfl fl29_0 ((Aj 1 (by kernel_rfl)).trans Ab) p3 (Bh.cell rfl) ?_
   refine WL.y (.bool (decide (p.Vote ≠ p.Id))) rfl (V.cmp rfl rfl rfl rfl) ?_
   refine WL.k (a:=false) rfl rfl ?_
   refine WL.vbp (c:=p.Vote ≠ p.Id) (Sure.none rfl) rfl (V.move rfl rfl) (fun Fd=>?_) (fun Fd=>?_)
   ·refine WL.skips [(167,some true)] [(179,some true)] (kc (some true) rfl kn) (by kernel_rfl) (fun H4 hK250 Hj=>?_)
    refine WP.cond_true (hK250 179 (some true) rfl) ?_
    refine WP.sr ?_
    refine WL.m rfl ?_
    refine WL.nil ?_
    refine WP.ret ?_
    refine resOf.c1 rfl (v:=.bool (false)) rfl ?_
    exact ⟨(bool_eq (by first | assumption | grind [refMayB,refM3,refM4,refM5])),((Cg).done (geCons Ac geNil))⟩
   refine WL.fy (x:=.tmp 1) (v7) rfl fl29_14 ((Aj 1 (by kernel_rfl)).trans Ab) p22 (Bh.cell rfl) ?_
   refine WL.fy (x:=.tmp 1) (.int .i64 (p.Id)) rfl fl29_0 ((Aj 1 (by kernel_rfl)).trans Ab) p3 (Bh.cell rfl) ?_
   refine WL.c (Sure.yes rfl rfl rfl) rfl (C.call2 rfl cl59 rfl rfl) (Fnc.mono (ref_Has (As.ext (Ext.pre Fb)) p.Id) ?_)
   rintro _ Gp ⟨rfl,Cw⟩
   have Bl:Ext [Aa] w Gp:=Cg.trans (Ext.any (Y:=[Aa]) Cw)
   have Ch:=Bh.ext Cw (by simp)
   refine WL.y (.bool (!(hasB p.Votes p.Id))) rfl (V.not rfl rfl) ?_
   refine WL.k (a:=false) rfl rfl ?_
   refine WL.vbn (c:=hasB p.Votes p.Id) (Sure.none rfl) rfl (V.move rfl rfl) (fun Fe=>?_) (fun Fe=>?_)
   ·refine WL.skips [(175,some true)] [(179,some true)] (kc (some true) rfl kn) (by kernel_rfl) (fun H5 hK265 Hk=>?_)
    refine WP.cond_true (hK265 179 (some true) rfl) ?_
    refine WP.sr ?_
    refine WL.m rfl ?_
    refine WL.nil ?_
    refine WP.ret ?_
    refine resOf.c1 rfl (v:=.bool (false)) rfl ?_
    exact ⟨(bool_eq (by first | assumption | grind [refMayB,refM3,refM4,refM5])),((Bl).done (geCons Ac geNil))⟩
   refine WL.fy (x:=.tmp 1) (.int .i64 (p.Lead)) rfl fl29_5 ((Aj 1 (by kernel_rfl)).trans Ab) p3 (Ch.cell rfl) ?_
   refine WL.y (.bool (decide (p.Lead ≠ 0))) rfl (V.cmp rfl rfl rfl rfl) ?_
   refine WL.k (a:=false) rfl rfl ?_
   refine WL.nil ?_
   refine WP.condp (t:=p.Lead ≠ 0) rfl (fun Ff=>?_) (fun Ff=>?_)
   ·refine WP.sr ?_
    refine WL.m rfl ?_
    refine WL.nil ?_
    refine WP.ret ?_
    refine resOf.c1 rfl (v:=.bool (false)) rfl ?_
    exact ⟨(bool_eq (by first | assumption | grind [refMayB,refM3,refM4,refM5])),((Bl).done (geCons Ac geNil))⟩
   refine WP.skip ?_
   refine WP.sr ?_
   refine WL.f (x:=.tmp 1) (v9) fl29_15 ((Aj 1 (by kernel_rfl)).trans Ab) p26 (Ch.cell rfl) ?_
   obtain ⟨a268,c269,Fg⟩:=Ax.shape
   refine WL.z (.int .i64 (((p.Follows).length:Int))) (V.lenSlice rfl rfl u26 (Eq.trans (b:=v9) rfl Fg)) ?_
   refine WL.z (.bool (decide (((p.Follows).length:Int) = 0))) (V.cmp rfl rfl rfl rfl) ?_
   refine WL.vbp (c:=((p.Follows).length:Int) = 0) (Sure.none rfl) rfl (V.move rfl rfl) (fun Fh=>?_) (fun Fh=>?_)
   rotate_left
   ·refine WL.skips [(217,some false)] [(2,some false)] (kc (some false) rfl kn) (by kernel_rfl) (fun H6 hK276 Hl=>?_)
    refine WP.ret ?_
    refine resOf.c1 rfl (v:=.bool (false)) (hK276 2 (some false) rfl) ?_
    exact ⟨(bool_eq (by first | assumption | grind [refMayB,refM3,refM4,refM5])),((Bl).done (geCons Ac geNil))⟩
   refine WL.fy (x:=.tmp 1) (Ah) rfl fl29_17 ((Aj 1 (by kernel_rfl)).trans Ab) p27 (Ch.cell rfl) ?_
   obtain ⟨a272,c273,Fi⟩:=Ay.shape
   refine WL.y (.int .i64 (((p.Reads).length:Int))) rfl (V.lenSlice rfl rfl u27 (Eq.trans (b:=Ah) rfl Fi)) ?_
   refine WL.y (.bool (decide (((p.Reads).length:Int) = 0))) rfl (V.cmp rfl rfl rfl rfl) ?_
   refine WL.k (a:=true) rfl rfl ?_
   refine WL.m rfl ?_
   refine WL.nil ?_
   refine WP.ret ?_
   refine resOf.c1 rfl (v:=.bool (decide (((p.Reads).length:Int) = 0))) rfl ?_
   exact ⟨(bool_eq (by first | assumption | grind [refMayB,refM3,refM4,refM5])),((Bl).done (geCons Ac geNil))⟩
  refine WP.sr ?_
  refine WL.z (.bool (decide (p.Role = 2))) (V.cmp rfl rfl rfl rfl) ?_
  refine WL.m rfl ?_
  refine WL.nil ?_
  refine WP.condp (t:=p.Role = 2) rfl (fun Fj=>?_) (fun Fj=>?_)
  rotate_left
  ·refine WP.sr ?_
   refine WL.f (x:=.tmp 1) (v7) fl29_14 ((Aj 1 (by kernel_rfl)).trans Ab) p22 (Al.cell rfl) ?_
   obtain ⟨a323,c324,Fk⟩:=As.shape
   refine WL.z (.int .i64 (((p.Votes).length:Int))) (V.lenSlice rfl rfl u22 (Eq.trans (b:=v7) rfl Fk)) ?_
   refine WL.z (.bool (decide (((p.Votes).length:Int) > 0))) (V.cmp rfl rfl rfl rfl) ?_
   refine WL.nil ?_
   refine WP.condp (t:=((p.Votes).length:Int) > 0) rfl (fun Fl=>?_) (fun Fl=>?_)
   ·refine WP.sr ?_
    refine WL.m rfl ?_
    refine WL.nil ?_
    refine WP.ret ?_
    refine resOf.c1 rfl (v:=.bool (false)) rfl ?_
    exact ⟨(bool_eq (by first | assumption | grind [refMayB,refM3,refM4,refM5])),((Ap).done (geCons Ac geNil))⟩
   refine WP.skip ?_
   refine WP.sr ?_
   refine WL.f (x:=.tmp 1) (v9) fl29_15 ((Aj 1 (by kernel_rfl)).trans Ab) p26 (Al.cell rfl) ?_
   obtain ⟨a327,c328,Fm⟩:=Ax.shape
   refine WL.z (.int .i64 (((p.Follows).length:Int))) (V.lenSlice rfl rfl u26 (Eq.trans (b:=v9) rfl Fm)) ?_
   refine WL.z (.bool (decide (((p.Follows).length:Int) = 0))) (V.cmp rfl rfl rfl rfl) ?_
   refine WL.vbp (c:=((p.Follows).length:Int) = 0) (Sure.none rfl) rfl (V.move rfl rfl) (fun Fo=>?_) (fun Fo=>?_)
   rotate_left
   ·refine WL.skips [(217,some false)] [(2,some false)] (kc (some false) rfl kn) (by kernel_rfl) (fun H7 hK335 Hm=>?_)
    refine WP.ret ?_
    refine resOf.c1 rfl (v:=.bool (false)) (hK335 2 (some false) rfl) ?_
    exact ⟨(bool_eq (by first | assumption | grind [refMayB,refM3,refM4,refM5])),((Ap).done (geCons Ac geNil))⟩
   refine WL.fy (x:=.tmp 1) (Ah) rfl fl29_17 ((Aj 1 (by kernel_rfl)).trans Ab) p27 (Al.cell rfl) ?_
   obtain ⟨a331,c332,Fp⟩:=Ay.shape
   refine WL.y (.int .i64 (((p.Reads).length:Int))) rfl (V.lenSlice rfl rfl u27 (Eq.trans (b:=Ah) rfl Fp)) ?_
   refine WL.y (.bool (decide (((p.Reads).length:Int) = 0))) rfl (V.cmp rfl rfl rfl rfl) ?_
   refine WL.k (a:=true) rfl rfl ?_
   refine WL.m rfl ?_
   refine WL.nil ?_
   refine WP.ret ?_
   refine resOf.c1 rfl (v:=.bool (decide (((p.Reads).length:Int) = 0))) rfl ?_
   exact ⟨(bool_eq (by first | assumption | grind [refMayB,refM3,refM4,refM5])),((Ap).done (geCons Ac geNil))⟩
  refine WP.sr ?_
  refine WL.f (x:=.tmp 1) (v7) fl29_14 ((Aj 1 (by kernel_rfl)).trans Ab) p22 (Al.cell rfl) ?_
  obtain ⟨a279,c280,Fq⟩:=As.shape
  refine WL.z (.int .i64 (((p.Votes).length:Int))) (V.lenSlice rfl rfl u22 (Eq.trans (b:=v7) rfl Fq)) ?_
  refine WL.z (.bool (decide (((p.Votes).length:Int) = 0))) (V.cmp rfl rfl rfl rfl) ?_
  refine WL.vbp (c:=((p.Votes).length:Int) = 0) (Sure.none rfl) rfl (V.move rfl rfl) (fun Fs=>?_) (fun Fs=>?_)
  rotate_left
  ·refine WL.skips [(186,some false)] [(2,some false)] (kc (some false) rfl kn) (by kernel_rfl) (fun H8 hK321 Hn=>?_)
   refine WP.ret ?_
   refine resOf.c1 rfl (v:=.bool (false)) (hK321 2 (some false) rfl) ?_
   exact ⟨(bool_eq (by first | assumption | grind [refMayB,refM3,refM4,refM5])),((Ap).done (geCons Ac geNil))⟩
  refine WL.fy (x:=.tmp 1) (.int .i64 (p.Lead)) rfl fl29_5 ((Aj 1 (by kernel_rfl)).trans Ab) p3 (Al.cell rfl) ?_
  refine WL.fy (x:=.tmp 1) (.int .i64 (p.Id)) rfl fl29_0 ((Aj 1 (by kernel_rfl)).trans Ab) p3 (Al.cell rfl) ?_
  refine WL.y (.bool (decide (p.Lead = p.Id))) rfl (V.cmp rfl rfl rfl rfl) ?_
  refine WL.k (a:=true) rfl rfl ?_
  refine WL.vbp (c:=p.Lead = p.Id) (Sure.none rfl) rfl (V.move rfl rfl) (fun Ft=>?_) (fun Ft=>?_)
  rotate_left
  ·refine WL.skips [(193,some false)] [(2,some false)] (kc (some false) rfl kn) (by kernel_rfl) (fun H9 hK318 Ho=>?_)
   refine WP.ret ?_
   refine resOf.c1 rfl (v:=.bool (false)) (hK318 2 (some false) rfl) ?_
   exact ⟨(bool_eq (by first | assumption | grind [refMayB,refM3,refM4,refM5])),((Ap).done (geCons Ac geNil))⟩
  refine WL.fy (x:=.tmp 1) (.int .u64 (p.Term)) rfl fl29_2 ((Aj 1 (by kernel_rfl)).trans Ab) p23 (Al.cell rfl) ?_
  refine WL.y (.bool (decide (p.Term > 0))) rfl (V.cmp rfl rfl rfl rfl) ?_
  refine WL.k (a:=true) rfl rfl ?_
  refine WL.vbp (c:=p.Term > 0) (Sure.none rfl) rfl (V.move rfl rfl) (fun Fu=>?_) (fun Fu=>?_)
  rotate_left
  ·refine WL.skips [(198,some false)] [(2,some false)] (kc (some false) rfl kn) (by kernel_rfl) (fun Ia hK315 Hp=>?_)
   refine WP.ret ?_
   refine resOf.c1 rfl (v:=.bool (false)) (hK315 2 (some false) rfl) ?_
   exact ⟨(bool_eq (by first | assumption | grind [refMayB,refM3,refM4,refM5])),((Ap).done (geCons Ac geNil))⟩
  refine WL.my rfl rfl ?_
  refine WL.fy (x:=.tmp 1) (.int .u64 (p.Term)) rfl fl29_2 ((Aj 1 (by kernel_rfl)).trans Ab) p23 (Al.cell rfl) ?_
  refine WL.y (.bool (decide ((lastT p) ≤ p.Term))) rfl (V.cmp (x:=.tmp 199) rfl ((Aj 4 (by kernel_rfl)).trans rfl) rfl rfl) ?_
  refine WL.k (a:=true) rfl rfl ?_
  refine WL.vbp (c:=(lastT p) ≤ p.Term) (Sure.none rfl) rfl (V.move rfl rfl) (fun Fv=>?_) (fun Fv=>?_)
  rotate_left
  ·refine WL.skips [(204,some false)] [(2,some false)] (kc (some false) rfl kn) (by kernel_rfl) (fun Ib hK312 Hq=>?_)
   refine WP.ret ?_
   refine resOf.c1 rfl (v:=.bool (false)) (hK312 2 (some false) rfl) ?_
   exact ⟨(bool_eq (by first | assumption | grind [refMayB,refM3,refM4,refM5])),((Ap).done (geCons Ac geNil))⟩
  refine WL.y (.agg (peerA p v1 v3 v5 v7 v9 Ah)) rfl (V.loadAgg (x:=.tmp 1) (cs:=(peerC p v1 v3 v5 v7 v9 Ah)) rfl a29 ((Aj 1 (by kernel_rfl)).trans Ab) (At.box Al) rfl) ?_
  refine WL.my rfl rfl ?_
  refine WL.c (Sure.yes rfl rfl rfl) rfl (C.call2 (y:=.tmp 206) rfl cl60 rfl ((Aj 3 (by kernel_rfl)).trans rfl)) (Fnc.mono (ref_follows (p:=p) ⟨v1,v3,v5,v7,v9,Ah,rfl,(Aq.ext (Ext.pre Ar)),(Aw.ext (Ext.pre Ar)),(Ba.ext (Ext.pre Ar)),(As.ext (Ext.pre Ar)),(Ax.ext (Ext.pre Ar)),(Ay.ext (Ext.pre Ar)),A9⟩ (lastI p) (by omega)) ?_)
  rintro _ Df ⟨rfl,Ci⟩
  have Cx:Ext [Aa] w Df:=Ap.trans (Ext.any (Y:=[Aa]) Ci)
  have Bb:Ext [Aa] A8 Df:=Ar.trans (Ext.any (Y:=[Aa]) Ci)
  have Fw:=Al.ext Ci (by simp)
  refine WL.k (a:=true) rfl rfl ?_
  refine WL.vb (c:=followsB p (lastI p)) (Sure.none rfl) rfl (V.move rfl rfl) (fun Fx=>?_) (fun Fx=>?_)
  rotate_left
  ·refine WL.skips [(209,some false)] [(2,some false)] (kc (some false) rfl kn) (by kernel_rfl) (fun Ic hK309 Hr=>?_)
   refine WP.ret ?_
   refine resOf.c1 rfl (v:=.bool (false)) (hK309 2 (some false) rfl) ?_
   exact ⟨(bool_eq (by first | assumption | grind [refMayB,refM3,refM4,refM5])),((Cx).done (geCons Ac geNil))⟩
  refine WL.y (.agg (peerA p v1 v3 v5 v7 v9 Ah)) rfl (V.loadAgg (x:=.tmp 1) (cs:=(peerC p v1 v3 v5 v7 v9 Ah)) rfl a29 ((Aj 1 (by kernel_rfl)).trans Ab) (At.box Fw) rfl) ?_
  refine WL.c (Sure.yes rfl rfl rfl) rfl (C.call1 rfl cl61 rfl) (Fnc.mono (ref_reads (p:=p) ⟨v1,v3,v5,v7,v9,Ah,rfl,(Aq.ext (Ext.pre Bb)),(Aw.ext (Ext.pre Bb)),(Ba.ext (Ext.pre Bb)),(As.ext (Ext.pre Bb)),(Ax.ext (Ext.pre Bb)),(Ay.ext (Ext.pre Bb)),A9⟩) ?_)
  rintro _ Gq ⟨rfl,Fy⟩
  have Fz:Ext [Aa] w Gq:=Cx.trans (Ext.any (Y:=[Aa]) Fy)
  refine WL.k (a:=true) rfl rfl ?_
  refine WL.m rfl ?_
  refine WL.nil ?_
  refine WP.ret ?_
  refine resOf.c1 rfl (v:=.bool (readsB p)) rfl ?_
  exact ⟨(bool_eq (by first | assumption | grind [refMayB,refM3,refM4,refM5])),((Fz).done (geCons Ac geNil))⟩
end Go.Proofs.Ytiaicihpocoeiaa.T
namespace Go.Proofs.Ytiaicihpocoeiaa.T
open W Go.RowKit
set_option maxRecDepth 100000
set_option maxHeartbeats 400000
theorem sl_IndexFunc {w:World} {X:List Nat} {v_xs:Value} {xs:List Int} (h_xs:Sl (intR .i64) X w v_xs xs) {c_f:Value} {f:Int → Bool} (hcl:∀ w',Ext [] w w' → ∀ m,Fnc Try.prog 90 #[.int .i64 m,c_f] w' (fun u w''=>u = .bool (f m) ∧ Ext [] w' w'')):Fnc Try.prog 91 #[v_xs,.func (.func 90) #[] #[c_f]] w (fun v w'=>v = .int .i64 (idxP f xs) ∧ Ext [] w w'):=by
 have hle_xs:=h_xs.le'
 refine Fnc.of_WP (n:=19) Try.func91 rfl Try.ntmps91 (by simp) ?_
 intro E hE
 have h0:E 0 = v_xs:=hE 0 (by simp)
 have h1:E 1 = .func (.func 90) #[] #[c_f]:=hE 1 (by simp)
 clear hE
 refine WP.sr ?_
 refine WL.m rfl ?_
 refine WL.nil ?_
 refine WP.seq ?_
 refine WP.sr ?_
 refine WL.m rfl ?_
 obtain ⟨a1,c2,Al⟩:=h_xs.shape
 refine WL.z (.int .i64 (((xs).length:Int))) (V.lenSlice (x:=.tmp 6) rfl rfl u22 (Eq.trans (b:=v_xs) h0 Al)) ?_
 refine WL.m rfl ?_
 refine WL.nil ?_
 refine WP.block ?_
 refine WP.loop (σ:=Nat) (fun k E4 w5=>E4 0 = v_xs ∧ E4 1 = .func (.func 90) #[] #[c_f] ∧ E4 7 = .int .i64 (((xs).length:Int)) ∧ E4 8 = .int .i64 ((k:Int)) ∧ Ext [] w w5 ∧ k ≤ xs.length ∧ ∀ j,j < k → (fun i=>!f (xs.getD i 0)) j = true) (fun k=>xs.length - k) (0) ?_ ?_
 ·exact ⟨h0,h1,rfl,(int_eq (by omega)),(Ext.refl _ _),(by omega),(all_zero _)⟩
 rintro k E4 w5 ⟨Ac,Ad,Ae,Aa,Am,Aq,Ar⟩
 have Ab:Ext [] w w5:=Am
 refine WP.sr ?_
 refine WL.z (.bool (decide ((k:Int) < ((xs).length:Int)))) (V.cmp (x:=.tmp 8) (y:=.tmp 7) rfl Aa Ae rfl) ?_
 refine WL.nil ?_
 refine WP.seq ?_
 refine WP.condp (t:=(k:Int) < ((xs).length:Int)) rfl (fun An=>?_) (fun An=>?_)
 rotate_left
 ·refine WP.exit ?_
  refine WP.sr ?_
  refine WL.m rfl ?_
  refine WL.nil ?_
  refine WP.ret ?_
  refine resOf.c1 rfl (v:=.int .i64 (-1)) rfl ?_
  exact ⟨(int_eq (by first | (exact (idxP_none (by assumption) (by omega)).symm) | (exact (idxP_at (by omega) (by assumption) (by assumption)).symm))),Ab⟩
 refine WP.skip ?_
 refine WP.seq ?_
 refine WP.block ?_
 refine WP.sr ?_
 refine WL.m rfl ?_
 refine WL.m rfl ?_
 refine WL.nil ?_
 refine WP.sr ?_
 refine WL.m rfl ?_
 refine WL.m rfl ?_
 refine WL.m rfl ?_
 have hlt17:k < (xs).length:=by first | omega | (simp at *; omega)
 obtain ⟨b9,Ao,c11,Au,Ah,hnb14,Ai,Ag⟩:=(h_xs.ext (Ext.pre Ab)).get (i:=k) (x:=(xs.getD k 0)) (getD_some hlt17 _)
 obtain ⟨rfl,As⟩:=Ai
 refine WL.z (.pointer (some ⟨b9,Ao + k * 1,none⟩)) (V.indexAddr (x:=.tmp 12) (i:=.tmp 13) (m:=k) (j:=(k:Int)) rfl u22 s3 (Eq.trans (b:=v_xs) Ac Ah) Aa rfl hlt17) ?_
 refine WL.z (.int .i64 ((xs.getD k 0))) (V.load rfl p3 rfl (Ag.cell (j:=0) rfl)) ?_
 refine WL.c (Sure.none rfl) rfl (C.callv1 (g:=.tmp 11) rfl Ad (by intro f' e; cases e) cl90 rfl rfl) (Fnc.mono (hcl _ (Ab) (xs.getD k 0)) ?_)
 rintro _ Ap ⟨rfl,Aj⟩
 have Af:Ext [] w Ap:=Ab.trans Aj
 refine WL.nil ?_
 refine WP.cond (t:=f (xs.getD k 0)) rfl (fun Ak=>?_) (fun Ak=>?_)
 ·refine WP.sr ?_
  refine WL.m rfl ?_
  refine WL.m rfl ?_
  refine WL.nil ?_
  refine WP.ret ?_
  refine resOf.c1 rfl (v:=.int .i64 ((k:Int))) Aa ?_
  exact ⟨(int_eq (by first | (exact (idxP_none (by assumption) (by omega)).symm) | (exact (idxP_at (by omega) (by assumption) (by assumption)).symm))),Af⟩
 refine WP.skip ?_
 refine WP.region ?_
 refine WL.z (.int .i64 ((k:Int) + 1)) (V.arith (x:=.tmp 8) rfl Aa rfl rfl (wrap_i64 (by omega) (by omega))) ?_
 refine WL.m rfl ?_
 refine WL.nil ?_
 exact ⟨k + 1,⟨Ac,Ad,Ae,(int_eq (by omega)),Af,(by omega),(all_step (by assumption) (by first | assumption | grind [idxP]))⟩,(by omega)⟩
theorem vote_others1 {w:World} {b:Nat} {id n:Int} {rest:List Value} (hb:Box w b 29 (.int .i64 id :: rest)):Fnc Try.prog 90 #[.int .i64 n,.pointer (some ⟨b,0,none⟩)] w (fun v w'=>v = .bool (decide (n = id)) ∧ Ext [] w w'):=by
 refine Fnc.of_WP (n:=8) Try.func90 rfl Try.ntmps90 (by simp) ?_
 intro E hE
 have h0:E 0 = .int .i64 n:=hE 0 (by simp)
 have h1:E 1 = .pointer (some ⟨b,0,none⟩):=hE 1 (by simp)
 clear hE
 refine WP.seq ?_
 refine WP.region ?_
 refine WL.v (u:=.bool false) (Sure.none rfl) rfl (V.assign rfl rfl) ?_
 refine WL.nil ?_
 refine WP.seq ?_
 refine WP.region ?_
 refine WL.v (u:=.int .i64 n) (Sure.none rfl) rfl (V.move (x:=.tmp 0) rfl h0) ?_
 refine WL.v (u:=.pointer (some ⟨b,0 + 0,none⟩)) (Sure.none rfl) rfl (V.fieldAddr (x:=.tmp 1) rfl fl29_0 h1) ?_
 refine WL.v (u:=.int .i64 id) (Sure.none rfl) rfl (V.load (x:=.tmp 5) rfl p3 rfl (hb.cell rfl)) ?_
 refine WL.v (u:=.bool (decide (n = id))) (Sure.none rfl) rfl (V.cmp (x:=.tmp 4) (y:=.tmp 6) rfl rfl rfl rfl) ?_
 refine WL.v (u:=.bool (decide (n = id))) (Sure.none rfl) rfl (V.assign (x:=.tmp 7) rfl rfl) ?_
 refine WL.nil ?_
 refine WP.ret ?_
 refine resOf.c1 rfl (v:=.bool (decide (n = id))) rfl ?_
 exact ⟨rfl,Ext.refl _ _⟩
theorem sl_DeleteFunc {w : World} {X : List Nat} {B : Nat} {v c : Value} {xs : List Int} {p : Int → Bool} (ho : Owns (intR .i64) 3 B X w v xs) (hno : ∀ g, v.ownBlock = some g → g ∉ X)
    (hcl : ∀ w', Ext (rowOf v) w w' → ∀ m, Fnc Try.prog 90 #[.int .i64 m, c] w' (fun u w'' => u = .bool (p m) ∧ Ext [] w' w'')) :
    Fnc Try.prog 89 #[v, .func (.func 90) #[] #[c]] w (fun u w' => Sl (intR .i64) X w' u (xs.filter (fun m => !p m)) ∧ Ext (rowOf v) w w') := by
  have hsl : Sl (intR .i64) X w v xs := Owns.sl' ho hno
  have hrow := ho.asRow
  have hle := hsl.le'
  refine Fnc.of_WP (n := 42) Try.func89 rfl Try.ntmps89 (by simp) ?_
  intro E hE
  have h0 : E 0 = v := hE 0 (by simp)
  have h1 : E 1 = .func (.func 90) #[] #[c] := hE 1 (by simp)
  clear hE
  refine WP.seq ?_
  refine WP.region ?_
  refine WL.v (u := .slice none 0 0) (Sure.none rfl) rfl (V.assign rfl rfl) ?_
  refine WL.nil ?_
  refine WP.seq ?_
  refine WP.region ?_
  refine WL.v (u := v) (Sure.none rfl) rfl (V.move (x := .tmp 0) rfl h0) ?_
  refine WL.v (u := .func (.func 90) #[] #[c]) (Sure.none rfl) rfl (V.move (x := .tmp 1) rfl h1) ?_
  refine WL.c (Sure.none rfl) rfl (C.call2 (x := .tmp 8) (y := .tmp 9) rfl cl91 rfl rfl) (Fnc.mono (sl_IndexFunc hsl (f := p) (fun w' hw m => hcl w' (Ext.any hw) m)) ?_)
  rintro _ w1 ⟨rfl, Ac⟩
  rcases idxP_cases p xs with ⟨hi, hf⟩ | ⟨k, hk, hi, hpk, hfk⟩ <;> rw [hi]
  · refine WL.v (u := .int .i64 (-1)) (Sure.none rfl) rfl (V.assign (x := .tmp 10) rfl rfl) ?_
    refine WL.nil ?_
    refine WP.seq ?_
    refine WP.seq ?_
    refine WP.region ?_
    refine WL.v (u := .int .i64 (-1)) (Sure.none rfl) rfl (V.move (x := .tmp 5) rfl rfl) ?_
    refine WL.v (u := .bool true) (Sure.none rfl) rfl (V.cmp (x := .tmp 11) rfl rfl rfl rfl) ?_
    refine WL.nil ?_
    refine WP.cond_true rfl ?_
    refine WP.seq ?_
    refine WP.region ?_
    refine WL.v (u := v) (Sure.none rfl) rfl (V.move (x := .tmp 0) rfl h0) ?_
    refine WL.v (u := v) (Sure.none rfl) rfl (V.assign (x := .tmp 13) rfl rfl) ?_
    refine WL.nil ?_
    refine WP.ret ?_
    refine resOf.c1 rfl (v := v) rfl ?_
    exact ⟨castSl hf.symm (hsl.ext (Ext.any Ac)), Ext.any Ac⟩
  · rcases hrow with ⟨rfl, rfl⟩ | ⟨g, cap, T, rfl, hb, hlen, hcap, hin, hB⟩
    · simp at hk
    have hgX : g ∉ X := hno g rfl
    have Ai := hb.ext Ac (by simp)
    refine WL.v (u := .int .i64 (k : Int)) (Sure.none rfl) rfl (V.assign (x := .tmp 10) rfl rfl) ?_
    refine WL.nil ?_
    refine WP.seq ?_
    refine WP.seq ?_
    refine WP.region ?_
    refine WL.v (u := .int .i64 (k : Int)) (Sure.none rfl) rfl (V.move (x := .tmp 5) rfl rfl) ?_
    refine WL.v (u := .bool (decide ((k : Int) = -1))) (Sure.none rfl) rfl (V.cmp (x := .tmp 11) rfl rfl rfl rfl) ?_
    refine WL.nil ?_
    refine WP.cond (t := decide ((k : Int) = -1)) rfl (fun hc => absurd (of_decide_eq_true hc) (by omega)) (fun _ => ?_)
    refine WP.skip ?_
    refine WP.seq ?_
    refine WP.seq ?_
    refine WP.region ?_
    refine WL.v (u := .int .i64 (k : Int)) (Sure.none rfl) rfl (V.move (x := .tmp 5) rfl rfl) ?_
    refine WL.v (u := .int .i64 ((k : Int) + 1)) (Sure.none rfl) rfl (V.arith (x := .tmp 14) rfl rfl rfl rfl (wrap_i64 (by omega) (by omega))) ?_
    refine WL.v (u := .int .i64 ((k : Int) + 1)) (Sure.none rfl) rfl (V.assign (x := .tmp 15) rfl rfl) ?_
    refine WL.nil ?_
    refine WP.block ?_
    refine WP.loop (σ := Nat × Nat × List Int) (fun s E w' => E 0 = .slice (some ⟨g, 0, none⟩) xs.length cap ∧ E 1 = .func (.func 90) #[] #[c] ∧ E 5 = .int .i64 (s.1 : Int) ∧ E 6 = .int .i64 (s.2.1 : Int) ∧ DelInv (fun m => !p m) xs s.2.2 s.1 s.2.1 ∧ Box w' g 3 (irow s.2.2 T) ∧ Ext [g] w w') (fun s => xs.length - s.2.1) (k, k + 1, xs) ?_ ?_
    · exact ⟨h0, h1, rfl, (int_eq (by show (k : Int) + 1 = ((k + 1 : Nat) : Int); omega)), ⟨rfl, hin, (by show k < k + 1; omega), hk, hfk.symm, rfl⟩, Ai, Ext.any Ac⟩
    · rintro ⟨i, j, L⟩ E w2 ⟨g0, g1, g5, g6, hI, Ab, Ad⟩
      replace g5 : E 5 = .int .i64 (i : Int) := g5
      replace g6 : E 6 = .int .i64 (j : Int) := g6
      replace hI : DelInv (fun m => !p m) xs L i j := hI
      replace Ab : Box w2 g 3 (irow L T) := Ab
      have hij := hI.lt
      have hjl := hI.le
      have hLl := hI.len
      refine WP.seq ?_
      refine WP.seq ?_
      refine WP.region ?_
      refine WL.v (u := .int .i64 (j : Int)) (Sure.none rfl) rfl (V.move (x := .tmp 6) rfl g6) ?_
      refine WL.v (u := .slice (some ⟨g, 0, none⟩) xs.length cap) (Sure.none rfl) rfl (V.move (x := .tmp 0) rfl g0) ?_
      refine WL.v (u := .int .i64 (xs.length : Int)) (Sure.none rfl) rfl (V.lenSlice (x := .tmp 17) rfl rfl u22 rfl) ?_
      refine WL.v (u := .bool (decide ((j : Int) < (xs.length : Int)))) (Sure.none rfl) rfl (V.cmp (x := .tmp 16) (y := .tmp 18) rfl rfl rfl rfl) ?_
      refine WL.nil ?_
      refine WP.cond (t := decide ((j : Int) < (xs.length : Int))) rfl (fun hc => ?_) (fun hc => ?_)
      · replace hc := of_decide_eq_true hc
        have hjx : j < xs.length := by omega
        obtain ⟨x, hx⟩ : ∃ x, L.getD j 0 = x := ⟨_, rfl⟩
        have hget : (irow L T)[0 + j * 1]? = some (.int .i64 x) := by rw [show 0 + j * 1 = j from by omega, irow_get (by omega), hx]
        refine WP.skip ?_
        refine WP.seq ?_
        refine WP.block ?_
        refine WP.seq ?_
        refine WP.region ?_
        refine WL.v (u := .slice (some ⟨g, 0, none⟩) xs.length cap) (Sure.none rfl) rfl (V.move (x := .tmp 0) rfl g0) ?_
        refine WL.v (u := .int .i64 (j : Int)) (Sure.none rfl) rfl (V.move (x := .tmp 6) rfl g6) ?_
        refine WL.v (u := .pointer (some ⟨g, 0 + j * 1, none⟩)) (Sure.none rfl) rfl (V.indexAddr (x := .tmp 22) (i := .tmp 23) (m := j) (j := (j : Int)) rfl u22 s3 rfl rfl rfl hjx) ?_
        refine WL.v (u := .int .i64 x) (Sure.none rfl) rfl (V.load (x := .tmp 24) rfl p3 rfl (Ab.cell hget)) ?_
        refine WL.v (u := .int .i64 x) (Sure.none rfl) rfl (V.assign (x := .tmp 25) rfl rfl) ?_
        refine WL.nil ?_
        refine WP.seq ?_
        refine WP.region ?_
        refine WL.v (u := .func (.func 90) #[] #[c]) (Sure.none rfl) rfl (V.move (x := .tmp 1) rfl g1) ?_
        refine WL.v (u := .int .i64 x) (Sure.none rfl) rfl (V.move (x := .tmp 7) rfl rfl) ?_
        refine WL.c (Sure.none rfl) rfl (C.callv1 (g := .tmp 26) (x := .tmp 27) rfl rfl (by intro f' e; cases e) cl90 rfl rfl) (Fnc.mono (hcl w2 Ad x) ?_)
        rintro _ w3 ⟨rfl, Ae⟩
        have Ah := Ab.ext Ae (by simp)
        refine WL.v (u := .bool (!p x)) (Sure.none rfl) rfl (V.not (x := .tmp 28) rfl rfl) ?_
        refine WL.nil ?_
        refine WP.cond (t := !p x) rfl (fun hq => ?_) (fun hq => ?_)
        · refine WP.seq ?_
          refine WP.region ?_
          refine WL.v (u := .slice (some ⟨g, 0, none⟩) xs.length cap) (Sure.none rfl) rfl (V.move (x := .tmp 0) rfl g0) ?_
          refine WL.v (u := .int .i64 (i : Int)) (Sure.none rfl) rfl (V.move (x := .tmp 5) rfl g5) ?_
          refine WL.v (u := .int .i64 x) (Sure.none rfl) rfl (V.move (x := .tmp 7) rfl rfl) ?_
          refine WL.v (u := .pointer (some ⟨g, 0 + i * 1, none⟩)) (Sure.none rfl) rfl (V.indexAddr (x := .tmp 30) (i := .tmp 31) (m := i) (j := (i : Int)) rfl u22 s3 rfl rfl rfl (by omega)) ?_
          refine WL.store (x := .tmp 33) (y := .tmp 32) (Sure.none rfl) rfl rfl s3 rfl rfl rfl Ah (by rw [irow_len]; omega) (fun w4 Af Aa => ?_)
          replace Aa : Box w4 g 3 ((irow L T).set (0 + i * 1) (.int .i64 x)) := Aa
          rw [show 0 + i * 1 = i from by omega, irow_set (by omega)] at Aa
          refine WL.nil ?_
          refine WP.region ?_
          refine WL.v (u := .int .i64 (i : Int)) (Sure.none rfl) rfl (V.move (x := .tmp 5) rfl g5) ?_
          refine WL.v (u := .int .i64 ((i : Int) + 1)) (Sure.none rfl) rfl (V.arith (x := .tmp 34) rfl rfl rfl rfl (wrap_i64 (by omega) (by omega))) ?_
          refine WL.v (u := .int .i64 ((i : Int) + 1)) (Sure.none rfl) rfl (V.assign (x := .tmp 35) rfl rfl) ?_
          refine WL.nil ?_
          refine WP.region ?_
          refine WL.v (u := .int .i64 (j : Int)) (Sure.none rfl) rfl (V.move (x := .tmp 6) rfl g6) ?_
          refine WL.v (u := .int .i64 ((j : Int) + 1)) (Sure.none rfl) rfl (V.arith (x := .tmp 20) rfl rfl rfl rfl (wrap_i64 (by omega) (by omega))) ?_
          refine WL.v (u := .int .i64 ((j : Int) + 1)) (Sure.none rfl) rfl (V.assign (x := .tmp 21) rfl rfl) ?_
          refine WL.nil ?_
          refine ⟨(i + 1, j + 1, L.set i x), ⟨g0, g1, int_eq (by show (i : Int) + 1 = ((i + 1 : Nat) : Int); omega), int_eq (by show (j : Int) + 1 = ((j + 1 : Nat) : Int); omega), by rw [← hx]; exact hI.keep hjx (by rw [hx]; exact hq), Aa, (Ad.trans (Ext.any Ae)).trans Af⟩, ?_⟩
          show xs.length - (j + 1) < xs.length - j
          omega
        · refine WP.skip ?_
          refine WP.region ?_
          refine WL.v (u := .int .i64 (j : Int)) (Sure.none rfl) rfl (V.move (x := .tmp 6) rfl g6) ?_
          refine WL.v (u := .int .i64 ((j : Int) + 1)) (Sure.none rfl) rfl (V.arith (x := .tmp 20) rfl rfl rfl rfl (wrap_i64 (by omega) (by omega))) ?_
          refine WL.v (u := .int .i64 ((j : Int) + 1)) (Sure.none rfl) rfl (V.assign (x := .tmp 21) rfl rfl) ?_
          refine WL.nil ?_
          refine ⟨(i, j + 1, L), ⟨g0, g1, g5, int_eq (by show (j : Int) + 1 = ((j + 1 : Nat) : Int); omega), hI.skip hjx (by rw [hx]; exact hq), Ah, Ad.trans (Ext.any Ae)⟩, ?_⟩
          show xs.length - (j + 1) < xs.length - j
          omega
      · replace hc := of_decide_eq_false hc
        have hj : j = xs.length := by omega
        have hcapi : 0 + (if cap = i then 0 else i * 1) = i := by rw [if_neg (by omega)]; omega
        refine WP.exit ?_
        refine WP.seq ?_
        refine WP.region ?_
        refine WL.v (u := .slice (some ⟨g, 0, none⟩) xs.length cap) (Sure.none rfl) rfl (V.move (x := .tmp 0) rfl g0) ?_
        refine WL.v (u := .int .i64 (i : Int)) (Sure.none rfl) rfl (V.move (x := .tmp 5) rfl g5) ?_
        refine WL.v (u := .slice (some ⟨g, 0 + (if cap = i then 0 else i * 1), none⟩) (xs.length - i) (cap - i)) (Sure.none rfl) rfl (V.sliceSlice (x := .tmp 36) (lo := some (.tmp 37)) (hi := none) (l := i) (h := xs.length) rfl u22 s3 rfl ⟨_, rfl⟩ rfl (by omega) (by omega)) ?_
        rw [hcapi]
        refine WL.clear (x := .tmp 38) (z := .int .i64 0) (Sure.none rfl) rfl rfl u22 e3 rfl rfl rfl Ab (by rw [irow_len]; omega) (fun w4 Af Aa => ?_)
        rw [irow_clear (by omega)] at Aa
        have Ag : (L.take i ++ List.replicate (xs.length - i) 0).length = xs.length := by simp; omega
        have hsl4 : Sl (intR .i64) X w4 (.slice (some ⟨g, 0, none⟩) xs.length cap) (L.take i ++ List.replicate (xs.length - i) 0) := by
          have := irow_sl Aa hgX (by
            intro x hx
            rcases List.mem_append.1 hx with hx | hx
            · exact hI.inn x (List.mem_of_mem_take hx)
            · rw [List.eq_of_mem_replicate hx]; exact inK_i64' (by omega)) (by rw [Ag]; omega) hcap
          rwa [Ag] at this
        refine WL.nil ?_
        refine WP.seq ?_
        refine WP.region ?_
        refine WL.v (u := .slice (some ⟨g, 0, none⟩) xs.length cap) (Sure.none rfl) rfl (V.move (x := .tmp 0) rfl g0) ?_
        refine WL.v (u := .int .i64 (i : Int)) (Sure.none rfl) rfl (V.move (x := .tmp 5) rfl g5) ?_
        refine WL.vex (Sure.none rfl) rfl (V.upto (x := .tmp 39) (y := .tmp 40) (k := .i64) (h := i) rfl u22 s3 rfl hsl4 rfl (by rw [Ag]; omega)) (fun u hu => ?_)
        refine WL.v (u := u) (Sure.none rfl) rfl (V.assign (x := .tmp 41) rfl rfl) ?_
        refine WL.nil ?_
        refine WP.ret ?_
        refine resOf.c1 rfl (v := u) rfl ?_
        refine ⟨castSl ?_ hu, Ad.trans Af⟩
        have hpre := hI.pre
        rw [hj, List.take_length] at hpre
        rw [List.take_append_of_le_length (by simp; omega), List.take_take, Nat.min_self, hpre]
theorem sl_clone_own {w:World} {X:List Nat} {v_xs:Value} {xs:List Int} (h_xs:Sl (intR .i64) X w v_xs xs) (hb:xs.length ≤ 17592186044416) (hX:∀ x ∈ X,x < w.heap.size):Fnc Try.prog 39 #[v_xs] w (fun v w'=>∃ u0,v = u0 ∧ Owns (intR .i64) 3 w.heap.size X w' u0 xs ∧ (∀ g,u0.ownBlock = some g → g ∉ X) ∧ Ext [] w w'):=by
 refine Fnc.of_WP (n:=8) Try.func39 rfl Try.ntmps39 (by simp) ?_
 intro E hE
 have h0:E 0 = v_xs:=hE 0 (by simp)
 clear hE
 refine WP.sr ?_
 refine WL.m rfl ?_
 refine WL.nil ?_
 refine WP.seq ?_
 refine WP.sr ?_
 refine WL.m rfl ?_
 obtain ⟨a1,c2,Aj⟩:=h_xs.shape
 refine WL.z (.bool (nilB v_xs)) (V.eqNil (x:=.tmp 3) rfl u22 h0 Aj rfl) ?_
 refine WL.nil ?_
 refine WP.cond (t:=nilB v_xs) rfl (fun Ad=>?_) (fun Ad=>?_)
 ·have Ae:=(h_xs).isNil Ad
  replace Ad:=Ae.2
  refine WP.sr ?_
  refine WL.m rfl ?_
  refine WL.nil ?_
  refine WP.ret ?_
  refine resOf.c1 rfl (v:=.slice none 0 0) rfl ?_
  exact ⟨_,rfl,Owns.castE (by first | rfl | (revert Ad; simp +contextual)) Owns.nil,nil_block rfl,Ext.refl _ _⟩
 refine WP.skip ?_
 refine WP.sr ?_
 refine WL.lit (R:=(intR .i64)) (X:=X) (vs:=[]) (xs:=[]) (Sure.none rfl) rfl rfl u22 e3 (by show 0 < (1:Nat); decide) (by show _ * (1:Nat) ≤ 1024; decide) rfl rfl rfl (by intro i v x hv hx; match i,hv,hx with | i + 0,hv,_=>simp at hv) (fun v5 w6 Ak Al hlit9=>?_)
 have Af:∀ g,(v5).ownBlock = some g → g ∉ X:=by intro g hg hm; have h1:=hlit9 g hg; have h2:=hX g hm; omega
 have Aa:Ext [] w w6:=Ak
 have Ab:=Al.low (B':=w.heap.size) (Nat.le_refl _)
 refine WL.m rfl ?_
 refine WL.appendOwn (y:=.tmp 6) (R:=(intR .i64)) (X:=X) (B:=w.heap.size) (xs:=[]) (ys:=xs) (Sure.none rfl) rfl rfl u22 e3 rfl (by show 0 < (1:Nat); decide) rfl h0 Ab (h_xs.ext (Ext.pre Aa)) (fun g hg=>(Sl.new nz1 h_xs (Nat.le_trans (Nat.le_refl _) (Ab.lt g hg).1)).ext (Ext.cons (Ext.pre Aa))) Aa.size (by simp only [List.length_cons,List.length_nil]; omega) (by simp only [List.length_cons,List.length_nil,maxLen]; omega) (fun Am An Ac Ah hf17=>?_)
 have Ag:=after_no hf17 Af (inMono hX Aa.size)
 have Ai:=Ext.ownB (Aa) Ah (fun k hk=>(Owns.lt Ab k hk).1) (Nat.le_refl _)
 have Ac:=Ac.castE (List.nil_append _)
 refine WL.m rfl ?_
 refine WL.nil ?_
 refine WP.ret ?_
 refine resOf.c1 rfl (v:=Am) rfl ?_
 exact ⟨_,rfl,Owns.castE (by first | rfl | simp) Ac,Ag,Ai⟩
theorem vote_others {w:World} {X:List Nat} {p:PeerD} {c_p:List Value} (h_p:peerR.rd X w c_p p) (hb:p.Members.length ≤ 17592186044416) (hX:∀ x ∈ X,x < w.heap.size):Fnc Try.prog 87 #[.agg c_p.toArray] w (fun v w'=>∃ (u0:Value),v = u0 ∧ Sl (intR .i64) X w' u0 (othersOf p) ∧ Ext [] w w'):=by
 obtain ⟨v1,v3,v5,v7,v9,Ai,rfl,Ar,Be,Bf,Bg,Bb,Bc,Ak⟩:=h_p
 obtain ⟨Av,Aw,Ax,Ay,Az,A4,A5,A6,A7,A8,A9,Ba⟩:=(show PeerD.InR p from Ak)
 refine Fnc.of_WP (n:=8) Try.func87 rfl Try.ntmps87 (by simp) ?_
 intro E hE
 have h0:E 0 = .agg (peerA p v1 v3 v5 v7 v9 Ai):=hE 0 (by simp)
 clear hE
 refine WP.sr ?_
 refine WL.box (x:=.tmp 0) (cs:=(peerC p v1 v3 v5 v7 v9 Ai)) (Sure.none rfl) rfl rfl h0 rfl (fun Aa As Af Bd Ac=>?_)
 have Al:=(Sl.new (b:=Aa) nz1 Ar (by omega)).ext (Ext.any Af)
 have Ad:Ext [Aa] _ _:=(Ext.refl _ _).trans (Ext.any Af)
 have Ab:w.heap.size ≤ Aa:=by have:=Nat.le_refl w.heap.size; omega
 refine WL.m rfl ?_
 refine WL.nil ?_
 refine WP.sr ?_
 refine WL.f (v1) fl29_1 rfl p22 (Ac.cell rfl) ?_
 refine WL.c (Sure.none rfl) rfl (C.call1 rfl cl39 rfl) (Fnc.mono (sl_clone_own Al (by omega) (X:=(Aa :: X)) (inCons Ac.lt (inMono hX Ad.size))) ?_)
 rintro Bh Au ⟨_,rfl,Ag,Ae,Ah⟩
 have hszB:w.heap.size ≤ As.heap.size:=Ad.size
 have Am:Ext [Aa] w Au:=Ad.trans (Ext.any (Y:=[Aa]) Ah)
 have An:=Ac.ext Ah (by simp)
 refine WL.z (.func (.func 90) #[] #[.pointer (some ⟨Aa,0,none⟩)]) (V.makeFunc rfl (by simp) (map1 rfl)) ?_
 refine WL.c (Sure.none rfl) rfl (C.call2 rfl cl89 rfl rfl) (Fnc.mono (sl_DeleteFunc (p:=fun m=>decide (m = p.Id)) Ag Ae (fun w' hw m=>vote_others1 (An.ext hw (rowOf_no Ae (by simp))))) ?_)
 rintro Aj Bi ⟨Ao,Ap⟩
 have Aq:=Ext.skip Am Ap (rowOf_ge Ag hszB)
 refine WL.m rfl ?_
 refine WL.nil ?_
 refine WP.ret ?_
 refine resOf.c1 rfl (v:=Aj) rfl ?_
 exact ⟨Aj,rfl,(castSl (by rfl) (Sl.base (O:=[Aa]) Ao)),((Aq).done (geCons Ab geNil))⟩
def vfollowsB (p:PeerD) (last:Int):Bool:=allB p.Follows.length (fun i=>fOk last (p.Follows.getD i default)) && eqB ieq (p.Follows.map FollowD.Id) (othersOf p)
theorem map_take_step {l:List FollowD} {k:Nat} (h:k < l.length):(l.take k).map FollowD.Id ++ [(l.getD k default).Id] = (l.take (k + 1)).map FollowD.Id:=by
 rw [← take_step h,List.map_append]; rfl
theorem map_take_le (l:List FollowD) (k:Nat):((l.take k).map FollowD.Id).length ≤ k:=by simp; omega
theorem vfollowsB_end {p:PeerD} {last:Int} {k:Nat} (hk:p.Follows.length ≤ k) (h:∀ j,j < k → (fun i=>fOk last (p.Follows.getD i default)) j = true):eqB ieq ((p.Follows.take k).map FollowD.Id) (othersOf p) = vfollowsB p last:=by
 rw [vfollowsB,allB_true h hk,Bool.true_and,List.take_of_length_le hk]
theorem vfollowsB_bad {p:PeerD} {last:Int} {k:Nat} (hk:k < p.Follows.length) (h:fOk last (p.Follows.getD k default) = false):false = vfollowsB p last:=by
 rw [vfollowsB,allB_false hk h,Bool.false_and]
theorem vfollows_eq (p:PeerD) (last:Int):vfollowsB p last = followsB p last:=by
 rw [Bool.eq_iff_iff]
 simp only [vfollowsB,followsB,eqB,Bool.and_eq_true,decide_eq_true_eq,allB_iff,fOkAt,List.length_map,ieq]
 have hid:∀ j,j < p.Follows.length → (p.Follows.map FollowD.Id).getD j default = (p.Follows.getD j default).Id:=by
  intro j hj
  simp [List.getD_eq_getElem?_getD,List.getElem?_eq_getElem hj]
 constructor
 ·rintro ⟨h1,h2,h3⟩
  exact ⟨h2.symm,fun j hj=>⟨h1 j hj,by rw [← hid j hj]; exact h3 j hj⟩⟩
 ·rintro ⟨h1,h2⟩
  exact ⟨fun j hj=>(h2 j hj).1,h1.symm,fun j hj=>by rw [hid j hj]; exact (h2 j hj).2⟩
theorem vote_follows {w:World} {X:List Nat} {p:PeerD} {c_p:List Value} (h_p:peerR.rd X w c_p p) (last:Int) (hX:∀ x ∈ X,x < w.heap.size) (hlast:0 ≤ last ∧ last < 18446744073709551615) (hF:Fits p):Fnc Try.prog 80 #[.agg c_p.toArray,.int .u64 (last)] w (fun v w'=>v = .bool (vfollowsB p last) ∧ Ext [] w w'):=by
 obtain ⟨v1,v3,v5,v7,v9,Aj,rfl,Cp,Cq,Cr,Cs,Bf,B1,Bg⟩:=h_p
 obtain ⟨Cx,Cy,Cz,C0,C1,C2,C3,C4,C5,C6,C7,C8⟩:=(show PeerD.InR p from Bg)
 have C9:=Bf.le'
 have hfm:=hF.mem
 have hff:=hF.follows
 refine Fnc.of_WP (n:=42) Try.func80 rfl Try.ntmps80 (by simp) ?_
 intro E hE
 have h0:E 0 = .agg (peerA p v1 v3 v5 v7 v9 Aj):=hE 0 (by simp)
 have h1:E 1 = .int .u64 (last):=hE 1 (by simp)
 clear hE
 refine WP.sr ?_
 refine WL.box (x:=.tmp 0) (cs:=(peerC p v1 v3 v5 v7 v9 Aj)) (Sure.none rfl) rfl rfl h0 rfl (fun Aa Ak Ah Db Bh=>?_)
 have B2:=(Sl.new (b:=Aa) nz1 Cp (by omega)).ext (Ext.any Ah)
 have B3:=(Sl.new (b:=Aa) nz1 Cq (by omega)).ext (Ext.any Ah)
 have B4:=(Sl.new (b:=Aa) nz4 Cr (by omega)).ext (Ext.any Ah)
 have B5:=(Sl.new (b:=Aa) nz1 Cs (by omega)).ext (Ext.any Ah)
 have Ay:=(Sl.new (b:=Aa) nz3 Bf (by omega)).ext (Ext.any Ah)
 have B6:=(Sl.new (b:=Aa) nz3 B1 (by omega)).ext (Ext.any Ah)
 have B7:Ext [Aa] _ _:=(Ext.refl _ _).trans (Ext.any Ah)
 have Ac:w.heap.size ≤ Aa:=by have:=Nat.le_refl w.heap.size; omega
 refine WL.m rfl ?_
 refine WL.nil ?_
 refine WP.sr ?_
 refine WL.m rfl ?_
 refine WL.nil ?_
 refine WP.seq ?_
 refine WP.sr ?_
 refine WL.f (v9) fl29_15 rfl p26 (Bh.cell rfl) ?_
 obtain ⟨a44,c45,B8⟩:=Ay.shape
 refine WL.z (.int .i64 (((p.Follows).length:Int))) (V.lenSlice rfl rfl u26 (Eq.trans (b:=v9) rfl B8)) ?_
 refine WL.m rfl ?_
 refine WL.nil ?_
 refine WP.block ?_
 refine WP.loop (σ:=Nat) (fun k Ag Ap=>Ag 0 = .agg (peerA p v1 v3 v5 v7 v9 Aj) ∧ Ag 1 = .int .u64 (last) ∧ Ag 2 = .pointer (some ⟨Aa,0,none⟩) ∧ Ag 9 = v9 ∧ Ag 10 = .int .i64 (((p.Follows).length:Int)) ∧ Ag 11 = .int .i64 ((k:Int)) ∧ Ext [Aa] Ak Ap ∧ Box Ap Aa 29 (peerC p v1 v3 v5 v7 v9 Aj) ∧ (Owns (intR .i64) 3 Ak.heap.size (Aa :: X) Ap (Ag 5) ((p.Follows.take k).map FollowD.Id) ∧ (∀ g,(Ag 5).ownBlock = some g → g ∉ (Aa :: X))) ∧ k ≤ p.Follows.length ∧ ∀ j,j < k → (fun i=>fOk last (p.Follows.getD i default)) j = true) (fun k=>p.Follows.length - k) (0) ?_ ?_
 ·exact ⟨h0,h1,rfl,rfl,rfl,(int_eq (by omega)),(Ext.refl _ _),Bh,⟨(Owns.castE (by rfl) Owns.nil),(nil_block rfl)⟩,(by omega),(all_zero _)⟩
 rintro k Ag Ap ⟨Bo,Az,A4,A5,Aw,Al,Bi,hbb32_50,⟨Am,Aq⟩,Ct,Cu⟩
 have Ar:Ext [Aa] w Ap:=B7.trans Bi
 have Ad:Ext [Aa] Ak Ap:=Bi
 have htk:=map_take_le p.Follows k
 refine WP.sr ?_
 refine WL.z (.bool (decide ((k:Int) < ((p.Follows).length:Int)))) (V.cmp (x:=.tmp 11) (y:=.tmp 10) rfl Al Aw rfl) ?_
 refine WL.nil ?_
 refine WP.seq ?_
 refine WP.condp (t:=(k:Int) < ((p.Follows).length:Int)) rfl (fun B9=>?_) (fun B9=>?_)
 rotate_left
 ·refine WP.exit ?_
  refine WP.sr ?_
  refine WL.m rfl ?_
  refine WL.z (.agg (peerA p v1 v3 v5 v7 v9 Aj)) (V.loadAgg (x:=.tmp 2) (cs:=(peerC p v1 v3 v5 v7 v9 Aj)) rfl a29 A4 (At.box hbb32_50) rfl) ?_
  refine WL.c (Sure.none rfl) rfl (C.call1 rfl cl87 rfl) (Fnc.mono (vote_others (p:=p) ⟨v1,v3,v5,v7,v9,Aj,rfl,(B2.ext (Ext.pre Ad)),(B3.ext (Ext.pre Ad)),(B4.ext (Ext.pre Ad)),(B5.ext (Ext.pre Ad)),(Ay.ext (Ext.pre Ad)),(B6.ext (Ext.pre Ad)),Bg⟩ (by omega) (X:=(Aa :: X)) (inCons hbb32_50.lt (inMono hX Ar.size))) ?_)
  rintro Dc Ca ⟨_,rfl,Bp,A6⟩
  have Bq:Ext [Aa] w Ca:=Ar.trans (Ext.any (Y:=[Aa]) A6)
  have Br:=Am.keep A6 (by intro g hg hm; simp at hm) (by simp)
  refine WL.c (Sure.none rfl) rfl (C.call2 rfl cl51 rfl rfl) (Fnc.mono (sl_equal_int (Owns.sl' Br Aq) Bp) ?_)
  rintro _ Cb ⟨rfl,Bs⟩
  have Bt:Ext [Aa] w Cb:=Bq.trans (Ext.any (Y:=[Aa]) Bs)
  refine WL.m rfl ?_
  refine WL.nil ?_
  refine WP.ret ?_
  refine resOf.c1 rfl (v:=.bool (eqB ieq ((p.Follows.take k).map FollowD.Id) (othersOf p))) rfl ?_
  exact ⟨(bool_eq (by first | (exact vfollowsB_end (by omega) (by assumption)) | (exact vfollowsB_bad (by omega) (by first | assumption | grind [fOk])))),((Bt).done (geCons Ac geNil))⟩
 refine WP.skip ?_
 refine WP.seq ?_
 refine WP.block ?_
 refine WP.sr ?_
 have hlt62:k < (p.Follows).length:=by first | omega | (simp at *; omega)
 obtain ⟨Cv,Cw,c56,Dd,Cc,hnb59,Cd,Bu⟩:=(Ay.ext (Ext.pre Ad)).get (i:=k) (x:=(p.Follows.getD k default)) (getD_some hlt62 _)
 obtain ⟨rfl,Ce⟩:=Cd
 obtain ⟨A7,Da,A8⟩:=(show FollowD.InR (p.Follows.getD k default) from Ce)
 have A7:=inK_i64 A7
 have A8:=inK_u64 A8
 refine WL.z (.pointer (some ⟨Cv,Cw + k * 3,none⟩)) (V.indexAddr (x:=.tmp 9) (i:=.tmp 11) (m:=k) (j:=(k:Int)) rfl u26 s73 (Eq.trans (b:=v9) A5 Cc) Al rfl hlt62) ?_
 refine WL.z (.agg #[.int .i64 ((p.Follows.getD k default).Id),.int .u64 ((p.Follows.getD k default).Next),.int .u64 ((p.Follows.getD k default).Match)]) (V.loadAgg (cs:=[.int .i64 ((p.Follows.getD k default).Id),.int .u64 ((p.Follows.getD k default).Next),.int .u64 ((p.Follows.getD k default).Match)]) rfl a73 rfl Bu rfl) ?_
 refine WL.alloc (cs:=[.int .i64 (0),.int .u64 (0),.int .u64 (0)]) (Sure.none rfl) rfl rfl z73 rfl (fun Ab Dj As De Cf=>?_)
 have Bn:Aa < Ab:=by have:=hbb32_50.lt; omega
 have Cg:=hbb32_50.ext As (by simp)
 have Ch:=(Owns.new (b:=Ab) Am (by omega)).keep As (by intro g hg hm; simp at hm) (by simp)
 have Au:∀ g,(Ag 5).ownBlock = some g → g ∉ (Ab :: (Aa :: X)):=fun g hg hm=>(List.mem_cons.1 hm).elim (fun h=>by have:=(Am.lt g hg).2; omega) (fun h=>Aq g hg h)
 have Ci:Ext [Ab,Aa] _ _:=(Ext.cons Ar).trans (Ext.any As)
 have Cj:Ext [Ab,Aa] _ _:=(Ext.cons Ad).trans (Ext.any As)
 have Af:w.heap.size ≤ Ab:=by have:=Ar.size; omega
 have Ao:Ak.heap.size ≤ Ab:=by have:=Ad.size; omega
 refine WL.storeAgg (vs:=[.int .i64 ((p.Follows.getD k default).Id),.int .u64 ((p.Follows.getD k default).Next),.int .u64 ((p.Follows.getD k default).Match)]) (Sure.none rfl) rfl rfl s73 rfl rfl rfl (by intro u hu; simp only [List.mem_cons,List.not_mem_nil,or_false] at hu; rcases hu with rfl | rfl | rfl <;> first | rfl | exact Sl.one (by assumption)) Cf (by show (0:Nat) + 3 ≤ 3; decide) (fun A9 Av Ae=>?_)
 replace Ae:Box A9 Ab 73 [.int .i64 ((p.Follows.getD k default).Id),.int .u64 ((p.Follows.getD k default).Next),.int .u64 ((p.Follows.getD k default).Match)]:=Ae
 have Bj:=Cg.ext Av (by simp; omega)
 have An:Ext [Ab,Aa] w A9:=Ci.trans (Av.mono (by simp))
 have Ck:Ext [Ab,Aa] Ak A9:=Cj.trans (Av.mono (by simp))
 have Bk:=Owns.keep (Y:=[Ab,Aa]) Ch (Av.mono (by simp)) (fun g hg hm=>Au g hg (mem_pre (O:=[Ab,Aa]) (X:=X) hm)) (fun b hb=>mem_pre (O:=[Ab,Aa]) (X:=X) hb)
 refine WL.nil ?_
 refine WP.seq ?_
 refine WP.sr ?_
 refine WL.f (.int .u64 ((p.Follows.getD k default).Next)) fl73_1 rfl p23 (Ae.cell rfl) ?_
 refine WL.z (.bool (decide (((p.Follows.getD k default).Next) < 1))) (V.cmp rfl rfl rfl rfl) ?_
 refine WL.vbp (c:=((p.Follows.getD k default).Next) < 1) (Sure.none rfl) rfl (V.move rfl rfl) (fun Cl=>?_) (fun Cl=>?_)
 ·refine WL.skips [(18,some true)] [(31,some true)] (kc (some true) rfl kn) (by kernel_rfl) (fun Dk hK93 Df=>?_)
  refine WP.cond_true (hK93 31 (some true) rfl) ?_
  refine WP.sr ?_
  refine WL.m rfl ?_
  refine WL.nil ?_
  refine WP.ret ?_
  refine resOf.c1 rfl (v:=.bool (false)) rfl ?_
  exact ⟨(bool_eq (by first | (exact vfollowsB_end (by omega) (by assumption)) | (exact vfollowsB_bad (by omega) (by first | assumption | grind [fOk])))),((An).done (geCons Af (geCons Ac geNil)))⟩
 refine WL.fy (.int .u64 ((p.Follows.getD k default).Next)) rfl fl73_1 rfl p23 (Ae.cell rfl) ?_
 refine WL.my rfl rfl ?_
 refine WL.y (.int .u64 (last + 1)) rfl (V.arith (x:=.tmp 21) rfl Az rfl rfl (wrap_u64 (by omega) (by omega))) ?_
 refine WL.y (.bool (decide (((p.Follows.getD k default).Next) > (last + 1)))) rfl (V.cmp rfl rfl rfl rfl) ?_
 refine WL.k (a:=false) rfl rfl ?_
 refine WL.vbp (c:=((p.Follows.getD k default).Next) > (last + 1)) (Sure.none rfl) rfl (V.move rfl rfl) (fun Cm=>?_) (fun Cm=>?_)
 ·refine WL.skips [(25,some true)] [(31,some true)] (kc (some true) rfl kn) (by kernel_rfl) (fun Dl hK97 Dg=>?_)
  refine WP.cond_true (hK97 31 (some true) rfl) ?_
  refine WP.sr ?_
  refine WL.m rfl ?_
  refine WL.nil ?_
  refine WP.ret ?_
  refine resOf.c1 rfl (v:=.bool (false)) rfl ?_
  exact ⟨(bool_eq (by first | (exact vfollowsB_end (by omega) (by assumption)) | (exact vfollowsB_bad (by omega) (by first | assumption | grind [fOk])))),((An).done (geCons Af (geCons Ac geNil)))⟩
 refine WL.fy (.int .u64 ((p.Follows.getD k default).Match)) rfl fl73_2 rfl p23 (Ae.cell rfl) ?_
 refine WL.fy (.int .u64 ((p.Follows.getD k default).Next)) rfl fl73_1 rfl p23 (Ae.cell rfl) ?_
 refine WL.y (.bool (decide (((p.Follows.getD k default).Match) ≥ ((p.Follows.getD k default).Next)))) rfl (V.cmp rfl rfl rfl rfl) ?_
 refine WL.k (a:=false) rfl rfl ?_
 refine WL.nil ?_
 refine WP.condp (t:=((p.Follows.getD k default).Match) ≥ ((p.Follows.getD k default).Next)) rfl (fun Cn=>?_) (fun Cn=>?_)
 ·refine WP.sr ?_
  refine WL.m rfl ?_
  refine WL.nil ?_
  refine WP.ret ?_
  refine resOf.c1 rfl (v:=.bool (false)) rfl ?_
  exact ⟨(bool_eq (by first | (exact vfollowsB_end (by omega) (by assumption)) | (exact vfollowsB_bad (by omega) (by first | assumption | grind [fOk])))),((An).done (geCons Af (geCons Ac geNil)))⟩
 refine WP.skip ?_
 refine WP.region ?_
 refine WL.m rfl ?_
 refine WL.f (.int .i64 ((p.Follows.getD k default).Id)) fl73_0 rfl p3 (Ae.cell rfl) ?_
 refine WL.lit (R:=(intR .i64)) (X:=(Ab :: (Aa :: X))) (vs:=[.int .i64 ((p.Follows.getD k default).Id)]) (xs:=[((p.Follows.getD k default).Id)]) (Sure.none rfl) rfl rfl u22 e3 (by show 0 < (1:Nat); decide) (by show _ * (1:Nat) ≤ 1024; decide) rfl rfl rfl (by intro i v x hv hx; match i,hv,hx with | 0,rfl,rfl=>exact ⟨rfl,inK_i64' (by omega)⟩ | i + 1,hv,_=>simp at hv) (fun Co Bl Ai Bv hlit104=>?_)
 have Ax:∀ g,(Co).ownBlock = some g → g ∉ (Ab :: (Aa :: X)):=by intro g hg hm; have h1:=hlit104 g hg; have h2:=(inCons Ae.lt (inCons Bj.lt (inMono hX An.size))) g hm; omega
 have Bw:Ext [Ab,Aa] w Bl:=An.trans (Ext.any (Y:=[Ab,Aa]) Ai)
 have Ba:Ext [Ab,Aa] Ak Bl:=Ck.trans (Ext.any (Y:=[Ab,Aa]) Ai)
 have Bb:=Bj.ext Ai (by simp)
 have Bx:=Ae.ext Ai (by simp)
 have Bc:=Bk.keep Ai (by intro g hg hm; simp at hm) (by simp)
 have Bd:=Bv.low (B':=A9.heap.size) (Nat.le_refl _)
 refine WL.appendOwn (R:=(intR .i64)) (X:=(Ab :: (Aa :: X))) (B:=Ak.heap.size) (xs:=(p.Follows.take k).map FollowD.Id) (ys:=[((p.Follows.getD k default).Id)]) (Sure.none rfl) rfl rfl u22 e3 rfl (by show 0 < (1:Nat); decide) rfl rfl Bc (Owns.sl' Bd Ax) (fun g hg=>Owns.sl' (Owns.flat (flat_int _) Bd) (fun gs hgs hm=>(List.mem_cons.1 hm).elim (fun h=>by have h1:=hlit104 gs hgs; have h2:=(Bk.lt g hg).2; omega) (fun h=>Ax gs hgs h))) Ba.size (by simp only [List.length_cons,List.length_nil]; omega) (by simp only [List.length_cons,List.length_nil,maxLen]; omega) (fun Dh Di By Be hf121=>?_)
 have Bm:=after_no hf121 Au (inCons Bx.lt (inCons Bb.lt (inMono hX Bw.size)))
 have Bz:=Ext.ownB (Ba) Be (fun k hk=>(Owns.lt Bc k hk).1) (Nat.le_refl _)
 have B0:=Bb.grown Be (fun g hg e=>Au g hg (by simp [e]))
 refine WL.m rfl ?_
 refine WL.nil ?_
 refine WP.region ?_
 refine WL.z (.int .i64 ((k:Int) + 1)) (V.arith (x:=.tmp 11) rfl Al rfl rfl (wrap_i64 (by omega) (by omega))) ?_
 refine WL.m rfl ?_
 refine WL.nil ?_
 exact ⟨k + 1,⟨Bo,Az,A4,A5,Aw,(int_eq (by omega)),(Ext.drop Bz Ao),B0,⟨(Owns.castE (by exact map_take_step (by omega)) (Owns.base (O:=[Ab]) By)),(base_no (O:=[Ab]) Bm)⟩,(by omega),(all_step (by assumption) (by first | assumption | grind [fOk]))⟩,(by omega)⟩
end Go.Proofs.Ytiaicihpocoeiaa.T
namespace Go.Proofs.Ytiaicihpocoeiaa.T
open W Go.RowKit
set_option maxRecDepth 100000
set_option maxHeartbeats 400000
theorem sl_Backward {w:World} {X:List Nat} {v:Value} {xs:List EntryD} (h:Sl entryR X w v xs):Fnc Try.prog 68 #[v] w (fun u w'=>∃ b,u = .func (.func 83) #[] #[.pointer (some ⟨b,0,none⟩)] ∧ Box w' b 25 [v] ∧ w.heap.size ≤ b ∧ Ext [] w w'):=by
 obtain ⟨a,c,hv⟩:=h.shape
 refine Fnc.of_WP (n:=4) Try.func68 rfl Try.ntmps68 (by simp) ?_
 intro E hE
 have h0:E 0 = v:=hE 0 (by simp)
 clear hE
 refine WP.seq ?_
 refine WP.region ?_
 refine WL.box (x:=.tmp 0) (cs:=[v]) (Sure.none rfl) rfl rfl h0 (by rw [hv]; rfl) (fun b w2 hx he hb=>?_)
 refine WL.v (u:=.nilFunc) (Sure.none rfl) rfl (V.assign rfl rfl) ?_
 refine WL.nil ?_
 refine WP.seq ?_
 refine WP.region ?_
 refine WL.v (u:=.func (.func 83) #[] #[.pointer (some ⟨b,0,none⟩)]) (Sure.none rfl) rfl (V.makeFunc rfl (by simp) (map1 rfl)) ?_
 refine WL.v (u:=.func (.func 83) #[] #[.pointer (some ⟨b,0,none⟩)]) (Sure.none rfl) rfl (V.assign (x:=.tmp 3) rfl rfl) ?_
 refine WL.nil ?_
 refine WP.ret ?_
 refine resOf.c1 rfl (v:=.func (.func 83) #[] #[.pointer (some ⟨b,0,none⟩)]) rfl ?_
 exact ⟨b,rfl,hb,by omega,hx⟩
theorem sl_Backward1 {w : World} {X : List Nat} {b l : Nat} {v : Value} {xs : List EntryD} {I : Nat → World → Prop} {D : World → Prop} (hle : xs.length ≤ 9223372036854775807)
    (hI : I xs.length w) (keep : ∀ k w', I k w' → Box w' b 25 [v] ∧ Sl entryR X w' v xs ∧ ∃ r : Loop, Blk w' l (.loop r) ∧ r.params.size = 2)
    (round : ∀ k w' cs r, k < xs.length → I (k + 1) w' → entryR.rd X w' cs (xs.getD k default) → Blk w' l (.loop r) →
      RoundIn (Fr none) 0 Try.prog l r.fn ((r.params.zip #[.int .i64 (k : Int), .agg cs.toArray]).foldl (fun tmps (x : Nat × Value) => tmps.setIfInBounds x.1 x.2) r.tmps) r.assign r.body w' fun e w'' => ∃ u, e = .returned u ∧ ((u = .bool true ∧ I k w'') ∨ (u = .bool false ∧ D w''))) :
    Fnc Try.prog 83 #[.func (.yield l) #[] #[], .pointer (some ⟨b, 0, none⟩)] w (fun _ w' => I 0 w' ∨ D w') := by
  obtain ⟨hbox, hsl, _⟩ := keep _ _ hI
  obtain ⟨a, c, hv⟩ := hsl.shape
  refine Fnc.of_WP (n := 19) Try.func83 rfl Try.ntmps83 (by simp) ?_
  intro E hE
  have h0 : E 0 = .func (.yield l) #[] #[] := hE 0 (by simp)
  have h1 : E 1 = .pointer (some ⟨b, 0, none⟩) := hE 1 (by simp)
  clear hE
  refine WP.seq ?_
  refine WP.region ?_
  refine WL.v (u := v) (Sure.none rfl) rfl (V.load (x := .tmp 1) rfl p25 h1 (hbox.cell rfl)) ?_
  refine WL.v (u := .int .i64 (xs.length : Int)) (Sure.none rfl) rfl (V.lenSlice (x := .tmp 4) rfl rfl u25 hv) ?_
  refine WL.v (u := .int .i64 ((xs.length : Int) - 1)) (Sure.none rfl) rfl (V.arith (x := .tmp 5) rfl rfl rfl rfl (wrap_i64 (by omega) (by omega))) ?_
  refine WL.v (u := .int .i64 ((xs.length : Int) - 1)) (Sure.none rfl) rfl (V.assign (x := .tmp 6) rfl rfl) ?_
  refine WL.nil ?_
  refine WP.block ?_
  refine WP.loop (σ := Nat) (fun j E w' => E 0 = .func (.yield l) #[] #[] ∧ E 1 = .pointer (some ⟨b, 0, none⟩) ∧ E 3 = .int .i64 ((j : Int) - 1) ∧ j ≤ xs.length ∧ I j w') (fun j => j) xs.length ?_ ?_
  · exact ⟨h0, h1, rfl, Nat.le_refl _, hI⟩
  · rintro j E w2 ⟨g0, g1, g3, hj, hIj⟩
    obtain ⟨hbox2, hsl2, r, hlr, hpar⟩ := keep _ _ hIj
    refine WP.seq ?_
    refine WP.seq ?_
    refine WP.region ?_
    refine WL.v (u := .int .i64 ((j : Int) - 1)) (Sure.none rfl) rfl (V.move (x := .tmp 3) rfl g3) ?_
    refine WL.v (u := .bool (decide ((j : Int) - 1 ≥ 0))) (Sure.none rfl) rfl (V.cmp (x := .tmp 7) rfl rfl rfl rfl) ?_
    refine WL.nil ?_
    refine WP.cond (t := decide ((j : Int) - 1 ≥ 0)) rfl (fun hc => ?_) (fun hc => ?_)
    · replace hc := of_decide_eq_true hc
      obtain ⟨m, rfl⟩ : ∃ m, j = m + 1 := ⟨j - 1, by omega⟩
      have Aa : E 3 = .int .i64 (m : Int) := by rw [g3]; exact int_eq (by omega)
      have hlt : m < xs.length := by omega
      obtain ⟨bb, kk, c2, cs, Ab, hnb, hr, hat⟩ := hsl2.get (i := m) (x := xs.getD m default) (getD_some hlt _)
      refine WP.skip ?_
      refine WP.seq ?_
      refine WP.block ?_
      refine WP.seq ?_
      refine WP.region ?_
      refine WL.v (u := .func (.yield l) #[] #[]) (Sure.none rfl) rfl (V.move (x := .tmp 0) rfl g0) ?_
      refine WL.v (u := .int .i64 (m : Int)) (Sure.none rfl) rfl (V.move (x := .tmp 3) rfl Aa) ?_
      refine WL.v (u := v) (Sure.none rfl) rfl (V.load (x := .tmp 1) rfl p25 g1 (hbox2.cell rfl)) ?_
      refine WL.v (u := .int .i64 (m : Int)) (Sure.none rfl) rfl (V.move (x := .tmp 3) rfl Aa) ?_
      refine WL.v (u := .pointer (some ⟨bb, kk + m * 4, none⟩)) (Sure.none rfl) rfl (V.indexAddr (x := .tmp 13) (i := .tmp 14) (m := m) (j := (m : Int)) rfl u25 s48 Ab rfl rfl hlt) ?_
      refine WL.v (u := .agg cs.toArray) (Sure.none rfl) rfl (V.loadAgg (x := .tmp 15) (cs := cs) rfl a48 rfl hat (entryR.len hr)) ?_
      refine WL.yield2 (g := .tmp 11) (x := .tmp 12) (y := .tmp 16) (u := .int .i64 (m : Int)) (v := .agg cs.toArray) (Sure.none rfl) rfl rfl rfl rfl rfl hlr hpar (RoundIn.mono (round m w2 cs r hlt hIj hr hlr) ?_)
      rintro e w3 ⟨u, rfl, hu⟩
      refine ⟨u, rfl, ?_⟩
      rcases hu with ⟨rfl, hI3⟩ | ⟨rfl, hD⟩
      · refine WL.v (u := .bool false) (Sure.none rfl) rfl (V.not (x := .tmp 17) (b := true) rfl rfl) ?_
        refine WL.nil ?_
        refine WP.cond_false rfl ?_
        refine WP.skip ?_
        refine WP.region ?_
        refine WL.v (u := .int .i64 (m : Int)) (Sure.none rfl) rfl (V.move (x := .tmp 3) rfl Aa) ?_
        refine WL.v (u := .int .i64 ((m : Int) - 1)) (Sure.none rfl) rfl (V.arith (x := .tmp 9) rfl rfl rfl rfl (wrap_i64 (by omega) (by omega))) ?_
        refine WL.v (u := .int .i64 ((m : Int) - 1)) (Sure.none rfl) rfl (V.assign (x := .tmp 10) rfl rfl) ?_
        refine WL.nil ?_
        exact ⟨m, ⟨g0, g1, rfl, by omega, hI3⟩, Nat.lt_succ_self m⟩
      · refine WL.v (u := .bool true) (Sure.none rfl) rfl (V.not (x := .tmp 17) (b := false) rfl rfl) ?_
        refine WL.nil ?_
        refine WP.cond_true rfl ?_
        refine WP.ret ?_
        refine resOf.none rfl ?_
        exact .inr hD
    · replace hc := of_decide_eq_false hc
      obtain rfl : j = 0 := by omega
      refine WP.exit ?_
      refine resOf.none (fn := Try.f83) (P := Try.prog) (R := fun _ w' => I 0 w' ∨ D w') rfl ?_
      exact .inl hIj
theorem memUpto_none {p:PeerD}:∀ m,(∀ j,0 ≤ j → j < m → (p.Log.getD j default).Kind ≠ 2) → memUpto p m = p.BaseMembers
 | 0,_=>rfl
 | m + 1,h=>by
  rw [memUpto,if_neg (h m (Nat.zero_le _) (Nat.lt_succ_self m))]
  exact memUpto_none m fun j h0 hj=>h j h0 (by omega)
theorem memUpto_some {p:PeerD} {k:Nat}:∀ m,k < m → (p.Log.getD k default).Kind = 2 → (∀ j,k + 1 ≤ j → j < m → (p.Log.getD j default).Kind ≠ 2) → memUpto p m = (p.Log.getD k default).Members
 | 0,h,_,_=>by omega
 | m + 1,h,hk,hn=>by
  rcases Nat.lt_or_ge k m with h1 | h1
  ·rw [memUpto,if_neg (hn m h1 (Nat.lt_succ_self m))]
   exact memUpto_some m h1 hk fun j h0 hj=>hn j h0 (by omega)
  ·obtain rfl:k = m:=by omega
   rw [memUpto,if_pos hk]
theorem sl_ClipRow {w:World} {B:Nat} {X:List Nat} {v:Value} {xs:List Int} (h:KRow B X w v xs):Fnc Try.prog 69 #[v] w (fun u w'=>KRow B X w' u xs ∧ Ext [] w w'):=by
 obtain ⟨a,c,hv⟩:=h.sl.shape
 refine Fnc.of_WP (n:=9) Try.func69 rfl Try.ntmps69 (by simp) ?_
 intro E hE
 have h0:E 0 = v:=hE 0 (by simp)
 clear hE
 refine WP.seq ?_
 refine WP.region ?_
 refine WL.v (u:=.slice none 0 0) (Sure.none rfl) rfl (V.assign rfl rfl) ?_
 refine WL.nil ?_
 refine WP.seq ?_
 refine WP.region ?_
 refine WL.v (u:=v) (Sure.none rfl) rfl (V.move (x:=.tmp 0) rfl h0) ?_
 refine WL.v (u:=v) (Sure.none rfl) rfl (V.move (x:=.tmp 0) rfl h0) ?_
 refine WL.v (u:=.int .i64 ((xs.length:Int))) (Sure.none rfl) rfl (V.lenSlice (x:=.tmp 4) rfl rfl u22 (Eq.trans (b:=v) rfl hv)) ?_
 refine WL.v (u:=v) (Sure.none rfl) rfl (V.move (x:=.tmp 0) rfl h0) ?_
 refine WL.v (u:=.int .i64 ((xs.length:Int))) (Sure.none rfl) rfl (V.lenSlice (x:=.tmp 6) rfl rfl u22 (Eq.trans (b:=v) rfl hv)) ?_
 refine WL.vex (Sure.none rfl) rfl (V.clipRow (x:=.tmp 3) (y:=.tmp 5) (z:=.tmp 7) rfl u22 s3 rfl h rfl rfl) (fun v4 Aa=>?_)
 refine WL.v (u:=v4) (Sure.none rfl) rfl (V.assign (x:=.tmp 8) rfl rfl) ?_
 refine WL.nil ?_
 refine WP.ret ?_
 refine resOf.c1 rfl (v:=v4) rfl ?_
 exact ⟨Aa,Ext.refl _ _⟩
theorem termIs_bounds {p:PeerD} {i:Int} (h:termIs p i = true):p.Base ≤ i ∧ i ≤ lastI p:=by
 rcases Int.lt_or_le i p.Base with h1 | h1
 ·rw [termIs_out (.inl h1)] at h; cases h
 ·rcases Int.lt_or_le (lastI p) i with h2 | h2
  ·rw [termIs_out (.inr h2)] at h; cases h
  ·exact ⟨h1,h2⟩
theorem membersOf_no {p:PeerD} {i:Int} (h:termIs p i = false):[] = membersOf p i:=by rw [membersOf,h]; rfl
theorem membersOf_yes {p:PeerD} {i:Int} (h:termIs p i = true):memUpto p (i - p.Base).toNat = membersOf p i:=by rw [membersOf,h]; rfl
set_option maxHeartbeats 4000000 in
theorem vote_MembersK {w:World} {X:List Nat} {p:PeerD} {c_p:List Value} (h_p:peerR.rd X w c_p p) (i:Int) (hX:∀ x ∈ X,x < w.heap.size) (hBase:p.Base ≤ 4611686018427387904) (hi:0 ≤ i ∧ i < 18446744073709551616) (hF:Fits p):Fnc Try.prog 47 #[.agg c_p.toArray,.int .u64 (i)] w (fun v w'=>KRow w.heap.size X w' v (membersOf p i) ∧ Ext [] w w'):=by
 obtain ⟨v1,v3,v5,v7,v9,Ao,rfl,Ci,Cj,Bl,Ck,Bu,Bv,Ax⟩:=h_p
 obtain ⟨Ct,Cu,Cv,Cw,Cx,Av,Cy,Cz,C0,C1,C2,C3⟩:=(show PeerD.InR p from Ax)
 have Av:=inK_u64 Av
 have C4:=Bl.le'
 have hlI:lastI p = p.Base + (p.Log.length:Int):=rfl
 refine Fnc.of_WX (n:=38) Try.func47 rfl Try.ntmps47 (by simp) ?_
 intro E hE
 have h0:E 0 = .agg (peerA p v1 v3 v5 v7 v9 Ao):=hE 0 (by simp)
 have h1:E 1 = .int .u64 (i):=hE 1 (by simp)
 clear hE
 refine WX.seq ?_
 refine WP.region ?_
 refine WL.box (x:=.tmp 0) (cs:=(peerC p v1 v3 v5 v7 v9 Ao)) (Sure.none rfl) rfl rfl h0 rfl (fun Ac Cl Ae C5 Ay=>?_)
 have Bw:=(Sl.new (b:=Ac) nz1 Ci (by omega)).ext (Ext.any Ae)
 have Az:=(Sl.new (b:=Ac) nz1 Cj (by omega)).ext (Ext.any Ae)
 have A4:=(Sl.new (b:=Ac) nz4 Bl (by omega)).ext (Ext.any Ae)
 have Bx:=(Sl.new (b:=Ac) nz1 Ck (by omega)).ext (Ext.any Ae)
 have By:=(Sl.new (b:=Ac) nz3 Bu (by omega)).ext (Ext.any Ae)
 have Bz:=(Sl.new (b:=Ac) nz3 Bv (by omega)).ext (Ext.any Ae)
 have B0:Ext [Ac] _ _:=(Ext.refl _ _).trans (Ext.any Ae)
 have Ag:w.heap.size ≤ Ac:=by have:=Nat.le_refl w.heap.size; omega
 refine WL.m rfl ?_
 refine WL.nil ?_
 refine WX.seq ?_
 refine WP.sr ?_
 refine WL.z (.agg (peerA p v1 v3 v5 v7 v9 Ao)) (V.loadAgg (cs:=(peerC p v1 v3 v5 v7 v9 Ao)) rfl a29 rfl (At.box Ay) rfl) ?_
 refine WL.m rfl ?_
 refine WL.c (Sure.none rfl) rfl (C.call2 (y:=.tmp 12) rfl cl20 rfl h1) (Fnc.mono (vote_Term (p:=p) ⟨v1,v3,v5,v7,v9,Ao,rfl,Bw,Az,A4,Bx,By,Bz,Ax⟩ i (by omega) (by omega)) ?_)
 rintro _ Bm ⟨rfl,Aq⟩
 have Ar:Ext [Ac] w Bm:=B0.trans (Ext.any (Y:=[Ac]) Aq)
 have A5:Ext [Ac] Cl Bm:=(Ext.any (Y:=[Ac]) Aq)
 have As:=Ay.ext Aq (by simp)
 refine WL.m rfl ?_
 refine WL.z (.int .u64 (termOf p i)) (V.extract rfl rfl rfl) ?_
 refine WL.z (.bool (termIs p i)) (V.extract rfl rfl rfl) ?_
 refine WL.m rfl ?_
 refine WL.m rfl ?_
 refine WL.nil ?_
 refine WP.sr ?_
 refine WL.m rfl ?_
 refine WL.z (.bool (!(termIs p i))) (V.not rfl rfl) ?_
 refine WL.nil ?_
 refine WP.condn (t:=termIs p i) rfl (fun B1=>?_) (fun B1=>?_)
 ·refine WP.sr ?_
  refine WL.m rfl ?_
  refine WL.nil ?_
  refine WP.ret ?_
  intro az hok he
  refine PostM.plain Try.ntmps47 hok ?_
  rw [he]
  refine resOf.c1 rfl (v:=.slice none 0 0) rfl ?_
  exact ⟨.inl ⟨rfl,(membersOf_no (by assumption)).symm⟩,((Ar).done (geCons Ag geNil))⟩
 refine WP.skip ?_
 refine WX.seq ?_
 refine WP.region ?_
 have hbi:=termIs_bounds (p:=p) (i:=i) (by assumption)
 refine WL.f (v3) fl29_8 rfl p22 (As.cell rfl) ?_
 refine WL.alloc (cs:=[.slice none 0 0]) (Sure.none rfl) rfl rfl z22 rfl (fun Ab Bn Al C6 B2=>?_)
 have Bg:Ac < Ab:=by have:=As.lt; omega
 have B3:=As.ext Al (by simp)
 have A6:=(Sl.new (b:=Ab) nz1 (Az.ext (Ext.pre A5)) (by omega)).ext (Ext.any Al)
 have B4:=(Sl.new (b:=Ab) nz4 (A4.ext (Ext.pre A5)) (by omega)).ext (Ext.any Al)
 have B5:Ext [Ab,Ac] _ _:=(Ext.cons Ar).trans (Ext.any Al)
 have Ap:w.heap.size ≤ Ab:=by have:=Ar.size; omega
 refine WL.store (Sure.none rfl) rfl rfl s22 rfl rfl A6.one B2 (by show (0:Nat) < 1; decide) (fun Aw Au Am=>?_)
 replace Am:Box Aw Ab 22 [v3]:=Am
 have A7:=B3.ext Au (by simp; omega)
 have B6:Ext [Ab,Ac] w Aw:=B5.trans (Au.mono (by simp))
 have A8:Ext [Ab,Ac] Bn Aw:=(Au.mono (by simp))
 refine WL.nil ?_
 refine WX.seqRange ?_
 refine WP.region ?_
 refine WL.f (v5) fl29_10 rfl p25 (A7.cell rfl) ?_
 refine WL.m rfl ?_
 refine WL.f (.int .u64 (p.Base)) fl29_6 rfl p23 (A7.cell rfl) ?_
 refine WL.z (.int .u64 (i - p.Base)) (V.arith (x:=.tmp 22) rfl h1 rfl rfl (wrap_u64 (by omega) (by omega))) ?_
 refine WL.vex (Sure.none rfl) rfl (V.upto (k:=.u64) (h:=(i - p.Base).toNat) rfl u25 s48 rfl (B4.ext (Ext.pre A8)) (Eq.trans rfl (int_eq (by omega))) (by omega)) (fun Bo A9=>?_)
 have hlt57_b50:=Am.lt
 refine WL.c (Sure.none rfl) rfl (C.call1 rfl cl68 rfl) (Fnc.mono (sl_Backward A9) ?_)
 rintro _ Aa ⟨Bp,rfl,Ah,C7,An⟩
 have Ba:Ext [Ab,Ac] w Aa:=B6.trans (Ext.any (Y:=[Ab,Ac]) An)
 have B7:Ext [Ab,Ac] Bn Aa:=A8.trans (Ext.any (Y:=[Ab,Ac]) An)
 have B8:Ext [Ab,Ac] Aw Aa:=(Ext.any (Y:=[Ab,Ac]) An)
 have B9:=Am.ext An (by simp)
 refine WL.nil ?_
 have hm:(i - p.Base).toNat ≤ p.Log.length:=by omega
 have C8:(p.Log.take (i - p.Base).toNat).length = (i - p.Base).toNat:=by rw [List.length_take]; omega
 have hslv:Sl entryR ((Aa.heap.size + 1) :: Aa.heap.size :: Ab :: X) Aa Bo (p.Log.take (i - p.Base).toNat):=(Sl.new nz4 (Sl.new nz4 (Sl.mono (A9.ext (Ext.pre B8)) (by intro b hb; simp only [List.mem_cons] at hb ⊢; exact hb.elim .inl (fun h=>.inr (.inr h)))) (Nat.le_refl _)) (by omega))
 have hslb:Sl (intR .i64) ((Aa.heap.size + 1) :: Aa.heap.size :: Ab :: X) Aa v3 p.BaseMembers:=(Sl.new nz1 (Sl.new nz1 (Sl.mono (A6.ext (Ext.pre B7)) (by intro b hb; simp only [List.mem_cons] at hb ⊢; exact hb.elim .inl (fun h=>.inr (.inr h)))) (Nat.le_refl _)) (by omega))
 have Bq:=B9
 have hb7lt:=Bq.lt
 have hge7:w.heap.size ≤ Ab:=Ap
 have hgep:w.heap.size ≤ Ac:=Ag
 have h95lt:=Ah.lt
 have hszR:w.heap.size ≤ Aa.heap.size:=Ba.size
 have hxR:=(Ba).done (geCons hge7 (geCons hgep geNil))
 refine ⟨83,#[.pointer (some ⟨Bp,0,none⟩)],rfl,cl83,(fun w4=>Ext [] w w4 ∧ Blk w4 Aa.heap.size (.deferred (some [])) ∧ (∃ o,Blk w4 (Aa.heap.size + 1) o) ∧ ∃ vm,Box w4 Ab 22 [vm] ∧ Sl (intR .i64) ((Aa.heap.size + 1) :: Aa.heap.size :: Ab :: X) w4 vm (memUpto p (i - p.Base).toNat)),?_,?_⟩
 ·intro rec hst hpe htm hE hpar hasg hbody W1 Ak C9 Cm Cn
  have hrecE:({ rec with state:=.ready,pending:=none }:Loop) = rec:=by cases rec; simp only at hst hpe; subst hst; subst hpe; rfl
  have Bh:=Ah.ext Ak (by simp)
  have Ca:=Bq.ext Ak (by simp)
  have hI0:Ext [(Aa.heap.size + 1),Ab] W1 W1 ∧ Blk W1 (Aa.heap.size + 1) (.loop rec) ∧ Blk W1 Aa.heap.size (.deferred (some [])) ∧ Box W1 Ab 22 [v3] ∧ ∀ j,(p.Log.take (i - p.Base).toNat).length ≤ j → j < (i - p.Base).toNat → (p.Log.getD j default).Kind ≠ 2:=⟨Ext.refl _ _,Cn,Cm,Ca,fun j h1 h2=>by omega⟩
  refine Fnc.mono (sl_Backward1 (l:=(Aa.heap.size + 1)) (b:=Bp) (v:=Bo) (xs:=p.Log.take (i - p.Base).toNat) (X:=((Aa.heap.size + 1) :: Aa.heap.size :: Ab :: X))
   (I:=fun k w'=>Ext [(Aa.heap.size + 1),Ab] W1 w' ∧ Blk w' (Aa.heap.size + 1) (.loop rec) ∧ Blk w' Aa.heap.size (.deferred (some [])) ∧ Box w' Ab 22 [v3] ∧ ∀ j,k ≤ j → j < (i - p.Base).toNat → (p.Log.getD j default).Kind ≠ 2)
   (D:=fun w'=>Ext [(Aa.heap.size + 1),Ab] W1 w' ∧ Blk w' (Aa.heap.size + 1) (.loop { rec with state:=.done,pending:=some (.exit 0) }) ∧ Blk w' Aa.heap.size (.deferred (some [])) ∧ ∃ vm,Box w' Ab 22 [vm] ∧ Sl (intR .i64) ((Aa.heap.size + 1) :: Aa.heap.size :: Ab :: X) w' vm (memUpto p (i - p.Base).toNat)) (by omega) hI0 ?_ ?_) ?_
  ·rintro k w' ⟨i1,i2,i3,i4,i5⟩
   exact ⟨Bh.ext i1 (by simp; omega),(hslv.ext (Ext.any Ak)).ext (i1.mono (by simp)),rec,i2,by rw [hpar]; rfl⟩
  ·rintro k w' cs r hk ⟨i1,i2,i3,i4,i5⟩ hr hlr
   have hrr:r = rec:=by
    have h1:w'.heap[(Aa.heap.size + 1)]? = some (.loop r):=hlr
    have h2:w'.heap[(Aa.heap.size + 1)]? = some (.loop rec):=i2
    rw [h2] at h1; cases h1; rfl
   subst hrr
   have hkm:k < (i - p.Base).toNat:=by omega
   have hget:(p.Log.take (i - p.Base).toNat).getD k default = p.Log.getD k default:=by simp [List.getD_eq_getElem?_getD,List.getElem?_take,hkm]
   rw [hget] at hr
   obtain ⟨vM,rfl,hlM,hkM⟩:=hr
   refine round_wp (N:=38) (p1:=28) (p2:=29) hpar htm hE (by decide) (by decide) (J:=fun E2 w2=>∃ b9,E2 7 = .pointer (some ⟨Ab,0,none⟩) ∧ E2 9 = .pointer (some ⟨b9,0,none⟩) ∧ Box w2 b9 48 [.int .u64 (p.Log.getD k default).Term,.int .u8 (p.Log.getD k default).Kind,.string (p.Log.getD k default).Data,vM] ∧ w'.heap.size ≤ b9 ∧ Ext [] w' w2) ?_ ?_
   ·rw [hasg]
    refine WP.region ?_
    refine WL.alloc (Sure.none rfl) rfl rfl z48 rfl (fun b9 w2 Ai Da Bb=>?_)
    refine WL.storeAgg (x:=.tmp 9) (y:=.tmp 29) (vs:=[.int .u64 (p.Log.getD k default).Term,.int .u8 (p.Log.getD k default).Kind,.string (p.Log.getD k default).Data,vM]) (Sure.none rfl) rfl rfl s48 rfl rfl rfl (by intro u hu; simp only [List.mem_cons,List.not_mem_nil,or_false] at hu; rcases hu with rfl | rfl | rfl | rfl <;> first | rfl | exact Sl.one (by assumption)) Bb (by show (0:Nat) + 4 ≤ 4; decide) (fun w3 Aj Cb=>?_)
    refine WL.nil ?_
    exact ⟨b9,rfl,rfl,Cb,by omega,Ext.skip Ai Aj (by intro y hy; simp at hy; omega)⟩
   ·rintro E2 w2 ⟨b9,e7,e9,Bb,hge9,Ai⟩
    have hLlt:=i2.lt
    have h7lt:=i4.lt
    refine ⟨r,i2.ext Ai (by simp),hst,fun w3 Aj Br=>?_⟩
    rw [hbody]
    have Bc:=Bb.ext Aj (by simp; omega)
    have Ah:=(i4.ext Ai (by simp)).ext Aj (by simp; omega)
    have Bs:Blk w3 Aa.heap.size (.deferred (some [])):=(i3.ext Ai (by simp)).ext Aj (by simp)
    have hM3:Sl (intR .i64) ((Aa.heap.size + 1) :: Aa.heap.size :: Ab :: X) w3 vM (p.Log.getD k default).Members:=(hlM.ext (Ext.any Ai)).ext (Aj.mono (by simp))
    have Bd:Ext [(Aa.heap.size + 1),Ab] W1 w3:=(i1.trans (Ext.any Ai)).trans (Aj.mono (by simp))
    refine WP.block ?_
    refine WP.seq ?_
    refine WP.region ?_
    refine WL.v (u:=.pointer (some ⟨b9,0 + 1,none⟩)) (Sure.none rfl) rfl (V.fieldAddr (x:=.tmp 9) rfl fl48_1 e9) ?_
    refine WL.v (u:=.int .u8 (p.Log.getD k default).Kind) (Sure.none rfl) rfl (V.load (x:=.tmp 30) rfl p46 rfl (Bc.cell rfl)) ?_
    refine WL.v (u:=.bool (decide ((p.Log.getD k default).Kind = 2))) (Sure.none rfl) rfl (V.cmp (x:=.tmp 31) rfl rfl rfl rfl) ?_
    refine WL.nil ?_
    refine WP.cond (t:=decide ((p.Log.getD k default).Kind = 2)) rfl (fun hc=>?_) (fun hc=>?_)
    ·replace hc:=of_decide_eq_true hc
     refine WP.seq ?_
     refine WP.region ?_
     refine WL.v (u:=.pointer (some ⟨b9,0 + 3,none⟩)) (Sure.none rfl) rfl (V.fieldAddr (x:=.tmp 9) rfl fl48_3 e9) ?_
     refine WL.v (u:=vM) (Sure.none rfl) rfl (V.load (x:=.tmp 33) rfl p22 rfl (Bc.cell rfl)) ?_
     refine WL.store (x:=.tmp 7) (y:=.tmp 34) (Sure.none rfl) rfl rfl s22 e7 rfl hM3.one Ah (by show (0:Nat) < 1; decide) (fun w4 Ad Cc=>?_)
     refine WL.nil ?_
     refine WP.exit ?_
     refine ⟨{ r with state:=.busy },Blk.ext Br Ad (by simp; omega),fun w5 Af h5=>.inr ⟨rfl,(Bd.trans (Ad.mono (by simp))).trans (Af.mono (by simp)),(by have h:=h5; simp only [Option.isNone_some,Bool.false_eq_true,if_false] at h; rw [hbody] at h; exact h),(Bs.ext Ad (by simp; omega)).ext Af (by simp),vM,Cc.ext Af (by simp; omega),?_⟩⟩
     exact castSl (memUpto_some _ hkm hc (fun j h1 h2=>i5 j h1 h2)).symm ((hM3.ext (Ad.mono (by simp))).ext (Af.mono (by simp)))
    ·replace hc:=of_decide_eq_false hc
     refine WP.skip ?_
     refine ⟨{ r with state:=.busy },Br,fun w5 Af h5=>.inl ⟨rfl,Bd.trans (Af.mono (by simp)),?_,Bs.ext Af (by simp),Ah.ext Af (by simp; omega),?_⟩⟩
     ·have Co:Blk w5 (Aa.heap.size + 1) (.loop { r with state:=.ready,pending:=none }):=h5
      rwa [hrecE] at Co
     ·intro j h1 h2
      rcases Nat.lt_or_ge k j with h3 | h3
      ·exact i5 j h3 h2
      ·obtain rfl:j = k:=by omega
       exact hc
  ·rintro _ w3 (⟨i1,i2,i3,i4,i5⟩ | ⟨i1,i2,i3,vm,i4,i5⟩)
   ·have h7lt:=i4.lt
    refine ⟨rec,i2,by rw [hst]; decide,.inl hpe,fun w4 Ad=>⟨(Ext.skip hxR Ak (by simp)).skip (i1.trans (Ad.mono (by simp))) (by intro y hy; simp at hy; omega),i3.ext Ad (by simp),?_,v3,i4.ext Ad (by simp; omega),?_⟩⟩
    ·have hlt:(Aa.heap.size + 1) < w4.heap.size:=Nat.lt_of_lt_of_le i2.lt Ad.size
     exact ⟨_,Array.getElem?_eq_getElem hlt⟩
    ·exact castSl (memUpto_none _ (fun j _ h2=>i5 j (Nat.zero_le _) h2)).symm (((hslb.ext (Ext.any Ak)).ext (i1.mono (by simp))).ext (Ad.mono (by simp)))
   ·have h7lt:=i4.lt
    refine ⟨_,i2,by simp,.inr rfl,fun w4 Ad=>⟨(Ext.skip hxR Ak (by simp)).skip (i1.trans (Ad.mono (by simp))) (by intro y hy; simp at hy; omega),i3.ext Ad (by simp),?_,vm,i4.ext Ad (by simp; omega),i5.ext (Ad.mono (by simp))⟩⟩
    have hlt:(Aa.heap.size + 1) < w4.heap.size:=Nat.lt_of_lt_of_le i2.lt Ad.size
    exact ⟨_,Array.getElem?_eq_getElem hlt⟩
 ·rintro Bt ⟨hxT,hdT,⟨oT,hlT⟩,Cp,hb7T,hvmT⟩
  have hxT':Ext [(Aa.heap.size + 1),Aa.heap.size,Ab] w Bt:=Ext.any hxT
  have hgeD:w.heap.size ≤ Aa.heap.size:=hszR
  have hgeL:w.heap.size ≤ (Aa.heap.size + 1):=by omega
  have hup:=hF.upto (i - p.Base).toNat hm
  refine WX.seq ?_
  refine WP.region ?_
  refine WL.z (Cp) (V.load rfl p22 rfl (hb7T.cell rfl)) ?_
  refine WL.c (Sure.none rfl) rfl (C.call1 rfl cl39 rfl) (Fnc.mono (sl_clone_own hvmT (by omega) (X:=((Aa.heap.size + 1) :: (Aa.heap.size :: (Ab :: X)))) (inCons hlT.lt (inCons hdT.lt (inCons hb7T.lt (inMono hX hxT'.size))))) ?_)
  rintro Db Cq ⟨_,rfl,Cd,Bi,Be⟩
  have hszB:w.heap.size ≤ Bt.heap.size:=hxT'.size
  have Ce:Ext [(Aa.heap.size + 1),Aa.heap.size,Ab] w Cq:=hxT'.trans (Ext.any (Y:=[(Aa.heap.size + 1),Aa.heap.size,Ab]) Be)
  have Cf:=hdT.ext Be (by simp)
  refine WL.c (Sure.none rfl) rfl (C.call1 rfl cl69 rfl) (Fnc.mono (sl_ClipRow (KRow.of Cd Bi)) ?_)
  rintro Cr Cs ⟨Cg,Bf⟩
  have Ch:Ext [(Aa.heap.size + 1),Aa.heap.size,Ab] w Cs:=Ce.trans (Ext.any (Y:=[(Aa.heap.size + 1),Aa.heap.size,Ab]) Bf)
  have Bj:=Cf.ext Bf (by simp)
  refine WL.m rfl ?_
  refine WL.nil ?_
  refine WX.of ?_
  refine WP.ret ?_
  intro az hok he
  refine PostM.marked Try.ntmps47 hok Bj (fun wz hz=>?_)
  have Bk:Ext [(Aa.heap.size + 1),Aa.heap.size,Ab] w wz:=Ch.trans (hz.mono (by simp))
  rw [he]
  refine resOf.c1 rfl (v:=Cr) rfl ?_
  exact ⟨((KRow.cast (membersOf_yes (by assumption)) (Cg.ext hz (by simp))).low (by omega)).mono (fun x hx=>by simp [hx]),((Bk).done (geCons hgeL (geCons hgeD (geCons hge7 geNil))))⟩
theorem vote_Members {w:World} {X:List Nat} {p:PeerD} {c_p:List Value} (h_p:peerR.rd X w c_p p) (i:Int) (hBase:p.Base ≤ 4611686018427387904) (hi:0 ≤ i ∧ i < 18446744073709551616) (hF:Fits p) (hX:∀ x ∈ X,x < w.heap.size):Fnc Try.prog 47 #[.agg c_p.toArray,.int .u64 (i)] w (fun v w'=>∃ (u0:Value),v = u0 ∧ Sl (intR .i64) X w' u0 (membersOf p i) ∧ Ext [] w w') :=
 Fnc.mono (vote_MembersK h_p i hX hBase hi hF) fun v w' ⟨h1,h2⟩=>⟨v,rfl,h1.sl,h2⟩
end Go.Proofs.Ytiaicihpocoeiaa.T
namespace Go.Proofs.Ytiaicihpocoeiaa.T
open W Go.RowKit
set_option maxRecDepth 100000
set_option maxHeartbeats 400000
def vM1 (p:PeerD):Bool:=idB p.Id && (!decide (p.Wait ≤ 0) && (!decide (p.Wait > 1073741824) && (!decide (p.Idle < 0) && (!decide (p.Idle > 1073741824) && (!decide (p.Term > 4611686018427387904) && (!decide (p.Base > 4611686018427387904) && !decide (p.Round > 4611686018427387904)))))))
def vM2 (p:PeerD):Bool:=(!decide (p.Vote ≠ 0) || idB p.Vote) && ((!decide (p.Lead ≠ 0) || idB p.Lead) && membersB p.BaseMembers)
def vM3 (p:PeerD):Bool:=!decide (p.BaseTerm > p.Term) && ((decide (p.Base = 0) == decide (p.BaseTerm = 0)) && ((!decide (p.Base = 0) || seqB p.Snap (ByteArray.mk #[])) && entsB p.Log p.BaseTerm p.Term))
def vM4 (p:PeerD):Bool:=eqB ieq p.Members (membersOf p (lastI p)) && (!decide (p.Commit < p.Base) && !decide (p.Commit > lastI p))
def vNone (p:PeerD):Bool:=decide ((p.Follows.length:Int) = 0) && decide ((p.Reads.length:Int) = 0)
def vM5 (p:PeerD):Bool :=
  if decide (p.Role = 0) = true then vNone p && decide ((p.Votes.length:Int) = 0)
  else if decide (p.Role = 1) = true then vNone p && (decide (p.Lead = 0) && (decide (p.Vote = p.Id) && (idsB p.Votes && (hasB p.Votes p.Id && hasB p.Members p.Id))))
  else if decide (p.Role = 2) = true then decide ((p.Votes.length:Int) = 0) && (decide (p.Lead = p.Id) && (decide (p.Term > 0) && (vfollowsB p (lastI p) && readsB p)))
  else false
def vmayB (p:PeerD):Bool:=vM1 p && (vM2 p && (vM3 p && (vM4 p && vM5 p)))
theorem vM1_base {p:PeerD} (h:vM1 p = true):p.Base ≤ 4611686018427387904:=by
 simp only [vM1,Bool.and_eq_true,Bool.not_eq_true',decide_eq_false_iff_not] at h; omega
set_option maxHeartbeats 8000000 in
theorem vote_may {w:World} {X:List Nat} {p:PeerD} {c_p:List Value} (h_p:peerR.rd X w c_p p) (hX:∀ x ∈ X,x < w.heap.size) (hF:Fits p):Fnc Try.prog 50 #[.agg c_p.toArray] w (fun v w'=>v = .bool (vmayB p) ∧ Ext [] w w'):=by
 obtain ⟨v1,v3,v5,v7,v9,Af,rfl,Ht,Hu,Gr,Hv,Gu,Gv,Bd⟩:=h_p
 obtain ⟨H0,H1,H2,H3,H4,Cu,Cv,H5,Cw,H6,H7,H8⟩:=(show PeerD.InR p from Bd)
 have Cu:=inK_u64 Cu
 have Cv:=inK_u64 Cv
 have Cw:=inK_u64 Cw
 have H9:=Gr.le'
 have hlI:lastI p = p.Base + (p.Log.length:Int):=rfl
 have hfl:=hF.log
 refine Fnc.of_WP (n:=215) Try.func50 rfl Try.ntmps50 (by simp) ?_
 intro E hE
 have h0:E 0 = .agg (peerA p v1 v3 v5 v7 v9 Af):=hE 0 (by simp)
 clear hE
 refine WP.sr ?_
 refine WL.box (x:=.tmp 0) (cs:=(peerC p v1 v3 v5 v7 v9 Af)) (Sure.none rfl) rfl rfl h0 rfl (fun Aa As Be In Dj=>?_)
 have Av:=(Sl.new (b:=Aa) nz1 Ht (by omega)).ext (Ext.any Be)
 have Aw:=(Sl.new (b:=Aa) nz1 Hu (by omega)).ext (Ext.any Be)
 have A7:=(Sl.new (b:=Aa) nz4 Gr (by omega)).ext (Ext.any Be)
 have Ax:=(Sl.new (b:=Aa) nz1 Hv (by omega)).ext (Ext.any Be)
 have Bf:=(Sl.new (b:=Aa) nz3 Gu (by omega)).ext (Ext.any Be)
 have Bg:=(Sl.new (b:=Aa) nz3 Gv (by omega)).ext (Ext.any Be)
 have Gw:Ext [Aa] _ _:=(Ext.refl _ _).trans (Ext.any Be)
 have Ab:w.heap.size ≤ Aa:=by have:=Nat.le_refl w.heap.size; omega
 refine WL.m rfl ?_
 refine WL.nil ?_
 refine WP.seq ?_
 refine WP.block ?_
 refine WP.seq_cut (fun Cx Ay=>Cx 0 = .agg (peerA p v1 v3 v5 v7 v9 Af) ∧ Cx 1 = .pointer (some ⟨Aa,0,none⟩) ∧ Cx 6 = .bool (!vM1 p) ∧ Ext [Aa] As Ay ∧ Box Ay Aa 29 (peerC p v1 v3 v5 v7 v9 Af)) ?_ ?_
 ·refine WP.region ?_
  refine WL.f (.int .i64 (p.Id)) fl29_0 rfl p3 (Dj.cell rfl) ?_
  refine WL.c (Sure.none rfl) rfl (C.call1 rfl cl75 rfl) (Fnc.mono (vote_id p.Id) ?_)
  rintro _ Hw ⟨rfl,Dk⟩
  have A8:Ext [Aa] As Hw:=(Ext.any (Y:=[Aa]) Dk)
  have Ao:=Dj.ext Dk (by simp)
  refine WL.z (.bool (!(idB p.Id))) (V.not rfl rfl) ?_
  refine WL.vbn (c:=idB p.Id) (Sure.none rfl) rfl (V.move rfl rfl) (fun Gx=>?_) (fun Gx=>?_)
  ·refine WL.skips [(11,some true)] [(6,some true)] (kc (some true) rfl kn) (by kernel_rfl) (fun I4 hK54 Dl=>?_)
   exact ⟨((Dl 0 rfl).trans h0),(Dl 1 rfl),(Eq.trans (hK54 6 (some true) rfl) (bool_eq (by first | assumption | grind [vM1]))),A8,Ao⟩
  refine WL.fy (.int .i64 (p.Wait)) rfl fl29_13 rfl p3 (Ao.cell rfl) ?_
  refine WL.y (.bool (decide (p.Wait ≤ 0))) rfl (V.cmp rfl rfl rfl rfl) ?_
  refine WL.k (a:=false) rfl rfl ?_
  refine WL.vbp (c:=p.Wait ≤ 0) (Sure.none rfl) rfl (V.move rfl rfl) (fun Gy=>?_) (fun Gy=>?_)
  ·refine WL.skips [(16,some true)] [(6,some true)] (kc (some true) rfl kn) (by kernel_rfl) (fun I5 hK58 Dm=>?_)
   exact ⟨((Dm 0 rfl).trans h0),(Dm 1 rfl),(Eq.trans (hK58 6 (some true) rfl) (bool_eq (by first | assumption | grind [vM1]))),A8,Ao⟩
  refine WL.fy (.int .i64 (p.Wait)) rfl fl29_13 rfl p3 (Ao.cell rfl) ?_
  refine WL.y (.bool (decide (p.Wait > 1073741824))) rfl (V.cmp rfl rfl rfl rfl) ?_
  refine WL.k (a:=false) rfl rfl ?_
  refine WL.vbp (c:=p.Wait > 1073741824) (Sure.none rfl) rfl (V.move rfl rfl) (fun Gz=>?_) (fun Gz=>?_)
  ·refine WL.skips [(21,some true)] [(6,some true)] (kc (some true) rfl kn) (by kernel_rfl) (fun I6 hK62 Dn=>?_)
   exact ⟨((Dn 0 rfl).trans h0),(Dn 1 rfl),(Eq.trans (hK62 6 (some true) rfl) (bool_eq (by first | assumption | grind [vM1]))),A8,Ao⟩
  refine WL.fy (.int .i64 (p.Idle)) rfl fl29_12 rfl p3 (Ao.cell rfl) ?_
  refine WL.y (.bool (decide (p.Idle < 0))) rfl (V.cmp rfl rfl rfl rfl) ?_
  refine WL.k (a:=false) rfl rfl ?_
  refine WL.vbp (c:=p.Idle < 0) (Sure.none rfl) rfl (V.move rfl rfl) (fun G0=>?_) (fun G0=>?_)
  ·refine WL.skips [(26,some true)] [(6,some true)] (kc (some true) rfl kn) (by kernel_rfl) (fun I7 hK66 Do=>?_)
   exact ⟨((Do 0 rfl).trans h0),(Do 1 rfl),(Eq.trans (hK66 6 (some true) rfl) (bool_eq (by first | assumption | grind [vM1]))),A8,Ao⟩
  refine WL.fy (.int .i64 (p.Idle)) rfl fl29_12 rfl p3 (Ao.cell rfl) ?_
  refine WL.y (.bool (decide (p.Idle > 1073741824))) rfl (V.cmp rfl rfl rfl rfl) ?_
  refine WL.k (a:=false) rfl rfl ?_
  refine WL.vbp (c:=p.Idle > 1073741824) (Sure.none rfl) rfl (V.move rfl rfl) (fun G1=>?_) (fun G1=>?_)
  ·refine WL.skips [(31,some true)] [(6,some true)] (kc (some true) rfl kn) (by kernel_rfl) (fun I8 hK70 Dp=>?_)
   exact ⟨((Dp 0 rfl).trans h0),(Dp 1 rfl),(Eq.trans (hK70 6 (some true) rfl) (bool_eq (by first | assumption | grind [vM1]))),A8,Ao⟩
  refine WL.fy (.int .u64 (p.Term)) rfl fl29_2 rfl p23 (Ao.cell rfl) ?_
  refine WL.y (.bool (decide (p.Term > 4611686018427387904))) rfl (V.cmp rfl rfl rfl rfl) ?_
  refine WL.k (a:=false) rfl rfl ?_
  refine WL.vbp (c:=p.Term > 4611686018427387904) (Sure.none rfl) rfl (V.move rfl rfl) (fun G2=>?_) (fun G2=>?_)
  ·refine WL.skips [(36,some true)] [(6,some true)] (kc (some true) rfl kn) (by kernel_rfl) (fun I9 hK74 Dq=>?_)
   exact ⟨((Dq 0 rfl).trans h0),(Dq 1 rfl),(Eq.trans (hK74 6 (some true) rfl) (bool_eq (by first | assumption | grind [vM1]))),A8,Ao⟩
  refine WL.fy (.int .u64 (p.Base)) rfl fl29_6 rfl p23 (Ao.cell rfl) ?_
  refine WL.y (.bool (decide (p.Base > 4611686018427387904))) rfl (V.cmp rfl rfl rfl rfl) ?_
  refine WL.k (a:=false) rfl rfl ?_
  refine WL.vbp (c:=p.Base > 4611686018427387904) (Sure.none rfl) rfl (V.move rfl rfl) (fun G3=>?_) (fun G3=>?_)
  ·refine WL.skips [(41,some true)] [(6,some true)] (kc (some true) rfl kn) (by kernel_rfl) (fun Ja hK78 Dr=>?_)
   exact ⟨((Dr 0 rfl).trans h0),(Dr 1 rfl),(Eq.trans (hK78 6 (some true) rfl) (bool_eq (by first | assumption | grind [vM1]))),A8,Ao⟩
  refine WL.fy (.int .u64 (p.Round)) rfl fl29_16 rfl p23 (Ao.cell rfl) ?_
  refine WL.y (.bool (decide (p.Round > 4611686018427387904))) rfl (V.cmp rfl rfl rfl rfl) ?_
  refine WL.k (a:=false) rfl rfl ?_
  refine WL.m rfl ?_
  refine WL.nil ?_
  exact ⟨h0,rfl,(bool_eq (by first | assumption | grind [vM1])),A8,Ao⟩
 rintro Cx Ay ⟨Az,Ak,Au,Ds,hbb32_80⟩
 have Dt:Ext [Aa] w Ay:=Gw.trans Ds
 have Bt:Ext [Aa] As Ay:=Ds
 refine WP.condn (t:=vM1 p) Au (fun G4=>?_) (fun G4=>?_)
 ·refine WP.sr ?_
  refine WL.m rfl ?_
  refine WL.nil ?_
  refine WP.ret ?_
  refine resOf.c1 rfl (v:=.bool (false)) rfl ?_
  exact ⟨(bool_eq (by first | assumption | grind [vmayB,vM4,vM5])),((Dt).done (geCons Ab geNil))⟩
 refine WP.seq_cut (fun Cb Bk=>Cb 0 = .agg (peerA p v1 v3 v5 v7 v9 Af) ∧ Cb 1 = .pointer (some ⟨Aa,0,none⟩) ∧ Cb 6 = .bool (!vM1 p) ∧ Cb 46 = .bool (!vM2 p) ∧ Ext [Aa] Ay Bk ∧ Box Bk Aa 29 (peerC p v1 v3 v5 v7 v9 Af)) ?_ ?_
 ·refine WP.region ?_
  refine WL.f (x:=.tmp 1) (.int .i64 (p.Vote)) fl29_3 Ak p3 (hbb32_80.cell rfl) ?_
  refine WL.z (.bool (decide (p.Vote ≠ 0))) (V.cmp rfl rfl rfl rfl) ?_
  refine WL.vbp (c:=p.Vote ≠ 0) (Sure.none rfl) rfl (V.move rfl rfl) (fun G5=>?_) (fun G5=>?_)
  rotate_left
  ·refine WL.s (Shut.no rfl rfl rfl rfl) rfl ?_
   refine WL.s (Shut.no rfl rfl rfl rfl) rfl ?_
   refine WL.s (Shut.no rfl rfl rfl rfl) rfl ?_
   refine WL.s (Shut.no rfl rfl rfl rfl) rfl ?_
   refine WL.k (a:=false) rfl rfl ?_
   refine WL.m rfl ?_
   refine WL.fy (x:=.tmp 1) (.int .i64 (p.Lead)) rfl fl29_5 Ak p3 (hbb32_80.cell rfl) ?_
   refine WL.y (.bool (decide (p.Lead ≠ 0))) rfl (V.cmp rfl rfl rfl rfl) ?_
   refine WL.vbp (c:=p.Lead ≠ 0) (Sure.yes rfl rfl rfl) rfl (V.move rfl rfl) (fun D1=>?_) (fun D1=>?_)
   rotate_left
   ·refine WL.s (Shut.no rfl rfl rfl rfl) rfl ?_
    refine WL.s (Shut.no rfl rfl rfl rfl) rfl ?_
    refine WL.s (Shut.no rfl rfl rfl rfl) rfl ?_
    refine WL.s (Shut.no rfl rfl rfl rfl) rfl ?_
    refine WL.ky (a:=false) rfl rfl rfl ?_
    refine WL.k (a:=false) rfl rfl ?_
    refine WL.m rfl ?_
    refine WL.fy (x:=.tmp 1) (v3) rfl fl29_8 Ak p22 (hbb32_80.cell rfl) ?_
    refine WL.c (Sure.yes rfl rfl rfl) rfl (C.call1 rfl cl76 rfl) (Fnc.mono (vote_members (Aw.ext (Ext.pre Bt))) ?_)
    rintro _ G6 ⟨rfl,Cy⟩
    have D3:Ext [Aa] Ay G6:=(Ext.any (Y:=[Aa]) Cy)
    have D4:=hbb32_80.ext Cy (by simp)
    refine WL.y (.bool (!(membersB p.BaseMembers))) rfl (V.not rfl rfl) ?_
    refine WL.k (a:=false) rfl rfl ?_
    refine WL.m rfl ?_
    refine WL.nil ?_
    exact ⟨Az,Ak,Au,(bool_eq (by first | assumption | grind [vM2])),D3,D4⟩
   refine WL.fy (x:=.tmp 1) (.int .i64 (p.Lead)) rfl fl29_5 Ak p3 (hbb32_80.cell rfl) ?_
   refine WL.c (Sure.yes rfl rfl rfl) rfl (C.call1 rfl cl75 rfl) (Fnc.mono (vote_id p.Lead) ?_)
   rintro _ Du ⟨rfl,Bu⟩
   have D5:Ext [Aa] As Du:=Bt.trans (Ext.any (Y:=[Aa]) Bu)
   have Cz:Ext [Aa] Ay Du:=(Ext.any (Y:=[Aa]) Bu)
   have Bv:=hbb32_80.ext Bu (by simp)
   refine WL.y (.bool (!(idB p.Lead))) rfl (V.not rfl rfl) ?_
   refine WL.ky (a:=true) rfl rfl rfl ?_
   refine WL.k (a:=false) rfl rfl ?_
   refine WL.vbn (c:=idB p.Lead) (Sure.none rfl) rfl (V.move rfl rfl) (fun D6=>?_) (fun D6=>?_)
   ·refine WL.skips [(67,some true)] [(46,some true)] (kc (some true) rfl kn) (by kernel_rfl) (fun Io hK134 Bw=>?_)
    exact ⟨((Bw 0 rfl).trans Az),((Bw 1 rfl).trans Ak),((Bw 6 rfl).trans Au),(Eq.trans (hK134 46 (some true) rfl) (bool_eq (by first | assumption | grind [vM2]))),Cz,Bv⟩
   refine WL.fy (x:=.tmp 1) (v3) rfl fl29_8 Ak p22 (Bv.cell rfl) ?_
   refine WL.c (Sure.yes rfl rfl rfl) rfl (C.call1 rfl cl76 rfl) (Fnc.mono (vote_members (Aw.ext (Ext.pre D5))) ?_)
   rintro _ G7 ⟨rfl,C0⟩
   have D7:Ext [Aa] Ay G7:=Cz.trans (Ext.any (Y:=[Aa]) C0)
   have D8:=Bv.ext C0 (by simp)
   refine WL.y (.bool (!(membersB p.BaseMembers))) rfl (V.not rfl rfl) ?_
   refine WL.k (a:=false) rfl rfl ?_
   refine WL.m rfl ?_
   refine WL.nil ?_
   exact ⟨Az,Ak,Au,(bool_eq (by first | assumption | grind [vM2])),D7,D8⟩
  refine WL.fy (x:=.tmp 1) (.int .i64 (p.Vote)) rfl fl29_3 Ak p3 (hbb32_80.cell rfl) ?_
  refine WL.c (Sure.yes rfl rfl rfl) rfl (C.call1 rfl cl75 rfl) (Fnc.mono (vote_id p.Vote) ?_)
  rintro _ Gs ⟨rfl,Cm⟩
  have Dv:Ext [Aa] As Gs:=Bt.trans (Ext.any (Y:=[Aa]) Cm)
  have Cn:Ext [Aa] Ay Gs:=(Ext.any (Y:=[Aa]) Cm)
  have Bh:=hbb32_80.ext Cm (by simp)
  refine WL.y (.bool (!(idB p.Vote))) rfl (V.not rfl rfl) ?_
  refine WL.k (a:=true) rfl rfl ?_
  refine WL.vbn (c:=idB p.Vote) (Sure.none rfl) rfl (V.move rfl rfl) (fun G8=>?_) (fun G8=>?_)
  ·refine WL.skips [(56,some true)] [(46,some true)] (kc (some true) rfl kn) (by kernel_rfl) (fun Jb hK96 Co=>?_)
   exact ⟨((Co 0 rfl).trans Az),((Co 1 rfl).trans Ak),((Co 6 rfl).trans Au),(Eq.trans (hK96 46 (some true) rfl) (bool_eq (by first | assumption | grind [vM2]))),Cn,Bh⟩
  refine WL.fy (x:=.tmp 1) (.int .i64 (p.Lead)) rfl fl29_5 Ak p3 (Bh.cell rfl) ?_
  refine WL.y (.bool (decide (p.Lead ≠ 0))) rfl (V.cmp rfl rfl rfl rfl) ?_
  refine WL.vbp (c:=p.Lead ≠ 0) (Sure.yes rfl rfl rfl) rfl (V.move rfl rfl) (fun G9=>?_) (fun G9=>?_)
  rotate_left
  ·refine WL.s (Shut.no rfl rfl rfl rfl) rfl ?_
   refine WL.s (Shut.no rfl rfl rfl rfl) rfl ?_
   refine WL.s (Shut.no rfl rfl rfl rfl) rfl ?_
   refine WL.s (Shut.no rfl rfl rfl rfl) rfl ?_
   refine WL.ky (a:=false) rfl rfl rfl ?_
   refine WL.k (a:=false) rfl rfl ?_
   refine WL.m rfl ?_
   refine WL.fy (x:=.tmp 1) (v3) rfl fl29_8 Ak p22 (Bh.cell rfl) ?_
   refine WL.c (Sure.yes rfl rfl rfl) rfl (C.call1 rfl cl76 rfl) (Fnc.mono (vote_members (Aw.ext (Ext.pre Dv))) ?_)
   rintro _ Ha ⟨rfl,C1⟩
   have D9:Ext [Aa] Ay Ha:=Cn.trans (Ext.any (Y:=[Aa]) C1)
   have Fa:=Bh.ext C1 (by simp)
   refine WL.y (.bool (!(membersB p.BaseMembers))) rfl (V.not rfl rfl) ?_
   refine WL.k (a:=false) rfl rfl ?_
   refine WL.m rfl ?_
   refine WL.nil ?_
   exact ⟨Az,Ak,Au,(bool_eq (by first | assumption | grind [vM2])),D9,Fa⟩
  refine WL.fy (x:=.tmp 1) (.int .i64 (p.Lead)) rfl fl29_5 Ak p3 (Bh.cell rfl) ?_
  refine WL.c (Sure.yes rfl rfl rfl) rfl (C.call1 rfl cl75 rfl) (Fnc.mono (vote_id p.Lead) ?_)
  rintro _ Gt ⟨rfl,Bx⟩
  have Fb:Ext [Aa] As Gt:=Dv.trans (Ext.any (Y:=[Aa]) Bx)
  have C2:Ext [Aa] Ay Gt:=Cn.trans (Ext.any (Y:=[Aa]) Bx)
  have By:=Bh.ext Bx (by simp)
  refine WL.y (.bool (!(idB p.Lead))) rfl (V.not rfl rfl) ?_
  refine WL.ky (a:=true) rfl rfl rfl ?_
  refine WL.k (a:=false) rfl rfl ?_
  refine WL.vbn (c:=idB p.Lead) (Sure.none rfl) rfl (V.move rfl rfl) (fun Fc=>?_) (fun Fc=>?_)
  ·refine WL.skips [(67,some true)] [(46,some true)] (kc (some true) rfl kn) (by kernel_rfl) (fun Ip hK108 Bz=>?_)
   exact ⟨((Bz 0 rfl).trans Az),((Bz 1 rfl).trans Ak),((Bz 6 rfl).trans Au),(Eq.trans (hK108 46 (some true) rfl) (bool_eq (by first | assumption | grind [vM2]))),C2,By⟩
  refine WL.fy (x:=.tmp 1) (v3) rfl fl29_8 Ak p22 (By.cell rfl) ?_
  refine WL.c (Sure.yes rfl rfl rfl) rfl (C.call1 rfl cl76 rfl) (Fnc.mono (vote_members (Aw.ext (Ext.pre Fb))) ?_)
  rintro _ Hb ⟨rfl,C3⟩
  have Fd:Ext [Aa] Ay Hb:=C2.trans (Ext.any (Y:=[Aa]) C3)
  have Fe:=By.ext C3 (by simp)
  refine WL.y (.bool (!(membersB p.BaseMembers))) rfl (V.not rfl rfl) ?_
  refine WL.k (a:=false) rfl rfl ?_
  refine WL.m rfl ?_
  refine WL.nil ?_
  exact ⟨Az,Ak,Au,(bool_eq (by first | assumption | grind [vM2])),Fd,Fe⟩
 rintro Cb Bk ⟨A9,Ag,Ba,Ar,C4,hbb32_149⟩
 have C5:Ext [Aa] w Bk:=Dt.trans C4
 have B0:Ext [Aa] As Bk:=Bt.trans C4
 refine WP.condn (t:=vM2 p) Ar (fun Ff=>?_) (fun Ff=>?_)
 ·refine WP.sr ?_
  refine WL.m rfl ?_
  refine WL.nil ?_
  refine WP.ret ?_
  refine resOf.c1 rfl (v:=.bool (false)) rfl ?_
  exact ⟨(bool_eq (by first | assumption | grind [vmayB,vM4,vM5])),((C5).done (geCons Ab geNil))⟩
 refine WP.seq_cut (fun Bi Bp=>Bi 0 = .agg (peerA p v1 v3 v5 v7 v9 Af) ∧ Bi 1 = .pointer (some ⟨Aa,0,none⟩) ∧ Bi 6 = .bool (!vM1 p) ∧ Bi 46 = .bool (!vM2 p) ∧ Bi 73 = .bool (!vM3 p) ∧ Ext [Aa] Bk Bp ∧ Box Bp Aa 29 (peerC p v1 v3 v5 v7 v9 Af)) ?_ ?_
 ·refine WP.region ?_
  refine WL.f (x:=.tmp 1) (.int .u64 (p.BaseTerm)) fl29_7 Ag p23 (hbb32_149.cell rfl) ?_
  refine WL.f (x:=.tmp 1) (.int .u64 (p.Term)) fl29_2 Ag p23 (hbb32_149.cell rfl) ?_
  refine WL.z (.bool (decide (p.BaseTerm > p.Term))) (V.cmp rfl rfl rfl rfl) ?_
  refine WL.vbp (c:=p.BaseTerm > p.Term) (Sure.none rfl) rfl (V.move rfl rfl) (fun Fg=>?_) (fun Fg=>?_)
  ·refine WL.skips [(79,some true)] [(73,some true)] (kc (some true) rfl kn) (by kernel_rfl) (fun Iq hK159 Bl=>?_)
   exact ⟨((Bl 0 rfl).trans A9),((Bl 1 rfl).trans Ag),((Bl 6 rfl).trans Ba),((Bl 46 rfl).trans Ar),(Eq.trans (hK159 73 (some true) rfl) (bool_eq (by first | assumption | grind [vM3]))),(Ext.refl _ _),hbb32_149⟩
  refine WL.fy (x:=.tmp 1) (.int .u64 (p.Base)) rfl fl29_6 Ag p23 (hbb32_149.cell rfl) ?_
  refine WL.y (.bool (decide (p.Base = 0))) rfl (V.cmp rfl rfl rfl rfl) ?_
  refine WL.fy (x:=.tmp 1) (.int .u64 (p.BaseTerm)) rfl fl29_7 Ag p23 (hbb32_149.cell rfl) ?_
  refine WL.y (.bool (decide (p.BaseTerm = 0))) rfl (V.cmp rfl rfl rfl rfl) ?_
  refine WL.y (.bool (!((decide (p.Base = 0)) == (decide (p.BaseTerm = 0))))) rfl (V.bcmpNe rfl u4 rfl rfl) ?_
  refine WL.k (a:=false) rfl rfl ?_
  refine WL.vbn (c:=(decide (p.Base = 0)) == (decide (p.BaseTerm = 0))) (Sure.none rfl) rfl (V.move rfl rfl) (fun Fh=>?_) (fun Fh=>?_)
  ·refine WL.skips [(88,some true)] [(73,some true)] (kc (some true) rfl kn) (by kernel_rfl) (fun Ir hK163 Bm=>?_)
   exact ⟨((Bm 0 rfl).trans A9),((Bm 1 rfl).trans Ag),((Bm 6 rfl).trans Ba),((Bm 46 rfl).trans Ar),(Eq.trans (hK163 73 (some true) rfl) (bool_eq (by first | assumption | grind [vM3]))),(Ext.refl _ _),hbb32_149⟩
  refine WL.fy (x:=.tmp 1) (.int .u64 (p.Base)) rfl fl29_6 Ag p23 (hbb32_149.cell rfl) ?_
  refine WL.y (.bool (decide (p.Base = 0))) rfl (V.cmp rfl rfl rfl rfl) ?_
  refine WL.vbp (c:=p.Base = 0) (Sure.yes rfl rfl rfl) rfl (V.move rfl rfl) (fun Fi=>?_) (fun Fi=>?_)
  rotate_left
  ·refine WL.s (Shut.no rfl rfl rfl rfl) rfl ?_
   refine WL.s (Shut.no rfl rfl rfl rfl) rfl ?_
   refine WL.s (Shut.no rfl rfl rfl rfl) rfl ?_
   refine WL.ky (a:=false) rfl rfl rfl ?_
   refine WL.k (a:=false) rfl rfl ?_
   refine WL.m rfl ?_
   refine WL.fy (x:=.tmp 1) (v5) rfl fl29_10 Ag p25 (hbb32_149.cell rfl) ?_
   refine WL.fy (x:=.tmp 1) (.int .u64 (p.BaseTerm)) rfl fl29_7 Ag p23 (hbb32_149.cell rfl) ?_
   refine WL.fy (x:=.tmp 1) (.int .u64 (p.Term)) rfl fl29_2 Ag p23 (hbb32_149.cell rfl) ?_
   refine WL.c (Sure.yes rfl rfl rfl) rfl (C.call3 rfl cl77 rfl rfl rfl) (Fnc.mono (vote_entries (A7.ext (Ext.pre B0)) p.BaseTerm p.Term (by omega)) ?_)
   rintro _ Hc ⟨rfl,C6⟩
   have Fj:Ext [Aa] Bk Hc:=(Ext.any (Y:=[Aa]) C6)
   have Fk:=hbb32_149.ext C6 (by simp)
   refine WL.y (.bool (!(entsB p.Log p.BaseTerm p.Term))) rfl (V.not rfl rfl) ?_
   refine WL.k (a:=false) rfl rfl ?_
   refine WL.m rfl ?_
   refine WL.nil ?_
   exact ⟨A9,Ag,Ba,Ar,(bool_eq (by first | assumption | grind [vM3])),Fj,Fk⟩
  refine WL.fy (x:=.tmp 1) (.string (p.Snap)) rfl fl29_9 Ag p9 (hbb32_149.cell rfl) ?_
  refine WL.y (.bool (!(seqB p.Snap (ByteArray.mk #[])))) rfl (V.scmp rfl rfl rfl rfl) ?_
  refine WL.ky (a:=true) rfl rfl rfl ?_
  refine WL.k (a:=false) rfl rfl ?_
  refine WL.vbn (c:=seqB p.Snap (ByteArray.mk #[])) (Sure.none rfl) rfl (V.move rfl rfl) (fun Fl=>?_) (fun Fl=>?_)
  ·refine WL.skips [(98,some true)] [(73,some true)] (kc (some true) rfl kn) (by kernel_rfl) (fun Is hK168 Bn=>?_)
   exact ⟨((Bn 0 rfl).trans A9),((Bn 1 rfl).trans Ag),((Bn 6 rfl).trans Ba),((Bn 46 rfl).trans Ar),(Eq.trans (hK168 73 (some true) rfl) (bool_eq (by first | assumption | grind [vM3]))),(Ext.refl _ _),hbb32_149⟩
  refine WL.fy (x:=.tmp 1) (v5) rfl fl29_10 Ag p25 (hbb32_149.cell rfl) ?_
  refine WL.fy (x:=.tmp 1) (.int .u64 (p.BaseTerm)) rfl fl29_7 Ag p23 (hbb32_149.cell rfl) ?_
  refine WL.fy (x:=.tmp 1) (.int .u64 (p.Term)) rfl fl29_2 Ag p23 (hbb32_149.cell rfl) ?_
  refine WL.c (Sure.yes rfl rfl rfl) rfl (C.call3 rfl cl77 rfl rfl rfl) (Fnc.mono (vote_entries (A7.ext (Ext.pre B0)) p.BaseTerm p.Term (by omega)) ?_)
  rintro _ Hd ⟨rfl,C7⟩
  have Fm:Ext [Aa] Bk Hd:=(Ext.any (Y:=[Aa]) C7)
  have Fo:=hbb32_149.ext C7 (by simp)
  refine WL.y (.bool (!(entsB p.Log p.BaseTerm p.Term))) rfl (V.not rfl rfl) ?_
  refine WL.k (a:=false) rfl rfl ?_
  refine WL.m rfl ?_
  refine WL.nil ?_
  exact ⟨A9,Ag,Ba,Ar,(bool_eq (by first | assumption | grind [vM3])),Fm,Fo⟩
 rintro Bi Bp ⟨Cc,Ai,Cd,Bs,Bj,C8,hbb32_184⟩
 have C9:Ext [Aa] w Bp:=C5.trans C8
 have A4:Ext [Aa] As Bp:=B0.trans C8
 refine WP.condn (t:=vM3 p) Bj (fun Fp=>?_) (fun Fp=>?_)
 ·refine WP.sr ?_
  refine WL.m rfl ?_
  refine WL.nil ?_
  refine WP.ret ?_
  refine resOf.c1 rfl (v:=.bool (false)) rfl ?_
  exact ⟨(bool_eq (by first | assumption | grind [vmayB,vM4,vM5])),((C9).done (geCons Ab geNil))⟩
 refine WP.skip ?_
 refine WP.sr ?_
 have hbase:=vM1_base (p:=p) (by assumption)
 refine WL.z (.agg (peerA p v1 v3 v5 v7 v9 Af)) (V.loadAgg (x:=.tmp 1) (cs:=(peerC p v1 v3 v5 v7 v9 Af)) rfl a29 Ai (At.box hbb32_184) rfl) ?_
 refine WL.c (Sure.none rfl) rfl (C.call1 rfl cl23 rfl) (Fnc.mono (vote_Last (p:=p) ⟨v1,v3,v5,v7,v9,Af,rfl,(Av.ext (Ext.pre A4)),(Aw.ext (Ext.pre A4)),(A7.ext (Ext.pre A4)),(Ax.ext (Ext.pre A4)),(Bf.ext (Ext.pre A4)),(Bg.ext (Ext.pre A4)),Bd⟩ (by omega)) ?_)
 rintro _ Dw ⟨rfl,B1⟩
 have Bb:Ext [Aa] w Dw:=C9.trans (Ext.any (Y:=[Aa]) B1)
 have Ae:Ext [Aa] As Dw:=A4.trans (Ext.any (Y:=[Aa]) B1)
 have Al:=hbb32_184.ext B1 (by simp)
 refine WL.m rfl ?_
 refine WL.z (.int .u64 (lastI p)) (V.extract rfl rfl rfl) ?_
 refine WL.z (.int .u64 (lastT p)) (V.extract rfl rfl rfl) ?_
 refine WL.m rfl ?_
 refine WL.m rfl ?_
 refine WL.nil ?_
 refine WP.seq ?_
 refine WP.seq ?_
 refine W.bsplit (c:=!(eqB ieq p.Members (membersOf p (lastI p)))) (fun A5=>?_) (fun A5=>?_)
 ·have hc198r:=A5
  replace A5:=bnot_true A5
  refine WP.anyMake [fun v _=>v = (.pointer (some ⟨Aa,1,none⟩):Value),fun v _=>v = (v1:Value),fun v _=>v = (.agg (peerA p v1 v3 v5 v7 v9 Af):Value),fun v _=>v = (.int .u64 (lastI p):Value),fun v w=>Sl (intR .i64) (Aa :: X) w v (membersOf p (lastI p)),fun v _=>v = (.bool (eqB ieq p.Members (membersOf p (lastI p))):Value),fun v _=>v = (.bool (!(eqB ieq p.Members (membersOf p (lastI p)))):Value),fun v _=>v = (.bool (true):Value),fun v _=>v = (undef:Value),fun v _=>v = (undef:Value),fun v _=>v = (undef:Value),fun v _=>v = (undef:Value),fun v _=>v = (undef:Value),fun v _=>v = (.bool (true):Value),fun v _=>v = (.bool (true):Value),fun v _=>v = (undef:Value),fun v _=>v = (undef:Value),fun v _=>v = (undef:Value),fun v _=>v = (undef:Value),fun v _=>v = (.bool (true):Value)] mo (by kernel_rfl) (by kernel_rfl) (by kernel_rfl) ⟨Stab.eq _,Stab.eq _,Stab.eq _,Stab.eq _,Stab.sl,Stab.eq _,Stab.eq _,Stab.eq _,Stab.eq _,Stab.eq _,Stab.eq _,Stab.eq _,Stab.eq _,Stab.eq _,Stab.eq _,Stab.eq _,Stab.eq _,Stab.eq _,Stab.eq _,Stab.eq _,trivial⟩ ⟨?_,?_,?_,?_,?_,?_,?_,?_,?_,?_,?_,?_,?_,?_,?_,?_,?_,?_,?_,?_,trivial⟩ ?_
  ·intro E' w' hw hE hp
   exact .inr ⟨(Sure.none rfl),.inl ⟨.pointer (some ⟨Aa,1,none⟩),V.fieldAddr (x:=.tmp 1) rfl fl29_1 ((hE 1 (by kernel_rfl)).trans Ai),rfl⟩⟩
  ·intro E' w' hw hE hp
   have Ce:E' 113 = (.pointer (some ⟨Aa,1,none⟩):Value):=hp 0 (by kernel_rfl)
   exact .inr ⟨(Sure.none rfl),.inl ⟨v1,V.load (x:=.tmp 113) rfl p22 Ce ((Al.ext hw (by simp)).cell rfl),rfl⟩⟩
  ·intro E' w' hw hE hp
   exact .inr ⟨(Sure.none rfl),.inl ⟨.agg (peerA p v1 v3 v5 v7 v9 Af),V.loadAgg (x:=.tmp 1) (cs:=(peerC p v1 v3 v5 v7 v9 Af)) rfl a29 ((hE 1 (by kernel_rfl)).trans Ai) ((At.box Al).ext hw (by simp)) rfl,rfl⟩⟩
  ·intro E' w' hw hE hp
   exact .inr ⟨(Sure.none rfl),.inl ⟨.int .u64 (lastI p),V.move (x:=.tmp 3) rfl ((hE 3 (by kernel_rfl)).trans rfl),rfl⟩⟩
  ·intro E' w' hw hE hp
   have Cf:E' 115 = (.agg (peerA p v1 v3 v5 v7 v9 Af):Value):=hp 2 (by kernel_rfl)
   have Cg:E' 116 = (.int .u64 (lastI p):Value):=hp 3 (by kernel_rfl)
   exact .inr ⟨(Sure.none rfl),.inr ⟨_,_,C.call2 (x:=.tmp 115) (y:=.tmp 116) rfl cl47 Cf Cg,Fnc.mono (vote_Members (p:=p) ⟨v1,v3,v5,v7,v9,Af,rfl,((Av.ext (Ext.pre Ae)).ext (Ext.any hw)),((Aw.ext (Ext.pre Ae)).ext (Ext.any hw)),((A7.ext (Ext.pre Ae)).ext (Ext.any hw)),((Ax.ext (Ext.pre Ae)).ext (Ext.any hw)),((Bf.ext (Ext.pre Ae)).ext (Ext.any hw)),((Bg.ext (Ext.pre Ae)).ext (Ext.any hw)),Bd⟩ (lastI p) (by omega) (by omega) (by assumption) (X:=(Aa :: X)) (inMono (inCons Al.lt (inMono hX Bb.size)) hw.size)) (fun v w'' ⟨_,e,hs,hx⟩=>⟨hx,by subst e; exact hs⟩)⟩⟩
  ·intro E' w' hw hE hp
   have Ch:E' 114 = (v1:Value):=hp 1 (by kernel_rfl)
   have Ci:Sl (intR .i64) (Aa :: X) w' (E' 117) (membersOf p (lastI p)):=hp 4 (by kernel_rfl)
   exact .inr ⟨(Sure.none rfl),.inr ⟨_,_,C.call2 (x:=.tmp 114) rfl cl51 Ch rfl,Fnc.mono (sl_equal_int ((Av.ext (Ext.pre Ae)).ext (Ext.any hw)) Ci) (fun v w'' h=>⟨h.2,h.1⟩)⟩⟩
  ·intro E' w' hw hE hp
   have Cj:E' 118 = (.bool (eqB ieq p.Members (membersOf p (lastI p))):Value):=hp 5 (by kernel_rfl)
   exact .inr ⟨(Sure.none rfl),.inl ⟨.bool (!(eqB ieq p.Members (membersOf p (lastI p)))),V.not (x:=.tmp 118) rfl Cj,rfl⟩⟩
  ·intro E' w' hw hE hp
   have Ck:E' 119 = (.bool (!(eqB ieq p.Members (membersOf p (lastI p)))):Value):=hp 6 (by kernel_rfl)
   exact .inr ⟨(Sure.none rfl),.inl ⟨.bool (!(eqB ieq p.Members (membersOf p (lastI p)))),V.move (x:=.tmp 119) rfl Ck,(congrArg Value.bool hc198r)⟩⟩
  ·intro E' w' hw hE hp
   have Ah:E' 120 = (.bool (true):Value):=hp 7 (by kernel_rfl)
   exact .inl ⟨(Shut.no rfl rfl Ah rfl),rfl⟩
  ·intro E' w' hw hE hp
   have Ah:E' 120 = (.bool (true):Value):=hp 7 (by kernel_rfl)
   have Da:E' 121 = (undef:Value):=hp 8 (by kernel_rfl)
   exact .inl ⟨(Shut.no rfl rfl Ah rfl),rfl⟩
  ·intro E' w' hw hE hp
   have Ah:E' 120 = (.bool (true):Value):=hp 7 (by kernel_rfl)
   exact .inl ⟨(Shut.no rfl rfl Ah rfl),rfl⟩
  ·intro E' w' hw hE hp
   have Ah:E' 120 = (.bool (true):Value):=hp 7 (by kernel_rfl)
   have B2:E' 123 = (undef:Value):=hp 10 (by kernel_rfl)
   exact .inl ⟨(Shut.no rfl rfl Ah rfl),rfl⟩
  ·intro E' w' hw hE hp
   have Ah:E' 120 = (.bool (true):Value):=hp 7 (by kernel_rfl)
   have Db:E' 122 = (undef:Value):=hp 9 (by kernel_rfl)
   have B3:E' 124 = (undef:Value):=hp 11 (by kernel_rfl)
   exact .inl ⟨(Shut.no rfl rfl Ah rfl),rfl⟩
  ·intro E' w' hw hE hp
   have Ah:E' 120 = (.bool (true):Value):=hp 7 (by kernel_rfl)
   have B4:E' 125 = (undef:Value):=hp 12 (by kernel_rfl)
   exact .inr ⟨(Sure.none rfl),.inl ⟨.bool (true),V.pick (c:=.tmp 120) (y:=.tmp 125) rfl Ah rfl,rfl⟩⟩
  ·intro E' w' hw hE hp
   have Bq:E' 126 = (.bool (true):Value):=hp 13 (by kernel_rfl)
   exact .inr ⟨(Sure.none rfl),.inl ⟨.bool (true),V.move (x:=.tmp 126) rfl Bq,rfl⟩⟩
  ·intro E' w' hw hE hp
   have Ad:E' 127 = (.bool (true):Value):=hp 14 (by kernel_rfl)
   exact .inl ⟨(Shut.no rfl rfl Ad rfl),rfl⟩
  ·intro E' w' hw hE hp
   have Ad:E' 127 = (.bool (true):Value):=hp 14 (by kernel_rfl)
   have Cp:E' 128 = (undef:Value):=hp 15 (by kernel_rfl)
   exact .inl ⟨(Shut.no rfl rfl Ad rfl),rfl⟩
  ·intro E' w' hw hE hp
   have Ad:E' 127 = (.bool (true):Value):=hp 14 (by kernel_rfl)
   exact .inl ⟨(Shut.no rfl rfl Ad rfl),rfl⟩
  ·intro E' w' hw hE hp
   have Ad:E' 127 = (.bool (true):Value):=hp 14 (by kernel_rfl)
   have Cq:E' 129 = (undef:Value):=hp 16 (by kernel_rfl)
   have Cr:E' 130 = (undef:Value):=hp 17 (by kernel_rfl)
   exact .inl ⟨(Shut.no rfl rfl Ad rfl),rfl⟩
  ·intro E' w' hw hE hp
   have Ad:E' 127 = (.bool (true):Value):=hp 14 (by kernel_rfl)
   have Cs:E' 131 = (undef:Value):=hp 18 (by kernel_rfl)
   exact .inr ⟨(Sure.none rfl),.inl ⟨.bool (true),V.pick (c:=.tmp 127) (y:=.tmp 131) rfl Ad rfl,rfl⟩⟩
  ·intro He Hf Fq Ia Fs
   have Ft:Ext [Aa] w Hf:=Bb.trans (Ext.any (Y:=[Aa]) Fq)
   have Fu:He 132 = (.bool (true):Value):=Fs 19 (of_decide_eq_true (by kernel_rfl))
   refine WP.cond_true Fu ?_
   refine WP.sr ?_
   refine WL.m rfl ?_
   refine WL.nil ?_
   refine WP.ret ?_
   refine resOf.c1 rfl (v:=.bool (false)) rfl ?_
   exact ⟨(bool_eq (by first | assumption | grind [vmayB,vM4,vM5])),((Ft).done (geCons Ab geNil))⟩
 have hc198r:=A5
 replace A5:=bnot_false A5
 refine W.bsplit (c:=decide (p.Commit < p.Base)) (fun A6=>?_) (fun A6=>?_)
 ·have hc212r:=A6
  replace A6:=of_decide_eq_true A6
  refine WP.anyMake [fun v _=>v = (.pointer (some ⟨Aa,1,none⟩):Value),fun v _=>v = (v1:Value),fun v _=>v = (.agg (peerA p v1 v3 v5 v7 v9 Af):Value),fun v _=>v = (.int .u64 (lastI p):Value),fun v w=>Sl (intR .i64) (Aa :: X) w v (membersOf p (lastI p)),fun v _=>v = (.bool (eqB ieq p.Members (membersOf p (lastI p))):Value),fun v _=>v = (.bool (!(eqB ieq p.Members (membersOf p (lastI p)))):Value),fun v _=>v = (.bool (false):Value),fun v _=>v = (.pointer (some ⟨Aa,11,none⟩):Value),fun v _=>v = (.int .u64 (p.Commit):Value),fun v _=>v = (.pointer (some ⟨Aa,6,none⟩):Value),fun v _=>v = (.int .u64 (p.Base):Value),fun v _=>v = (.bool (decide (p.Commit < p.Base)):Value),fun v _=>v = (.bool (decide (p.Commit < p.Base)):Value),fun v _=>v = (.bool (true):Value),fun v _=>v = (undef:Value),fun v _=>v = (undef:Value),fun v _=>v = (undef:Value),fun v _=>v = (undef:Value),fun v _=>v = (.bool (true):Value)] mo (by kernel_rfl) (by kernel_rfl) (by kernel_rfl) ⟨Stab.eq _,Stab.eq _,Stab.eq _,Stab.eq _,Stab.sl,Stab.eq _,Stab.eq _,Stab.eq _,Stab.eq _,Stab.eq _,Stab.eq _,Stab.eq _,Stab.eq _,Stab.eq _,Stab.eq _,Stab.eq _,Stab.eq _,Stab.eq _,Stab.eq _,Stab.eq _,trivial⟩ ⟨?_,?_,?_,?_,?_,?_,?_,?_,?_,?_,?_,?_,?_,?_,?_,?_,?_,?_,?_,?_,trivial⟩ ?_
  ·intro E' w' hw hE hp
   exact .inr ⟨(Sure.none rfl),.inl ⟨.pointer (some ⟨Aa,1,none⟩),V.fieldAddr (x:=.tmp 1) rfl fl29_1 ((hE 1 (by kernel_rfl)).trans Ai),rfl⟩⟩
  ·intro E' w' hw hE hp
   have Ce:E' 113 = (.pointer (some ⟨Aa,1,none⟩):Value):=hp 0 (by kernel_rfl)
   exact .inr ⟨(Sure.none rfl),.inl ⟨v1,V.load (x:=.tmp 113) rfl p22 Ce ((Al.ext hw (by simp)).cell rfl),rfl⟩⟩
  ·intro E' w' hw hE hp
   exact .inr ⟨(Sure.none rfl),.inl ⟨.agg (peerA p v1 v3 v5 v7 v9 Af),V.loadAgg (x:=.tmp 1) (cs:=(peerC p v1 v3 v5 v7 v9 Af)) rfl a29 ((hE 1 (by kernel_rfl)).trans Ai) ((At.box Al).ext hw (by simp)) rfl,rfl⟩⟩
  ·intro E' w' hw hE hp
   exact .inr ⟨(Sure.none rfl),.inl ⟨.int .u64 (lastI p),V.move (x:=.tmp 3) rfl ((hE 3 (by kernel_rfl)).trans rfl),rfl⟩⟩
  ·intro E' w' hw hE hp
   have Cf:E' 115 = (.agg (peerA p v1 v3 v5 v7 v9 Af):Value):=hp 2 (by kernel_rfl)
   have Cg:E' 116 = (.int .u64 (lastI p):Value):=hp 3 (by kernel_rfl)
   exact .inr ⟨(Sure.none rfl),.inr ⟨_,_,C.call2 (x:=.tmp 115) (y:=.tmp 116) rfl cl47 Cf Cg,Fnc.mono (vote_Members (p:=p) ⟨v1,v3,v5,v7,v9,Af,rfl,((Av.ext (Ext.pre Ae)).ext (Ext.any hw)),((Aw.ext (Ext.pre Ae)).ext (Ext.any hw)),((A7.ext (Ext.pre Ae)).ext (Ext.any hw)),((Ax.ext (Ext.pre Ae)).ext (Ext.any hw)),((Bf.ext (Ext.pre Ae)).ext (Ext.any hw)),((Bg.ext (Ext.pre Ae)).ext (Ext.any hw)),Bd⟩ (lastI p) (by omega) (by omega) (by assumption) (X:=(Aa :: X)) (inMono (inCons Al.lt (inMono hX Bb.size)) hw.size)) (fun v w'' ⟨_,e,hs,hx⟩=>⟨hx,by subst e; exact hs⟩)⟩⟩
  ·intro E' w' hw hE hp
   have Ch:E' 114 = (v1:Value):=hp 1 (by kernel_rfl)
   have Ci:Sl (intR .i64) (Aa :: X) w' (E' 117) (membersOf p (lastI p)):=hp 4 (by kernel_rfl)
   exact .inr ⟨(Sure.none rfl),.inr ⟨_,_,C.call2 (x:=.tmp 114) rfl cl51 Ch rfl,Fnc.mono (sl_equal_int ((Av.ext (Ext.pre Ae)).ext (Ext.any hw)) Ci) (fun v w'' h=>⟨h.2,h.1⟩)⟩⟩
  ·intro E' w' hw hE hp
   have Cj:E' 118 = (.bool (eqB ieq p.Members (membersOf p (lastI p))):Value):=hp 5 (by kernel_rfl)
   exact .inr ⟨(Sure.none rfl),.inl ⟨.bool (!(eqB ieq p.Members (membersOf p (lastI p)))),V.not (x:=.tmp 118) rfl Cj,rfl⟩⟩
  ·intro E' w' hw hE hp
   have Ck:E' 119 = (.bool (!(eqB ieq p.Members (membersOf p (lastI p)))):Value):=hp 6 (by kernel_rfl)
   exact .inr ⟨(Sure.none rfl),.inl ⟨.bool (!(eqB ieq p.Members (membersOf p (lastI p)))),V.move (x:=.tmp 119) rfl Ck,(congrArg Value.bool hc198r)⟩⟩
  ·intro E' w' hw hE hp
   have Ah:E' 120 = (.bool (false):Value):=hp 7 (by kernel_rfl)
   exact .inr ⟨(Sure.yes rfl rfl Ah),.inl ⟨.pointer (some ⟨Aa,11,none⟩),V.fieldAddr (x:=.tmp 1) rfl fl29_11 ((hE 1 (by kernel_rfl)).trans Ai),rfl⟩⟩
  ·intro E' w' hw hE hp
   have Ah:E' 120 = (.bool (false):Value):=hp 7 (by kernel_rfl)
   have Da:E' 121 = (.pointer (some ⟨Aa,11,none⟩):Value):=hp 8 (by kernel_rfl)
   exact .inr ⟨(Sure.yes rfl rfl Ah),.inl ⟨.int .u64 (p.Commit),V.load (x:=.tmp 121) rfl p23 Da ((Al.ext hw (by simp)).cell rfl),rfl⟩⟩
  ·intro E' w' hw hE hp
   have Ah:E' 120 = (.bool (false):Value):=hp 7 (by kernel_rfl)
   exact .inr ⟨(Sure.yes rfl rfl Ah),.inl ⟨.pointer (some ⟨Aa,6,none⟩),V.fieldAddr (x:=.tmp 1) rfl fl29_6 ((hE 1 (by kernel_rfl)).trans Ai),rfl⟩⟩
  ·intro E' w' hw hE hp
   have Ah:E' 120 = (.bool (false):Value):=hp 7 (by kernel_rfl)
   have B2:E' 123 = (.pointer (some ⟨Aa,6,none⟩):Value):=hp 10 (by kernel_rfl)
   exact .inr ⟨(Sure.yes rfl rfl Ah),.inl ⟨.int .u64 (p.Base),V.load (x:=.tmp 123) rfl p23 B2 ((Al.ext hw (by simp)).cell rfl),rfl⟩⟩
  ·intro E' w' hw hE hp
   have Ah:E' 120 = (.bool (false):Value):=hp 7 (by kernel_rfl)
   have Db:E' 122 = (.int .u64 (p.Commit):Value):=hp 9 (by kernel_rfl)
   have B3:E' 124 = (.int .u64 (p.Base):Value):=hp 11 (by kernel_rfl)
   exact .inr ⟨(Sure.yes rfl rfl Ah),.inl ⟨.bool (decide (p.Commit < p.Base)),V.cmp (x:=.tmp 122) (y:=.tmp 124) rfl Db B3 rfl,rfl⟩⟩
  ·intro E' w' hw hE hp
   have Ah:E' 120 = (.bool (false):Value):=hp 7 (by kernel_rfl)
   have B4:E' 125 = (.bool (decide (p.Commit < p.Base)):Value):=hp 12 (by kernel_rfl)
   exact .inr ⟨(Sure.none rfl),.inl ⟨.bool (decide (p.Commit < p.Base)),V.pick (c:=.tmp 120) (y:=.tmp 125) rfl Ah B4,rfl⟩⟩
  ·intro E' w' hw hE hp
   have Bq:E' 126 = (.bool (decide (p.Commit < p.Base)):Value):=hp 13 (by kernel_rfl)
   exact .inr ⟨(Sure.none rfl),.inl ⟨.bool (decide (p.Commit < p.Base)),V.move (x:=.tmp 126) rfl Bq,(congrArg Value.bool hc212r)⟩⟩
  ·intro E' w' hw hE hp
   have Ad:E' 127 = (.bool (true):Value):=hp 14 (by kernel_rfl)
   exact .inl ⟨(Shut.no rfl rfl Ad rfl),rfl⟩
  ·intro E' w' hw hE hp
   have Ad:E' 127 = (.bool (true):Value):=hp 14 (by kernel_rfl)
   have Cp:E' 128 = (undef:Value):=hp 15 (by kernel_rfl)
   exact .inl ⟨(Shut.no rfl rfl Ad rfl),rfl⟩
  ·intro E' w' hw hE hp
   have Ad:E' 127 = (.bool (true):Value):=hp 14 (by kernel_rfl)
   exact .inl ⟨(Shut.no rfl rfl Ad rfl),rfl⟩
  ·intro E' w' hw hE hp
   have Ad:E' 127 = (.bool (true):Value):=hp 14 (by kernel_rfl)
   have Cq:E' 129 = (undef:Value):=hp 16 (by kernel_rfl)
   have Cr:E' 130 = (undef:Value):=hp 17 (by kernel_rfl)
   exact .inl ⟨(Shut.no rfl rfl Ad rfl),rfl⟩
  ·intro E' w' hw hE hp
   have Ad:E' 127 = (.bool (true):Value):=hp 14 (by kernel_rfl)
   have Cs:E' 131 = (undef:Value):=hp 18 (by kernel_rfl)
   exact .inr ⟨(Sure.none rfl),.inl ⟨.bool (true),V.pick (c:=.tmp 127) (y:=.tmp 131) rfl Ad rfl,rfl⟩⟩
  ·intro Hg Hh Fv Ib Fw
   have Fx:Ext [Aa] w Hh:=Bb.trans (Ext.any (Y:=[Aa]) Fv)
   have Fy:Hg 132 = (.bool (true):Value):=Fw 19 (of_decide_eq_true (by kernel_rfl))
   refine WP.cond_true Fy ?_
   refine WP.sr ?_
   refine WL.m rfl ?_
   refine WL.nil ?_
   refine WP.ret ?_
   refine resOf.c1 rfl (v:=.bool (false)) rfl ?_
   exact ⟨(bool_eq (by first | assumption | grind [vmayB,vM4,vM5])),((Fx).done (geCons Ab geNil))⟩
 have hc212r:=A6
 replace A6:=of_decide_eq_false A6
 refine WP.anyMake [fun v _=>v = (.pointer (some ⟨Aa,1,none⟩):Value),fun v _=>v = (v1:Value),fun v _=>v = (.agg (peerA p v1 v3 v5 v7 v9 Af):Value),fun v _=>v = (.int .u64 (lastI p):Value),fun v w=>Sl (intR .i64) (Aa :: X) w v (membersOf p (lastI p)),fun v _=>v = (.bool (eqB ieq p.Members (membersOf p (lastI p))):Value),fun v _=>v = (.bool (!(eqB ieq p.Members (membersOf p (lastI p)))):Value),fun v _=>v = (.bool (false):Value),fun v _=>v = (.pointer (some ⟨Aa,11,none⟩):Value),fun v _=>v = (.int .u64 (p.Commit):Value),fun v _=>v = (.pointer (some ⟨Aa,6,none⟩):Value),fun v _=>v = (.int .u64 (p.Base):Value),fun v _=>v = (.bool (decide (p.Commit < p.Base)):Value),fun v _=>v = (.bool (decide (p.Commit < p.Base)):Value),fun v _=>v = (.bool (false):Value),fun v _=>v = (.pointer (some ⟨Aa,11,none⟩):Value),fun v _=>v = (.int .u64 (p.Commit):Value),fun v _=>v = (.int .u64 (lastI p):Value),fun v _=>v = (.bool (decide (p.Commit > (lastI p))):Value),fun v _=>v = (.bool (decide (p.Commit > (lastI p))):Value)] mo (by kernel_rfl) (by kernel_rfl) (by kernel_rfl) ⟨Stab.eq _,Stab.eq _,Stab.eq _,Stab.eq _,Stab.sl,Stab.eq _,Stab.eq _,Stab.eq _,Stab.eq _,Stab.eq _,Stab.eq _,Stab.eq _,Stab.eq _,Stab.eq _,Stab.eq _,Stab.eq _,Stab.eq _,Stab.eq _,Stab.eq _,Stab.eq _,trivial⟩ ⟨?_,?_,?_,?_,?_,?_,?_,?_,?_,?_,?_,?_,?_,?_,?_,?_,?_,?_,?_,?_,trivial⟩ ?_
 ·intro E' w' hw hE hp
  exact .inr ⟨(Sure.none rfl),.inl ⟨.pointer (some ⟨Aa,1,none⟩),V.fieldAddr (x:=.tmp 1) rfl fl29_1 ((hE 1 (by kernel_rfl)).trans Ai),rfl⟩⟩
 ·intro E' w' hw hE hp
  have Ce:E' 113 = (.pointer (some ⟨Aa,1,none⟩):Value):=hp 0 (by kernel_rfl)
  exact .inr ⟨(Sure.none rfl),.inl ⟨v1,V.load (x:=.tmp 113) rfl p22 Ce ((Al.ext hw (by simp)).cell rfl),rfl⟩⟩
 ·intro E' w' hw hE hp
  exact .inr ⟨(Sure.none rfl),.inl ⟨.agg (peerA p v1 v3 v5 v7 v9 Af),V.loadAgg (x:=.tmp 1) (cs:=(peerC p v1 v3 v5 v7 v9 Af)) rfl a29 ((hE 1 (by kernel_rfl)).trans Ai) ((At.box Al).ext hw (by simp)) rfl,rfl⟩⟩
 ·intro E' w' hw hE hp
  exact .inr ⟨(Sure.none rfl),.inl ⟨.int .u64 (lastI p),V.move (x:=.tmp 3) rfl ((hE 3 (by kernel_rfl)).trans rfl),rfl⟩⟩
 ·intro E' w' hw hE hp
  have Cf:E' 115 = (.agg (peerA p v1 v3 v5 v7 v9 Af):Value):=hp 2 (by kernel_rfl)
  have Cg:E' 116 = (.int .u64 (lastI p):Value):=hp 3 (by kernel_rfl)
  exact .inr ⟨(Sure.none rfl),.inr ⟨_,_,C.call2 (x:=.tmp 115) (y:=.tmp 116) rfl cl47 Cf Cg,Fnc.mono (vote_Members (p:=p) ⟨v1,v3,v5,v7,v9,Af,rfl,((Av.ext (Ext.pre Ae)).ext (Ext.any hw)),((Aw.ext (Ext.pre Ae)).ext (Ext.any hw)),((A7.ext (Ext.pre Ae)).ext (Ext.any hw)),((Ax.ext (Ext.pre Ae)).ext (Ext.any hw)),((Bf.ext (Ext.pre Ae)).ext (Ext.any hw)),((Bg.ext (Ext.pre Ae)).ext (Ext.any hw)),Bd⟩ (lastI p) (by omega) (by omega) (by assumption) (X:=(Aa :: X)) (inMono (inCons Al.lt (inMono hX Bb.size)) hw.size)) (fun v w'' ⟨_,e,hs,hx⟩=>⟨hx,by subst e; exact hs⟩)⟩⟩
 ·intro E' w' hw hE hp
  have Ch:E' 114 = (v1:Value):=hp 1 (by kernel_rfl)
  have Ci:Sl (intR .i64) (Aa :: X) w' (E' 117) (membersOf p (lastI p)):=hp 4 (by kernel_rfl)
  exact .inr ⟨(Sure.none rfl),.inr ⟨_,_,C.call2 (x:=.tmp 114) rfl cl51 Ch rfl,Fnc.mono (sl_equal_int ((Av.ext (Ext.pre Ae)).ext (Ext.any hw)) Ci) (fun v w'' h=>⟨h.2,h.1⟩)⟩⟩
 ·intro E' w' hw hE hp
  have Cj:E' 118 = (.bool (eqB ieq p.Members (membersOf p (lastI p))):Value):=hp 5 (by kernel_rfl)
  exact .inr ⟨(Sure.none rfl),.inl ⟨.bool (!(eqB ieq p.Members (membersOf p (lastI p)))),V.not (x:=.tmp 118) rfl Cj,rfl⟩⟩
 ·intro E' w' hw hE hp
  have Ck:E' 119 = (.bool (!(eqB ieq p.Members (membersOf p (lastI p)))):Value):=hp 6 (by kernel_rfl)
  exact .inr ⟨(Sure.none rfl),.inl ⟨.bool (!(eqB ieq p.Members (membersOf p (lastI p)))),V.move (x:=.tmp 119) rfl Ck,(congrArg Value.bool hc198r)⟩⟩
 ·intro E' w' hw hE hp
  have Ah:E' 120 = (.bool (false):Value):=hp 7 (by kernel_rfl)
  exact .inr ⟨(Sure.yes rfl rfl Ah),.inl ⟨.pointer (some ⟨Aa,11,none⟩),V.fieldAddr (x:=.tmp 1) rfl fl29_11 ((hE 1 (by kernel_rfl)).trans Ai),rfl⟩⟩
 ·intro E' w' hw hE hp
  have Ah:E' 120 = (.bool (false):Value):=hp 7 (by kernel_rfl)
  have Da:E' 121 = (.pointer (some ⟨Aa,11,none⟩):Value):=hp 8 (by kernel_rfl)
  exact .inr ⟨(Sure.yes rfl rfl Ah),.inl ⟨.int .u64 (p.Commit),V.load (x:=.tmp 121) rfl p23 Da ((Al.ext hw (by simp)).cell rfl),rfl⟩⟩
 ·intro E' w' hw hE hp
  have Ah:E' 120 = (.bool (false):Value):=hp 7 (by kernel_rfl)
  exact .inr ⟨(Sure.yes rfl rfl Ah),.inl ⟨.pointer (some ⟨Aa,6,none⟩),V.fieldAddr (x:=.tmp 1) rfl fl29_6 ((hE 1 (by kernel_rfl)).trans Ai),rfl⟩⟩
 ·intro E' w' hw hE hp
  have Ah:E' 120 = (.bool (false):Value):=hp 7 (by kernel_rfl)
  have B2:E' 123 = (.pointer (some ⟨Aa,6,none⟩):Value):=hp 10 (by kernel_rfl)
  exact .inr ⟨(Sure.yes rfl rfl Ah),.inl ⟨.int .u64 (p.Base),V.load (x:=.tmp 123) rfl p23 B2 ((Al.ext hw (by simp)).cell rfl),rfl⟩⟩
 ·intro E' w' hw hE hp
  have Ah:E' 120 = (.bool (false):Value):=hp 7 (by kernel_rfl)
  have Db:E' 122 = (.int .u64 (p.Commit):Value):=hp 9 (by kernel_rfl)
  have B3:E' 124 = (.int .u64 (p.Base):Value):=hp 11 (by kernel_rfl)
  exact .inr ⟨(Sure.yes rfl rfl Ah),.inl ⟨.bool (decide (p.Commit < p.Base)),V.cmp (x:=.tmp 122) (y:=.tmp 124) rfl Db B3 rfl,rfl⟩⟩
 ·intro E' w' hw hE hp
  have Ah:E' 120 = (.bool (false):Value):=hp 7 (by kernel_rfl)
  have B4:E' 125 = (.bool (decide (p.Commit < p.Base)):Value):=hp 12 (by kernel_rfl)
  exact .inr ⟨(Sure.none rfl),.inl ⟨.bool (decide (p.Commit < p.Base)),V.pick (c:=.tmp 120) (y:=.tmp 125) rfl Ah B4,rfl⟩⟩
 ·intro E' w' hw hE hp
  have Bq:E' 126 = (.bool (decide (p.Commit < p.Base)):Value):=hp 13 (by kernel_rfl)
  exact .inr ⟨(Sure.none rfl),.inl ⟨.bool (decide (p.Commit < p.Base)),V.move (x:=.tmp 126) rfl Bq,(congrArg Value.bool hc212r)⟩⟩
 ·intro E' w' hw hE hp
  have Ad:E' 127 = (.bool (false):Value):=hp 14 (by kernel_rfl)
  exact .inr ⟨(Sure.yes rfl rfl Ad),.inl ⟨.pointer (some ⟨Aa,11,none⟩),V.fieldAddr (x:=.tmp 1) rfl fl29_11 ((hE 1 (by kernel_rfl)).trans Ai),rfl⟩⟩
 ·intro E' w' hw hE hp
  have Ad:E' 127 = (.bool (false):Value):=hp 14 (by kernel_rfl)
  have Cp:E' 128 = (.pointer (some ⟨Aa,11,none⟩):Value):=hp 15 (by kernel_rfl)
  exact .inr ⟨(Sure.yes rfl rfl Ad),.inl ⟨.int .u64 (p.Commit),V.load (x:=.tmp 128) rfl p23 Cp ((Al.ext hw (by simp)).cell rfl),rfl⟩⟩
 ·intro E' w' hw hE hp
  have Ad:E' 127 = (.bool (false):Value):=hp 14 (by kernel_rfl)
  exact .inr ⟨(Sure.yes rfl rfl Ad),.inl ⟨.int .u64 (lastI p),V.move (x:=.tmp 3) rfl ((hE 3 (by kernel_rfl)).trans rfl),rfl⟩⟩
 ·intro E' w' hw hE hp
  have Ad:E' 127 = (.bool (false):Value):=hp 14 (by kernel_rfl)
  have Cq:E' 129 = (.int .u64 (p.Commit):Value):=hp 16 (by kernel_rfl)
  have Cr:E' 130 = (.int .u64 (lastI p):Value):=hp 17 (by kernel_rfl)
  exact .inr ⟨(Sure.yes rfl rfl Ad),.inl ⟨.bool (decide (p.Commit > (lastI p))),V.cmp (x:=.tmp 129) (y:=.tmp 130) rfl Cq Cr rfl,rfl⟩⟩
 ·intro E' w' hw hE hp
  have Ad:E' 127 = (.bool (false):Value):=hp 14 (by kernel_rfl)
  have Cs:E' 131 = (.bool (decide (p.Commit > (lastI p))):Value):=hp 18 (by kernel_rfl)
  exact .inr ⟨(Sure.none rfl),.inl ⟨.bool (decide (p.Commit > (lastI p))),V.pick (c:=.tmp 127) (y:=.tmp 131) rfl Ad Cs,rfl⟩⟩
 ·intro Hi Ct B5 Ac Fz
  have Dc:Ext [Aa] w Ct:=Bb.trans (Ext.any (Y:=[Aa]) B5)
  have F0:Ext [Aa] As Ct:=Ae.trans (Ext.any (Y:=[Aa]) B5)
  have Bo:=Al.ext B5 (by simp)
  have B6:Hi 132 = (.bool (decide (p.Commit > (lastI p))):Value):=Fz 19 (of_decide_eq_true (by kernel_rfl))
  refine WP.condp (t:=p.Commit > (lastI p)) B6 (fun F1=>?_) (fun F1=>?_)
  ·refine WP.sr ?_
   refine WL.m rfl ?_
   refine WL.nil ?_
   refine WP.ret ?_
   refine resOf.c1 rfl (v:=.bool (false)) rfl ?_
   exact ⟨(bool_eq (by first | assumption | grind [vmayB,vM4,vM5])),((Dc).done (geCons Ab geNil))⟩
  refine WP.skip ?_
  refine WP.seq_cut (fun Ap Br=>Ap 0 = .agg (peerA p v1 v3 v5 v7 v9 Af) ∧ Ap 1 = .pointer (some ⟨Aa,0,none⟩) ∧ Ap 3 = .int .u64 (lastI p) ∧ Ap 4 = .int .u64 (lastT p) ∧ Ap 6 = .bool (!vM1 p) ∧ Ap 46 = .bool (!vM2 p) ∧ Ap 73 = .bool (!vM3 p) ∧ Ap 108 = .tuple #[.int .u64 (lastI p),.int .u64 (lastT p)] ∧ Ap 109 = .agg (peerA p v1 v3 v5 v7 v9 Af) ∧ Ap 110 = .tuple #[.int .u64 (lastI p),.int .u64 (lastT p)] ∧ Ap 111 = .int .u64 (lastI p) ∧ Ap 112 = .int .u64 (lastT p) ∧ Ap 132 = .bool (decide (p.Commit > (lastI p))) ∧ Ap 5 = .bool (vNone p) ∧ Ext [Aa] Ct Br ∧ Box Br Aa 29 (peerC p v1 v3 v5 v7 v9 Af)) ?_ ?_
  ·refine WP.region ?_
   refine WL.f (x:=.tmp 1) (v9) fl29_15 ((Ac 1 (by kernel_rfl)).trans Ai) p26 (Bo.cell rfl) ?_
   obtain ⟨a243,c244,F2⟩:=Bf.shape
   refine WL.z (.int .i64 (((p.Follows).length:Int))) (V.lenSlice rfl rfl u26 (Eq.trans (b:=v9) rfl F2)) ?_
   refine WL.z (.bool (decide (((p.Follows).length:Int) = 0))) (V.cmp rfl rfl rfl rfl) ?_
   refine WL.vbp (c:=((p.Follows).length:Int) = 0) (Sure.none rfl) rfl (V.move rfl rfl) (fun F3=>?_) (fun F3=>?_)
   ·refine WL.fy (x:=.tmp 1) (Af) rfl fl29_17 ((Ac 1 (by kernel_rfl)).trans Ai) p27 (Bo.cell rfl) ?_
    obtain ⟨a247,c248,F4⟩:=Bg.shape
    refine WL.y (.int .i64 (((p.Reads).length:Int))) rfl (V.lenSlice rfl rfl u27 (Eq.trans (b:=Af) rfl F4)) ?_
    refine WL.y (.bool (decide (((p.Reads).length:Int) = 0))) rfl (V.cmp rfl rfl rfl rfl) ?_
    refine WL.k (a:=true) rfl rfl ?_
    refine WL.m rfl ?_
    refine WL.nil ?_
    exact ⟨((Ac 0 (by kernel_rfl)).trans Cc),((Ac 1 (by kernel_rfl)).trans Ai),((Ac 3 (by kernel_rfl)).trans rfl),((Ac 4 (by kernel_rfl)).trans rfl),((Ac 6 (by kernel_rfl)).trans Cd),((Ac 46 (by kernel_rfl)).trans Bs),((Ac 73 (by kernel_rfl)).trans Bj),((Ac 108 (by kernel_rfl)).trans rfl),((Ac 109 (by kernel_rfl)).trans rfl),((Ac 110 (by kernel_rfl)).trans rfl),((Ac 111 (by kernel_rfl)).trans rfl),((Ac 112 (by kernel_rfl)).trans rfl),B6,(bool_eq (by first | assumption | grind [vNone])),(Ext.refl _ _),Bo⟩
   refine WL.skips [(137,some false)] [(5,some false)] (kc (some false) rfl kn) (by kernel_rfl) (fun It hK251 Am=>?_)
   exact ⟨((Am 0 rfl).trans ((Ac 0 (by kernel_rfl)).trans Cc)),((Am 1 rfl).trans ((Ac 1 (by kernel_rfl)).trans Ai)),((Am 3 rfl).trans ((Ac 3 (by kernel_rfl)).trans rfl)),((Am 4 rfl).trans ((Ac 4 (by kernel_rfl)).trans rfl)),((Am 6 rfl).trans ((Ac 6 (by kernel_rfl)).trans Cd)),((Am 46 rfl).trans ((Ac 46 (by kernel_rfl)).trans Bs)),((Am 73 rfl).trans ((Ac 73 (by kernel_rfl)).trans Bj)),((Am 108 rfl).trans ((Ac 108 (by kernel_rfl)).trans rfl)),((Am 109 rfl).trans ((Ac 109 (by kernel_rfl)).trans rfl)),((Am 110 rfl).trans ((Ac 110 (by kernel_rfl)).trans rfl)),((Am 111 rfl).trans ((Ac 111 (by kernel_rfl)).trans rfl)),((Am 112 rfl).trans ((Ac 112 (by kernel_rfl)).trans rfl)),((Am 132 rfl).trans B6),(Eq.trans (hK251 5 (some false) rfl) (bool_eq (by first | assumption | grind [vNone]))),(Ext.refl _ _),Bo⟩
  rintro Ap Br ⟨Hx,Aj,Dx,Hy,Hz,Hr,Hs,Hj,Hk,Hl,Hm,Hn,Ho,Cl,Dd,hbb32_253⟩
  have An:Ext [Aa] w Br:=Dc.trans Dd
  have Aq:Ext [Aa] As Br:=F0.trans Dd
  refine WP.seq ?_
  refine WP.sr ?_
  refine WL.f (x:=.tmp 1) (.int .u8 (p.Role)) fl29_4 Aj p24 (hbb32_253.cell rfl) ?_
  refine WL.nil ?_
  refine WP.block ?_
  refine WP.sr ?_
  refine WL.z (.bool (decide (p.Role = 0))) (V.cmp rfl rfl rfl rfl) ?_
  refine WL.m rfl ?_
  refine WL.nil ?_
  refine WP.condp (t:=p.Role = 0) rfl (fun F5=>?_) (fun F5=>?_)
  ·refine WP.sr ?_
   refine WL.m rfl ?_
   refine WL.vb (c:=vNone p) (Sure.none rfl) rfl (V.move (x:=.tmp 147) rfl Cl) (fun F6=>?_) (fun F6=>?_)
   rotate_left
   ·refine WL.skips [(148,some false)] [(2,some false)] (kc (some false) rfl kn) (by kernel_rfl) (fun Iu hK267 Ic=>?_)
    refine WP.ret ?_
    refine resOf.c1 rfl (v:=.bool (false)) (hK267 2 (some false) rfl) ?_
    exact ⟨(bool_eq (by first | assumption | grind [vmayB,vM4,vM5])),((An).done (geCons Ab geNil))⟩
   refine WL.fy (x:=.tmp 1) (v7) rfl fl29_14 Aj p22 (hbb32_253.cell rfl) ?_
   obtain ⟨a263,c264,F7⟩:=Ax.shape
   refine WL.y (.int .i64 (((p.Votes).length:Int))) rfl (V.lenSlice rfl rfl u22 (Eq.trans (b:=v7) rfl F7)) ?_
   refine WL.y (.bool (decide (((p.Votes).length:Int) = 0))) rfl (V.cmp rfl rfl rfl rfl) ?_
   refine WL.k (a:=true) rfl rfl ?_
   refine WL.m rfl ?_
   refine WL.nil ?_
   refine WP.ret ?_
   refine resOf.c1 rfl (v:=.bool (decide (((p.Votes).length:Int) = 0))) rfl ?_
   exact ⟨(bool_eq (by first | assumption | grind [vmayB,vM4,vM5])),((An).done (geCons Ab geNil))⟩
  refine WP.sr ?_
  refine WL.z (.bool (decide (p.Role = 1))) (V.cmp rfl rfl rfl rfl) ?_
  refine WL.m rfl ?_
  refine WL.nil ?_
  refine WP.condp (t:=p.Role = 1) rfl (fun F8=>?_) (fun F8=>?_)
  ·refine WP.sr ?_
   refine WL.m rfl ?_
   refine WL.vb (c:=vNone p) (Sure.none rfl) rfl (V.move (x:=.tmp 156) rfl Cl) (fun F9=>?_) (fun F9=>?_)
   rotate_left
   ·refine WL.skips [(157,some false)] [(2,some false)] (kc (some false) rfl kn) (by kernel_rfl) (fun Iv hK324 Ie=>?_)
    refine WP.ret ?_
    refine resOf.c1 rfl (v:=.bool (false)) (hK324 2 (some false) rfl) ?_
    exact ⟨(bool_eq (by first | assumption | grind [vmayB,vM4,vM5])),((An).done (geCons Ab geNil))⟩
   refine WL.fy (x:=.tmp 1) (.int .i64 (p.Lead)) rfl fl29_5 Aj p3 (hbb32_253.cell rfl) ?_
   refine WL.y (.bool (decide (p.Lead = 0))) rfl (V.cmp rfl rfl rfl rfl) ?_
   refine WL.k (a:=true) rfl rfl ?_
   refine WL.vbp (c:=p.Lead = 0) (Sure.none rfl) rfl (V.move rfl rfl) (fun Ga=>?_) (fun Ga=>?_)
   rotate_left
   ·refine WL.skips [(162,some false)] [(2,some false)] (kc (some false) rfl kn) (by kernel_rfl) (fun Iw hK321 If=>?_)
    refine WP.ret ?_
    refine resOf.c1 rfl (v:=.bool (false)) (hK321 2 (some false) rfl) ?_
    exact ⟨(bool_eq (by first | assumption | grind [vmayB,vM4,vM5])),((An).done (geCons Ab geNil))⟩
   refine WL.fy (x:=.tmp 1) (.int .i64 (p.Vote)) rfl fl29_3 Aj p3 (hbb32_253.cell rfl) ?_
   refine WL.fy (x:=.tmp 1) (.int .i64 (p.Id)) rfl fl29_0 Aj p3 (hbb32_253.cell rfl) ?_
   refine WL.y (.bool (decide (p.Vote = p.Id))) rfl (V.cmp rfl rfl rfl rfl) ?_
   refine WL.k (a:=true) rfl rfl ?_
   refine WL.vbp (c:=p.Vote = p.Id) (Sure.none rfl) rfl (V.move rfl rfl) (fun Gb=>?_) (fun Gb=>?_)
   rotate_left
   ·refine WL.skips [(169,some false)] [(2,some false)] (kc (some false) rfl kn) (by kernel_rfl) (fun Ix hK318 Ig=>?_)
    refine WP.ret ?_
    refine resOf.c1 rfl (v:=.bool (false)) (hK318 2 (some false) rfl) ?_
    exact ⟨(bool_eq (by first | assumption | grind [vmayB,vM4,vM5])),((An).done (geCons Ab geNil))⟩
   refine WL.fy (x:=.tmp 1) (v7) rfl fl29_14 Aj p22 (hbb32_253.cell rfl) ?_
   refine WL.c (Sure.yes rfl rfl rfl) rfl (C.call1 rfl cl78 rfl) (Fnc.mono (vote_rising (Ax.ext (Ext.pre Aq))) ?_)
   rintro _ Dy ⟨rfl,B7⟩
   have De:Ext [Aa] w Dy:=An.trans (Ext.any (Y:=[Aa]) B7)
   have Df:Ext [Aa] As Dy:=Aq.trans (Ext.any (Y:=[Aa]) B7)
   have B8:=hbb32_253.ext B7 (by simp)
   refine WL.k (a:=true) rfl rfl ?_
   refine WL.vb (c:=idsB p.Votes) (Sure.none rfl) rfl (V.move rfl rfl) (fun Gc=>?_) (fun Gc=>?_)
   rotate_left
   ·refine WL.skips [(174,some false)] [(2,some false)] (kc (some false) rfl kn) (by kernel_rfl) (fun Iy hK315 Ih=>?_)
    refine WP.ret ?_
    refine resOf.c1 rfl (v:=.bool (false)) (hK315 2 (some false) rfl) ?_
    exact ⟨(bool_eq (by first | assumption | grind [vmayB,vM4,vM5])),((De).done (geCons Ab geNil))⟩
   refine WL.fy (x:=.tmp 1) (v7) rfl fl29_14 Aj p22 (B8.cell rfl) ?_
   refine WL.fy (x:=.tmp 1) (.int .i64 (p.Id)) rfl fl29_0 Aj p3 (B8.cell rfl) ?_
   refine WL.c (Sure.yes rfl rfl rfl) rfl (C.call2 rfl cl79 rfl rfl) (Fnc.mono (sl_Contains (Ax.ext (Ext.pre Df)) p.Id) ?_)
   rintro _ Dz ⟨rfl,B9⟩
   have Dg:Ext [Aa] w Dz:=De.trans (Ext.any (Y:=[Aa]) B9)
   have Gd:Ext [Aa] As Dz:=Df.trans (Ext.any (Y:=[Aa]) B9)
   have Dh:=B8.ext B9 (by simp)
   refine WL.k (a:=true) rfl rfl ?_
   refine WL.vb (c:=hasB p.Votes p.Id) (Sure.none rfl) rfl (V.move rfl rfl) (fun Ge=>?_) (fun Ge=>?_)
   rotate_left
   ·refine WL.skips [(181,some false)] [(2,some false)] (kc (some false) rfl kn) (by kernel_rfl) (fun Iz hK312 Ii=>?_)
    refine WP.ret ?_
    refine resOf.c1 rfl (v:=.bool (false)) (hK312 2 (some false) rfl) ?_
    exact ⟨(bool_eq (by first | assumption | grind [vmayB,vM4,vM5])),((Dg).done (geCons Ab geNil))⟩
   refine WL.fy (x:=.tmp 1) (v1) rfl fl29_1 Aj p22 (Dh.cell rfl) ?_
   refine WL.fy (x:=.tmp 1) (.int .i64 (p.Id)) rfl fl29_0 Aj p3 (Dh.cell rfl) ?_
   refine WL.c (Sure.yes rfl rfl rfl) rfl (C.call2 rfl cl79 rfl rfl) (Fnc.mono (sl_Contains (Av.ext (Ext.pre Gd)) p.Id) ?_)
   rintro _ Hp ⟨rfl,Gf⟩
   have Gg:Ext [Aa] w Hp:=Dg.trans (Ext.any (Y:=[Aa]) Gf)
   refine WL.k (a:=true) rfl rfl ?_
   refine WL.m rfl ?_
   refine WL.nil ?_
   refine WP.ret ?_
   refine resOf.c1 rfl (v:=.bool (hasB p.Members p.Id)) rfl ?_
   exact ⟨(bool_eq (by first | assumption | grind [vmayB,vM4,vM5])),((Gg).done (geCons Ab geNil))⟩
  refine WP.sr ?_
  refine WL.z (.bool (decide (p.Role = 2))) (V.cmp rfl rfl rfl rfl) ?_
  refine WL.m rfl ?_
  refine WL.nil ?_
  refine WP.condp (t:=p.Role = 2) rfl (fun Gh=>?_) (fun Gh=>?_)
  rotate_left
  ·refine WP.skip ?_
   refine WP.sr ?_
   refine WL.m rfl ?_
   refine WL.nil ?_
   refine WP.ret ?_
   refine resOf.c1 rfl (v:=.bool (false)) rfl ?_
   exact ⟨(bool_eq (by first | assumption | grind [vmayB,vM4,vM5])),((An).done (geCons Ab geNil))⟩
  refine WP.sr ?_
  refine WL.f (x:=.tmp 1) (v7) fl29_14 Aj p22 (hbb32_253.cell rfl) ?_
  obtain ⟨a327,c328,Gi⟩:=Ax.shape
  refine WL.z (.int .i64 (((p.Votes).length:Int))) (V.lenSlice rfl rfl u22 (Eq.trans (b:=v7) rfl Gi)) ?_
  refine WL.z (.bool (decide (((p.Votes).length:Int) = 0))) (V.cmp rfl rfl rfl rfl) ?_
  refine WL.vbp (c:=((p.Votes).length:Int) = 0) (Sure.none rfl) rfl (V.move rfl rfl) (fun Gj=>?_) (fun Gj=>?_)
  rotate_left
  ·refine WL.skips [(194,some false)] [(2,some false)] (kc (some false) rfl kn) (by kernel_rfl) (fun I0 hK367 Ij=>?_)
   refine WP.ret ?_
   refine resOf.c1 rfl (v:=.bool (false)) (hK367 2 (some false) rfl) ?_
   exact ⟨(bool_eq (by first | assumption | grind [vmayB,vM4,vM5])),((An).done (geCons Ab geNil))⟩
  refine WL.fy (x:=.tmp 1) (.int .i64 (p.Lead)) rfl fl29_5 Aj p3 (hbb32_253.cell rfl) ?_
  refine WL.fy (x:=.tmp 1) (.int .i64 (p.Id)) rfl fl29_0 Aj p3 (hbb32_253.cell rfl) ?_
  refine WL.y (.bool (decide (p.Lead = p.Id))) rfl (V.cmp rfl rfl rfl rfl) ?_
  refine WL.k (a:=true) rfl rfl ?_
  refine WL.vbp (c:=p.Lead = p.Id) (Sure.none rfl) rfl (V.move rfl rfl) (fun Gk=>?_) (fun Gk=>?_)
  rotate_left
  ·refine WL.skips [(201,some false)] [(2,some false)] (kc (some false) rfl kn) (by kernel_rfl) (fun I1 hK364 Ik=>?_)
   refine WP.ret ?_
   refine resOf.c1 rfl (v:=.bool (false)) (hK364 2 (some false) rfl) ?_
   exact ⟨(bool_eq (by first | assumption | grind [vmayB,vM4,vM5])),((An).done (geCons Ab geNil))⟩
  refine WL.fy (x:=.tmp 1) (.int .u64 (p.Term)) rfl fl29_2 Aj p23 (hbb32_253.cell rfl) ?_
  refine WL.y (.bool (decide (p.Term > 0))) rfl (V.cmp rfl rfl rfl rfl) ?_
  refine WL.k (a:=true) rfl rfl ?_
  refine WL.vbp (c:=p.Term > 0) (Sure.none rfl) rfl (V.move rfl rfl) (fun Gl=>?_) (fun Gl=>?_)
  rotate_left
  ·refine WL.skips [(206,some false)] [(2,some false)] (kc (some false) rfl kn) (by kernel_rfl) (fun I2 hK361 Il=>?_)
   refine WP.ret ?_
   refine resOf.c1 rfl (v:=.bool (false)) (hK361 2 (some false) rfl) ?_
   exact ⟨(bool_eq (by first | assumption | grind [vmayB,vM4,vM5])),((An).done (geCons Ab geNil))⟩
  refine WL.y (.agg (peerA p v1 v3 v5 v7 v9 Af)) rfl (V.loadAgg (x:=.tmp 1) (cs:=(peerC p v1 v3 v5 v7 v9 Af)) rfl a29 Aj (At.box hbb32_253) rfl) ?_
  refine WL.my rfl rfl ?_
  refine WL.c (Sure.yes rfl rfl rfl) rfl (C.call2 (y:=.tmp 208) rfl cl80 rfl Dx) (Fnc.mono (vote_follows (p:=p) ⟨v1,v3,v5,v7,v9,Af,rfl,(Av.ext (Ext.pre Aq)),(Aw.ext (Ext.pre Aq)),(A7.ext (Ext.pre Aq)),(Ax.ext (Ext.pre Aq)),(Bf.ext (Ext.pre Aq)),(Bg.ext (Ext.pre Aq)),Bd⟩ (lastI p) (inCons hbb32_253.lt (inMono hX An.size)) (by omega) (by assumption)) ?_)
  rintro _ D0 ⟨rfl,Ca⟩
  have Di:Ext [Aa] w D0:=An.trans (Ext.any (Y:=[Aa]) Ca)
  have Bc:Ext [Aa] As D0:=Aq.trans (Ext.any (Y:=[Aa]) Ca)
  have Gm:=hbb32_253.ext Ca (by simp)
  refine WL.k (a:=true) rfl rfl ?_
  refine WL.vb (c:=vfollowsB p (lastI p)) (Sure.none rfl) rfl (V.move rfl rfl) (fun Gn=>?_) (fun Gn=>?_)
  rotate_left
  ·refine WL.skips [(211,some false)] [(2,some false)] (kc (some false) rfl kn) (by kernel_rfl) (fun I3 hK358 Im=>?_)
   refine WP.ret ?_
   refine resOf.c1 rfl (v:=.bool (false)) (hK358 2 (some false) rfl) ?_
   exact ⟨(bool_eq (by first | assumption | grind [vmayB,vM4,vM5])),((Di).done (geCons Ab geNil))⟩
  refine WL.y (.agg (peerA p v1 v3 v5 v7 v9 Af)) rfl (V.loadAgg (x:=.tmp 1) (cs:=(peerC p v1 v3 v5 v7 v9 Af)) rfl a29 Aj (At.box Gm) rfl) ?_
  refine WL.c (Sure.yes rfl rfl rfl) rfl (C.call1 rfl cl81 rfl) (Fnc.mono (vote_reads (p:=p) ⟨v1,v3,v5,v7,v9,Af,rfl,(Av.ext (Ext.pre Bc)),(Aw.ext (Ext.pre Bc)),(A7.ext (Ext.pre Bc)),(Ax.ext (Ext.pre Bc)),(Bf.ext (Ext.pre Bc)),(Bg.ext (Ext.pre Bc)),Bd⟩) ?_)
  rintro _ Hq ⟨rfl,Gp⟩
  have Gq:Ext [Aa] w Hq:=Di.trans (Ext.any (Y:=[Aa]) Gp)
  refine WL.k (a:=true) rfl rfl ?_
  refine WL.m rfl ?_
  refine WL.nil ?_
  refine WP.ret ?_
  refine resOf.c1 rfl (v:=.bool (readsB p)) rfl ?_
  exact ⟨(bool_eq (by first | assumption | grind [vmayB,vM4,vM5])),((Gq).done (geCons Ab geNil))⟩
theorem vote_May {w:World} {X:List Nat} {p:PeerD} {c_p:List Value} (h_p:peerR.rd X w c_p p) (hX:∀ x ∈ X,x < w.heap.size) (hF:Fits p):Fnc Try.prog 18 #[.agg c_p.toArray] w (fun v w'=>v = .int .i64 (if vmayB p then 0 else 2) ∧ Ext [] w w'):=by
 obtain ⟨v1,v3,v5,v7,v9,Ad,rfl,As,Au,Av,Aw,Ai,Aj,Ae⟩:=h_p
 obtain ⟨Ay,Az,A4,A5,A6,A7,A8,A9,Ba,Bb,Bc,Bd⟩:=(show PeerD.InR p from Ae)
 refine Fnc.of_WP (n:=6) Try.func18 rfl Try.ntmps18 (by simp) ?_
 intro E hE
 have h0:E 0 = .agg (peerA p v1 v3 v5 v7 v9 Ad):=hE 0 (by simp)
 clear hE
 refine WP.sr ?_
 refine WL.box (x:=.tmp 0) (cs:=(peerC p v1 v3 v5 v7 v9 Ad)) (Sure.none rfl) rfl rfl h0 rfl (fun Aa Bf Ab Be Af=>?_)
 have Ak:=(Sl.new (b:=Aa) nz1 As (by omega)).ext (Ext.any Ab)
 have Al:=(Sl.new (b:=Aa) nz1 Au (by omega)).ext (Ext.any Ab)
 have Am:=(Sl.new (b:=Aa) nz4 Av (by omega)).ext (Ext.any Ab)
 have An:=(Sl.new (b:=Aa) nz1 Aw (by omega)).ext (Ext.any Ab)
 have Ao:=(Sl.new (b:=Aa) nz3 Ai (by omega)).ext (Ext.any Ab)
 have Ap:=(Sl.new (b:=Aa) nz3 Aj (by omega)).ext (Ext.any Ab)
 have Ag:Ext [Aa] _ _:=(Ext.refl _ _).trans (Ext.any Ab)
 have Ac:w.heap.size ≤ Aa:=by have:=Nat.le_refl w.heap.size; omega
 refine WL.m rfl ?_
 refine WL.nil ?_
 refine WP.seq ?_
 refine WP.sr ?_
 refine WL.z (.agg (peerA p v1 v3 v5 v7 v9 Ad)) (V.loadAgg (cs:=(peerC p v1 v3 v5 v7 v9 Ad)) rfl a29 rfl (At.box Af) rfl) ?_
 refine WL.c (Sure.none rfl) rfl (C.call1 rfl cl50 rfl) (Fnc.mono (vote_may (p:=p) ⟨v1,v3,v5,v7,v9,Ad,rfl,Ak,Al,Am,An,Ao,Ap,Ae⟩ (inCons Af.lt (inMono hX Ag.size)) (by assumption)) ?_)
 rintro _ Ax ⟨rfl,Aq⟩
 have Ah:Ext [Aa] w Ax:=Ag.trans (Ext.any (Y:=[Aa]) Aq)
 refine WL.z (.bool (!(vmayB p))) (V.not rfl rfl) ?_
 refine WL.nil ?_
 refine WP.condn (t:=vmayB p) rfl (fun Ar=>?_) (fun Ar=>?_)
 ·refine WP.sr ?_
  refine WL.m rfl ?_
  refine WL.nil ?_
  refine WP.ret ?_
  refine resOf.c1 rfl (v:=.int .i64 (2)) rfl ?_
  exact ⟨(int_eq (by first | (rw [show vmayB p = false from (by first | assumption | grind [vmayB])]; rfl) | (rw [show vmayB p = true from (by first | assumption | grind [vmayB])]; rfl))),((Ah).done (geCons Ac geNil))⟩
 refine WP.skip ?_
 refine WP.sr ?_
 refine WL.m rfl ?_
 refine WL.nil ?_
 refine WP.ret ?_
 refine resOf.c1 rfl (v:=.int .i64 (0)) rfl ?_
 exact ⟨(int_eq (by first | (rw [show vmayB p = false from (by first | assumption | grind [vmayB])]; rfl) | (rw [show vmayB p = true from (by first | assumption | grind [vmayB])]; rfl))),((Ah).done (geCons Ac geNil))⟩
theorem idsB_nil {xs:List Int} (h:(xs.length:Int) = 0):idsB xs = true:=by
 have:xs.length = 0:=by omega
 rw [idsB,this]; rfl
theorem lastT_le {p:PeerD} (h:entsB p.Log p.BaseTerm p.Term = true) (hb:p.BaseTerm ≤ p.Term):lastT p ≤ p.Term:=by
 unfold lastT
 split
 ·exact hb
 ·rename_i hl
  have:=allB_iff.1 h (p.Log.length - 1) (by omega)
  simp only [entOk,Bool.and_eq_true,decide_eq_true_eq] at this
  omega
theorem vmay_eq (p:PeerD) (hp:p.InR):vmayB p = refMayB p:=by
 have hrole:0 ≤ p.Role:=(inK_u8 hp.2.2.2.1).1
 rw [Bool.eq_iff_iff]
 simp only [vmayB,refMayB,vM1,vM2,vM3,vM4,vM5,vNone,refM1,refM2,refM3,refM4,refM5,membersB,vfollows_eq,Bool.and_eq_true,Bool.or_eq_true,Bool.not_eq_true',decide_eq_false_iff_not,decide_eq_true_eq]
 by_cases h0:p.Role = 0
 ·have h1:¬ p.Role = 1:=by omega
  have h2:¬ p.Role = 2:=by omega
  simp only [h0,h1,h2,if_true,if_false]
  have hi:=@idsB_nil p.Votes
  constructor
  ·grind
  ·grind
 by_cases h1:p.Role = 1
 ·have h2:¬ p.Role = 2:=by omega
  simp only [h0,h1,h2,if_true,if_false]
  constructor
  ·grind
  ·grind
 by_cases h2:p.Role = 2
 ·simp only [h0,h1,h2,if_true,if_false]
  have hi:=@idsB_nil p.Votes
  have hl:=@lastT_le p
  constructor
  ·grind
  ·grind
 ·simp only [h0,h1,h2,if_false]
  constructor
  ·grind
  ·have:¬ p.Role ≤ 2:=by omega
   grind
end Go.Proofs.Ytiaicihpocoeiaa.T
