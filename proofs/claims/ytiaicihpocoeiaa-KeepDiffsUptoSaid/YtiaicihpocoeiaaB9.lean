/- My texts, cut to what this claim needs and merged. -/
import Derived.Test.YtiaicihpocoeiaaB8
namespace Go.Proofs.Ytiaicihpocoeiaa.X1
open T W Go.RowKit
set_option maxRecDepth 100000
set_option maxHeartbeats 400000
theorem cl28:Callable Try.prog 28:=⟨Try.f28,Try.func28,by kernel_rfl,rfl⟩
theorem cl31:Callable Try.prog 31:=⟨Try.f31,Try.func31,by kernel_rfl,rfl⟩
theorem cl32:Callable Try.prog 32:=⟨Try.f32,Try.func32,by kernel_rfl,rfl⟩
theorem cl33:Callable Try.prog 33:=⟨Try.f33,Try.func33,by kernel_rfl,rfl⟩
theorem cl35:Callable Try.prog 35:=⟨Try.f35,Try.func35,by kernel_rfl,rfl⟩
theorem cl36:Callable Try.prog 36:=⟨Try.f36,Try.func36,by kernel_rfl,rfl⟩
def hardL2 (p q:PeerD):List ByteArray:=if p.Term = q.Term ∧ p.Vote = q.Vote then [] else [hardB q]
def cutL2 (p q:PeerD):List ByteArray:=hardL2 p q ++ if lastI p ≥ diffF p q then [cutB (diffF p q)] else []
def sameBase (p q:PeerD):Prop:=p.Base = q.Base ∧ p.BaseTerm = q.BaseTerm ∧ seqB (numbersB p.BaseMembers) (numbersB q.BaseMembers) = true ∧ seqB p.Snap q.Snap = true
instance (p q:PeerD):Decidable (sameBase p q):=by unfold sameBase; exact inferInstance
def baseL2 (p q:PeerD):List ByteArray:=cutL2 p q ++ if sameBase p q then [] else [baseB q]
def diffL2 (p q:PeerD):List ByteArray:=baseL2 p q ++ laidL q (diffF p q)
theorem hardL2_le (p q:PeerD):(hardL2 p q).length ≤ 1:=by rw [hardL2]; split <;> simp
theorem cutL2_le (p q:PeerD):(cutL2 p q).length ≤ 2:=by
 have:=hardL2_le p q
 rw [cutL2,List.length_append]; split <;> simp <;> omega
theorem baseL2_le (p q:PeerD):(baseL2 p q).length ≤ 3:=by
 have:=cutL2_le p q
 rw [baseL2,List.length_append]; split <;> simp <;> omega
theorem same_no1 {p q:PeerD} (h:p.Base ≠ q.Base):¬ sameBase p q:=fun k=>h k.1
theorem same_no2 {p q:PeerD} (h:p.BaseTerm ≠ q.BaseTerm):¬ sameBase p q:=fun k=>h k.2.1
theorem same_no3 {p q:PeerD} (h:seqB (numbersB p.BaseMembers) (numbersB q.BaseMembers) = false):¬ sameBase p q:=fun k=>by rw [k.2.2.1] at h; cases h
theorem same_no4 {p q:PeerD} (h:seqB p.Snap q.Snap = false):¬ sameBase p q:=fun k=>by rw [k.2.2.2] at h; cases h
theorem entL_is {p:PeerD} {i:Int} (h:entIs p i = true):entL p i = [entAt p i]:=by rw [entL,if_pos h]
theorem ents_same {p q:PeerD} {i:Int} (h1:entIs p i = true) (h2:entIs q i = true):eqB sameEntB (entL p i) (entL q i) = sameEntB (entAt p i) (entAt q i):=by
 rw [entL_is h1,entL_is h2]; simp [eqB,allB]
theorem stepOk_no4 {p q:PeerD} {k:Nat} (h1:entIs p (q.Base + 1 + (k:Int)) = true) (h2:entIs q (q.Base + 1 + (k:Int)) = true) (h:eqB sameEntB (entL p (q.Base + 1 + (k:Int))) (entL q (q.Base + 1 + (k:Int))) = false):stepOk p q k = false:=stepOk_no3 (by rw [← ents_same h1 h2]; exact h)
theorem stepOk_yes2 {p q:PeerD} {k:Nat} (h1:entIs p (q.Base + 1 + (k:Int)) = true) (h2:entIs q (q.Base + 1 + (k:Int)) = true) (h:eqB sameEntB (entL p (q.Base + 1 + (k:Int))) (entL q (q.Base + 1 + (k:Int))) = true):stepOk p q k = true:=stepOk_yes h1 h2 (by rw [← ents_same h1 h2]; exact h)
theorem diffF_gt (p q:PeerD):q.Base < diffF p q:=by rw [diffF]; omega
theorem laid_end {p q:PeerD} {k:Nat} (h:k = 0 ∨ diffF p q + (k:Int) ≤ lastI q + 1) (h2:¬ diffF p q + (k:Int) ≤ lastI q):laidN q (diffF p q) = k:=by
 have h3:=diffF_gt p q
 have hl:lastI q = q.Base + (q.Log.length:Int):=rfl
 rw [laidN,if_pos h3]
 rcases h with h | h
 ·subst h; omega
 ·omega
theorem ent_here {p q:PeerD} {k:Nat} (h2:diffF p q + (k:Int) ≤ lastI q):entIs q (diffF p q + (k:Int)) = true:=by
 have h3:=diffF_gt p q
 exact entIs_last (by omega) (by omega)
theorem ent_get {q:PeerD} {i:Int} (h:entIs q i = true):(entL q i).getD 0 default = entAt q i:=by rw [entL_is h]; rfl
theorem laid_step {q:PeerD} {f:Int} {k:Nat} {b:List ByteArray} (h:entIs q (f + (k:Int)) = true):(b ++ laidK q f k) ++ [(ByteArray.mk #[69] ++ numB (f + (k:Int))) ++ entB ((entL q (f + (k:Int))).getD 0 default)] = b ++ laidK q f (k + 1):=by
 rw [ent_get h,laidK,recB,List.append_assoc]
set_option maxHeartbeats 16000000 in
theorem ref12_Diff {w:World} {X:List Nat} {p:PeerD} {c_p:List Value} (h_p:peerR.rd X w c_p p) {q:PeerD} {c_q:List Value} (h_q:peerR.rd X w c_q q) (hsp:KSz p) (hsq:KSz q) (hX:∀ x ∈ X,x < w.heap.size):Fnc Try.prog 9 #[.agg c_p.toArray,.agg c_q.toArray] w (fun v w'=>∃ (u0:Value),v = .tuple #[u0,.int .i64 (if okD p q = true then (0:Int) else 2)] ∧ Sl strR X w' u0 (if okD p q = true then diffL2 p q else []) ∧ Ext [] w w'):=by
 obtain ⟨v1,v3,v5,v7,v9,As,rfl,Ud,S5,S6,Ue,S7,S8,D7⟩:=h_p
 obtain ⟨Ui,Uj,Uk,Ul,Um,Un,Uo,Up,Uq,Ur,Us,Ut⟩:=(show PeerD.InR p from D7)
 have Uu:=S5.le'
 have Uv:=S6.le'
 obtain ⟨Ak,Ah,Al,Am,An,Ao,rfl,S9,Mm,Mn,Ta,Tb,Tc,Bn⟩:=h_q
 obtain ⟨Uw,Ux,Jb,Uy,Uz,Jc,U0,U1,U2,U3,U4,U5⟩:=(show PeerD.InR q from Bn)
 have Jb:=inK_i64 Jb
 have Jc:=inK_u64 Jc
 have U6:=Mm.le'
 have U7:=Mn.le'
 have hFp:=hsp.fits
 have hFq:=hsq.fits
 have hlp:=hsp.log
 have hlq:=hsq.log
 refine Fnc.of_WP (n:=193) Try.func9 rfl Try.ntmps9 (by simp) ?_
 intro E hE
 have h0:E 0 = .agg (peerA p v1 v3 v5 v7 v9 As):=hE 0 (by simp)
 have h1:E 1 = .agg (peerA q Ak Ah Al Am An Ao):=hE 1 (by simp)
 clear hE
 refine WP.sr ?_
 refine WL.box (x:=.tmp 0) (cs:=(peerC p v1 v3 v5 v7 v9 As)) (Sure.none rfl) rfl rfl h0 rfl (fun Ab Y0 Bc Vv Mo=>?_)
 have Td:=(Sl.new (b:=Ab) nz1 Ud (by omega)).ext (Ext.any Bc)
 have Te:=(Sl.new (b:=Ab) nz1 S5 (by omega)).ext (Ext.any Bc)
 have Tf:=(Sl.new (b:=Ab) nz4 S6 (by omega)).ext (Ext.any Bc)
 have Tg:=(Sl.new (b:=Ab) nz1 Ue (by omega)).ext (Ext.any Bc)
 have Th:=(Sl.new (b:=Ab) nz3 S7 (by omega)).ext (Ext.any Bc)
 have Ti:=(Sl.new (b:=Ab) nz3 S8 (by omega)).ext (Ext.any Bc)
 have Tj:=(Sl.new (b:=Ab) nz1 S9 (by omega)).ext (Ext.any Bc)
 have Tk:=(Sl.new (b:=Ab) nz1 Mm (by omega)).ext (Ext.any Bc)
 have Tl:=(Sl.new (b:=Ab) nz4 Mn (by omega)).ext (Ext.any Bc)
 have Tm:=(Sl.new (b:=Ab) nz1 Ta (by omega)).ext (Ext.any Bc)
 have Tn:=(Sl.new (b:=Ab) nz3 Tb (by omega)).ext (Ext.any Bc)
 have Tp:=(Sl.new (b:=Ab) nz3 Tc (by omega)).ext (Ext.any Bc)
 have Mp:Ext [Ab] _ _:=(Ext.refl _ _).trans (Ext.any Bc)
 have A8:w.heap.size ≤ Ab:=by have:=Nat.le_refl w.heap.size; omega
 refine WL.box (x:=.tmp 1) (cs:=(peerC q Ak Ah Al Am An Ao)) (Sure.none rfl) rfl rfl h1 rfl (fun Aa Aq Ba Vw Mq=>?_)
 have Ni:Ab < Aa:=by have:=Mo.lt; omega
 have I6:=Mo.ext Ba (by simp)
 have G7:=(Sl.new (b:=Aa) nz1 Td (by omega)).ext (Ext.any Ba)
 have Fo:=(Sl.new (b:=Aa) nz1 Te (by omega)).ext (Ext.any Ba)
 have G8:=(Sl.new (b:=Aa) nz4 Tf (by omega)).ext (Ext.any Ba)
 have G9:=(Sl.new (b:=Aa) nz1 Tg (by omega)).ext (Ext.any Ba)
 have Ha:=(Sl.new (b:=Aa) nz3 Th (by omega)).ext (Ext.any Ba)
 have Hb:=(Sl.new (b:=Aa) nz3 Ti (by omega)).ext (Ext.any Ba)
 have Db:=(Sl.new (b:=Aa) nz1 Tj (by omega)).ext (Ext.any Ba)
 have Bx:=(Sl.new (b:=Aa) nz1 Tk (by omega)).ext (Ext.any Ba)
 have Dc:=(Sl.new (b:=Aa) nz4 Tl (by omega)).ext (Ext.any Ba)
 have Dd:=(Sl.new (b:=Aa) nz1 Tm (by omega)).ext (Ext.any Ba)
 have De:=(Sl.new (b:=Aa) nz3 Tn (by omega)).ext (Ext.any Ba)
 have Df:=(Sl.new (b:=Aa) nz3 Tp (by omega)).ext (Ext.any Ba)
 have Mr:Ext [Aa,Ab] _ _:=(Ext.cons Mp).trans (Ext.any Ba)
 have A9:w.heap.size ≤ Aa:=by have:=Mp.size; omega
 refine WL.m rfl ?_
 refine WL.m rfl ?_
 refine WL.nil ?_
 refine WP.seq ?_
 refine WP.sr ?_
 refine WL.z (.agg (peerA p v1 v3 v5 v7 v9 As)) (V.loadAgg (cs:=(peerC p v1 v3 v5 v7 v9 As)) rfl a29 rfl (At.box I6) rfl) ?_
 refine WL.c (Sure.none rfl) rfl (C.call1 rfl cl28 rfl) (Fnc.mono (ref_May (p:=p) ⟨v1,v3,v5,v7,v9,As,rfl,G7,Fo,G8,G9,Ha,Hb,D7⟩ (inCons Mq.lt (inCons I6.lt (inMono hX Mr.size))) (by assumption)) ?_)
 rintro _ Ag ⟨rfl,Fz⟩
 have Hc:Ext [Aa,Ab] w Ag:=Mr.trans (Ext.any (Y:=[Aa,Ab]) Fz)
 have Cb:Ext [Aa,Ab] Aq Ag:=(Ext.any (Y:=[Aa,Ab]) Fz)
 have Jd:=I6.ext Fz (by simp)
 have Hd:=Mq.ext Fz (by simp)
 refine WL.z (.bool (!(refMayB p))) (V.not rfl rfl) ?_
 refine WL.vbn (c:=refMayB p) (Sure.none rfl) rfl (V.move rfl rfl) (fun He=>?_) (fun He=>?_)
 ·refine WL.skips [(24,some true)] [(49,some true)] (kc (some true) rfl kn) (by kernel_rfl) (fun Vx hK108 U8=>?_)
  refine WP.cond_true (hK108 49 (some true) rfl) ?_
  refine WP.sr ?_
  have hdno:okD p q = false:=okD_no1 ((vmay_eq _ D7).trans He)
  refine WL.m rfl ?_
  refine WL.m rfl ?_
  refine WL.nil ?_
  refine WP.ret ?_
  refine resOf.c2 rfl (v:=.slice none 0 0) rfl (v':=.int .i64 (2)) rfl ?_
  exact ⟨.slice none 0 0,(tup2 rfl (int_eq (by first | (rw [if_pos hdok]; done) | (rw [if_neg (by rw [hdno]; decide)]; done)))),(castSl (by first | (rw [if_pos hdok,diffL2,laidL,hlN]; done) | (rw [if_neg (by rw [hdno]; decide)]; done)) (Sl.base (O:=[Aa,Ab]) Sl.nil)),((Hc).done (geCons A9 (geCons A8 geNil)))⟩
 refine WL.y (.agg (peerA q Ak Ah Al Am An Ao)) rfl (V.loadAgg (cs:=(peerC q Ak Ah Al Am An Ao)) rfl a29 rfl (At.box Hd) rfl) ?_
 refine WL.c (Sure.yes rfl rfl rfl) rfl (C.call1 rfl cl28 rfl) (Fnc.mono (ref_May (p:=q) ⟨Ak,Ah,Al,Am,An,Ao,rfl,(Db.ext (Ext.pre Cb)),(Bx.ext (Ext.pre Cb)),(Dc.ext (Ext.pre Cb)),(Dd.ext (Ext.pre Cb)),(De.ext (Ext.pre Cb)),(Df.ext (Ext.pre Cb)),Bn⟩ (inCons Hd.lt (inCons Jd.lt (inMono hX Hc.size))) (by assumption)) ?_)
 rintro _ Ad ⟨rfl,Fa⟩
 have Bp:Ext [Aa,Ab] w Ad:=Hc.trans (Ext.any (Y:=[Aa,Ab]) Fa)
 have Je:Ext [Aa,Ab] Aq Ad:=Cb.trans (Ext.any (Y:=[Aa,Ab]) Fa)
 have Jf:Ext [Aa,Ab] Ag Ad:=(Ext.any (Y:=[Aa,Ab]) Fa)
 have Bq:=Jd.ext Fa (by simp)
 have Br:=Hd.ext Fa (by simp)
 refine WL.y (.bool (!(refMayB q))) rfl (V.not rfl rfl) ?_
 refine WL.k (a:=false) rfl rfl ?_
 refine WL.vbn (c:=refMayB q) (Sure.none rfl) rfl (V.move rfl rfl) (fun Hf=>?_) (fun Hf=>?_)
 ·refine WL.skips [(29,some true)] [(49,some true)] (kc (some true) rfl kn) (by kernel_rfl) (fun Vy hK119 U9=>?_)
  refine WP.cond_true (hK119 49 (some true) rfl) ?_
  refine WP.sr ?_
  have hdno:okD p q = false:=okD_no2 ((vmay_eq _ Bn).trans Hf)
  refine WL.m rfl ?_
  refine WL.m rfl ?_
  refine WL.nil ?_
  refine WP.ret ?_
  refine resOf.c2 rfl (v:=.slice none 0 0) rfl (v':=.int .i64 (2)) rfl ?_
  exact ⟨.slice none 0 0,(tup2 rfl (int_eq (by first | (rw [if_pos hdok]; done) | (rw [if_neg (by rw [hdno]; decide)]; done)))),(castSl (by first | (rw [if_pos hdok,diffL2,laidL,hlN]; done) | (rw [if_neg (by rw [hdno]; decide)]; done)) (Sl.base (O:=[Aa,Ab]) Sl.nil)),((Bp).done (geCons A9 (geCons A8 geNil)))⟩
 refine WL.fy (.int .i64 (p.Id)) rfl fl29_0 rfl p3 (Bq.cell rfl) ?_
 refine WL.fy (.int .i64 (q.Id)) rfl fl29_0 rfl p3 (Br.cell rfl) ?_
 refine WL.y (.bool (decide (p.Id ≠ q.Id))) rfl (V.cmp rfl rfl rfl rfl) ?_
 refine WL.k (a:=false) rfl rfl ?_
 refine WL.vbp (c:=p.Id ≠ q.Id) (Sure.none rfl) rfl (V.move rfl rfl) (fun Hg=>?_) (fun Hg=>?_)
 ·refine WL.skips [(36,some true)] [(49,some true)] (kc (some true) rfl kn) (by kernel_rfl) (fun Vz hK123 Va=>?_)
  refine WP.cond_true (hK123 49 (some true) rfl) ?_
  refine WP.sr ?_
  have hdno:okD p q = false:=okD_no3 Hg
  refine WL.m rfl ?_
  refine WL.m rfl ?_
  refine WL.nil ?_
  refine WP.ret ?_
  refine resOf.c2 rfl (v:=.slice none 0 0) rfl (v':=.int .i64 (2)) rfl ?_
  exact ⟨.slice none 0 0,(tup2 rfl (int_eq (by first | (rw [if_pos hdok]; done) | (rw [if_neg (by rw [hdno]; decide)]; done)))),(castSl (by first | (rw [if_pos hdok,diffL2,laidL,hlN]; done) | (rw [if_neg (by rw [hdno]; decide)]; done)) (Sl.base (O:=[Aa,Ab]) Sl.nil)),((Bp).done (geCons A9 (geCons A8 geNil)))⟩
 refine WL.fy (.int .u64 (q.Base)) rfl fl29_6 rfl p23 (Br.cell rfl) ?_
 refine WL.fy (.int .u64 (p.Base)) rfl fl29_6 rfl p23 (Bq.cell rfl) ?_
 refine WL.y (.bool (decide (q.Base < p.Base))) rfl (V.cmp rfl rfl rfl rfl) ?_
 refine WL.k (a:=false) rfl rfl ?_
 refine WL.vbp (c:=q.Base < p.Base) (Sure.none rfl) rfl (V.move rfl rfl) (fun Hh=>?_) (fun Hh=>?_)
 ·refine WL.skips [(43,some true)] [(49,some true)] (kc (some true) rfl kn) (by kernel_rfl) (fun V0 hK127 Vb=>?_)
  refine WP.cond_true (hK127 49 (some true) rfl) ?_
  refine WP.sr ?_
  have hdno:okD p q = false:=okD_no4 Hh
  refine WL.m rfl ?_
  refine WL.m rfl ?_
  refine WL.nil ?_
  refine WP.ret ?_
  refine resOf.c2 rfl (v:=.slice none 0 0) rfl (v':=.int .i64 (2)) rfl ?_
  exact ⟨.slice none 0 0,(tup2 rfl (int_eq (by first | (rw [if_pos hdok]; done) | (rw [if_neg (by rw [hdno]; decide)]; done)))),(castSl (by first | (rw [if_pos hdok,diffL2,laidL,hlN]; done) | (rw [if_neg (by rw [hdno]; decide)]; done)) (Sl.base (O:=[Aa,Ab]) Sl.nil)),((Bp).done (geCons A9 (geCons A8 geNil)))⟩
 refine WL.fy (.int .u64 (q.Term)) rfl fl29_2 rfl p23 (Br.cell rfl) ?_
 refine WL.fy (.int .u64 (p.Term)) rfl fl29_2 rfl p23 (Bq.cell rfl) ?_
 refine WL.y (.bool (decide (q.Term < p.Term))) rfl (V.cmp rfl rfl rfl rfl) ?_
 refine WL.k (a:=false) rfl rfl ?_
 refine WL.nil ?_
 refine WP.condp (t:=q.Term < p.Term) rfl (fun Hi=>?_) (fun Hi=>?_)
 ·refine WP.sr ?_
  have hdno:okD p q = false:=okD_no5 Hi
  refine WL.m rfl ?_
  refine WL.m rfl ?_
  refine WL.nil ?_
  refine WP.ret ?_
  refine resOf.c2 rfl (v:=.slice none 0 0) rfl (v':=.int .i64 (2)) rfl ?_
  exact ⟨.slice none 0 0,(tup2 rfl (int_eq (by first | (rw [if_pos hdok]; done) | (rw [if_neg (by rw [hdno]; decide)]; done)))),(castSl (by first | (rw [if_pos hdok,diffL2,laidL,hlN]; done) | (rw [if_neg (by rw [hdno]; decide)]; done)) (Sl.base (O:=[Aa,Ab]) Sl.nil)),((Bp).done (geCons A9 (geCons A8 geNil)))⟩
 refine WP.skip ?_
 refine WP.sr ?_
 have hmp:vmayB p = true:=(vmay_eq p D7).trans He
 have hmq:vmayB q = true:=(vmay_eq q Bn).trans Hf
 have hdok:okD p q = true:=okD_yes hmp hmq Hg Hh Hi
 have hokp:=kok_of hmp
 have hokq:=kok_of hmq
 have hbp:=hokp.base
 have hbq:=hokq.base
 have hnl:=diffN_le p q
 have hll1:=hardL2_le p q
 have hll2:=cutL2_le p q
 have hll3:=baseL2_le p q
 have hdf:diffF p q = q.Base + 1 + (diffN p q:Int):=rfl
 have hzf:=numB_size (diffF p q)
 have V1:=mk1_size 67
 have hzb:=baseB_size hokq hsq
 have hbmp:=hokp.bm.1
 have hbmq:=hokq.bm.1
 have hnnp:∀ j,j < p.BaseMembers.length → 0 ≤ p.BaseMembers.getD j 0:=fun j hj=>(hokp.bm.2 j hj).1
 have hnnq:∀ j,j < q.BaseMembers.length → 0 ≤ q.BaseMembers.getD j 0:=fun j hj=>(hokq.bm.2 j hj).1
 have hvq:=hokq.vote
 have hzt:=numB_size q.Term
 have hzv:=numB_size q.Vote
 have V2:=mk1_size 72
 have hLp:lastI p = p.Base + (p.Log.length:Int):=rfl
 have hLq:lastI q = q.Base + (q.Log.length:Int):=rfl
 refine WL.m rfl ?_
 refine WL.nil ?_
 have By:w.heap.size ≤ Ad.heap.size:=Bp.size
 have Bz:Aq.heap.size ≤ Ad.heap.size:=Je.size
 have B0:Ag.heap.size ≤ Ad.heap.size:=Jf.size
 refine WP.seq_cut (fun Dg Cc=>Dg 0 = .agg (peerA p v1 v3 v5 v7 v9 As) ∧ Dg 1 = .agg (peerA q Ak Ah Al Am An Ao) ∧ Dg 2 = .pointer (some ⟨Ab,0,none⟩) ∧ Dg 3 = .pointer (some ⟨Aa,0,none⟩) ∧ Dg 49 = .bool (decide (q.Term < p.Term)) ∧ Ext [Aa,Ab] Ad Cc ∧ Box Cc Ab 29 (peerC p v1 v3 v5 v7 v9 As) ∧ Box Cc Aa 29 (peerC q Ak Ah Al Am An Ao) ∧ (Owns strR 9 Ad.heap.size (Aa :: (Ab :: X)) Cc (Dg 6) (hardL2 p q) ∧ (∀ g,(Dg 6).ownBlock = some g → g ∉ (Aa :: (Ab :: X))))) ?_ ?_
 ·refine WP.sr ?_
  refine WL.f (.int .u64 (p.Term)) fl29_2 rfl p23 (Bq.cell rfl) ?_
  refine WL.f (.int .u64 (q.Term)) fl29_2 rfl p23 (Br.cell rfl) ?_
  refine WL.z (.bool (decide (p.Term ≠ q.Term))) (V.cmp rfl rfl rfl rfl) ?_
  refine WL.vbp (c:=p.Term ≠ q.Term) (Sure.none rfl) rfl (V.move rfl rfl) (fun Nj=>?_) (fun Nj=>?_)
  ·refine WL.skips [(55,some true)] [(61,some true)] (kc (some true) rfl kn) (by kernel_rfl) (fun V3 hK137 Bs=>?_)
   refine WP.cond_true (hK137 61 (some true) rfl) ?_
   refine WP.anyT [3,8,10,11,12] [⟨0,.slice none 0 0,fun w=>True,true,false⟩,⟨1,.pointer (some ⟨Aa,2,none⟩),fun w=>True,true,false⟩,⟨2,.int .u64 (q.Term),fun w=>w.cell? ⟨Aa,2,none⟩ = some (.int .u64 (q.Term)),false,false⟩,⟨3,.string (numB q.Term),fun _=>True,true,true⟩,⟨4,.string ((ByteArray.mk #[72]) ++ (numB q.Term)),fun w=>True,true,false⟩,⟨5,.pointer (some ⟨Aa,3,none⟩),fun w=>True,true,false⟩,⟨6,.int .i64 (q.Vote),fun w=>w.cell? ⟨Aa,3,none⟩ = some (.int .i64 (q.Vote)),false,false⟩,⟨7,.int .u64 (q.Vote),fun w=>True,true,false⟩,⟨8,.string (numB q.Vote),fun _=>True,true,true⟩,⟨9,.string (((ByteArray.mk #[72]) ++ (numB q.Term)) ++ (numB q.Vote)),fun w=>True,true,false⟩] mo (by kernel_rfl) (by kernel_rfl) (by kernel_rfl) (by kernel_rfl) ⟨.inr ⟨(fun _ _=>trivial),_,rfl,?_⟩,.inr ⟨(fun _ _=>trivial),_,rfl,?_⟩,.inr ⟨(fun h=>Bool.noConfusion h),_,rfl,?_⟩,.inl rfl,.inr ⟨(fun _ _=>trivial),_,rfl,?_⟩,.inr ⟨(fun _ _=>trivial),_,rfl,?_⟩,.inr ⟨(fun h=>Bool.noConfusion h),_,rfl,?_⟩,.inr ⟨(fun _ _=>trivial),_,rfl,?_⟩,.inl rfl,.inr ⟨(fun _ _=>trivial),_,rfl,?_⟩,trivial⟩ ?_
   ·intro E' w' hC hE hp
    exact ⟨Sure.none rfl,V.move (x:=.tmp 6) rfl ((hE 6 (by kernel_rfl)).trans (Bs 6 rfl))⟩
   ·intro E' w' hC hE hp
    exact ⟨Sure.none rfl,V.fieldAddr (x:=.tmp 3) rfl fl29_2 ((hE 3 (by kernel_rfl)).trans (Bs 3 rfl))⟩
   ·intro E' w' hC hE hp
    replace hC:w'.cell? ⟨Aa,2,none⟩ = some (.int .u64 (q.Term)):=hC
    have Dh:E' 63 = (.pointer (some ⟨Aa,2,none⟩):Value):=hp 1 (by kernel_rfl) _ _ rfl rfl
    exact ⟨Sure.none rfl,V.load (x:=.tmp 63) rfl p23 Dh hC⟩
   ·intro E' w' hC hE hp
    have B1:E' 65 = (.string (numB q.Term):Value):=hp 3 (by kernel_rfl) _ _ rfl rfl
    exact ⟨Sure.none rfl,V.sadd (y:=.tmp 65) rfl rfl B1 (by first | omega | (simp only [ByteArray.size_append]; omega))⟩
   ·intro E' w' hC hE hp
    exact ⟨Sure.none rfl,V.fieldAddr (x:=.tmp 3) rfl fl29_3 ((hE 3 (by kernel_rfl)).trans (Bs 3 rfl))⟩
   ·intro E' w' hC hE hp
    replace hC:w'.cell? ⟨Aa,3,none⟩ = some (.int .i64 (q.Vote)):=hC
    have Af:E' 67 = (.pointer (some ⟨Aa,3,none⟩):Value):=hp 5 (by kernel_rfl) _ _ rfl rfl
    exact ⟨Sure.none rfl,V.load (x:=.tmp 67) rfl p3 Af hC⟩
   ·intro E' w' hC hE hp
    have D5:E' 68 = (.int .i64 (q.Vote):Value):=hp 6 (by kernel_rfl) _ _ rfl rfl
    exact ⟨Sure.none rfl,V.convInt (x:=.tmp 68) rfl u3 u23 D5 (wrap_u64 (by omega) (by omega))⟩
   ·intro E' w' hC hE hp
    have B2:E' 66 = (.string ((ByteArray.mk #[72]) ++ (numB q.Term)):Value):=hp 4 (by kernel_rfl) _ _ rfl rfl
    have D6:E' 70 = (.string (numB q.Vote):Value):=hp 8 (by kernel_rfl) _ _ rfl rfl
    exact ⟨Sure.none rfl,V.sadd (x:=.tmp 66) (y:=.tmp 70) rfl B2 D6 (by first | omega | (simp only [ByteArray.size_append]; omega))⟩
   ·intro Vc Ms F0 Fb F1
    have Nk:Ext [Aa,Ab] w Ms:=Bp.trans (Ext.any (Y:=[Aa,Ab]) F0)
    have Nl:Ext [Aa,Ab] Ad Ms:=(Ext.any (Y:=[Aa,Ab]) F0)
    have Nm:=Bq.ext F0 (by simp)
    have Hj:=Br.ext F0 (by simp)
    refine Tree.node (rs:=[3]) (by kernel_rfl) ⟨offF rfl,offF rfl,(fun _ _=>Hj.cell rfl),offF rfl,offF rfl,offF rfl,(fun _ _=>Hj.cell rfl),offF rfl,offF rfl,offF rfl,trivial⟩ ⟨⟨_,rfl,[8,10,11,12],by kernel_rfl,?_⟩,trivial⟩
    intro V4 Vd No
    refine WL.c (Sure.none rfl) rfl (C.call1 (x:=.tmp 64) rfl cl29 ((No 2 (by kernel_rfl) 64 rfl).trans (F1 2 _ 64 rfl rfl))) (Fnc.mono (ref_Num q.Term) ?_)
    rintro _ Mt ⟨rfl,F2⟩
    have Np:Ext [Aa,Ab] w Mt:=Nk.trans (Ext.any (Y:=[Aa,Ab]) F2)
    have Nq:Ext [Aa,Ab] Ad Mt:=Nl.trans (Ext.any (Y:=[Aa,Ab]) F2)
    have Nr:=Nm.ext F2 (by simp)
    have Jg:=Hj.ext F2 (by simp)
    refine WL.nil ⟨_,rfl,cstY rfl rfl,?_⟩
    refine Tree.node (rs:=[8]) (by kernel_rfl) ⟨offF rfl,offF rfl,offN (by kernel_rfl),offF rfl,offF rfl,offF rfl,(fun _ _=>Jg.cell rfl),offF rfl,offF rfl,offF rfl,trivial⟩ ⟨⟨_,rfl,[10,11,12],by kernel_rfl,?_⟩,trivial⟩
    intro V5 Ve Ns
    refine WL.c (Sure.none rfl) rfl (C.call1 (x:=.tmp 69) rfl cl29 ((Ns 7 (by kernel_rfl) 69 rfl).trans (F1 7 _ 69 rfl rfl))) (Fnc.mono (ref_Num q.Vote) ?_)
    rintro _ Fp ⟨rfl,F3⟩
    have Jh:Ext [Aa,Ab] w Fp:=Np.trans (Ext.any (Y:=[Aa,Ab]) F3)
    have Ji:Ext [Aa,Ab] Ad Fp:=Nq.trans (Ext.any (Y:=[Aa,Ab]) F3)
    have Jj:=Nr.ext F3 (by simp)
    have Hk:=Jg.ext F3 (by simp)
    refine WL.nil ⟨_,rfl,cstY rfl rfl,?_⟩
    refine Tree.node (rs:=[10]) (by kernel_rfl) ⟨offF rfl,offF rfl,offN (by kernel_rfl),offF rfl,offF rfl,offF rfl,(fun _ _=>Hk.cell rfl),offF rfl,offF rfl,offF rfl,trivial⟩ ⟨⟨_,rfl,[11,12],by kernel_rfl,?_⟩,trivial⟩
    intro V6 Vf Nt
    refine WL.lit (R:=strR) (X:=(Aa :: (Ab :: X))) (vs:=[.string (((ByteArray.mk #[72]) ++ (numB q.Term)) ++ (numB q.Vote))]) (xs:=[(((ByteArray.mk #[72]) ++ (numB q.Term)) ++ (numB q.Vote))]) (Sure.none rfl) rfl rfl u33 e9 (by show 0 < (1:Nat); decide) (by show _ * (1:Nat) ≤ 1024; decide) (lit1 ((Nt 9 (by kernel_rfl) 71 rfl).trans (F1 9 _ 71 rfl rfl))) rfl rfl (by intro i v x hv hx; match i,hv,hx with | 0,rfl,rfl=>exact ⟨rfl,by first | (simp only [maxLen,ByteArray.size_append]; omega) | (simp [maxLen]; omega)⟩ | i + 1,hv,_=>simp at hv) (fun Tq I7 Fc Nu hlit182=>?_)
    have Mu:∀ g,(Tq).ownBlock = some g → g ∉ (Aa :: (Ab :: X)):=by intro g hg hm; have h1:=hlit182 g hg; have h2:=(inCons Hk.lt (inCons Jj.lt (inMono hX Jh.size))) g hm; omega
    have Iq:Ad.heap.size ≤ Fp.heap.size:=Ji.size
    have Nv:Ext [Aa,Ab] w I7:=Jh.trans (Ext.any (Y:=[Aa,Ab]) Fc)
    have Nw:Ext [Aa,Ab] Ad I7:=Ji.trans (Ext.any (Y:=[Aa,Ab]) Fc)
    have Nx:Ext [Aa,Ab] Fp I7:=(Ext.any (Y:=[Aa,Ab]) Fc)
    have Jk:=Jj.ext Fc (by simp)
    have Hl:=Hk.ext Fc (by simp)
    have Ny:=Nu.low (B':=Fp.heap.size) (Nat.le_refl _)
    refine WL.nil ⟨_,rfl,cstN rfl,?_⟩
    refine Tree.node (rs:=[11]) (by kernel_rfl) ⟨offF rfl,offF rfl,offN (by kernel_rfl),offF rfl,offF rfl,offF rfl,(fun _ _=>Hl.cell rfl),offF rfl,offF rfl,offF rfl,trivial⟩ ⟨⟨_,rfl,[12],by kernel_rfl,?_⟩,trivial⟩
    intro V7 Vg Jl
    refine WL.appendOwn (x:=.tmp 62) (y:=.tmp 72) (R:=strR) (X:=(Aa :: (Ab :: X))) (B:=Fp.heap.size) (xs:=[]) (ys:=[(((ByteArray.mk #[72]) ++ (numB q.Term)) ++ (numB q.Vote))]) (Sure.none rfl) rfl rfl u33 e9 rfl (by show 0 < (1:Nat); decide) ((Jl 0 (by kernel_rfl) 62 rfl).trans (F1 0 _ 62 rfl rfl)) ((Jl 10 (by kernel_rfl) 72 rfl).trans rfl) (Owns.nil' (v:=.slice none 0 0) rfl) (Owns.sl' Ny Mu) (fun g hg=>by cases hg) Nx.size (by first | omega | (simp only [List.length_cons,List.length_nil,List.length_append,laidK_len]; omega)) (by first | (simp only [maxLen]; omega) | (simp only [List.length_cons,List.length_nil,List.length_append,laidK_len,maxLen]; omega)) (fun Ts V8 Hm Hn hf207=>?_)
    have Mv:=after_no hf207 (nil_block (v:=.slice none 0 0) rfl) (inCons Hl.lt (inCons Jk.lt (inMono hX Nv.size)))
    have Nz:=Ext.ownB (Nw) Hn (fun k hk=>by cases hk) Iq
    have N0:=Jk.grown Hn (fun g hg e=>by cases hg)
    have Jm:=Hl.grown Hn (fun g hg e=>by cases hg)
    have Hm:=Hm.castE (List.nil_append _)
    refine WL.nil ⟨_,rfl,cstN rfl,?_⟩
    refine Tree.node (rs:=[12]) (by kernel_rfl) ⟨offF rfl,offF rfl,offN (by kernel_rfl),offF rfl,offF rfl,offF rfl,(fun _ _=>Jm.cell rfl),offF rfl,offF rfl,offF rfl,trivial⟩ ⟨⟨_,rfl,[],by kernel_rfl,?_⟩,trivial⟩
    intro V9 Vh N1
    refine WL.z (Ts) (V.assign (x:=.tmp 73) rfl ((N1 11 (by kernel_rfl) 73 rfl).trans rfl)) ?_
    refine WL.nil ⟨_,rfl,cstN rfl,?_⟩
    refine Tree.leaf ?_
    exact ⟨((Fb 0 (by kernel_rfl)).trans ((Bs 0 rfl).trans h0)),((Fb 1 (by kernel_rfl)).trans ((Bs 1 rfl).trans h1)),((Fb 2 (by kernel_rfl)).trans (Bs 2 rfl)),((Fb 3 (by kernel_rfl)).trans (Bs 3 rfl)),((Fb 49 (by kernel_rfl)).trans (Bs 49 rfl)),Nz,N0,Jm,⟨(Owns.castE (by first | (rw [hardL2,if_pos (by first | assumption | omega | exact ⟨by omega,by omega⟩)]; first | done | rfl) | (rw [hardL2,if_neg (by first | assumption | omega)]; first | done | rfl) | (rw [hardL2,if_pos (by assumption),List.append_nil]; done) | (rw [hardL2,if_neg (by first | assumption | omega),List.append_nil]; done)) (Hm.low (B':=Ad.heap.size) Iq)),Mv⟩⟩
  refine WL.fy (.int .i64 (p.Vote)) rfl fl29_3 rfl p3 (Bq.cell rfl) ?_
  refine WL.fy (.int .i64 (q.Vote)) rfl fl29_3 rfl p3 (Br.cell rfl) ?_
  refine WL.y (.bool (decide (p.Vote ≠ q.Vote))) rfl (V.cmp rfl rfl rfl rfl) ?_
  refine WL.k (a:=false) rfl rfl ?_
  refine WL.nil ?_
  refine WP.condp (t:=p.Vote ≠ q.Vote) rfl (fun N2=>?_) (fun N2=>?_)
  rotate_left
  ·refine WP.skip ?_
   exact ⟨h0,h1,rfl,rfl,rfl,(Ext.refl _ _),Bq,Br,⟨(Owns.castE (by first | (rw [hardL2,if_pos (by first | assumption | omega | exact ⟨by omega,by omega⟩)]; first | done | rfl) | (rw [hardL2,if_neg (by first | assumption | omega)]; first | done | rfl) | (rw [hardL2,if_pos (by assumption),List.append_nil]; done) | (rw [hardL2,if_neg (by first | assumption | omega),List.append_nil]; done)) Owns.nil),(nil_block rfl)⟩⟩
  refine WP.anyT [3,8,10,11,12] [⟨0,.slice none 0 0,fun w=>True,true,false⟩,⟨1,.pointer (some ⟨Aa,2,none⟩),fun w=>True,true,false⟩,⟨2,.int .u64 (q.Term),fun w=>w.cell? ⟨Aa,2,none⟩ = some (.int .u64 (q.Term)),false,false⟩,⟨3,.string (numB q.Term),fun _=>True,true,true⟩,⟨4,.string ((ByteArray.mk #[72]) ++ (numB q.Term)),fun w=>True,true,false⟩,⟨5,.pointer (some ⟨Aa,3,none⟩),fun w=>True,true,false⟩,⟨6,.int .i64 (q.Vote),fun w=>w.cell? ⟨Aa,3,none⟩ = some (.int .i64 (q.Vote)),false,false⟩,⟨7,.int .u64 (q.Vote),fun w=>True,true,false⟩,⟨8,.string (numB q.Vote),fun _=>True,true,true⟩,⟨9,.string (((ByteArray.mk #[72]) ++ (numB q.Term)) ++ (numB q.Vote)),fun w=>True,true,false⟩] mo (by kernel_rfl) (by kernel_rfl) (by kernel_rfl) (by kernel_rfl) ⟨.inr ⟨(fun _ _=>trivial),_,rfl,?_⟩,.inr ⟨(fun _ _=>trivial),_,rfl,?_⟩,.inr ⟨(fun h=>Bool.noConfusion h),_,rfl,?_⟩,.inl rfl,.inr ⟨(fun _ _=>trivial),_,rfl,?_⟩,.inr ⟨(fun _ _=>trivial),_,rfl,?_⟩,.inr ⟨(fun h=>Bool.noConfusion h),_,rfl,?_⟩,.inr ⟨(fun _ _=>trivial),_,rfl,?_⟩,.inl rfl,.inr ⟨(fun _ _=>trivial),_,rfl,?_⟩,trivial⟩ ?_
  ·intro E' w' hC hE hp
   exact ⟨Sure.none rfl,V.move (x:=.tmp 6) rfl ((hE 6 (by kernel_rfl)).trans rfl)⟩
  ·intro E' w' hC hE hp
   exact ⟨Sure.none rfl,V.fieldAddr (x:=.tmp 3) rfl fl29_2 ((hE 3 (by kernel_rfl)).trans rfl)⟩
  ·intro E' w' hC hE hp
   replace hC:w'.cell? ⟨Aa,2,none⟩ = some (.int .u64 (q.Term)):=hC
   have Dh:E' 63 = (.pointer (some ⟨Aa,2,none⟩):Value):=hp 1 (by kernel_rfl) _ _ rfl rfl
   exact ⟨Sure.none rfl,V.load (x:=.tmp 63) rfl p23 Dh hC⟩
  ·intro E' w' hC hE hp
   have B1:E' 65 = (.string (numB q.Term):Value):=hp 3 (by kernel_rfl) _ _ rfl rfl
   exact ⟨Sure.none rfl,V.sadd (y:=.tmp 65) rfl rfl B1 (by first | omega | (simp only [ByteArray.size_append]; omega))⟩
  ·intro E' w' hC hE hp
   exact ⟨Sure.none rfl,V.fieldAddr (x:=.tmp 3) rfl fl29_3 ((hE 3 (by kernel_rfl)).trans rfl)⟩
  ·intro E' w' hC hE hp
   replace hC:w'.cell? ⟨Aa,3,none⟩ = some (.int .i64 (q.Vote)):=hC
   have Af:E' 67 = (.pointer (some ⟨Aa,3,none⟩):Value):=hp 5 (by kernel_rfl) _ _ rfl rfl
   exact ⟨Sure.none rfl,V.load (x:=.tmp 67) rfl p3 Af hC⟩
  ·intro E' w' hC hE hp
   have D5:E' 68 = (.int .i64 (q.Vote):Value):=hp 6 (by kernel_rfl) _ _ rfl rfl
   exact ⟨Sure.none rfl,V.convInt (x:=.tmp 68) rfl u3 u23 D5 (wrap_u64 (by omega) (by omega))⟩
  ·intro E' w' hC hE hp
   have B2:E' 66 = (.string ((ByteArray.mk #[72]) ++ (numB q.Term)):Value):=hp 4 (by kernel_rfl) _ _ rfl rfl
   have D6:E' 70 = (.string (numB q.Vote):Value):=hp 8 (by kernel_rfl) _ _ rfl rfl
   exact ⟨Sure.none rfl,V.sadd (x:=.tmp 66) (y:=.tmp 70) rfl B2 D6 (by first | omega | (simp only [ByteArray.size_append]; omega))⟩
  ·intro Vi Mw F4 Fd F5
   have N3:Ext [Aa,Ab] w Mw:=Bp.trans (Ext.any (Y:=[Aa,Ab]) F4)
   have N4:Ext [Aa,Ab] Ad Mw:=(Ext.any (Y:=[Aa,Ab]) F4)
   have N5:=Bq.ext F4 (by simp)
   have Ho:=Br.ext F4 (by simp)
   refine Tree.node (rs:=[3]) (by kernel_rfl) ⟨offF rfl,offF rfl,(fun _ _=>Ho.cell rfl),offF rfl,offF rfl,offF rfl,(fun _ _=>Ho.cell rfl),offF rfl,offF rfl,offF rfl,trivial⟩ ⟨⟨_,rfl,[8,10,11,12],by kernel_rfl,?_⟩,trivial⟩
   intro Ya Vj N6
   refine WL.c (Sure.none rfl) rfl (C.call1 (x:=.tmp 64) rfl cl29 ((N6 2 (by kernel_rfl) 64 rfl).trans (F5 2 _ 64 rfl rfl))) (Fnc.mono (ref_Num q.Term) ?_)
   rintro _ Mx ⟨rfl,F6⟩
   have N7:Ext [Aa,Ab] w Mx:=N3.trans (Ext.any (Y:=[Aa,Ab]) F6)
   have N8:Ext [Aa,Ab] Ad Mx:=N4.trans (Ext.any (Y:=[Aa,Ab]) F6)
   have N9:=N5.ext F6 (by simp)
   have Jn:=Ho.ext F6 (by simp)
   refine WL.nil ⟨_,rfl,cstY rfl rfl,?_⟩
   refine Tree.node (rs:=[8]) (by kernel_rfl) ⟨offF rfl,offF rfl,offN (by kernel_rfl),offF rfl,offF rfl,offF rfl,(fun _ _=>Jn.cell rfl),offF rfl,offF rfl,offF rfl,trivial⟩ ⟨⟨_,rfl,[10,11,12],by kernel_rfl,?_⟩,trivial⟩
   intro Yb Vk Oa
   refine WL.c (Sure.none rfl) rfl (C.call1 (x:=.tmp 69) rfl cl29 ((Oa 7 (by kernel_rfl) 69 rfl).trans (F5 7 _ 69 rfl rfl))) (Fnc.mono (ref_Num q.Vote) ?_)
   rintro _ Fq ⟨rfl,F7⟩
   have Jo:Ext [Aa,Ab] w Fq:=N7.trans (Ext.any (Y:=[Aa,Ab]) F7)
   have Jp:Ext [Aa,Ab] Ad Fq:=N8.trans (Ext.any (Y:=[Aa,Ab]) F7)
   have Jq:=N9.ext F7 (by simp)
   have Hp:=Jn.ext F7 (by simp)
   refine WL.nil ⟨_,rfl,cstY rfl rfl,?_⟩
   refine Tree.node (rs:=[10]) (by kernel_rfl) ⟨offF rfl,offF rfl,offN (by kernel_rfl),offF rfl,offF rfl,offF rfl,(fun _ _=>Hp.cell rfl),offF rfl,offF rfl,offF rfl,trivial⟩ ⟨⟨_,rfl,[11,12],by kernel_rfl,?_⟩,trivial⟩
   intro Yc Vl Ob
   refine WL.lit (R:=strR) (X:=(Aa :: (Ab :: X))) (vs:=[.string (((ByteArray.mk #[72]) ++ (numB q.Term)) ++ (numB q.Vote))]) (xs:=[(((ByteArray.mk #[72]) ++ (numB q.Term)) ++ (numB q.Vote))]) (Sure.none rfl) rfl rfl u33 e9 (by show 0 < (1:Nat); decide) (by show _ * (1:Nat) ≤ 1024; decide) (lit1 ((Ob 9 (by kernel_rfl) 71 rfl).trans (F5 9 _ 71 rfl rfl))) rfl rfl (by intro i v x hv hx; match i,hv,hx with | 0,rfl,rfl=>exact ⟨rfl,by first | (simp only [maxLen,ByteArray.size_append]; omega) | (simp [maxLen]; omega)⟩ | i + 1,hv,_=>simp at hv) (fun Tt I8 Fe Oc hlit265=>?_)
   have My:∀ g,(Tt).ownBlock = some g → g ∉ (Aa :: (Ab :: X)):=by intro g hg hm; have h1:=hlit265 g hg; have h2:=(inCons Hp.lt (inCons Jq.lt (inMono hX Jo.size))) g hm; omega
   have Ir:Ad.heap.size ≤ Fq.heap.size:=Jp.size
   have Od:Ext [Aa,Ab] w I8:=Jo.trans (Ext.any (Y:=[Aa,Ab]) Fe)
   have Oe:Ext [Aa,Ab] Ad I8:=Jp.trans (Ext.any (Y:=[Aa,Ab]) Fe)
   have Of:Ext [Aa,Ab] Fq I8:=(Ext.any (Y:=[Aa,Ab]) Fe)
   have Jr:=Jq.ext Fe (by simp)
   have Hq:=Hp.ext Fe (by simp)
   have Og:=Oc.low (B':=Fq.heap.size) (Nat.le_refl _)
   refine WL.nil ⟨_,rfl,cstN rfl,?_⟩
   refine Tree.node (rs:=[11]) (by kernel_rfl) ⟨offF rfl,offF rfl,offN (by kernel_rfl),offF rfl,offF rfl,offF rfl,(fun _ _=>Hq.cell rfl),offF rfl,offF rfl,offF rfl,trivial⟩ ⟨⟨_,rfl,[12],by kernel_rfl,?_⟩,trivial⟩
   intro Yd Vm Js
   refine WL.appendOwn (x:=.tmp 62) (y:=.tmp 72) (R:=strR) (X:=(Aa :: (Ab :: X))) (B:=Fq.heap.size) (xs:=[]) (ys:=[(((ByteArray.mk #[72]) ++ (numB q.Term)) ++ (numB q.Vote))]) (Sure.none rfl) rfl rfl u33 e9 rfl (by show 0 < (1:Nat); decide) ((Js 0 (by kernel_rfl) 62 rfl).trans (F5 0 _ 62 rfl rfl)) ((Js 10 (by kernel_rfl) 72 rfl).trans rfl) (Owns.nil' (v:=.slice none 0 0) rfl) (Owns.sl' Og My) (fun g hg=>by cases hg) Of.size (by first | omega | (simp only [List.length_cons,List.length_nil,List.length_append,laidK_len]; omega)) (by first | (simp only [maxLen]; omega) | (simp only [List.length_cons,List.length_nil,List.length_append,laidK_len,maxLen]; omega)) (fun Tu Ye Hr Hs hf290=>?_)
   have Mz:=after_no hf290 (nil_block (v:=.slice none 0 0) rfl) (inCons Hq.lt (inCons Jr.lt (inMono hX Od.size)))
   have Oh:=Ext.ownB (Oe) Hs (fun k hk=>by cases hk) Ir
   have Oi:=Jr.grown Hs (fun g hg e=>by cases hg)
   have Jt:=Hq.grown Hs (fun g hg e=>by cases hg)
   have Hr:=Hr.castE (List.nil_append _)
   refine WL.nil ⟨_,rfl,cstN rfl,?_⟩
   refine Tree.node (rs:=[12]) (by kernel_rfl) ⟨offF rfl,offF rfl,offN (by kernel_rfl),offF rfl,offF rfl,offF rfl,(fun _ _=>Jt.cell rfl),offF rfl,offF rfl,offF rfl,trivial⟩ ⟨⟨_,rfl,[],by kernel_rfl,?_⟩,trivial⟩
   intro Yf Vn Oj
   refine WL.z (Tu) (V.assign (x:=.tmp 73) rfl ((Oj 11 (by kernel_rfl) 73 rfl).trans rfl)) ?_
   refine WL.nil ⟨_,rfl,cstN rfl,?_⟩
   refine Tree.leaf ?_
   exact ⟨((Fd 0 (by kernel_rfl)).trans h0),((Fd 1 (by kernel_rfl)).trans h1),((Fd 2 (by kernel_rfl)).trans rfl),((Fd 3 (by kernel_rfl)).trans rfl),((Fd 49 (by kernel_rfl)).trans rfl),Oh,Oi,Jt,⟨(Owns.castE (by first | (rw [hardL2,if_pos (by first | assumption | omega | exact ⟨by omega,by omega⟩)]; first | done | rfl) | (rw [hardL2,if_neg (by first | assumption | omega)]; first | done | rfl) | (rw [hardL2,if_pos (by assumption),List.append_nil]; done) | (rw [hardL2,if_neg (by first | assumption | omega),List.append_nil]; done)) (Hr.low (B':=Ad.heap.size) Ir)),Mz⟩⟩
 rintro Dg Cc ⟨M0,M1,Ga,Ff,L6,F8,hbb63_304,hbb81_304,⟨L7,I9⟩⟩
 have Ol:Ext [Aa,Ab] w Cc:=Bp.trans F8
 have Cd:Ext [Aa,Ab] Aq Cc:=Je.trans F8
 have Om:Ext [Aa,Ab] Ag Cc:=Jf.trans F8
 have On:Ext [Aa,Ab] Ad Cc:=F8
 refine WP.sr ?_
 refine WL.z (.agg (peerA p v1 v3 v5 v7 v9 As)) (V.loadAgg (x:=.tmp 2) (cs:=(peerC p v1 v3 v5 v7 v9 As)) rfl a29 Ga (At.box hbb63_304) rfl) ?_
 refine WL.c (Sure.none rfl) rfl (C.call1 rfl cl30 rfl) (Fnc.mono (ref_Last (p:=p) ⟨v1,v3,v5,v7,v9,As,rfl,(G7.ext (Ext.pre Cd)),(Fo.ext (Ext.pre Cd)),(G8.ext (Ext.pre Cd)),(G9.ext (Ext.pre Cd)),(Ha.ext (Ext.pre Cd)),(Hb.ext (Ext.pre Cd)),D7⟩ (by omega)) ?_)
 rintro _ Ht ⟨rfl,Ce⟩
 have Oo:Ext [Aa,Ab] w Ht:=Ol.trans (Ext.any (Y:=[Aa,Ab]) Ce)
 have Cf:Ext [Aa,Ab] Aq Ht:=Cd.trans (Ext.any (Y:=[Aa,Ab]) Ce)
 have Oq:Ext [Aa,Ab] Ag Ht:=Om.trans (Ext.any (Y:=[Aa,Ab]) Ce)
 have Ot:Ext [Aa,Ab] Ad Ht:=On.trans (Ext.any (Y:=[Aa,Ab]) Ce)
 have Ou:=hbb63_304.ext Ce (by simp)
 have Ju:=hbb81_304.ext Ce (by simp)
 have Ov:=L7.keep Ce (by intro g hg hm; simp at hm) (by simp)
 refine WL.m rfl ?_
 refine WL.z (.int .u64 (lastI p)) (V.extract rfl rfl rfl) ?_
 refine WL.z (.int .u64 (lastT p)) (V.extract rfl rfl rfl) ?_
 refine WL.m rfl ?_
 refine WL.m rfl ?_
 refine WL.nil ?_
 refine WP.sr ?_
 refine WL.z (.agg (peerA q Ak Ah Al Am An Ao)) (V.loadAgg (x:=.tmp 3) (cs:=(peerC q Ak Ah Al Am An Ao)) rfl a29 Ff (At.box Ju) rfl) ?_
 refine WL.c (Sure.none rfl) rfl (C.call1 rfl cl30 rfl) (Fnc.mono (ref_Last (p:=q) ⟨Ak,Ah,Al,Am,An,Ao,rfl,(Db.ext (Ext.pre Cf)),(Bx.ext (Ext.pre Cf)),(Dc.ext (Ext.pre Cf)),(Dd.ext (Ext.pre Cf)),(De.ext (Ext.pre Cf)),(Df.ext (Ext.pre Cf)),Bn⟩ (by omega)) ?_)
 rintro _ Hu ⟨rfl,Cg⟩
 have Ow:Ext [Aa,Ab] w Hu:=Oo.trans (Ext.any (Y:=[Aa,Ab]) Cg)
 have Ch:Ext [Aa,Ab] Aq Hu:=Cf.trans (Ext.any (Y:=[Aa,Ab]) Cg)
 have Ox:Ext [Aa,Ab] Ag Hu:=Oq.trans (Ext.any (Y:=[Aa,Ab]) Cg)
 have Oy:Ext [Aa,Ab] Ad Hu:=Ot.trans (Ext.any (Y:=[Aa,Ab]) Cg)
 have Jv:=Ou.ext Cg (by simp)
 have Hv:=Ju.ext Cg (by simp)
 have Oz:=Ov.keep Cg (by intro g hg hm; simp at hm) (by simp)
 refine WL.m rfl ?_
 refine WL.z (.int .u64 (lastI q)) (V.extract rfl rfl rfl) ?_
 refine WL.z (.int .u64 (lastT q)) (V.extract rfl rfl rfl) ?_
 refine WL.m rfl ?_
 refine WL.m rfl ?_
 refine WL.nil ?_
 refine WP.sr ?_
 refine WL.f (x:=.tmp 3) (.int .u64 (q.Base)) fl29_6 Ff p23 (Hv.cell rfl) ?_
 refine WL.z (.int .u64 (q.Base + 1)) (V.arith rfl rfl rfl rfl (wrap_u64 (by omega) (by omega))) ?_
 refine WL.m rfl ?_
 refine WL.nil ?_
 refine WP.sr ?_
 refine WL.z (.agg (peerA p v1 v3 v5 v7 v9 As)) (V.loadAgg (x:=.tmp 2) (cs:=(peerC p v1 v3 v5 v7 v9 As)) rfl a29 Ga (At.box Jv) rfl) ?_
 refine WL.f (x:=.tmp 3) (.int .u64 (q.Base)) fl29_6 Ff p23 (Hv.cell rfl) ?_
 refine WL.c (Sure.none rfl) rfl (C.call2 rfl cl31 rfl rfl) (Fnc.mono (ref_Term (p:=p) ⟨v1,v3,v5,v7,v9,As,rfl,(G7.ext (Ext.pre Ch)),(Fo.ext (Ext.pre Ch)),(G8.ext (Ext.pre Ch)),(G9.ext (Ext.pre Ch)),(Ha.ext (Ext.pre Ch)),(Hb.ext (Ext.pre Ch)),D7⟩ q.Base (by omega) (by omega)) ?_)
 rintro _ Hw ⟨rfl,Ci⟩
 have O0:Ext [Aa,Ab] w Hw:=Ow.trans (Ext.any (Y:=[Aa,Ab]) Ci)
 have O1:Ext [Aa,Ab] Aq Hw:=Ch.trans (Ext.any (Y:=[Aa,Ab]) Ci)
 have O2:Ext [Aa,Ab] Ag Hw:=Ox.trans (Ext.any (Y:=[Aa,Ab]) Ci)
 have O3:Ext [Aa,Ab] Ad Hw:=Oy.trans (Ext.any (Y:=[Aa,Ab]) Ci)
 have O4:=Jv.ext Ci (by simp)
 have O5:=Hv.ext Ci (by simp)
 have O6:=Oz.keep Ci (by intro g hg hm; simp at hm) (by simp)
 refine WL.m rfl ?_
 refine WL.z (.int .u64 (termOf p q.Base)) (V.extract rfl rfl rfl) ?_
 refine WL.z (.bool (termIs p q.Base)) (V.extract rfl rfl rfl) ?_
 refine WL.m rfl ?_
 refine WL.m rfl ?_
 refine WL.nil ?_
 refine WP.seq_cut (fun Bd Di=>Bd 0 = .agg (peerA p v1 v3 v5 v7 v9 As) ∧ Bd 1 = .agg (peerA q Ak Ah Al Am An Ao) ∧ Bd 2 = .pointer (some ⟨Ab,0,none⟩) ∧ Bd 3 = .pointer (some ⟨Aa,0,none⟩) ∧ Bd 7 = .int .u64 (lastI p) ∧ Bd 9 = .int .u64 (lastI q) ∧ Bd 12 = .int .u64 (termOf p q.Base) ∧ Bd 13 = .bool (termIs p q.Base) ∧ Bd 49 = .bool (decide (q.Term < p.Term)) ∧ Bd 11 = .int .u64 (diffF p q) ∧ Ext [Aa,Ab] w Di ∧ Ext [Aa,Ab] Aq Di ∧ Ext [Aa,Ab] Ag Di ∧ Ext [Aa,Ab] Ad Di ∧ Box Di Ab 29 (peerC p v1 v3 v5 v7 v9 As) ∧ Box Di Aa 29 (peerC q Ak Ah Al Am An Ao) ∧ (Owns strR 9 Ad.heap.size (Aa :: (Ab :: X)) Di (Bd 6) (hardL2 p q) ∧ (∀ g,(Bd 6).ownBlock = some g → g ∉ (Aa :: (Ab :: X))))) ?_ ?_
 ·refine WP.block ?_
  refine WP.loop (σ:=Nat) (fun k Be Dj=>Be 0 = .agg (peerA p v1 v3 v5 v7 v9 As) ∧ Be 1 = .agg (peerA q Ak Ah Al Am An Ao) ∧ Be 2 = .pointer (some ⟨Ab,0,none⟩) ∧ Be 3 = .pointer (some ⟨Aa,0,none⟩) ∧ Be 7 = .int .u64 (lastI p) ∧ Be 9 = .int .u64 (lastI q) ∧ Be 11 = .int .u64 (q.Base + 1 + (k:Int)) ∧ Be 12 = .int .u64 (termOf p q.Base) ∧ Be 13 = .bool (termIs p q.Base) ∧ Be 49 = .bool (decide (q.Term < p.Term)) ∧ Ext [Aa,Ab] w Dj ∧ Ext [Aa,Ab] Aq Dj ∧ Ext [Aa,Ab] Ag Dj ∧ Ext [Aa,Ab] Ad Dj ∧ Box Dj Ab 29 (peerC p v1 v3 v5 v7 v9 As) ∧ Box Dj Aa 29 (peerC q Ak Ah Al Am An Ao) ∧ (Owns strR 9 Ad.heap.size (Aa :: (Ab :: X)) Dj (Be 6) (hardL2 p q) ∧ (∀ g,(Be 6).ownBlock = some g → g ∉ (Aa :: (Ab :: X)))) ∧ k ≤ p.Log.length ∧ (k = 0 ∨ condD p q = true) ∧ ∀ j,j < k → stepOk p q j = true) (fun k=>p.Log.length + 1 - k) (0) ?_ ?_
  ·exact ⟨M0,M1,Ga,Ff,rfl,rfl,(int_eq (by omega)),rfl,rfl,L6,O0,O1,O2,O3,O4,O5,⟨(Owns.castE (by rfl) O6),I9⟩,(Nat.zero_le _),(.inl rfl),(fun j hj=>by omega)⟩
  rintro k Be Dj ⟨B3,B4,Bo,Bl,B5,B6,A6,Bf,Bg,Bm,Dr,Av,Fs,Ft,hbb63_360,hbb81_360,⟨Fu,Bh⟩,T8,T9,Ua⟩
  refine WP.seq ?_
  refine WP.sr ?_
  refine WL.m rfl ?_
  refine WL.vb (c:=termIs p q.Base) (Sure.none rfl) rfl (V.move (x:=.tmp 94) rfl Bg) (fun Jw=>?_) (fun Jw=>?_)
  rotate_left
  ·refine WL.skips [(95,some false)] [(100,some false)] (kc (some false) rfl kn) (by kernel_rfl) (fun Yg hK410 Aw=>?_)
   refine WP.cond_false (hK410 100 (some false) rfl) ?_
   refine WP.exit ?_
   exact ⟨((Aw 0 rfl).trans B3),((Aw 1 rfl).trans B4),((Aw 2 rfl).trans Bo),((Aw 3 rfl).trans Bl),((Aw 7 rfl).trans B5),((Aw 9 rfl).trans B6),((Aw 12 rfl).trans Bf),((Aw 13 rfl).trans Bg),((Aw 49 rfl).trans Bm),(Eq.trans ((Aw 11 rfl).trans A6) (int_eq (by first | exact diff_out (by assumption) (condD_no1 (by assumption)) | exact diff_out (by assumption) (condD_no2 (by assumption)) | exact diff_in hcd (by assumption) (stepOk_no1 (by assumption)) | exact diff_in hcd (by assumption) (stepOk_no2 (by assumption)) | exact diff_in hcd (by assumption) (stepOk_no4 (by assumption) (by assumption) (by assumption))))),Dr,Av,Fs,Ft,hbb63_360,hbb81_360,⟨(by rw [(Aw 6 rfl)]; exact (Owns.castE (by rfl) Fu)),(by rw [(Aw 6 rfl)]; exact Bh)⟩⟩
  refine WL.my rfl rfl ?_
  refine WL.fy (x:=.tmp 3) (.int .u64 (q.BaseTerm)) rfl fl29_7 Bl p23 (hbb81_360.cell rfl) ?_
  refine WL.y (.bool (decide ((termOf p q.Base) = q.BaseTerm))) rfl (V.cmp (x:=.tmp 96) rfl Bf rfl rfl) ?_
  refine WL.k (a:=true) rfl rfl ?_
  refine WL.nil ?_
  refine WP.condp (t:=(termOf p q.Base) = q.BaseTerm) rfl (fun Jx=>?_) (fun Jx=>?_)
  rotate_left
  ·refine WP.exit ?_
   exact ⟨B3,B4,Bo,Bl,B5,B6,Bf,Bg,Bm,(Eq.trans A6 (int_eq (by first | exact diff_out (by assumption) (condD_no1 (by assumption)) | exact diff_out (by assumption) (condD_no2 (by assumption)) | exact diff_in hcd (by assumption) (stepOk_no1 (by assumption)) | exact diff_in hcd (by assumption) (stepOk_no2 (by assumption)) | exact diff_in hcd (by assumption) (stepOk_no4 (by assumption) (by assumption) (by assumption))))),Dr,Av,Fs,Ft,hbb63_360,hbb81_360,⟨(Owns.castE (by rfl) Fu),Bh⟩⟩
  refine WP.skip ?_
  refine WP.block ?_
  refine WP.sr ?_
  have hcd:condD p q = true:=condD_yes Jw Jx
  refine WL.z (.agg (peerA p v1 v3 v5 v7 v9 As)) (V.loadAgg (x:=.tmp 2) (cs:=(peerC p v1 v3 v5 v7 v9 As)) rfl a29 Bo (At.box hbb63_360) rfl) ?_
  refine WL.m rfl ?_
  refine WL.c (Sure.none rfl) rfl (C.call2 (y:=.tmp 103) rfl cl32 rfl A6) (Fnc.mono (ref12_entry (p:=p) ⟨v1,v3,v5,v7,v9,As,rfl,(G7.ext (Ext.pre Av)),(Fo.ext (Ext.pre Av)),(G8.ext (Ext.pre Av)),(G9.ext (Ext.pre Av)),(Ha.ext (Ext.pre Av)),(Hb.ext (Ext.pre Av)),D7⟩ (q.Base + 1 + (k:Int)) (by omega) (by omega) (X:=(Aa :: (Ab :: X))) (inCons hbb81_360.lt (inCons hbb63_360.lt (inMono hX Dr.size)))) ?_)
  rintro _ Gb ⟨Tv,rfl,O7,Cj⟩
  have Jy:Ext [Aa,Ab] w Gb:=Dr.trans (Ext.any (Y:=[Aa,Ab]) Cj)
  have Ck:Ext [Aa,Ab] Aq Gb:=Av.trans (Ext.any (Y:=[Aa,Ab]) Cj)
  have O8:Ext [Aa,Ab] Ag Gb:=Fs.trans (Ext.any (Y:=[Aa,Ab]) Cj)
  have O9:Ext [Aa,Ab] Ad Gb:=Ft.trans (Ext.any (Y:=[Aa,Ab]) Cj)
  have Jz:=hbb63_360.ext Cj (by simp)
  have Hx:=hbb81_360.ext Cj (by simp)
  have Pa:=Fu.keep Cj (by intro g hg hm; simp at hm) (by simp)
  refine WL.m rfl ?_
  refine WL.z (Tv) (V.extract rfl rfl rfl) ?_
  refine WL.z (.bool (entIs p (q.Base + 1 + (k:Int)))) (V.extract rfl rfl rfl) ?_
  refine WL.m rfl ?_
  refine WL.m rfl ?_
  refine WL.nil ?_
  refine WP.sr ?_
  refine WL.z (.agg (peerA q Ak Ah Al Am An Ao)) (V.loadAgg (x:=.tmp 3) (cs:=(peerC q Ak Ah Al Am An Ao)) rfl a29 Bl (At.box Hx) rfl) ?_
  refine WL.m rfl ?_
  refine WL.c (Sure.none rfl) rfl (C.call2 (y:=.tmp 109) rfl cl32 rfl A6) (Fnc.mono (ref12_entry (p:=q) ⟨Ak,Ah,Al,Am,An,Ao,rfl,(Db.ext (Ext.pre Ck)),(Bx.ext (Ext.pre Ck)),(Dc.ext (Ext.pre Ck)),(Dd.ext (Ext.pre Ck)),(De.ext (Ext.pre Ck)),(Df.ext (Ext.pre Ck)),Bn⟩ (q.Base + 1 + (k:Int)) (by omega) (by omega) (X:=(Aa :: (Ab :: X))) (inCons Hx.lt (inCons Jz.lt (inMono hX Jy.size)))) ?_)
  rintro _ Gc ⟨Tw,rfl,Pb,Bt⟩
  have Hy:Ext [Aa,Ab] w Gc:=Jy.trans (Ext.any (Y:=[Aa,Ab]) Bt)
  have Hz:Ext [Aa,Ab] Aq Gc:=Ck.trans (Ext.any (Y:=[Aa,Ab]) Bt)
  have H0:Ext [Aa,Ab] Ag Gc:=O8.trans (Ext.any (Y:=[Aa,Ab]) Bt)
  have H1:Ext [Aa,Ab] Ad Gc:=O9.trans (Ext.any (Y:=[Aa,Ab]) Bt)
  have Pc:Ext [Aa,Ab] Gb Gc:=(Ext.any (Y:=[Aa,Ab]) Bt)
  have H2:=Jz.ext Bt (by simp)
  have H3:=Hx.ext Bt (by simp)
  have H4:=Pa.keep Bt (by intro g hg hm; simp at hm) (by simp)
  refine WL.m rfl ?_
  refine WL.z (Tw) (V.extract rfl rfl rfl) ?_
  refine WL.z (.bool (entIs q (q.Base + 1 + (k:Int)))) (V.extract rfl rfl rfl) ?_
  refine WL.m rfl ?_
  refine WL.m rfl ?_
  refine WL.nil ?_
  refine WP.seq ?_
  refine WP.sr ?_
  refine WL.m rfl ?_
  refine WL.z (.bool (!(entIs p (q.Base + 1 + (k:Int))))) (V.not rfl rfl) ?_
  refine WL.vbn (c:=entIs p (q.Base + 1 + (k:Int))) (Sure.none rfl) rfl (V.move rfl rfl) (fun J0=>?_) (fun J0=>?_)
  ·refine WL.skips [(115,some true)] [(124,some true)] (kc (some true) rfl kn) (by kernel_rfl) (fun Yh hK390 Ax=>?_)
   refine WP.cond_true (hK390 124 (some true) rfl) ?_
   refine WP.exit ?_
   exact ⟨((Ax 0 rfl).trans B3),((Ax 1 rfl).trans B4),((Ax 2 rfl).trans Bo),((Ax 3 rfl).trans Bl),((Ax 7 rfl).trans B5),((Ax 9 rfl).trans B6),((Ax 12 rfl).trans Bf),((Ax 13 rfl).trans Bg),((Ax 49 rfl).trans Bm),(Eq.trans ((Ax 11 rfl).trans A6) (int_eq (by first | exact diff_out (by assumption) (condD_no1 (by assumption)) | exact diff_out (by assumption) (condD_no2 (by assumption)) | exact diff_in hcd (by assumption) (stepOk_no1 (by assumption)) | exact diff_in hcd (by assumption) (stepOk_no2 (by assumption)) | exact diff_in hcd (by assumption) (stepOk_no4 (by assumption) (by assumption) (by assumption))))),Hy,Hz,H0,H1,H2,H3,⟨(by rw [(Ax 6 rfl)]; exact (Owns.castE (by rfl) H4)),(by rw [(Ax 6 rfl)]; exact Bh)⟩⟩
  refine WL.my rfl rfl ?_
  refine WL.y (.bool (!(entIs q (q.Base + 1 + (k:Int))))) rfl (V.not rfl rfl) ?_
  refine WL.k (a:=false) rfl rfl ?_
  refine WL.vbn (c:=entIs q (q.Base + 1 + (k:Int))) (Sure.none rfl) rfl (V.move rfl rfl) (fun J1=>?_) (fun J1=>?_)
  ·refine WL.skips [(119,some true)] [(124,some true)] (kc (some true) rfl kn) (by kernel_rfl) (fun Yi hK394 Ay=>?_)
   refine WP.cond_true (hK394 124 (some true) rfl) ?_
   refine WP.exit ?_
   exact ⟨((Ay 0 rfl).trans B3),((Ay 1 rfl).trans B4),((Ay 2 rfl).trans Bo),((Ay 3 rfl).trans Bl),((Ay 7 rfl).trans B5),((Ay 9 rfl).trans B6),((Ay 12 rfl).trans Bf),((Ay 13 rfl).trans Bg),((Ay 49 rfl).trans Bm),(Eq.trans ((Ay 11 rfl).trans A6) (int_eq (by first | exact diff_out (by assumption) (condD_no1 (by assumption)) | exact diff_out (by assumption) (condD_no2 (by assumption)) | exact diff_in hcd (by assumption) (stepOk_no1 (by assumption)) | exact diff_in hcd (by assumption) (stepOk_no2 (by assumption)) | exact diff_in hcd (by assumption) (stepOk_no4 (by assumption) (by assumption) (by assumption))))),Hy,Hz,H0,H1,H2,H3,⟨(by rw [(Ay 6 rfl)]; exact (Owns.castE (by rfl) H4)),(by rw [(Ay 6 rfl)]; exact Bh)⟩⟩
  refine WL.my rfl rfl ?_
  refine WL.my rfl rfl ?_
  refine WL.c (Sure.yes rfl rfl rfl) rfl (C.call2 rfl cl33 rfl rfl) (Fnc.mono (ref_SameEntries (O7.ext (Ext.pre Pc)) Pb) ?_)
  rintro _ H5 ⟨rfl,Cl⟩
  have J2:Ext [Aa,Ab] w H5:=Hy.trans (Ext.any (Y:=[Aa,Ab]) Cl)
  have J3:Ext [Aa,Ab] Aq H5:=Hz.trans (Ext.any (Y:=[Aa,Ab]) Cl)
  have J4:Ext [Aa,Ab] Ag H5:=H0.trans (Ext.any (Y:=[Aa,Ab]) Cl)
  have J5:Ext [Aa,Ab] Ad H5:=H1.trans (Ext.any (Y:=[Aa,Ab]) Cl)
  have J6:=H2.ext Cl (by simp)
  have J7:=H3.ext Cl (by simp)
  have J8:=H4.keep Cl (by intro g hg hm; simp at hm) (by simp)
  refine WL.y (.bool (!(eqB sameEntB (entL p (q.Base + 1 + (k:Int))) (entL q (q.Base + 1 + (k:Int)))))) rfl (V.not rfl rfl) ?_
  refine WL.k (a:=false) rfl rfl ?_
  refine WL.nil ?_
  refine WP.condn (t:=eqB sameEntB (entL p (q.Base + 1 + (k:Int))) (entL q (q.Base + 1 + (k:Int)))) rfl (fun J9=>?_) (fun J9=>?_)
  ·refine WP.exit ?_
   exact ⟨B3,B4,Bo,Bl,B5,B6,Bf,Bg,Bm,(Eq.trans A6 (int_eq (by first | exact diff_out (by assumption) (condD_no1 (by assumption)) | exact diff_out (by assumption) (condD_no2 (by assumption)) | exact diff_in hcd (by assumption) (stepOk_no1 (by assumption)) | exact diff_in hcd (by assumption) (stepOk_no2 (by assumption)) | exact diff_in hcd (by assumption) (stepOk_no4 (by assumption) (by assumption) (by assumption))))),J2,J3,J4,J5,J6,J7,⟨(Owns.castE (by rfl) J8),Bh⟩⟩
  refine WP.skip ?_
  refine WP.region ?_
  have hst:stepOk p q k = true:=stepOk_yes2 J0 J1 J9
  refine WL.m rfl ?_
  refine WL.z (.int .u64 ((q.Base + 1 + (k:Int)) + 1)) (V.arith (x:=.tmp 125) rfl A6 rfl rfl (wrap_u64 (by omega) (by omega))) ?_
  refine WL.m rfl ?_
  refine WL.nil ?_
  exact ⟨k + 1,⟨B3,B4,Bo,Bl,B5,B6,(int_eq (by omega)),Bf,Bg,Bm,J2,J3,J4,J5,J6,J7,⟨(Owns.castE (by rfl) J8),Bh⟩,(step_le (steps_go (by assumption) hst)),(.inr hcd),(steps_go (by assumption) hst)⟩,(by omega)⟩
 rintro Bd Di ⟨Is,It,Iu,Iv,Gd,Iw,Gw,Gx,Gy,Ds,Gz,G0,G1,G2,hbb63_412,hbb81_412,⟨G3,Cm⟩⟩
 refine WP.seq_cut (fun Bi Dk=>Bi 0 = .agg (peerA p v1 v3 v5 v7 v9 As) ∧ Bi 1 = .agg (peerA q Ak Ah Al Am An Ao) ∧ Bi 2 = .pointer (some ⟨Ab,0,none⟩) ∧ Bi 3 = .pointer (some ⟨Aa,0,none⟩) ∧ Bi 7 = .int .u64 (lastI p) ∧ Bi 9 = .int .u64 (lastI q) ∧ Bi 11 = .int .u64 (diffF p q) ∧ Bi 12 = .int .u64 (termOf p q.Base) ∧ Bi 13 = .bool (termIs p q.Base) ∧ Bi 49 = .bool (decide (q.Term < p.Term)) ∧ Ext [Aa,Ab] w Dk ∧ Ext [Aa,Ab] Aq Dk ∧ Ext [Aa,Ab] Ag Dk ∧ Ext [Aa,Ab] Ad Dk ∧ Box Dk Ab 29 (peerC p v1 v3 v5 v7 v9 As) ∧ Box Dk Aa 29 (peerC q Ak Ah Al Am An Ao) ∧ (Owns strR 9 Ad.heap.size (Aa :: (Ab :: X)) Dk (Bi 6) (cutL2 p q) ∧ (∀ g,(Bi 6).ownBlock = some g → g ∉ (Aa :: (Ab :: X))))) ?_ ?_
 ·refine WP.sr ?_
  refine WL.m rfl ?_
  refine WL.m rfl ?_
  refine WL.z (.bool (decide ((lastI p) ≥ (diffF p q)))) (V.cmp (x:=.tmp 127) (y:=.tmp 128) rfl Gd Ds rfl) ?_
  refine WL.nil ?_
  refine WP.condp (t:=(lastI p) ≥ (diffF p q)) rfl (fun Pd=>?_) (fun Pd=>?_)
  rotate_left
  ·refine WP.skip ?_
   exact ⟨Is,It,Iu,Iv,Gd,Iw,Ds,Gw,Gx,Gy,Gz,G0,G1,G2,hbb63_412,hbb81_412,⟨(Owns.castE (by first | (rw [cutL2,if_pos (by first | assumption | omega | exact ⟨by omega,by omega⟩)]; first | done | rfl) | (rw [cutL2,if_neg (by first | assumption | omega)]; first | done | rfl) | (rw [cutL2,if_pos (by assumption),List.append_nil]; done) | (rw [cutL2,if_neg (by first | assumption | omega),List.append_nil]; done)) G3),Cm⟩⟩
  refine WP.region ?_
  refine WL.m rfl ?_
  refine WL.m rfl ?_
  refine WL.c (Sure.none rfl) rfl (C.call1 (x:=.tmp 131) rfl cl29 Ds) (Fnc.mono (ref_Num (diffF p q)) ?_)
  rintro _ Ge ⟨rfl,Cn⟩
  have Ka:Ext [Aa,Ab] w Ge:=Gz.trans (Ext.any (Y:=[Aa,Ab]) Cn)
  have Pe:Ext [Aa,Ab] Aq Ge:=G0.trans (Ext.any (Y:=[Aa,Ab]) Cn)
  have Pf:Ext [Aa,Ab] Ag Ge:=G1.trans (Ext.any (Y:=[Aa,Ab]) Cn)
  have Pg:Ext [Aa,Ab] Ad Ge:=G2.trans (Ext.any (Y:=[Aa,Ab]) Cn)
  have Kb:=hbb63_412.ext Cn (by simp)
  have Kc:=hbb81_412.ext Cn (by simp)
  have Kd:=G3.keep Cn (by intro g hg hm; simp at hm) (by simp)
  refine WL.z (.string ((ByteArray.mk #[67]) ++ (numB (diffF p q)))) (V.sadd rfl rfl rfl (by first | omega | (simp only [ByteArray.size_append]; omega))) ?_
  refine WL.lit (R:=strR) (X:=(Aa :: (Ab :: X))) (vs:=[.string ((ByteArray.mk #[67]) ++ (numB (diffF p q)))]) (xs:=[((ByteArray.mk #[67]) ++ (numB (diffF p q)))]) (Sure.none rfl) rfl rfl u33 e9 (by show 0 < (1:Nat); decide) (by show _ * (1:Nat) ≤ 1024; decide) rfl rfl rfl (by intro i v x hv hx; match i,hv,hx with | 0,rfl,rfl=>exact ⟨rfl,by first | (simp only [maxLen,ByteArray.size_append]; omega) | (simp [maxLen]; omega)⟩ | i + 1,hv,_=>simp at hv) (fun Tx H6 Co Ph hlit434=>?_)
  have Ix:∀ g,(Tx).ownBlock = some g → g ∉ (Aa :: (Ab :: X)):=by intro g hg hm; have h1:=hlit434 g hg; have h2:=(inCons Kc.lt (inCons Kb.lt (inMono hX Ka.size))) g hm; omega
  have Ke:Ext [Aa,Ab] w H6:=Ka.trans (Ext.any (Y:=[Aa,Ab]) Co)
  have Pi:Ext [Aa,Ab] Aq H6:=Pe.trans (Ext.any (Y:=[Aa,Ab]) Co)
  have Pj:Ext [Aa,Ab] Ag H6:=Pf.trans (Ext.any (Y:=[Aa,Ab]) Co)
  have Kf:Ext [Aa,Ab] Ad H6:=Pg.trans (Ext.any (Y:=[Aa,Ab]) Co)
  have Kg:=Kb.ext Co (by simp)
  have Kh:=Kc.ext Co (by simp)
  have Fg:=Kd.keep Co (by intro g hg hm; simp at hm) (by simp)
  have Ki:=Ph.low (B':=Ge.heap.size) (Nat.le_refl _)
  refine WL.appendOwn (R:=strR) (X:=(Aa :: (Ab :: X))) (B:=Ad.heap.size) (xs:=hardL2 p q) (ys:=[((ByteArray.mk #[67]) ++ (numB (diffF p q)))]) (Sure.none rfl) rfl rfl u33 e9 rfl (by show 0 < (1:Nat); decide) rfl rfl Fg (Owns.sl' Ki Ix) (fun g hg=>Owns.sl' (Owns.flat flat_str Ki) (fun gs hgs hm=>(List.mem_cons.1 hm).elim (fun h=>by have h1:=hlit434 gs hgs; have h2:=(Kd.lt g hg).2; omega) (fun h=>Ix gs hgs h))) Kf.size (by first | omega | (simp only [List.length_cons,List.length_nil,List.length_append,laidK_len]; omega)) (by first | (simp only [maxLen]; omega) | (simp only [List.length_cons,List.length_nil,List.length_append,laidK_len,maxLen]; omega)) (fun Yj Yk Pk Dt hf455=>?_)
  have M2:=after_no hf455 Cm (inCons Kh.lt (inCons Kg.lt (inMono hX Ke.size)))
  have Pl:=Ext.ownB (Ke) Dt (fun k hk=>(Owns.lt Fg k hk).1) By
  have Pm:=Ext.ownB (Pi) Dt (fun k hk=>(Owns.lt Fg k hk).1) Bz
  have Pn:=Ext.ownB (Pj) Dt (fun k hk=>(Owns.lt Fg k hk).1) B0
  have Po:=Ext.ownB (Kf) Dt (fun k hk=>(Owns.lt Fg k hk).1) (Nat.le_refl _)
  have Pp:=Kg.grown Dt (fun g hg e=>Cm g hg (by simp [e]))
  have Pq:=Kh.grown Dt (fun g hg e=>Cm g hg (by simp [e]))
  refine WL.m rfl ?_
  refine WL.nil ?_
  exact ⟨Is,It,Iu,Iv,Gd,Iw,Ds,Gw,Gx,Gy,Pl,Pm,Pn,Po,Pp,Pq,⟨(Owns.castE (by first | (rw [cutL2,if_pos (by first | assumption | omega | exact ⟨by omega,by omega⟩)]; first | done | rfl) | (rw [cutL2,if_neg (by first | assumption | omega)]; first | done | rfl) | (rw [cutL2,if_pos (by assumption),List.append_nil]; done) | (rw [cutL2,if_neg (by first | assumption | omega),List.append_nil]; done)) Pk),M2⟩⟩
 rintro Bi Dk ⟨Dl,Dm,Ar,Aj,Dn,Do,B7,B8,B9,Ca,Du,A7,Dv,Dw,hbb63_463,hbb81_463,⟨Dx,Ap⟩⟩
 refine WP.seq_cut (fun Bj Dp=>Bj 0 = .agg (peerA p v1 v3 v5 v7 v9 As) ∧ Bj 1 = .agg (peerA q Ak Ah Al Am An Ao) ∧ Bj 2 = .pointer (some ⟨Ab,0,none⟩) ∧ Bj 3 = .pointer (some ⟨Aa,0,none⟩) ∧ Bj 7 = .int .u64 (lastI p) ∧ Bj 9 = .int .u64 (lastI q) ∧ Bj 11 = .int .u64 (diffF p q) ∧ Bj 12 = .int .u64 (termOf p q.Base) ∧ Bj 13 = .bool (termIs p q.Base) ∧ Bj 49 = .bool (decide (q.Term < p.Term)) ∧ Ext [Aa,Ab] w Dp ∧ Ext [Aa,Ab] Aq Dp ∧ Ext [Aa,Ab] Ag Dp ∧ Ext [Aa,Ab] Ad Dp ∧ Box Dp Ab 29 (peerC p v1 v3 v5 v7 v9 As) ∧ Box Dp Aa 29 (peerC q Ak Ah Al Am An Ao) ∧ (Owns strR 9 Ad.heap.size (Aa :: (Ab :: X)) Dp (Bj 6) (baseL2 p q) ∧ (∀ g,(Bj 6).ownBlock = some g → g ∉ (Aa :: (Ab :: X))))) ?_ ?_
 ·refine WP.seq ?_
  refine W.bsplit (c:=decide (p.Base ≠ q.Base)) (fun Cp=>?_) (fun Cp=>?_)
  ·have hc470r:=Cp
   replace Cp:=of_decide_eq_true Cp
   refine WP.anyMake [fun v _=>v = (.pointer (some ⟨Ab,6,none⟩):Value),fun v _=>v = (.int .u64 (p.Base):Value),fun v _=>v = (.pointer (some ⟨Aa,6,none⟩):Value),fun v _=>v = (.int .u64 (q.Base):Value),fun v _=>v = (.bool (decide (p.Base ≠ q.Base)):Value),fun v _=>v = (.bool (true):Value),fun v _=>v = (undef:Value),fun v _=>v = (undef:Value),fun v _=>v = (undef:Value),fun v _=>v = (undef:Value),fun v _=>v = (undef:Value),fun v _=>v = (.bool (true):Value),fun v _=>v = (.bool (true):Value),fun v _=>v = (undef:Value),fun v _=>v = (undef:Value),fun v _=>v = (undef:Value),fun v _=>v = (undef:Value),fun v _=>v = (undef:Value),fun v _=>v = (undef:Value),fun v _=>v = (undef:Value),fun v _=>v = (.bool (true):Value),fun v _=>v = (.bool (true):Value),fun v _=>v = (undef:Value),fun v _=>v = (undef:Value),fun v _=>v = (undef:Value),fun v _=>v = (undef:Value),fun v _=>v = (undef:Value),fun v _=>v = (.bool (true):Value)] mo (by kernel_rfl) (by kernel_rfl) (by kernel_rfl) ⟨Stab.eq _,Stab.eq _,Stab.eq _,Stab.eq _,Stab.eq _,Stab.eq _,Stab.eq _,Stab.eq _,Stab.eq _,Stab.eq _,Stab.eq _,Stab.eq _,Stab.eq _,Stab.eq _,Stab.eq _,Stab.eq _,Stab.eq _,Stab.eq _,Stab.eq _,Stab.eq _,Stab.eq _,Stab.eq _,Stab.eq _,Stab.eq _,Stab.eq _,Stab.eq _,Stab.eq _,Stab.eq _,trivial⟩ ⟨?_,?_,?_,?_,?_,?_,?_,?_,?_,?_,?_,?_,?_,?_,?_,?_,?_,?_,?_,?_,?_,?_,?_,?_,?_,?_,?_,?_,trivial⟩ ?_
   ·intro E' w' hw hE hp
    exact .inr ⟨(Sure.none rfl),.inl ⟨.pointer (some ⟨Ab,6,none⟩),V.fieldAddr (x:=.tmp 2) rfl fl29_6 ((hE 2 (by kernel_rfl)).trans Ar),rfl⟩⟩
   ·intro E' w' hw hE hp
    have Gf:E' 136 = (.pointer (some ⟨Ab,6,none⟩):Value):=hp 0 (by kernel_rfl)
    exact .inr ⟨(Sure.none rfl),.inl ⟨.int .u64 (p.Base),V.load (x:=.tmp 136) rfl p23 Gf ((hbb63_463.ext hw (by simp)).cell rfl),rfl⟩⟩
   ·intro E' w' hw hE hp
    exact .inr ⟨(Sure.none rfl),.inl ⟨.pointer (some ⟨Aa,6,none⟩),V.fieldAddr (x:=.tmp 3) rfl fl29_6 ((hE 3 (by kernel_rfl)).trans Aj),rfl⟩⟩
   ·intro E' w' hw hE hp
    have Fh:E' 138 = (.pointer (some ⟨Aa,6,none⟩):Value):=hp 2 (by kernel_rfl)
    exact .inr ⟨(Sure.none rfl),.inl ⟨.int .u64 (q.Base),V.load (x:=.tmp 138) rfl p23 Fh ((hbb81_463.ext hw (by simp)).cell rfl),rfl⟩⟩
   ·intro E' w' hw hE hp
    have Dh:E' 137 = (.int .u64 (p.Base):Value):=hp 1 (by kernel_rfl)
    have B1:E' 139 = (.int .u64 (q.Base):Value):=hp 3 (by kernel_rfl)
    exact .inr ⟨(Sure.none rfl),.inl ⟨.bool (decide (p.Base ≠ q.Base)),V.cmp (x:=.tmp 137) (y:=.tmp 139) rfl Dh B1 rfl,rfl⟩⟩
   ·intro E' w' hw hE hp
    have B2:E' 140 = (.bool (decide (p.Base ≠ q.Base)):Value):=hp 4 (by kernel_rfl)
    exact .inr ⟨(Sure.none rfl),.inl ⟨.bool (decide (p.Base ≠ q.Base)),V.move (x:=.tmp 140) rfl B2,(congrArg Value.bool hc470r)⟩⟩
   ·intro E' w' hw hE hp
    have Af:E' 141 = (.bool (true):Value):=hp 5 (by kernel_rfl)
    exact .inl ⟨(Shut.no rfl rfl Af rfl),rfl⟩
   ·intro E' w' hw hE hp
    have Af:E' 141 = (.bool (true):Value):=hp 5 (by kernel_rfl)
    have D5:E' 142 = (undef:Value):=hp 6 (by kernel_rfl)
    exact .inl ⟨(Shut.no rfl rfl Af rfl),rfl⟩
   ·intro E' w' hw hE hp
    have Af:E' 141 = (.bool (true):Value):=hp 5 (by kernel_rfl)
    exact .inl ⟨(Shut.no rfl rfl Af rfl),rfl⟩
   ·intro E' w' hw hE hp
    have Af:E' 141 = (.bool (true):Value):=hp 5 (by kernel_rfl)
    have D6:E' 144 = (undef:Value):=hp 8 (by kernel_rfl)
    exact .inl ⟨(Shut.no rfl rfl Af rfl),rfl⟩
   ·intro E' w' hw hE hp
    have Af:E' 141 = (.bool (true):Value):=hp 5 (by kernel_rfl)
    have Fy:E' 143 = (undef:Value):=hp 7 (by kernel_rfl)
    have G4:E' 145 = (undef:Value):=hp 9 (by kernel_rfl)
    exact .inl ⟨(Shut.no rfl rfl Af rfl),rfl⟩
   ·intro E' w' hw hE hp
    have Af:E' 141 = (.bool (true):Value):=hp 5 (by kernel_rfl)
    have Fv:E' 146 = (undef:Value):=hp 10 (by kernel_rfl)
    exact .inr ⟨(Sure.none rfl),.inl ⟨.bool (true),V.pick (c:=.tmp 141) (y:=.tmp 146) rfl Af rfl,rfl⟩⟩
   ·intro E' w' hw hE hp
    have D8:E' 147 = (.bool (true):Value):=hp 11 (by kernel_rfl)
    exact .inr ⟨(Sure.none rfl),.inl ⟨.bool (true),V.move (x:=.tmp 147) rfl D8,rfl⟩⟩
   ·intro E' w' hw hE hp
    have Ac:E' 148 = (.bool (true):Value):=hp 12 (by kernel_rfl)
    exact .inl ⟨(Shut.no rfl rfl Ac rfl),rfl⟩
   ·intro E' w' hw hE hp
    have Ac:E' 148 = (.bool (true):Value):=hp 12 (by kernel_rfl)
    have Gg:E' 149 = (undef:Value):=hp 13 (by kernel_rfl)
    exact .inl ⟨(Shut.no rfl rfl Ac rfl),rfl⟩
   ·intro E' w' hw hE hp
    have Ac:E' 148 = (.bool (true):Value):=hp 12 (by kernel_rfl)
    have Gh:E' 150 = (undef:Value):=hp 14 (by kernel_rfl)
    exact .inl ⟨(Shut.no rfl rfl Ac rfl),rfl⟩
   ·intro E' w' hw hE hp
    have Ac:E' 148 = (.bool (true):Value):=hp 12 (by kernel_rfl)
    exact .inl ⟨(Shut.no rfl rfl Ac rfl),rfl⟩
   ·intro E' w' hw hE hp
    have Ac:E' 148 = (.bool (true):Value):=hp 12 (by kernel_rfl)
    have Gi:E' 152 = (undef:Value):=hp 16 (by kernel_rfl)
    exact .inl ⟨(Shut.no rfl rfl Ac rfl),rfl⟩
   ·intro E' w' hw hE hp
    have Ac:E' 148 = (.bool (true):Value):=hp 12 (by kernel_rfl)
    have Gj:E' 153 = (undef:Value):=hp 17 (by kernel_rfl)
    exact .inl ⟨(Shut.no rfl rfl Ac rfl),rfl⟩
   ·intro E' w' hw hE hp
    have Ac:E' 148 = (.bool (true):Value):=hp 12 (by kernel_rfl)
    have Gk:E' 151 = (undef:Value):=hp 15 (by kernel_rfl)
    have Gl:E' 154 = (undef:Value):=hp 18 (by kernel_rfl)
    exact .inl ⟨(Shut.no rfl rfl Ac rfl),rfl⟩
   ·intro E' w' hw hE hp
    have Ac:E' 148 = (.bool (true):Value):=hp 12 (by kernel_rfl)
    have Gm:E' 155 = (undef:Value):=hp 19 (by kernel_rfl)
    exact .inr ⟨(Sure.none rfl),.inl ⟨.bool (true),V.pick (c:=.tmp 148) (y:=.tmp 155) rfl Ac rfl,rfl⟩⟩
   ·intro E' w' hw hE hp
    have D9:E' 156 = (.bool (true):Value):=hp 20 (by kernel_rfl)
    exact .inr ⟨(Sure.none rfl),.inl ⟨.bool (true),V.move (x:=.tmp 156) rfl D9,rfl⟩⟩
   ·intro E' w' hw hE hp
    have Ae:E' 157 = (.bool (true):Value):=hp 21 (by kernel_rfl)
    exact .inl ⟨(Shut.no rfl rfl Ae rfl),rfl⟩
   ·intro E' w' hw hE hp
    have Ae:E' 157 = (.bool (true):Value):=hp 21 (by kernel_rfl)
    have H7:E' 158 = (undef:Value):=hp 22 (by kernel_rfl)
    exact .inl ⟨(Shut.no rfl rfl Ae rfl),rfl⟩
   ·intro E' w' hw hE hp
    have Ae:E' 157 = (.bool (true):Value):=hp 21 (by kernel_rfl)
    exact .inl ⟨(Shut.no rfl rfl Ae rfl),rfl⟩
   ·intro E' w' hw hE hp
    have Ae:E' 157 = (.bool (true):Value):=hp 21 (by kernel_rfl)
    have H8:E' 160 = (undef:Value):=hp 24 (by kernel_rfl)
    exact .inl ⟨(Shut.no rfl rfl Ae rfl),rfl⟩
   ·intro E' w' hw hE hp
    have Ae:E' 157 = (.bool (true):Value):=hp 21 (by kernel_rfl)
    have H9:E' 159 = (undef:Value):=hp 23 (by kernel_rfl)
    have Ia:E' 161 = (undef:Value):=hp 25 (by kernel_rfl)
    exact .inl ⟨(Shut.no rfl rfl Ae rfl),rfl⟩
   ·intro E' w' hw hE hp
    have Ae:E' 157 = (.bool (true):Value):=hp 21 (by kernel_rfl)
    have Ib:E' 162 = (undef:Value):=hp 26 (by kernel_rfl)
    exact .inr ⟨(Sure.none rfl),.inl ⟨.bool (true),V.pick (c:=.tmp 157) (y:=.tmp 162) rfl Ae rfl,rfl⟩⟩
   ·intro Ty Ic Cq Az Pr
    have Ps:Ext [Aa,Ab] w Ic:=Du.trans (Ext.any (Y:=[Aa,Ab]) Cq)
    have Cr:Ext [Aa,Ab] Aq Ic:=A7.trans (Ext.any (Y:=[Aa,Ab]) Cq)
    have Pt:Ext [Aa,Ab] Ag Ic:=Dv.trans (Ext.any (Y:=[Aa,Ab]) Cq)
    have Pu:Ext [Aa,Ab] Ad Ic:=Dw.trans (Ext.any (Y:=[Aa,Ab]) Cq)
    have Pv:=hbb63_463.ext Cq (by simp)
    have Kj:=hbb81_463.ext Cq (by simp)
    have Pw:=Dx.keep Cq (by intro g hg hm; simp at hm) (by simp)
    have Px:Ty 163 = (.bool (true):Value):=Pr 27 (of_decide_eq_true (by kernel_rfl))
    refine WP.cond_true Px ?_
    refine WP.region ?_
    refine WL.m rfl ?_
    refine WL.z (.agg (peerA q Ak Ah Al Am An Ao)) (V.loadAgg (x:=.tmp 3) (cs:=(peerC q Ak Ah Al Am An Ao)) rfl a29 ((Az 3 (by kernel_rfl)).trans Aj) (At.box Kj) rfl) ?_
    refine WL.c (Sure.none rfl) rfl (C.call1 rfl cl35 rfl) (Fnc.mono (ref12_base (p:=q) ⟨Ak,Ah,Al,Am,An,Ao,rfl,(Db.ext (Ext.pre Cr)),(Bx.ext (Ext.pre Cr)),(Dc.ext (Ext.pre Cr)),(Dd.ext (Ext.pre Cr)),(De.ext (Ext.pre Cr)),(Df.ext (Ext.pre Cr)),Bn⟩ (by assumption) (by assumption)) ?_)
    rintro _ Gn ⟨rfl,Cs⟩
    have Kk:Ext [Aa,Ab] w Gn:=Ps.trans (Ext.any (Y:=[Aa,Ab]) Cs)
    have Py:Ext [Aa,Ab] Aq Gn:=Cr.trans (Ext.any (Y:=[Aa,Ab]) Cs)
    have Pz:Ext [Aa,Ab] Ag Gn:=Pt.trans (Ext.any (Y:=[Aa,Ab]) Cs)
    have P0:Ext [Aa,Ab] Ad Gn:=Pu.trans (Ext.any (Y:=[Aa,Ab]) Cs)
    have Kl:=Pv.ext Cs (by simp)
    have Km:=Kj.ext Cs (by simp)
    have Kn:=Pw.keep Cs (by intro g hg hm; simp at hm) (by simp)
    refine WL.lit (R:=strR) (X:=(Aa :: (Ab :: X))) (vs:=[.string (baseB q)]) (xs:=[(baseB q)]) (Sure.none rfl) rfl rfl u33 e9 (by show 0 < (1:Nat); decide) (by show _ * (1:Nat) ≤ 1024; decide) rfl rfl rfl (by intro i v x hv hx; match i,hv,hx with | 0,rfl,rfl=>exact ⟨rfl,by first | (simp only [maxLen,ByteArray.size_append]; omega) | (simp [maxLen]; omega)⟩ | i + 1,hv,_=>simp at hv) (fun Tz Ie Ct P1 hlit500=>?_)
    have Iy:∀ g,(Tz).ownBlock = some g → g ∉ (Aa :: (Ab :: X)):=by intro g hg hm; have h1:=hlit500 g hg; have h2:=(inCons Km.lt (inCons Kl.lt (inMono hX Kk.size))) g hm; omega
    have Ko:Ext [Aa,Ab] w Ie:=Kk.trans (Ext.any (Y:=[Aa,Ab]) Ct)
    have P2:Ext [Aa,Ab] Aq Ie:=Py.trans (Ext.any (Y:=[Aa,Ab]) Ct)
    have P3:Ext [Aa,Ab] Ag Ie:=Pz.trans (Ext.any (Y:=[Aa,Ab]) Ct)
    have Kq:Ext [Aa,Ab] Ad Ie:=P0.trans (Ext.any (Y:=[Aa,Ab]) Ct)
    have Kr:=Kl.ext Ct (by simp)
    have Ks:=Km.ext Ct (by simp)
    have Fi:=Kn.keep Ct (by intro g hg hm; simp at hm) (by simp)
    have Kt:=P1.low (B':=Gn.heap.size) (Nat.le_refl _)
    refine WL.appendOwn (x:=.tmp 164) (R:=strR) (X:=(Aa :: (Ab :: X))) (B:=Ad.heap.size) (xs:=cutL2 p q) (ys:=[(baseB q)]) (Sure.none rfl) rfl rfl u33 e9 rfl (by show 0 < (1:Nat); decide) ((Az 6 (by kernel_rfl)).trans rfl) rfl Fi (Owns.sl' Kt Iy) (fun g hg=>Owns.sl' (Owns.flat flat_str Kt) (fun gs hgs hm=>(List.mem_cons.1 hm).elim (fun h=>by have h1:=hlit500 gs hgs; have h2:=(Kn.lt g hg).2; omega) (fun h=>Iy gs hgs h))) Kq.size (by first | omega | (simp only [List.length_cons,List.length_nil,List.length_append,laidK_len]; omega)) (by first | (simp only [maxLen]; omega) | (simp only [List.length_cons,List.length_nil,List.length_append,laidK_len,maxLen]; omega)) (fun Yl Ym P4 Dy hf523=>?_)
    have M3:=after_no hf523 Ap (inCons Ks.lt (inCons Kr.lt (inMono hX Ko.size)))
    have P5:=Ext.ownB (Ko) Dy (fun k hk=>(Owns.lt Fi k hk).1) By
    have P6:=Ext.ownB (P2) Dy (fun k hk=>(Owns.lt Fi k hk).1) Bz
    have P7:=Ext.ownB (P3) Dy (fun k hk=>(Owns.lt Fi k hk).1) B0
    have P8:=Ext.ownB (Kq) Dy (fun k hk=>(Owns.lt Fi k hk).1) (Nat.le_refl _)
    have P9:=Kr.grown Dy (fun g hg e=>Ap g hg (by simp [e]))
    have Qa:=Ks.grown Dy (fun g hg e=>Ap g hg (by simp [e]))
    refine WL.m rfl ?_
    refine WL.nil ?_
    exact ⟨((Az 0 (by kernel_rfl)).trans Dl),((Az 1 (by kernel_rfl)).trans Dm),((Az 2 (by kernel_rfl)).trans Ar),((Az 3 (by kernel_rfl)).trans Aj),((Az 7 (by kernel_rfl)).trans Dn),((Az 9 (by kernel_rfl)).trans Do),((Az 11 (by kernel_rfl)).trans B7),((Az 12 (by kernel_rfl)).trans B8),((Az 13 (by kernel_rfl)).trans B9),((Az 49 (by kernel_rfl)).trans Ca),P5,P6,P7,P8,P9,Qa,⟨(Owns.castE (by first | (rw [baseL2,if_neg (by first | exact same_no1 (by assumption) | exact same_no2 (by assumption) | exact same_no3 (by assumption) | exact same_no4 (by assumption))]; first | done | rfl) | (rw [baseL2,if_pos ⟨by omega,by omega,by assumption,by assumption⟩,List.append_nil]; done)) P4),M3⟩⟩
  have hc470r:=Cp
  replace Cp:=of_decide_eq_false Cp
  refine W.bsplit (c:=decide (p.BaseTerm ≠ q.BaseTerm)) (fun Cu=>?_) (fun Cu=>?_)
  ·have hc531r:=Cu
   replace Cu:=of_decide_eq_true Cu
   refine WP.anyMake [fun v _=>v = (.pointer (some ⟨Ab,6,none⟩):Value),fun v _=>v = (.int .u64 (p.Base):Value),fun v _=>v = (.pointer (some ⟨Aa,6,none⟩):Value),fun v _=>v = (.int .u64 (q.Base):Value),fun v _=>v = (.bool (decide (p.Base ≠ q.Base)):Value),fun v _=>v = (.bool (false):Value),fun v _=>v = (.pointer (some ⟨Ab,7,none⟩):Value),fun v _=>v = (.int .u64 (p.BaseTerm):Value),fun v _=>v = (.pointer (some ⟨Aa,7,none⟩):Value),fun v _=>v = (.int .u64 (q.BaseTerm):Value),fun v _=>v = (.bool (decide (p.BaseTerm ≠ q.BaseTerm)):Value),fun v _=>v = (.bool (decide (p.BaseTerm ≠ q.BaseTerm)):Value),fun v _=>v = (.bool (true):Value),fun v _=>v = (undef:Value),fun v _=>v = (undef:Value),fun v _=>v = (undef:Value),fun v _=>v = (undef:Value),fun v _=>v = (undef:Value),fun v _=>v = (undef:Value),fun v _=>v = (undef:Value),fun v _=>v = (.bool (true):Value),fun v _=>v = (.bool (true):Value),fun v _=>v = (undef:Value),fun v _=>v = (undef:Value),fun v _=>v = (undef:Value),fun v _=>v = (undef:Value),fun v _=>v = (undef:Value),fun v _=>v = (.bool (true):Value)] mo (by kernel_rfl) (by kernel_rfl) (by kernel_rfl) ⟨Stab.eq _,Stab.eq _,Stab.eq _,Stab.eq _,Stab.eq _,Stab.eq _,Stab.eq _,Stab.eq _,Stab.eq _,Stab.eq _,Stab.eq _,Stab.eq _,Stab.eq _,Stab.eq _,Stab.eq _,Stab.eq _,Stab.eq _,Stab.eq _,Stab.eq _,Stab.eq _,Stab.eq _,Stab.eq _,Stab.eq _,Stab.eq _,Stab.eq _,Stab.eq _,Stab.eq _,Stab.eq _,trivial⟩ ⟨?_,?_,?_,?_,?_,?_,?_,?_,?_,?_,?_,?_,?_,?_,?_,?_,?_,?_,?_,?_,?_,?_,?_,?_,?_,?_,?_,?_,trivial⟩ ?_
   ·intro E' w' hw hE hp
    exact .inr ⟨(Sure.none rfl),.inl ⟨.pointer (some ⟨Ab,6,none⟩),V.fieldAddr (x:=.tmp 2) rfl fl29_6 ((hE 2 (by kernel_rfl)).trans Ar),rfl⟩⟩
   ·intro E' w' hw hE hp
    have Gf:E' 136 = (.pointer (some ⟨Ab,6,none⟩):Value):=hp 0 (by kernel_rfl)
    exact .inr ⟨(Sure.none rfl),.inl ⟨.int .u64 (p.Base),V.load (x:=.tmp 136) rfl p23 Gf ((hbb63_463.ext hw (by simp)).cell rfl),rfl⟩⟩
   ·intro E' w' hw hE hp
    exact .inr ⟨(Sure.none rfl),.inl ⟨.pointer (some ⟨Aa,6,none⟩),V.fieldAddr (x:=.tmp 3) rfl fl29_6 ((hE 3 (by kernel_rfl)).trans Aj),rfl⟩⟩
   ·intro E' w' hw hE hp
    have Fh:E' 138 = (.pointer (some ⟨Aa,6,none⟩):Value):=hp 2 (by kernel_rfl)
    exact .inr ⟨(Sure.none rfl),.inl ⟨.int .u64 (q.Base),V.load (x:=.tmp 138) rfl p23 Fh ((hbb81_463.ext hw (by simp)).cell rfl),rfl⟩⟩
   ·intro E' w' hw hE hp
    have Dh:E' 137 = (.int .u64 (p.Base):Value):=hp 1 (by kernel_rfl)
    have B1:E' 139 = (.int .u64 (q.Base):Value):=hp 3 (by kernel_rfl)
    exact .inr ⟨(Sure.none rfl),.inl ⟨.bool (decide (p.Base ≠ q.Base)),V.cmp (x:=.tmp 137) (y:=.tmp 139) rfl Dh B1 rfl,rfl⟩⟩
   ·intro E' w' hw hE hp
    have B2:E' 140 = (.bool (decide (p.Base ≠ q.Base)):Value):=hp 4 (by kernel_rfl)
    exact .inr ⟨(Sure.none rfl),.inl ⟨.bool (decide (p.Base ≠ q.Base)),V.move (x:=.tmp 140) rfl B2,(congrArg Value.bool hc470r)⟩⟩
   ·intro E' w' hw hE hp
    have Af:E' 141 = (.bool (false):Value):=hp 5 (by kernel_rfl)
    exact .inr ⟨(Sure.yes rfl rfl Af),.inl ⟨.pointer (some ⟨Ab,7,none⟩),V.fieldAddr (x:=.tmp 2) rfl fl29_7 ((hE 2 (by kernel_rfl)).trans Ar),rfl⟩⟩
   ·intro E' w' hw hE hp
    have Af:E' 141 = (.bool (false):Value):=hp 5 (by kernel_rfl)
    have D5:E' 142 = (.pointer (some ⟨Ab,7,none⟩):Value):=hp 6 (by kernel_rfl)
    exact .inr ⟨(Sure.yes rfl rfl Af),.inl ⟨.int .u64 (p.BaseTerm),V.load (x:=.tmp 142) rfl p23 D5 ((hbb63_463.ext hw (by simp)).cell rfl),rfl⟩⟩
   ·intro E' w' hw hE hp
    have Af:E' 141 = (.bool (false):Value):=hp 5 (by kernel_rfl)
    exact .inr ⟨(Sure.yes rfl rfl Af),.inl ⟨.pointer (some ⟨Aa,7,none⟩),V.fieldAddr (x:=.tmp 3) rfl fl29_7 ((hE 3 (by kernel_rfl)).trans Aj),rfl⟩⟩
   ·intro E' w' hw hE hp
    have Af:E' 141 = (.bool (false):Value):=hp 5 (by kernel_rfl)
    have D6:E' 144 = (.pointer (some ⟨Aa,7,none⟩):Value):=hp 8 (by kernel_rfl)
    exact .inr ⟨(Sure.yes rfl rfl Af),.inl ⟨.int .u64 (q.BaseTerm),V.load (x:=.tmp 144) rfl p23 D6 ((hbb81_463.ext hw (by simp)).cell rfl),rfl⟩⟩
   ·intro E' w' hw hE hp
    have Af:E' 141 = (.bool (false):Value):=hp 5 (by kernel_rfl)
    have Fy:E' 143 = (.int .u64 (p.BaseTerm):Value):=hp 7 (by kernel_rfl)
    have G4:E' 145 = (.int .u64 (q.BaseTerm):Value):=hp 9 (by kernel_rfl)
    exact .inr ⟨(Sure.yes rfl rfl Af),.inl ⟨.bool (decide (p.BaseTerm ≠ q.BaseTerm)),V.cmp (x:=.tmp 143) (y:=.tmp 145) rfl Fy G4 rfl,rfl⟩⟩
   ·intro E' w' hw hE hp
    have Af:E' 141 = (.bool (false):Value):=hp 5 (by kernel_rfl)
    have Fv:E' 146 = (.bool (decide (p.BaseTerm ≠ q.BaseTerm)):Value):=hp 10 (by kernel_rfl)
    exact .inr ⟨(Sure.none rfl),.inl ⟨.bool (decide (p.BaseTerm ≠ q.BaseTerm)),V.pick (c:=.tmp 141) (y:=.tmp 146) rfl Af Fv,rfl⟩⟩
   ·intro E' w' hw hE hp
    have D8:E' 147 = (.bool (decide (p.BaseTerm ≠ q.BaseTerm)):Value):=hp 11 (by kernel_rfl)
    exact .inr ⟨(Sure.none rfl),.inl ⟨.bool (decide (p.BaseTerm ≠ q.BaseTerm)),V.move (x:=.tmp 147) rfl D8,(congrArg Value.bool hc531r)⟩⟩
   ·intro E' w' hw hE hp
    have Ac:E' 148 = (.bool (true):Value):=hp 12 (by kernel_rfl)
    exact .inl ⟨(Shut.no rfl rfl Ac rfl),rfl⟩
   ·intro E' w' hw hE hp
    have Ac:E' 148 = (.bool (true):Value):=hp 12 (by kernel_rfl)
    have Gg:E' 149 = (undef:Value):=hp 13 (by kernel_rfl)
    exact .inl ⟨(Shut.no rfl rfl Ac rfl),rfl⟩
   ·intro E' w' hw hE hp
    have Ac:E' 148 = (.bool (true):Value):=hp 12 (by kernel_rfl)
    have Gh:E' 150 = (undef:Value):=hp 14 (by kernel_rfl)
    exact .inl ⟨(Shut.no rfl rfl Ac rfl),rfl⟩
   ·intro E' w' hw hE hp
    have Ac:E' 148 = (.bool (true):Value):=hp 12 (by kernel_rfl)
    exact .inl ⟨(Shut.no rfl rfl Ac rfl),rfl⟩
   ·intro E' w' hw hE hp
    have Ac:E' 148 = (.bool (true):Value):=hp 12 (by kernel_rfl)
    have Gi:E' 152 = (undef:Value):=hp 16 (by kernel_rfl)
    exact .inl ⟨(Shut.no rfl rfl Ac rfl),rfl⟩
   ·intro E' w' hw hE hp
    have Ac:E' 148 = (.bool (true):Value):=hp 12 (by kernel_rfl)
    have Gj:E' 153 = (undef:Value):=hp 17 (by kernel_rfl)
    exact .inl ⟨(Shut.no rfl rfl Ac rfl),rfl⟩
   ·intro E' w' hw hE hp
    have Ac:E' 148 = (.bool (true):Value):=hp 12 (by kernel_rfl)
    have Gk:E' 151 = (undef:Value):=hp 15 (by kernel_rfl)
    have Gl:E' 154 = (undef:Value):=hp 18 (by kernel_rfl)
    exact .inl ⟨(Shut.no rfl rfl Ac rfl),rfl⟩
   ·intro E' w' hw hE hp
    have Ac:E' 148 = (.bool (true):Value):=hp 12 (by kernel_rfl)
    have Gm:E' 155 = (undef:Value):=hp 19 (by kernel_rfl)
    exact .inr ⟨(Sure.none rfl),.inl ⟨.bool (true),V.pick (c:=.tmp 148) (y:=.tmp 155) rfl Ac rfl,rfl⟩⟩
   ·intro E' w' hw hE hp
    have D9:E' 156 = (.bool (true):Value):=hp 20 (by kernel_rfl)
    exact .inr ⟨(Sure.none rfl),.inl ⟨.bool (true),V.move (x:=.tmp 156) rfl D9,rfl⟩⟩
   ·intro E' w' hw hE hp
    have Ae:E' 157 = (.bool (true):Value):=hp 21 (by kernel_rfl)
    exact .inl ⟨(Shut.no rfl rfl Ae rfl),rfl⟩
   ·intro E' w' hw hE hp
    have Ae:E' 157 = (.bool (true):Value):=hp 21 (by kernel_rfl)
    have H7:E' 158 = (undef:Value):=hp 22 (by kernel_rfl)
    exact .inl ⟨(Shut.no rfl rfl Ae rfl),rfl⟩
   ·intro E' w' hw hE hp
    have Ae:E' 157 = (.bool (true):Value):=hp 21 (by kernel_rfl)
    exact .inl ⟨(Shut.no rfl rfl Ae rfl),rfl⟩
   ·intro E' w' hw hE hp
    have Ae:E' 157 = (.bool (true):Value):=hp 21 (by kernel_rfl)
    have H8:E' 160 = (undef:Value):=hp 24 (by kernel_rfl)
    exact .inl ⟨(Shut.no rfl rfl Ae rfl),rfl⟩
   ·intro E' w' hw hE hp
    have Ae:E' 157 = (.bool (true):Value):=hp 21 (by kernel_rfl)
    have H9:E' 159 = (undef:Value):=hp 23 (by kernel_rfl)
    have Ia:E' 161 = (undef:Value):=hp 25 (by kernel_rfl)
    exact .inl ⟨(Shut.no rfl rfl Ae rfl),rfl⟩
   ·intro E' w' hw hE hp
    have Ae:E' 157 = (.bool (true):Value):=hp 21 (by kernel_rfl)
    have Ib:E' 162 = (undef:Value):=hp 26 (by kernel_rfl)
    exact .inr ⟨(Sure.none rfl),.inl ⟨.bool (true),V.pick (c:=.tmp 157) (y:=.tmp 162) rfl Ae rfl,rfl⟩⟩
   ·intro T0 If Cv A4 Qb
    have Qc:Ext [Aa,Ab] w If:=Du.trans (Ext.any (Y:=[Aa,Ab]) Cv)
    have Cw:Ext [Aa,Ab] Aq If:=A7.trans (Ext.any (Y:=[Aa,Ab]) Cv)
    have Qd:Ext [Aa,Ab] Ag If:=Dv.trans (Ext.any (Y:=[Aa,Ab]) Cv)
    have Qe:Ext [Aa,Ab] Ad If:=Dw.trans (Ext.any (Y:=[Aa,Ab]) Cv)
    have Qf:=hbb63_463.ext Cv (by simp)
    have Ku:=hbb81_463.ext Cv (by simp)
    have Qg:=Dx.keep Cv (by intro g hg hm; simp at hm) (by simp)
    have Qh:T0 163 = (.bool (true):Value):=Qb 27 (of_decide_eq_true (by kernel_rfl))
    refine WP.cond_true Qh ?_
    refine WP.region ?_
    refine WL.m rfl ?_
    refine WL.z (.agg (peerA q Ak Ah Al Am An Ao)) (V.loadAgg (x:=.tmp 3) (cs:=(peerC q Ak Ah Al Am An Ao)) rfl a29 ((A4 3 (by kernel_rfl)).trans Aj) (At.box Ku) rfl) ?_
    refine WL.c (Sure.none rfl) rfl (C.call1 rfl cl35 rfl) (Fnc.mono (ref12_base (p:=q) ⟨Ak,Ah,Al,Am,An,Ao,rfl,(Db.ext (Ext.pre Cw)),(Bx.ext (Ext.pre Cw)),(Dc.ext (Ext.pre Cw)),(Dd.ext (Ext.pre Cw)),(De.ext (Ext.pre Cw)),(Df.ext (Ext.pre Cw)),Bn⟩ (by assumption) (by assumption)) ?_)
    rintro _ Gp ⟨rfl,Cx⟩
    have Kv:Ext [Aa,Ab] w Gp:=Qc.trans (Ext.any (Y:=[Aa,Ab]) Cx)
    have Qi:Ext [Aa,Ab] Aq Gp:=Cw.trans (Ext.any (Y:=[Aa,Ab]) Cx)
    have Qj:Ext [Aa,Ab] Ag Gp:=Qd.trans (Ext.any (Y:=[Aa,Ab]) Cx)
    have Qk:Ext [Aa,Ab] Ad Gp:=Qe.trans (Ext.any (Y:=[Aa,Ab]) Cx)
    have Kw:=Qf.ext Cx (by simp)
    have Kx:=Ku.ext Cx (by simp)
    have Ky:=Qg.keep Cx (by intro g hg hm; simp at hm) (by simp)
    refine WL.lit (R:=strR) (X:=(Aa :: (Ab :: X))) (vs:=[.string (baseB q)]) (xs:=[(baseB q)]) (Sure.none rfl) rfl rfl u33 e9 (by show 0 < (1:Nat); decide) (by show _ * (1:Nat) ≤ 1024; decide) rfl rfl rfl (by intro i v x hv hx; match i,hv,hx with | 0,rfl,rfl=>exact ⟨rfl,by first | (simp only [maxLen,ByteArray.size_append]; omega) | (simp [maxLen]; omega)⟩ | i + 1,hv,_=>simp at hv) (fun T1 Ig Cy Ql hlit561=>?_)
    have Iz:∀ g,(T1).ownBlock = some g → g ∉ (Aa :: (Ab :: X)):=by intro g hg hm; have h1:=hlit561 g hg; have h2:=(inCons Kx.lt (inCons Kw.lt (inMono hX Kv.size))) g hm; omega
    have Kz:Ext [Aa,Ab] w Ig:=Kv.trans (Ext.any (Y:=[Aa,Ab]) Cy)
    have Qm:Ext [Aa,Ab] Aq Ig:=Qi.trans (Ext.any (Y:=[Aa,Ab]) Cy)
    have Qn:Ext [Aa,Ab] Ag Ig:=Qj.trans (Ext.any (Y:=[Aa,Ab]) Cy)
    have K0:Ext [Aa,Ab] Ad Ig:=Qk.trans (Ext.any (Y:=[Aa,Ab]) Cy)
    have K1:=Kw.ext Cy (by simp)
    have K2:=Kx.ext Cy (by simp)
    have Fj:=Ky.keep Cy (by intro g hg hm; simp at hm) (by simp)
    have K3:=Ql.low (B':=Gp.heap.size) (Nat.le_refl _)
    refine WL.appendOwn (x:=.tmp 164) (R:=strR) (X:=(Aa :: (Ab :: X))) (B:=Ad.heap.size) (xs:=cutL2 p q) (ys:=[(baseB q)]) (Sure.none rfl) rfl rfl u33 e9 rfl (by show 0 < (1:Nat); decide) ((A4 6 (by kernel_rfl)).trans rfl) rfl Fj (Owns.sl' K3 Iz) (fun g hg=>Owns.sl' (Owns.flat flat_str K3) (fun gs hgs hm=>(List.mem_cons.1 hm).elim (fun h=>by have h1:=hlit561 gs hgs; have h2:=(Ky.lt g hg).2; omega) (fun h=>Iz gs hgs h))) K0.size (by first | omega | (simp only [List.length_cons,List.length_nil,List.length_append,laidK_len]; omega)) (by first | (simp only [maxLen]; omega) | (simp only [List.length_cons,List.length_nil,List.length_append,laidK_len,maxLen]; omega)) (fun Yn Yo Qo Dz hf584=>?_)
    have M4:=after_no hf584 Ap (inCons K2.lt (inCons K1.lt (inMono hX Kz.size)))
    have Qp:=Ext.ownB (Kz) Dz (fun k hk=>(Owns.lt Fj k hk).1) By
    have Qq:=Ext.ownB (Qm) Dz (fun k hk=>(Owns.lt Fj k hk).1) Bz
    have Qr:=Ext.ownB (Qn) Dz (fun k hk=>(Owns.lt Fj k hk).1) B0
    have Qs:=Ext.ownB (K0) Dz (fun k hk=>(Owns.lt Fj k hk).1) (Nat.le_refl _)
    have Qt:=K1.grown Dz (fun g hg e=>Ap g hg (by simp [e]))
    have Qu:=K2.grown Dz (fun g hg e=>Ap g hg (by simp [e]))
    refine WL.m rfl ?_
    refine WL.nil ?_
    exact ⟨((A4 0 (by kernel_rfl)).trans Dl),((A4 1 (by kernel_rfl)).trans Dm),((A4 2 (by kernel_rfl)).trans Ar),((A4 3 (by kernel_rfl)).trans Aj),((A4 7 (by kernel_rfl)).trans Dn),((A4 9 (by kernel_rfl)).trans Do),((A4 11 (by kernel_rfl)).trans B7),((A4 12 (by kernel_rfl)).trans B8),((A4 13 (by kernel_rfl)).trans B9),((A4 49 (by kernel_rfl)).trans Ca),Qp,Qq,Qr,Qs,Qt,Qu,⟨(Owns.castE (by first | (rw [baseL2,if_neg (by first | exact same_no1 (by assumption) | exact same_no2 (by assumption) | exact same_no3 (by assumption) | exact same_no4 (by assumption))]; first | done | rfl) | (rw [baseL2,if_pos ⟨by omega,by omega,by assumption,by assumption⟩,List.append_nil]; done)) Qo),M4⟩⟩
  have hc531r:=Cu
  replace Cu:=of_decide_eq_false Cu
  refine W.bsplit (c:=!(seqB (numbersB p.BaseMembers) (numbersB q.BaseMembers))) (fun Cz=>?_) (fun Cz=>?_)
  ·have hc592r:=Cz
   replace Cz:=bnot_true Cz
   refine WP.anyMake [fun v _=>v = (.pointer (some ⟨Ab,6,none⟩):Value),fun v _=>v = (.int .u64 (p.Base):Value),fun v _=>v = (.pointer (some ⟨Aa,6,none⟩):Value),fun v _=>v = (.int .u64 (q.Base):Value),fun v _=>v = (.bool (decide (p.Base ≠ q.Base)):Value),fun v _=>v = (.bool (false):Value),fun v _=>v = (.pointer (some ⟨Ab,7,none⟩):Value),fun v _=>v = (.int .u64 (p.BaseTerm):Value),fun v _=>v = (.pointer (some ⟨Aa,7,none⟩):Value),fun v _=>v = (.int .u64 (q.BaseTerm):Value),fun v _=>v = (.bool (decide (p.BaseTerm ≠ q.BaseTerm)):Value),fun v _=>v = (.bool (decide (p.BaseTerm ≠ q.BaseTerm)):Value),fun v _=>v = (.bool (false):Value),fun v _=>v = (.pointer (some ⟨Ab,8,none⟩):Value),fun v _=>v = (v3:Value),fun v _=>v = (.string (numbersB p.BaseMembers):Value),fun v _=>v = (.pointer (some ⟨Aa,8,none⟩):Value),fun v _=>v = (Ah:Value),fun v _=>v = (.string (numbersB q.BaseMembers):Value),fun v _=>v = (.bool (!(seqB (numbersB p.BaseMembers) (numbersB q.BaseMembers))):Value),fun v _=>v = (.bool (!(seqB (numbersB p.BaseMembers) (numbersB q.BaseMembers))):Value),fun v _=>v = (.bool (true):Value),fun v _=>v = (undef:Value),fun v _=>v = (undef:Value),fun v _=>v = (undef:Value),fun v _=>v = (undef:Value),fun v _=>v = (undef:Value),fun v _=>v = (.bool (true):Value)] mo (by kernel_rfl) (by kernel_rfl) (by kernel_rfl) ⟨Stab.eq _,Stab.eq _,Stab.eq _,Stab.eq _,Stab.eq _,Stab.eq _,Stab.eq _,Stab.eq _,Stab.eq _,Stab.eq _,Stab.eq _,Stab.eq _,Stab.eq _,Stab.eq _,Stab.eq _,Stab.eq _,Stab.eq _,Stab.eq _,Stab.eq _,Stab.eq _,Stab.eq _,Stab.eq _,Stab.eq _,Stab.eq _,Stab.eq _,Stab.eq _,Stab.eq _,Stab.eq _,trivial⟩ ⟨?_,?_,?_,?_,?_,?_,?_,?_,?_,?_,?_,?_,?_,?_,?_,?_,?_,?_,?_,?_,?_,?_,?_,?_,?_,?_,?_,?_,trivial⟩ ?_
   ·intro E' w' hw hE hp
    exact .inr ⟨(Sure.none rfl),.inl ⟨.pointer (some ⟨Ab,6,none⟩),V.fieldAddr (x:=.tmp 2) rfl fl29_6 ((hE 2 (by kernel_rfl)).trans Ar),rfl⟩⟩
   ·intro E' w' hw hE hp
    have Gf:E' 136 = (.pointer (some ⟨Ab,6,none⟩):Value):=hp 0 (by kernel_rfl)
    exact .inr ⟨(Sure.none rfl),.inl ⟨.int .u64 (p.Base),V.load (x:=.tmp 136) rfl p23 Gf ((hbb63_463.ext hw (by simp)).cell rfl),rfl⟩⟩
   ·intro E' w' hw hE hp
    exact .inr ⟨(Sure.none rfl),.inl ⟨.pointer (some ⟨Aa,6,none⟩),V.fieldAddr (x:=.tmp 3) rfl fl29_6 ((hE 3 (by kernel_rfl)).trans Aj),rfl⟩⟩
   ·intro E' w' hw hE hp
    have Fh:E' 138 = (.pointer (some ⟨Aa,6,none⟩):Value):=hp 2 (by kernel_rfl)
    exact .inr ⟨(Sure.none rfl),.inl ⟨.int .u64 (q.Base),V.load (x:=.tmp 138) rfl p23 Fh ((hbb81_463.ext hw (by simp)).cell rfl),rfl⟩⟩
   ·intro E' w' hw hE hp
    have Dh:E' 137 = (.int .u64 (p.Base):Value):=hp 1 (by kernel_rfl)
    have B1:E' 139 = (.int .u64 (q.Base):Value):=hp 3 (by kernel_rfl)
    exact .inr ⟨(Sure.none rfl),.inl ⟨.bool (decide (p.Base ≠ q.Base)),V.cmp (x:=.tmp 137) (y:=.tmp 139) rfl Dh B1 rfl,rfl⟩⟩
   ·intro E' w' hw hE hp
    have B2:E' 140 = (.bool (decide (p.Base ≠ q.Base)):Value):=hp 4 (by kernel_rfl)
    exact .inr ⟨(Sure.none rfl),.inl ⟨.bool (decide (p.Base ≠ q.Base)),V.move (x:=.tmp 140) rfl B2,(congrArg Value.bool hc470r)⟩⟩
   ·intro E' w' hw hE hp
    have Af:E' 141 = (.bool (false):Value):=hp 5 (by kernel_rfl)
    exact .inr ⟨(Sure.yes rfl rfl Af),.inl ⟨.pointer (some ⟨Ab,7,none⟩),V.fieldAddr (x:=.tmp 2) rfl fl29_7 ((hE 2 (by kernel_rfl)).trans Ar),rfl⟩⟩
   ·intro E' w' hw hE hp
    have Af:E' 141 = (.bool (false):Value):=hp 5 (by kernel_rfl)
    have D5:E' 142 = (.pointer (some ⟨Ab,7,none⟩):Value):=hp 6 (by kernel_rfl)
    exact .inr ⟨(Sure.yes rfl rfl Af),.inl ⟨.int .u64 (p.BaseTerm),V.load (x:=.tmp 142) rfl p23 D5 ((hbb63_463.ext hw (by simp)).cell rfl),rfl⟩⟩
   ·intro E' w' hw hE hp
    have Af:E' 141 = (.bool (false):Value):=hp 5 (by kernel_rfl)
    exact .inr ⟨(Sure.yes rfl rfl Af),.inl ⟨.pointer (some ⟨Aa,7,none⟩),V.fieldAddr (x:=.tmp 3) rfl fl29_7 ((hE 3 (by kernel_rfl)).trans Aj),rfl⟩⟩
   ·intro E' w' hw hE hp
    have Af:E' 141 = (.bool (false):Value):=hp 5 (by kernel_rfl)
    have D6:E' 144 = (.pointer (some ⟨Aa,7,none⟩):Value):=hp 8 (by kernel_rfl)
    exact .inr ⟨(Sure.yes rfl rfl Af),.inl ⟨.int .u64 (q.BaseTerm),V.load (x:=.tmp 144) rfl p23 D6 ((hbb81_463.ext hw (by simp)).cell rfl),rfl⟩⟩
   ·intro E' w' hw hE hp
    have Af:E' 141 = (.bool (false):Value):=hp 5 (by kernel_rfl)
    have Fy:E' 143 = (.int .u64 (p.BaseTerm):Value):=hp 7 (by kernel_rfl)
    have G4:E' 145 = (.int .u64 (q.BaseTerm):Value):=hp 9 (by kernel_rfl)
    exact .inr ⟨(Sure.yes rfl rfl Af),.inl ⟨.bool (decide (p.BaseTerm ≠ q.BaseTerm)),V.cmp (x:=.tmp 143) (y:=.tmp 145) rfl Fy G4 rfl,rfl⟩⟩
   ·intro E' w' hw hE hp
    have Af:E' 141 = (.bool (false):Value):=hp 5 (by kernel_rfl)
    have Fv:E' 146 = (.bool (decide (p.BaseTerm ≠ q.BaseTerm)):Value):=hp 10 (by kernel_rfl)
    exact .inr ⟨(Sure.none rfl),.inl ⟨.bool (decide (p.BaseTerm ≠ q.BaseTerm)),V.pick (c:=.tmp 141) (y:=.tmp 146) rfl Af Fv,rfl⟩⟩
   ·intro E' w' hw hE hp
    have D8:E' 147 = (.bool (decide (p.BaseTerm ≠ q.BaseTerm)):Value):=hp 11 (by kernel_rfl)
    exact .inr ⟨(Sure.none rfl),.inl ⟨.bool (decide (p.BaseTerm ≠ q.BaseTerm)),V.move (x:=.tmp 147) rfl D8,(congrArg Value.bool hc531r)⟩⟩
   ·intro E' w' hw hE hp
    have Ac:E' 148 = (.bool (false):Value):=hp 12 (by kernel_rfl)
    exact .inr ⟨(Sure.yes rfl rfl Ac),.inl ⟨.pointer (some ⟨Ab,8,none⟩),V.fieldAddr (x:=.tmp 2) rfl fl29_8 ((hE 2 (by kernel_rfl)).trans Ar),rfl⟩⟩
   ·intro E' w' hw hE hp
    have Ac:E' 148 = (.bool (false):Value):=hp 12 (by kernel_rfl)
    have Gg:E' 149 = (.pointer (some ⟨Ab,8,none⟩):Value):=hp 13 (by kernel_rfl)
    exact .inr ⟨(Sure.yes rfl rfl Ac),.inl ⟨v3,V.load (x:=.tmp 149) rfl p22 Gg ((hbb63_463.ext hw (by simp)).cell rfl),rfl⟩⟩
   ·intro E' w' hw hE hp
    have Ac:E' 148 = (.bool (false):Value):=hp 12 (by kernel_rfl)
    have Gh:E' 150 = (v3:Value):=hp 14 (by kernel_rfl)
    exact .inr ⟨(Sure.yes rfl rfl Ac),.inr ⟨_,_,C.call1 (x:=.tmp 150) rfl cl34 Gh,Fnc.mono (ref12_numbers ((Fo.ext (Ext.pre A7)).ext (Ext.any hw)) (by omega) (by first | assumption | exact hnn)) (fun v w'' h=>⟨h.2,h.1⟩)⟩⟩
   ·intro E' w' hw hE hp
    have Ac:E' 148 = (.bool (false):Value):=hp 12 (by kernel_rfl)
    exact .inr ⟨(Sure.yes rfl rfl Ac),.inl ⟨.pointer (some ⟨Aa,8,none⟩),V.fieldAddr (x:=.tmp 3) rfl fl29_8 ((hE 3 (by kernel_rfl)).trans Aj),rfl⟩⟩
   ·intro E' w' hw hE hp
    have Ac:E' 148 = (.bool (false):Value):=hp 12 (by kernel_rfl)
    have Gi:E' 152 = (.pointer (some ⟨Aa,8,none⟩):Value):=hp 16 (by kernel_rfl)
    exact .inr ⟨(Sure.yes rfl rfl Ac),.inl ⟨Ah,V.load (x:=.tmp 152) rfl p22 Gi ((hbb81_463.ext hw (by simp)).cell rfl),rfl⟩⟩
   ·intro E' w' hw hE hp
    have Ac:E' 148 = (.bool (false):Value):=hp 12 (by kernel_rfl)
    have Gj:E' 153 = (Ah:Value):=hp 17 (by kernel_rfl)
    exact .inr ⟨(Sure.yes rfl rfl Ac),.inr ⟨_,_,C.call1 (x:=.tmp 153) rfl cl34 Gj,Fnc.mono (ref12_numbers ((Bx.ext (Ext.pre A7)).ext (Ext.any hw)) (by omega) (by first | assumption | exact hnn)) (fun v w'' h=>⟨h.2,h.1⟩)⟩⟩
   ·intro E' w' hw hE hp
    have Ac:E' 148 = (.bool (false):Value):=hp 12 (by kernel_rfl)
    have Gk:E' 151 = (.string (numbersB p.BaseMembers):Value):=hp 15 (by kernel_rfl)
    have Gl:E' 154 = (.string (numbersB q.BaseMembers):Value):=hp 18 (by kernel_rfl)
    exact .inr ⟨(Sure.yes rfl rfl Ac),.inl ⟨.bool (!(seqB (numbersB p.BaseMembers) (numbersB q.BaseMembers))),V.scmp (x:=.tmp 151) (y:=.tmp 154) rfl Gk Gl rfl,rfl⟩⟩
   ·intro E' w' hw hE hp
    have Ac:E' 148 = (.bool (false):Value):=hp 12 (by kernel_rfl)
    have Gm:E' 155 = (.bool (!(seqB (numbersB p.BaseMembers) (numbersB q.BaseMembers))):Value):=hp 19 (by kernel_rfl)
    exact .inr ⟨(Sure.none rfl),.inl ⟨.bool (!(seqB (numbersB p.BaseMembers) (numbersB q.BaseMembers))),V.pick (c:=.tmp 148) (y:=.tmp 155) rfl Ac Gm,rfl⟩⟩
   ·intro E' w' hw hE hp
    have D9:E' 156 = (.bool (!(seqB (numbersB p.BaseMembers) (numbersB q.BaseMembers))):Value):=hp 20 (by kernel_rfl)
    exact .inr ⟨(Sure.none rfl),.inl ⟨.bool (!(seqB (numbersB p.BaseMembers) (numbersB q.BaseMembers))),V.move (x:=.tmp 156) rfl D9,(congrArg Value.bool hc592r)⟩⟩
   ·intro E' w' hw hE hp
    have Ae:E' 157 = (.bool (true):Value):=hp 21 (by kernel_rfl)
    exact .inl ⟨(Shut.no rfl rfl Ae rfl),rfl⟩
   ·intro E' w' hw hE hp
    have Ae:E' 157 = (.bool (true):Value):=hp 21 (by kernel_rfl)
    have H7:E' 158 = (undef:Value):=hp 22 (by kernel_rfl)
    exact .inl ⟨(Shut.no rfl rfl Ae rfl),rfl⟩
   ·intro E' w' hw hE hp
    have Ae:E' 157 = (.bool (true):Value):=hp 21 (by kernel_rfl)
    exact .inl ⟨(Shut.no rfl rfl Ae rfl),rfl⟩
   ·intro E' w' hw hE hp
    have Ae:E' 157 = (.bool (true):Value):=hp 21 (by kernel_rfl)
    have H8:E' 160 = (undef:Value):=hp 24 (by kernel_rfl)
    exact .inl ⟨(Shut.no rfl rfl Ae rfl),rfl⟩
   ·intro E' w' hw hE hp
    have Ae:E' 157 = (.bool (true):Value):=hp 21 (by kernel_rfl)
    have H9:E' 159 = (undef:Value):=hp 23 (by kernel_rfl)
    have Ia:E' 161 = (undef:Value):=hp 25 (by kernel_rfl)
    exact .inl ⟨(Shut.no rfl rfl Ae rfl),rfl⟩
   ·intro E' w' hw hE hp
    have Ae:E' 157 = (.bool (true):Value):=hp 21 (by kernel_rfl)
    have Ib:E' 162 = (undef:Value):=hp 26 (by kernel_rfl)
    exact .inr ⟨(Sure.none rfl),.inl ⟨.bool (true),V.pick (c:=.tmp 157) (y:=.tmp 162) rfl Ae rfl,rfl⟩⟩
   ·intro T2 Ih C0 A5 Qv
    have Qw:Ext [Aa,Ab] w Ih:=Du.trans (Ext.any (Y:=[Aa,Ab]) C0)
    have C1:Ext [Aa,Ab] Aq Ih:=A7.trans (Ext.any (Y:=[Aa,Ab]) C0)
    have Qx:Ext [Aa,Ab] Ag Ih:=Dv.trans (Ext.any (Y:=[Aa,Ab]) C0)
    have Qy:Ext [Aa,Ab] Ad Ih:=Dw.trans (Ext.any (Y:=[Aa,Ab]) C0)
    have Qz:=hbb63_463.ext C0 (by simp)
    have K4:=hbb81_463.ext C0 (by simp)
    have Q0:=Dx.keep C0 (by intro g hg hm; simp at hm) (by simp)
    have Q1:T2 163 = (.bool (true):Value):=Qv 27 (of_decide_eq_true (by kernel_rfl))
    refine WP.cond_true Q1 ?_
    refine WP.region ?_
    refine WL.m rfl ?_
    refine WL.z (.agg (peerA q Ak Ah Al Am An Ao)) (V.loadAgg (x:=.tmp 3) (cs:=(peerC q Ak Ah Al Am An Ao)) rfl a29 ((A5 3 (by kernel_rfl)).trans Aj) (At.box K4) rfl) ?_
    refine WL.c (Sure.none rfl) rfl (C.call1 rfl cl35 rfl) (Fnc.mono (ref12_base (p:=q) ⟨Ak,Ah,Al,Am,An,Ao,rfl,(Db.ext (Ext.pre C1)),(Bx.ext (Ext.pre C1)),(Dc.ext (Ext.pre C1)),(Dd.ext (Ext.pre C1)),(De.ext (Ext.pre C1)),(Df.ext (Ext.pre C1)),Bn⟩ (by assumption) (by assumption)) ?_)
    rintro _ Gq ⟨rfl,C2⟩
    have K5:Ext [Aa,Ab] w Gq:=Qw.trans (Ext.any (Y:=[Aa,Ab]) C2)
    have Q2:Ext [Aa,Ab] Aq Gq:=C1.trans (Ext.any (Y:=[Aa,Ab]) C2)
    have Q3:Ext [Aa,Ab] Ag Gq:=Qx.trans (Ext.any (Y:=[Aa,Ab]) C2)
    have Q4:Ext [Aa,Ab] Ad Gq:=Qy.trans (Ext.any (Y:=[Aa,Ab]) C2)
    have K6:=Qz.ext C2 (by simp)
    have K7:=K4.ext C2 (by simp)
    have K8:=Q0.keep C2 (by intro g hg hm; simp at hm) (by simp)
    refine WL.lit (R:=strR) (X:=(Aa :: (Ab :: X))) (vs:=[.string (baseB q)]) (xs:=[(baseB q)]) (Sure.none rfl) rfl rfl u33 e9 (by show 0 < (1:Nat); decide) (by show _ * (1:Nat) ≤ 1024; decide) rfl rfl rfl (by intro i v x hv hx; match i,hv,hx with | 0,rfl,rfl=>exact ⟨rfl,by first | (simp only [maxLen,ByteArray.size_append]; omega) | (simp [maxLen]; omega)⟩ | i + 1,hv,_=>simp at hv) (fun T3 Ii C3 Q5 hlit622=>?_)
    have I0:∀ g,(T3).ownBlock = some g → g ∉ (Aa :: (Ab :: X)):=by intro g hg hm; have h1:=hlit622 g hg; have h2:=(inCons K7.lt (inCons K6.lt (inMono hX K5.size))) g hm; omega
    have K9:Ext [Aa,Ab] w Ii:=K5.trans (Ext.any (Y:=[Aa,Ab]) C3)
    have Q6:Ext [Aa,Ab] Aq Ii:=Q2.trans (Ext.any (Y:=[Aa,Ab]) C3)
    have Q7:Ext [Aa,Ab] Ag Ii:=Q3.trans (Ext.any (Y:=[Aa,Ab]) C3)
    have La:Ext [Aa,Ab] Ad Ii:=Q4.trans (Ext.any (Y:=[Aa,Ab]) C3)
    have Lb:=K6.ext C3 (by simp)
    have Lc:=K7.ext C3 (by simp)
    have Fk:=K8.keep C3 (by intro g hg hm; simp at hm) (by simp)
    have Ld:=Q5.low (B':=Gq.heap.size) (Nat.le_refl _)
    refine WL.appendOwn (x:=.tmp 164) (R:=strR) (X:=(Aa :: (Ab :: X))) (B:=Ad.heap.size) (xs:=cutL2 p q) (ys:=[(baseB q)]) (Sure.none rfl) rfl rfl u33 e9 rfl (by show 0 < (1:Nat); decide) ((A5 6 (by kernel_rfl)).trans rfl) rfl Fk (Owns.sl' Ld I0) (fun g hg=>Owns.sl' (Owns.flat flat_str Ld) (fun gs hgs hm=>(List.mem_cons.1 hm).elim (fun h=>by have h1:=hlit622 gs hgs; have h2:=(K8.lt g hg).2; omega) (fun h=>I0 gs hgs h))) La.size (by first | omega | (simp only [List.length_cons,List.length_nil,List.length_append,laidK_len]; omega)) (by first | (simp only [maxLen]; omega) | (simp only [List.length_cons,List.length_nil,List.length_append,laidK_len,maxLen]; omega)) (fun Yp Yq Q8 D0 hf645=>?_)
    have M5:=after_no hf645 Ap (inCons Lc.lt (inCons Lb.lt (inMono hX K9.size)))
    have Q9:=Ext.ownB (K9) D0 (fun k hk=>(Owns.lt Fk k hk).1) By
    have Ra:=Ext.ownB (Q6) D0 (fun k hk=>(Owns.lt Fk k hk).1) Bz
    have Rb:=Ext.ownB (Q7) D0 (fun k hk=>(Owns.lt Fk k hk).1) B0
    have Rc:=Ext.ownB (La) D0 (fun k hk=>(Owns.lt Fk k hk).1) (Nat.le_refl _)
    have Rd:=Lb.grown D0 (fun g hg e=>Ap g hg (by simp [e]))
    have Re:=Lc.grown D0 (fun g hg e=>Ap g hg (by simp [e]))
    refine WL.m rfl ?_
    refine WL.nil ?_
    exact ⟨((A5 0 (by kernel_rfl)).trans Dl),((A5 1 (by kernel_rfl)).trans Dm),((A5 2 (by kernel_rfl)).trans Ar),((A5 3 (by kernel_rfl)).trans Aj),((A5 7 (by kernel_rfl)).trans Dn),((A5 9 (by kernel_rfl)).trans Do),((A5 11 (by kernel_rfl)).trans B7),((A5 12 (by kernel_rfl)).trans B8),((A5 13 (by kernel_rfl)).trans B9),((A5 49 (by kernel_rfl)).trans Ca),Q9,Ra,Rb,Rc,Rd,Re,⟨(Owns.castE (by first | (rw [baseL2,if_neg (by first | exact same_no1 (by assumption) | exact same_no2 (by assumption) | exact same_no3 (by assumption) | exact same_no4 (by assumption))]; first | done | rfl) | (rw [baseL2,if_pos ⟨by omega,by omega,by assumption,by assumption⟩,List.append_nil]; done)) Q8),M5⟩⟩
  have hc592r:=Cz
  replace Cz:=bnot_false Cz
  refine WP.anyMake [fun v _=>v = (.pointer (some ⟨Ab,6,none⟩):Value),fun v _=>v = (.int .u64 (p.Base):Value),fun v _=>v = (.pointer (some ⟨Aa,6,none⟩):Value),fun v _=>v = (.int .u64 (q.Base):Value),fun v _=>v = (.bool (decide (p.Base ≠ q.Base)):Value),fun v _=>v = (.bool (false):Value),fun v _=>v = (.pointer (some ⟨Ab,7,none⟩):Value),fun v _=>v = (.int .u64 (p.BaseTerm):Value),fun v _=>v = (.pointer (some ⟨Aa,7,none⟩):Value),fun v _=>v = (.int .u64 (q.BaseTerm):Value),fun v _=>v = (.bool (decide (p.BaseTerm ≠ q.BaseTerm)):Value),fun v _=>v = (.bool (decide (p.BaseTerm ≠ q.BaseTerm)):Value),fun v _=>v = (.bool (false):Value),fun v _=>v = (.pointer (some ⟨Ab,8,none⟩):Value),fun v _=>v = (v3:Value),fun v _=>v = (.string (numbersB p.BaseMembers):Value),fun v _=>v = (.pointer (some ⟨Aa,8,none⟩):Value),fun v _=>v = (Ah:Value),fun v _=>v = (.string (numbersB q.BaseMembers):Value),fun v _=>v = (.bool (!(seqB (numbersB p.BaseMembers) (numbersB q.BaseMembers))):Value),fun v _=>v = (.bool (!(seqB (numbersB p.BaseMembers) (numbersB q.BaseMembers))):Value),fun v _=>v = (.bool (false):Value),fun v _=>v = (.pointer (some ⟨Ab,9,none⟩):Value),fun v _=>v = (.string (p.Snap):Value),fun v _=>v = (.pointer (some ⟨Aa,9,none⟩):Value),fun v _=>v = (.string (q.Snap):Value),fun v _=>v = (.bool (!(seqB p.Snap q.Snap)):Value),fun v _=>v = (.bool (!(seqB p.Snap q.Snap)):Value)] mo (by kernel_rfl) (by kernel_rfl) (by kernel_rfl) ⟨Stab.eq _,Stab.eq _,Stab.eq _,Stab.eq _,Stab.eq _,Stab.eq _,Stab.eq _,Stab.eq _,Stab.eq _,Stab.eq _,Stab.eq _,Stab.eq _,Stab.eq _,Stab.eq _,Stab.eq _,Stab.eq _,Stab.eq _,Stab.eq _,Stab.eq _,Stab.eq _,Stab.eq _,Stab.eq _,Stab.eq _,Stab.eq _,Stab.eq _,Stab.eq _,Stab.eq _,Stab.eq _,trivial⟩ ⟨?_,?_,?_,?_,?_,?_,?_,?_,?_,?_,?_,?_,?_,?_,?_,?_,?_,?_,?_,?_,?_,?_,?_,?_,?_,?_,?_,?_,trivial⟩ ?_
  ·intro E' w' hw hE hp
   exact .inr ⟨(Sure.none rfl),.inl ⟨.pointer (some ⟨Ab,6,none⟩),V.fieldAddr (x:=.tmp 2) rfl fl29_6 ((hE 2 (by kernel_rfl)).trans Ar),rfl⟩⟩
  ·intro E' w' hw hE hp
   have Gf:E' 136 = (.pointer (some ⟨Ab,6,none⟩):Value):=hp 0 (by kernel_rfl)
   exact .inr ⟨(Sure.none rfl),.inl ⟨.int .u64 (p.Base),V.load (x:=.tmp 136) rfl p23 Gf ((hbb63_463.ext hw (by simp)).cell rfl),rfl⟩⟩
  ·intro E' w' hw hE hp
   exact .inr ⟨(Sure.none rfl),.inl ⟨.pointer (some ⟨Aa,6,none⟩),V.fieldAddr (x:=.tmp 3) rfl fl29_6 ((hE 3 (by kernel_rfl)).trans Aj),rfl⟩⟩
  ·intro E' w' hw hE hp
   have Fh:E' 138 = (.pointer (some ⟨Aa,6,none⟩):Value):=hp 2 (by kernel_rfl)
   exact .inr ⟨(Sure.none rfl),.inl ⟨.int .u64 (q.Base),V.load (x:=.tmp 138) rfl p23 Fh ((hbb81_463.ext hw (by simp)).cell rfl),rfl⟩⟩
  ·intro E' w' hw hE hp
   have Dh:E' 137 = (.int .u64 (p.Base):Value):=hp 1 (by kernel_rfl)
   have B1:E' 139 = (.int .u64 (q.Base):Value):=hp 3 (by kernel_rfl)
   exact .inr ⟨(Sure.none rfl),.inl ⟨.bool (decide (p.Base ≠ q.Base)),V.cmp (x:=.tmp 137) (y:=.tmp 139) rfl Dh B1 rfl,rfl⟩⟩
  ·intro E' w' hw hE hp
   have B2:E' 140 = (.bool (decide (p.Base ≠ q.Base)):Value):=hp 4 (by kernel_rfl)
   exact .inr ⟨(Sure.none rfl),.inl ⟨.bool (decide (p.Base ≠ q.Base)),V.move (x:=.tmp 140) rfl B2,(congrArg Value.bool hc470r)⟩⟩
  ·intro E' w' hw hE hp
   have Af:E' 141 = (.bool (false):Value):=hp 5 (by kernel_rfl)
   exact .inr ⟨(Sure.yes rfl rfl Af),.inl ⟨.pointer (some ⟨Ab,7,none⟩),V.fieldAddr (x:=.tmp 2) rfl fl29_7 ((hE 2 (by kernel_rfl)).trans Ar),rfl⟩⟩
  ·intro E' w' hw hE hp
   have Af:E' 141 = (.bool (false):Value):=hp 5 (by kernel_rfl)
   have D5:E' 142 = (.pointer (some ⟨Ab,7,none⟩):Value):=hp 6 (by kernel_rfl)
   exact .inr ⟨(Sure.yes rfl rfl Af),.inl ⟨.int .u64 (p.BaseTerm),V.load (x:=.tmp 142) rfl p23 D5 ((hbb63_463.ext hw (by simp)).cell rfl),rfl⟩⟩
  ·intro E' w' hw hE hp
   have Af:E' 141 = (.bool (false):Value):=hp 5 (by kernel_rfl)
   exact .inr ⟨(Sure.yes rfl rfl Af),.inl ⟨.pointer (some ⟨Aa,7,none⟩),V.fieldAddr (x:=.tmp 3) rfl fl29_7 ((hE 3 (by kernel_rfl)).trans Aj),rfl⟩⟩
  ·intro E' w' hw hE hp
   have Af:E' 141 = (.bool (false):Value):=hp 5 (by kernel_rfl)
   have D6:E' 144 = (.pointer (some ⟨Aa,7,none⟩):Value):=hp 8 (by kernel_rfl)
   exact .inr ⟨(Sure.yes rfl rfl Af),.inl ⟨.int .u64 (q.BaseTerm),V.load (x:=.tmp 144) rfl p23 D6 ((hbb81_463.ext hw (by simp)).cell rfl),rfl⟩⟩
  ·intro E' w' hw hE hp
   have Af:E' 141 = (.bool (false):Value):=hp 5 (by kernel_rfl)
   have Fy:E' 143 = (.int .u64 (p.BaseTerm):Value):=hp 7 (by kernel_rfl)
   have G4:E' 145 = (.int .u64 (q.BaseTerm):Value):=hp 9 (by kernel_rfl)
   exact .inr ⟨(Sure.yes rfl rfl Af),.inl ⟨.bool (decide (p.BaseTerm ≠ q.BaseTerm)),V.cmp (x:=.tmp 143) (y:=.tmp 145) rfl Fy G4 rfl,rfl⟩⟩
  ·intro E' w' hw hE hp
   have Af:E' 141 = (.bool (false):Value):=hp 5 (by kernel_rfl)
   have Fv:E' 146 = (.bool (decide (p.BaseTerm ≠ q.BaseTerm)):Value):=hp 10 (by kernel_rfl)
   exact .inr ⟨(Sure.none rfl),.inl ⟨.bool (decide (p.BaseTerm ≠ q.BaseTerm)),V.pick (c:=.tmp 141) (y:=.tmp 146) rfl Af Fv,rfl⟩⟩
  ·intro E' w' hw hE hp
   have D8:E' 147 = (.bool (decide (p.BaseTerm ≠ q.BaseTerm)):Value):=hp 11 (by kernel_rfl)
   exact .inr ⟨(Sure.none rfl),.inl ⟨.bool (decide (p.BaseTerm ≠ q.BaseTerm)),V.move (x:=.tmp 147) rfl D8,(congrArg Value.bool hc531r)⟩⟩
  ·intro E' w' hw hE hp
   have Ac:E' 148 = (.bool (false):Value):=hp 12 (by kernel_rfl)
   exact .inr ⟨(Sure.yes rfl rfl Ac),.inl ⟨.pointer (some ⟨Ab,8,none⟩),V.fieldAddr (x:=.tmp 2) rfl fl29_8 ((hE 2 (by kernel_rfl)).trans Ar),rfl⟩⟩
  ·intro E' w' hw hE hp
   have Ac:E' 148 = (.bool (false):Value):=hp 12 (by kernel_rfl)
   have Gg:E' 149 = (.pointer (some ⟨Ab,8,none⟩):Value):=hp 13 (by kernel_rfl)
   exact .inr ⟨(Sure.yes rfl rfl Ac),.inl ⟨v3,V.load (x:=.tmp 149) rfl p22 Gg ((hbb63_463.ext hw (by simp)).cell rfl),rfl⟩⟩
  ·intro E' w' hw hE hp
   have Ac:E' 148 = (.bool (false):Value):=hp 12 (by kernel_rfl)
   have Gh:E' 150 = (v3:Value):=hp 14 (by kernel_rfl)
   exact .inr ⟨(Sure.yes rfl rfl Ac),.inr ⟨_,_,C.call1 (x:=.tmp 150) rfl cl34 Gh,Fnc.mono (ref12_numbers ((Fo.ext (Ext.pre A7)).ext (Ext.any hw)) (by omega) (by first | assumption | exact hnn)) (fun v w'' h=>⟨h.2,h.1⟩)⟩⟩
  ·intro E' w' hw hE hp
   have Ac:E' 148 = (.bool (false):Value):=hp 12 (by kernel_rfl)
   exact .inr ⟨(Sure.yes rfl rfl Ac),.inl ⟨.pointer (some ⟨Aa,8,none⟩),V.fieldAddr (x:=.tmp 3) rfl fl29_8 ((hE 3 (by kernel_rfl)).trans Aj),rfl⟩⟩
  ·intro E' w' hw hE hp
   have Ac:E' 148 = (.bool (false):Value):=hp 12 (by kernel_rfl)
   have Gi:E' 152 = (.pointer (some ⟨Aa,8,none⟩):Value):=hp 16 (by kernel_rfl)
   exact .inr ⟨(Sure.yes rfl rfl Ac),.inl ⟨Ah,V.load (x:=.tmp 152) rfl p22 Gi ((hbb81_463.ext hw (by simp)).cell rfl),rfl⟩⟩
  ·intro E' w' hw hE hp
   have Ac:E' 148 = (.bool (false):Value):=hp 12 (by kernel_rfl)
   have Gj:E' 153 = (Ah:Value):=hp 17 (by kernel_rfl)
   exact .inr ⟨(Sure.yes rfl rfl Ac),.inr ⟨_,_,C.call1 (x:=.tmp 153) rfl cl34 Gj,Fnc.mono (ref12_numbers ((Bx.ext (Ext.pre A7)).ext (Ext.any hw)) (by omega) (by first | assumption | exact hnn)) (fun v w'' h=>⟨h.2,h.1⟩)⟩⟩
  ·intro E' w' hw hE hp
   have Ac:E' 148 = (.bool (false):Value):=hp 12 (by kernel_rfl)
   have Gk:E' 151 = (.string (numbersB p.BaseMembers):Value):=hp 15 (by kernel_rfl)
   have Gl:E' 154 = (.string (numbersB q.BaseMembers):Value):=hp 18 (by kernel_rfl)
   exact .inr ⟨(Sure.yes rfl rfl Ac),.inl ⟨.bool (!(seqB (numbersB p.BaseMembers) (numbersB q.BaseMembers))),V.scmp (x:=.tmp 151) (y:=.tmp 154) rfl Gk Gl rfl,rfl⟩⟩
  ·intro E' w' hw hE hp
   have Ac:E' 148 = (.bool (false):Value):=hp 12 (by kernel_rfl)
   have Gm:E' 155 = (.bool (!(seqB (numbersB p.BaseMembers) (numbersB q.BaseMembers))):Value):=hp 19 (by kernel_rfl)
   exact .inr ⟨(Sure.none rfl),.inl ⟨.bool (!(seqB (numbersB p.BaseMembers) (numbersB q.BaseMembers))),V.pick (c:=.tmp 148) (y:=.tmp 155) rfl Ac Gm,rfl⟩⟩
  ·intro E' w' hw hE hp
   have D9:E' 156 = (.bool (!(seqB (numbersB p.BaseMembers) (numbersB q.BaseMembers))):Value):=hp 20 (by kernel_rfl)
   exact .inr ⟨(Sure.none rfl),.inl ⟨.bool (!(seqB (numbersB p.BaseMembers) (numbersB q.BaseMembers))),V.move (x:=.tmp 156) rfl D9,(congrArg Value.bool hc592r)⟩⟩
  ·intro E' w' hw hE hp
   have Ae:E' 157 = (.bool (false):Value):=hp 21 (by kernel_rfl)
   exact .inr ⟨(Sure.yes rfl rfl Ae),.inl ⟨.pointer (some ⟨Ab,9,none⟩),V.fieldAddr (x:=.tmp 2) rfl fl29_9 ((hE 2 (by kernel_rfl)).trans Ar),rfl⟩⟩
  ·intro E' w' hw hE hp
   have Ae:E' 157 = (.bool (false):Value):=hp 21 (by kernel_rfl)
   have H7:E' 158 = (.pointer (some ⟨Ab,9,none⟩):Value):=hp 22 (by kernel_rfl)
   exact .inr ⟨(Sure.yes rfl rfl Ae),.inl ⟨.string (p.Snap),V.load (x:=.tmp 158) rfl p9 H7 ((hbb63_463.ext hw (by simp)).cell rfl),rfl⟩⟩
  ·intro E' w' hw hE hp
   have Ae:E' 157 = (.bool (false):Value):=hp 21 (by kernel_rfl)
   exact .inr ⟨(Sure.yes rfl rfl Ae),.inl ⟨.pointer (some ⟨Aa,9,none⟩),V.fieldAddr (x:=.tmp 3) rfl fl29_9 ((hE 3 (by kernel_rfl)).trans Aj),rfl⟩⟩
  ·intro E' w' hw hE hp
   have Ae:E' 157 = (.bool (false):Value):=hp 21 (by kernel_rfl)
   have H8:E' 160 = (.pointer (some ⟨Aa,9,none⟩):Value):=hp 24 (by kernel_rfl)
   exact .inr ⟨(Sure.yes rfl rfl Ae),.inl ⟨.string (q.Snap),V.load (x:=.tmp 160) rfl p9 H8 ((hbb81_463.ext hw (by simp)).cell rfl),rfl⟩⟩
  ·intro E' w' hw hE hp
   have Ae:E' 157 = (.bool (false):Value):=hp 21 (by kernel_rfl)
   have H9:E' 159 = (.string (p.Snap):Value):=hp 23 (by kernel_rfl)
   have Ia:E' 161 = (.string (q.Snap):Value):=hp 25 (by kernel_rfl)
   exact .inr ⟨(Sure.yes rfl rfl Ae),.inl ⟨.bool (!(seqB p.Snap q.Snap)),V.scmp (x:=.tmp 159) (y:=.tmp 161) rfl H9 Ia rfl,rfl⟩⟩
  ·intro E' w' hw hE hp
   have Ae:E' 157 = (.bool (false):Value):=hp 21 (by kernel_rfl)
   have Ib:E' 162 = (.bool (!(seqB p.Snap q.Snap)):Value):=hp 26 (by kernel_rfl)
   exact .inr ⟨(Sure.none rfl),.inl ⟨.bool (!(seqB p.Snap q.Snap)),V.pick (c:=.tmp 157) (y:=.tmp 162) rfl Ae Ib,rfl⟩⟩
  ·intro T4 Ij C4 Ai Rf
   have Le:Ext [Aa,Ab] w Ij:=Du.trans (Ext.any (Y:=[Aa,Ab]) C4)
   have Bu:Ext [Aa,Ab] Aq Ij:=A7.trans (Ext.any (Y:=[Aa,Ab]) C4)
   have Lf:Ext [Aa,Ab] Ag Ij:=Dv.trans (Ext.any (Y:=[Aa,Ab]) C4)
   have Lg:Ext [Aa,Ab] Ad Ij:=Dw.trans (Ext.any (Y:=[Aa,Ab]) C4)
   have Lh:=hbb63_463.ext C4 (by simp)
   have Ik:=hbb81_463.ext C4 (by simp)
   have Li:=Dx.keep C4 (by intro g hg hm; simp at hm) (by simp)
   have Rg:T4 163 = (.bool (!(seqB p.Snap q.Snap)):Value):=Rf 27 (of_decide_eq_true (by kernel_rfl))
   refine WP.condn (t:=seqB p.Snap q.Snap) Rg (fun Rh=>?_) (fun Rh=>?_)
   rotate_left
   ·refine WP.skip ?_
    exact ⟨((Ai 0 (by kernel_rfl)).trans Dl),((Ai 1 (by kernel_rfl)).trans Dm),((Ai 2 (by kernel_rfl)).trans Ar),((Ai 3 (by kernel_rfl)).trans Aj),((Ai 7 (by kernel_rfl)).trans Dn),((Ai 9 (by kernel_rfl)).trans Do),((Ai 11 (by kernel_rfl)).trans B7),((Ai 12 (by kernel_rfl)).trans B8),((Ai 13 (by kernel_rfl)).trans B9),((Ai 49 (by kernel_rfl)).trans Ca),Le,Bu,Lf,Lg,Lh,Ik,⟨(by rw [((Ai 6 (by kernel_rfl)).trans rfl)]; exact (Owns.castE (by first | (rw [baseL2,if_neg (by first | exact same_no1 (by assumption) | exact same_no2 (by assumption) | exact same_no3 (by assumption) | exact same_no4 (by assumption))]; first | done | rfl) | (rw [baseL2,if_pos ⟨by omega,by omega,by assumption,by assumption⟩,List.append_nil]; done)) Li)),(by rw [((Ai 6 (by kernel_rfl)).trans rfl)]; exact Ap)⟩⟩
   refine WP.region ?_
   refine WL.m rfl ?_
   refine WL.z (.agg (peerA q Ak Ah Al Am An Ao)) (V.loadAgg (x:=.tmp 3) (cs:=(peerC q Ak Ah Al Am An Ao)) rfl a29 ((Ai 3 (by kernel_rfl)).trans Aj) (At.box Ik) rfl) ?_
   refine WL.c (Sure.none rfl) rfl (C.call1 rfl cl35 rfl) (Fnc.mono (ref12_base (p:=q) ⟨Ak,Ah,Al,Am,An,Ao,rfl,(Db.ext (Ext.pre Bu)),(Bx.ext (Ext.pre Bu)),(Dc.ext (Ext.pre Bu)),(Dd.ext (Ext.pre Bu)),(De.ext (Ext.pre Bu)),(Df.ext (Ext.pre Bu)),Bn⟩ (by assumption) (by assumption)) ?_)
   rintro _ Gr ⟨rfl,C5⟩
   have Lj:Ext [Aa,Ab] w Gr:=Le.trans (Ext.any (Y:=[Aa,Ab]) C5)
   have Ri:Ext [Aa,Ab] Aq Gr:=Bu.trans (Ext.any (Y:=[Aa,Ab]) C5)
   have Rj:Ext [Aa,Ab] Ag Gr:=Lf.trans (Ext.any (Y:=[Aa,Ab]) C5)
   have Rk:Ext [Aa,Ab] Ad Gr:=Lg.trans (Ext.any (Y:=[Aa,Ab]) C5)
   have Lk:=Lh.ext C5 (by simp)
   have Ll:=Ik.ext C5 (by simp)
   have Lm:=Li.keep C5 (by intro g hg hm; simp at hm) (by simp)
   refine WL.lit (R:=strR) (X:=(Aa :: (Ab :: X))) (vs:=[.string (baseB q)]) (xs:=[(baseB q)]) (Sure.none rfl) rfl rfl u33 e9 (by show 0 < (1:Nat); decide) (by show _ * (1:Nat) ≤ 1024; decide) rfl rfl rfl (by intro i v x hv hx; match i,hv,hx with | 0,rfl,rfl=>exact ⟨rfl,by first | (simp only [maxLen,ByteArray.size_append]; omega) | (simp [maxLen]; omega)⟩ | i + 1,hv,_=>simp at hv) (fun T5 Il C6 Rl hlit683=>?_)
   have I1:∀ g,(T5).ownBlock = some g → g ∉ (Aa :: (Ab :: X)):=by intro g hg hm; have h1:=hlit683 g hg; have h2:=(inCons Ll.lt (inCons Lk.lt (inMono hX Lj.size))) g hm; omega
   have Ln:Ext [Aa,Ab] w Il:=Lj.trans (Ext.any (Y:=[Aa,Ab]) C6)
   have Rm:Ext [Aa,Ab] Aq Il:=Ri.trans (Ext.any (Y:=[Aa,Ab]) C6)
   have Rn:Ext [Aa,Ab] Ag Il:=Rj.trans (Ext.any (Y:=[Aa,Ab]) C6)
   have Lo:Ext [Aa,Ab] Ad Il:=Rk.trans (Ext.any (Y:=[Aa,Ab]) C6)
   have Lp:=Lk.ext C6 (by simp)
   have Lq:=Ll.ext C6 (by simp)
   have Fl:=Lm.keep C6 (by intro g hg hm; simp at hm) (by simp)
   have Lr:=Rl.low (B':=Gr.heap.size) (Nat.le_refl _)
   refine WL.appendOwn (x:=.tmp 164) (R:=strR) (X:=(Aa :: (Ab :: X))) (B:=Ad.heap.size) (xs:=cutL2 p q) (ys:=[(baseB q)]) (Sure.none rfl) rfl rfl u33 e9 rfl (by show 0 < (1:Nat); decide) ((Ai 6 (by kernel_rfl)).trans rfl) rfl Fl (Owns.sl' Lr I1) (fun g hg=>Owns.sl' (Owns.flat flat_str Lr) (fun gs hgs hm=>(List.mem_cons.1 hm).elim (fun h=>by have h1:=hlit683 gs hgs; have h2:=(Lm.lt g hg).2; omega) (fun h=>I1 gs hgs h))) Lo.size (by first | omega | (simp only [List.length_cons,List.length_nil,List.length_append,laidK_len]; omega)) (by first | (simp only [maxLen]; omega) | (simp only [List.length_cons,List.length_nil,List.length_append,laidK_len,maxLen]; omega)) (fun Yr Ys Ro D1 hf706=>?_)
   have M6:=after_no hf706 Ap (inCons Lq.lt (inCons Lp.lt (inMono hX Ln.size)))
   have Rp:=Ext.ownB (Ln) D1 (fun k hk=>(Owns.lt Fl k hk).1) By
   have Rq:=Ext.ownB (Rm) D1 (fun k hk=>(Owns.lt Fl k hk).1) Bz
   have Rr:=Ext.ownB (Rn) D1 (fun k hk=>(Owns.lt Fl k hk).1) B0
   have Rt:=Ext.ownB (Lo) D1 (fun k hk=>(Owns.lt Fl k hk).1) (Nat.le_refl _)
   have Rv:=Lp.grown D1 (fun g hg e=>Ap g hg (by simp [e]))
   have Rw:=Lq.grown D1 (fun g hg e=>Ap g hg (by simp [e]))
   refine WL.m rfl ?_
   refine WL.nil ?_
   exact ⟨((Ai 0 (by kernel_rfl)).trans Dl),((Ai 1 (by kernel_rfl)).trans Dm),((Ai 2 (by kernel_rfl)).trans Ar),((Ai 3 (by kernel_rfl)).trans Aj),((Ai 7 (by kernel_rfl)).trans Dn),((Ai 9 (by kernel_rfl)).trans Do),((Ai 11 (by kernel_rfl)).trans B7),((Ai 12 (by kernel_rfl)).trans B8),((Ai 13 (by kernel_rfl)).trans B9),((Ai 49 (by kernel_rfl)).trans Ca),Rp,Rq,Rr,Rt,Rv,Rw,⟨(Owns.castE (by first | (rw [baseL2,if_neg (by first | exact same_no1 (by assumption) | exact same_no2 (by assumption) | exact same_no3 (by assumption) | exact same_no4 (by assumption))]; first | done | rfl) | (rw [baseL2,if_pos ⟨by omega,by omega,by assumption,by assumption⟩,List.append_nil]; done)) Ro),M6⟩⟩
 rintro Bj Dp ⟨M7,M8,M9,Na,Nb,Nc,G5,L8,L9,Ma,Mb,Mc,Md,Me,hbb63_714,hbb81_714,⟨Mf,Ja⟩⟩
 refine WP.seq ?_
 refine WP.sr ?_
 refine WL.m rfl ?_
 refine WL.m rfl ?_
 refine WL.nil ?_
 refine WP.block ?_
 refine WP.loop (σ:=Nat) (fun k Au Dq=>Au 0 = .agg (peerA p v1 v3 v5 v7 v9 As) ∧ Au 1 = .agg (peerA q Ak Ah Al Am An Ao) ∧ Au 2 = .pointer (some ⟨Ab,0,none⟩) ∧ Au 3 = .pointer (some ⟨Aa,0,none⟩) ∧ Au 7 = .int .u64 (lastI p) ∧ Au 9 = .int .u64 (lastI q) ∧ Au 11 = .int .u64 (diffF p q) ∧ Au 12 = .int .u64 (termOf p q.Base) ∧ Au 13 = .bool (termIs p q.Base) ∧ Au 18 = .int .u64 (diffF p q + (k:Int)) ∧ Au 49 = .bool (decide (q.Term < p.Term)) ∧ Ext [Aa,Ab] w Dq ∧ Ext [Aa,Ab] Aq Dq ∧ Ext [Aa,Ab] Ag Dq ∧ Ext [Aa,Ab] Ad Dq ∧ Box Dq Ab 29 (peerC p v1 v3 v5 v7 v9 As) ∧ Box Dq Aa 29 (peerC q Ak Ah Al Am An Ao) ∧ (Owns strR 9 Ad.heap.size (Aa :: (Ab :: X)) Dq (Au 6) (baseL2 p q ++ laidK q (diffF p q) k) ∧ (∀ g,(Au 6).ownBlock = some g → g ∉ (Aa :: (Ab :: X)))) ∧ (k = 0 ∨ diffF p q + (k:Int) ≤ lastI q + 1) ∧ k ≤ q.Log.length) (fun k=>q.Log.length + 1 - k) (0) ?_ ?_
 ·exact ⟨M7,M8,M9,Na,Nb,Nc,G5,L8,L9,(Eq.trans G5 (int_eq (by omega))),Ma,Mb,Mc,Md,Me,hbb63_714,hbb81_714,⟨(Owns.castE (by simp [laidK]) Mf),Ja⟩,(.inl rfl),(Nat.zero_le _)⟩
 rintro k Au Dq ⟨Nd,Ne,Nf,I2,Ng,I3,Mg,Mh,Mi,D3,Mj,Fw,Bk,Mk,Ml,hbb63_721,hbb81_721,⟨G6,C7⟩,Ub,Uc⟩
 refine WP.seq ?_
 refine WP.sr ?_
 refine WL.m rfl ?_
 refine WL.m rfl ?_
 refine WL.z (.bool (decide ((diffF p q + (k:Int)) ≤ (lastI q)))) (V.cmp (x:=.tmp 170) (y:=.tmp 171) rfl D3 I3 rfl) ?_
 refine WL.nil ?_
 refine WP.condp (t:=(diffF p q + (k:Int)) ≤ (lastI q)) rfl (fun Ls=>?_) (fun Ls=>?_)
 rotate_left
 ·refine WP.exit ?_
  refine WP.sr ?_
  have hlN:=laid_end (by assumption) Ls
  refine WL.m rfl ?_
  refine WL.m rfl ?_
  refine WL.m rfl ?_
  refine WL.nil ?_
  refine WP.ret ?_
  refine resOf.c2 rfl (v:=Au 6) rfl (v':=.int .i64 (0)) rfl ?_
  exact ⟨Au 6,(tup2 rfl (int_eq (by first | (rw [if_pos hdok]; done) | (rw [if_neg (by rw [hdno]; decide)]; done)))),(castSl (by first | (rw [if_pos hdok,diffL2,laidL,hlN]; done) | (rw [if_neg (by rw [hdno]; decide)]; done)) (Sl.base (O:=[Aa,Ab]) (Owns.sl' G6 C7))),((Fw).done (geCons A9 (geCons A8 geNil)))⟩
 refine WP.skip ?_
 refine WP.seq ?_
 refine WP.block ?_
 refine WP.sr ?_
 refine WL.z (.agg (peerA q Ak Ah Al Am An Ao)) (V.loadAgg (x:=.tmp 3) (cs:=(peerC q Ak Ah Al Am An Ao)) rfl a29 I2 (At.box hbb81_721) rfl) ?_
 refine WL.m rfl ?_
 refine WL.c (Sure.none rfl) rfl (C.call2 (y:=.tmp 177) rfl cl32 rfl D3) (Fnc.mono (ref12_entry (p:=q) ⟨Ak,Ah,Al,Am,An,Ao,rfl,(Db.ext (Ext.pre Bk)),(Bx.ext (Ext.pre Bk)),(Dc.ext (Ext.pre Bk)),(Dd.ext (Ext.pre Bk)),(De.ext (Ext.pre Bk)),(Df.ext (Ext.pre Bk)),Bn⟩ (diffF p q + (k:Int)) (by omega) (by omega) (X:=(Aa :: (Ab :: X))) (inCons hbb81_721.lt (inCons hbb63_721.lt (inMono hX Fw.size)))) ?_)
 rintro _ Fx ⟨Im,rfl,Rx,C8⟩
 have Ry:Ext [Aa,Ab] w Fx:=Fw.trans (Ext.any (Y:=[Aa,Ab]) C8)
 have Rz:Ext [Aa,Ab] Aq Fx:=Bk.trans (Ext.any (Y:=[Aa,Ab]) C8)
 have R0:Ext [Aa,Ab] Ag Fx:=Mk.trans (Ext.any (Y:=[Aa,Ab]) C8)
 have R1:Ext [Aa,Ab] Ad Fx:=Ml.trans (Ext.any (Y:=[Aa,Ab]) C8)
 have R2:=hbb63_721.ext C8 (by simp)
 have R3:=hbb81_721.ext C8 (by simp)
 have R4:=G6.keep C8 (by intro g hg hm; simp at hm) (by simp)
 refine WL.m rfl ?_
 refine WL.z (Im) (V.extract rfl rfl rfl) ?_
 refine WL.z (.bool (entIs q (diffF p q + (k:Int)))) (V.extract rfl rfl rfl) ?_
 refine WL.m rfl ?_
 refine WL.m rfl ?_
 refine WL.nil ?_
 have hent:entIs q (diffF p q + (k:Int)) = true:=ent_here (by assumption)
 obtain ⟨hed,hel,hen⟩:=ent_facts hokq hsq hent
 rw [← ent_get hent] at hed hel hen
 have hlen1:(entL q (diffF p q + (k:Int))).length = 1:=by rw [entL_is hent]; rfl
 have hzi:=numB_size (diffF p q + (k:Int))
 have hze:=entB_size ((entL q (diffF p q + (k:Int))).getD 0 default)
 have Yt:=mk1_size 69
 have hlt743:0 < ((entL q (diffF p q + (k:Int)))).length:=by first | omega | (simp at *; omega)
 obtain ⟨In,Io,c737,Vo,R5,hnb740,R6,I4⟩:=Rx.get (i:=0) (x:=((entL q (diffF p q + (k:Int))).getD 0 default)) (getD_some hlt743 _)
 obtain ⟨Gs,rfl,R7,Lt⟩:=R6
 obtain ⟨Uf,Ug,Uh⟩:=(show EntryD.InR ((entL q (diffF p q + (k:Int))).getD 0 default) from Lt)
 refine WP.anyT [2,7,9,10,11] [⟨0,Au 6,fun w=>True,true,false⟩,⟨1,.int .u64 (diffF p q + (k:Int)),fun w=>True,true,false⟩,⟨2,.string (numB (diffF p q + (k:Int))),fun _=>True,true,true⟩,⟨3,.string ((ByteArray.mk #[69]) ++ (numB (diffF p q + (k:Int)))),fun w=>True,true,false⟩,⟨4,Im,fun w=>True,true,false⟩,⟨5,.pointer (some ⟨In,Io + 0 * 4,none⟩),fun w=>True,true,false⟩,⟨6,.agg #[.int .u64 (((entL q (diffF p q + (k:Int))).getD 0 default).Term),.int .u8 (((entL q (diffF p q + (k:Int))).getD 0 default).Kind),.string (((entL q (diffF p q + (k:Int))).getD 0 default).Data),Gs],fun w=>At w In (Io + 0 * 4) [.int .u64 (((entL q (diffF p q + (k:Int))).getD 0 default).Term),.int .u8 (((entL q (diffF p q + (k:Int))).getD 0 default).Kind),.string (((entL q (diffF p q + (k:Int))).getD 0 default).Data),Gs],false,false⟩,⟨7,.string (entB ((entL q (diffF p q + (k:Int))).getD 0 default)),fun _=>True,true,true⟩,⟨8,.string (((ByteArray.mk #[69]) ++ (numB (diffF p q + (k:Int)))) ++ (entB ((entL q (diffF p q + (k:Int))).getD 0 default))),fun w=>True,true,false⟩] mo (by kernel_rfl) (by kernel_rfl) (by kernel_rfl) (by kernel_rfl) ⟨.inr ⟨(fun _ _=>trivial),_,rfl,?_⟩,.inr ⟨(fun _ _=>trivial),_,rfl,?_⟩,.inl rfl,.inr ⟨(fun _ _=>trivial),_,rfl,?_⟩,.inr ⟨(fun _ _=>trivial),_,rfl,?_⟩,.inr ⟨(fun _ _=>trivial),_,rfl,?_⟩,.inr ⟨(fun h=>Bool.noConfusion h),_,rfl,?_⟩,.inl rfl,.inr ⟨(fun _ _=>trivial),_,rfl,?_⟩,trivial⟩ ?_
 ·intro E' w' hC hE hp
  exact ⟨Sure.none rfl,V.move (x:=.tmp 6) rfl ((hE 6 (by kernel_rfl)).trans rfl)⟩
 ·intro E' w' hC hE hp
  exact ⟨Sure.none rfl,V.move (x:=.tmp 18) rfl ((hE 18 (by kernel_rfl)).trans D3)⟩
 ·intro E' w' hC hE hp
  have Fh:E' 183 = (.string (numB (diffF p q + (k:Int))):Value):=hp 2 (by kernel_rfl) _ _ rfl rfl
  exact ⟨Sure.none rfl,V.sadd (y:=.tmp 183) rfl rfl Fh (by first | omega | (simp only [ByteArray.size_append]; omega))⟩
 ·intro E' w' hC hE hp
  exact ⟨Sure.none rfl,V.move (x:=.tmp 19) rfl ((hE 19 (by kernel_rfl)).trans rfl)⟩
 ·intro E' w' hC hE hp
  have B2:E' 185 = (Im:Value):=hp 4 (by kernel_rfl) _ _ rfl rfl
  exact ⟨Sure.none rfl,V.indexAddr (x:=.tmp 185) (m:=0) (j:=0) rfl u25 s48 (Eq.trans (b:=Im) B2 R5) rfl (by omega) hlt743⟩
 ·intro E' w' hC hE hp
  replace hC:At w' In (Io + 0 * 4) [.int .u64 (((entL q (diffF p q + (k:Int))).getD 0 default).Term),.int .u8 (((entL q (diffF p q + (k:Int))).getD 0 default).Kind),.string (((entL q (diffF p q + (k:Int))).getD 0 default).Data),Gs]:=hC
  have Af:E' 186 = (.pointer (some ⟨In,Io + 0 * 4,none⟩):Value):=hp 5 (by kernel_rfl) _ _ rfl rfl
  exact ⟨Sure.none rfl,V.loadAgg (x:=.tmp 186) (cs:=[.int .u64 (((entL q (diffF p q + (k:Int))).getD 0 default).Term),.int .u8 (((entL q (diffF p q + (k:Int))).getD 0 default).Kind),.string (((entL q (diffF p q + (k:Int))).getD 0 default).Data),Gs]) rfl a48 Af hC rfl⟩
 ·intro E' w' hC hE hp
  have B1:E' 184 = (.string ((ByteArray.mk #[69]) ++ (numB (diffF p q + (k:Int)))):Value):=hp 3 (by kernel_rfl) _ _ rfl rfl
  have Fy:E' 188 = (.string (entB ((entL q (diffF p q + (k:Int))).getD 0 default)):Value):=hp 7 (by kernel_rfl) _ _ rfl rfl
  exact ⟨Sure.none rfl,V.sadd (x:=.tmp 184) (y:=.tmp 188) rfl B1 Fy (by first | omega | (simp only [ByteArray.size_append]; omega))⟩
 ·intro Vp Gt Bv Bb F9
  have R8:Ext [Aa,Ab] w Gt:=Ry.trans (Ext.any (Y:=[Aa,Ab]) Bv)
  have R9:Ext [Aa,Ab] Aq Gt:=Rz.trans (Ext.any (Y:=[Aa,Ab]) Bv)
  have Sa:Ext [Aa,Ab] Ag Gt:=R0.trans (Ext.any (Y:=[Aa,Ab]) Bv)
  have Sb:Ext [Aa,Ab] Ad Gt:=R1.trans (Ext.any (Y:=[Aa,Ab]) Bv)
  have Lu:Ext [Aa,Ab] Fx Gt:=(Ext.any (Y:=[Aa,Ab]) Bv)
  have Sc:=R2.ext Bv (by simp)
  have Sd:=R3.ext Bv (by simp)
  have Se:=R4.keep Bv (by intro g hg hm; simp at hm) (by simp)
  refine Tree.node (rs:=[2]) (by kernel_rfl) ⟨offF rfl,offF rfl,offF rfl,offF rfl,offF rfl,offF rfl,(fun _ _=>I4.ext Lu (fun hm=>hnb740 (mem_pre (O:=[Aa,Ab]) (X:=X) hm))),offF rfl,offF rfl,trivial⟩ ⟨⟨_,rfl,[7,9,10,11],by kernel_rfl,?_⟩,trivial⟩
  intro Yu Vq Sf
  refine WL.c (Sure.none rfl) rfl (C.call1 (x:=.tmp 182) rfl cl29 ((Sf 1 (by kernel_rfl) 182 rfl).trans (F9 1 _ 182 rfl rfl))) (Fnc.mono (ref_Num (diffF p q + (k:Int))) ?_)
  rintro _ Gu ⟨rfl,Bw⟩
  have Sh:Ext [Aa,Ab] w Gu:=R8.trans (Ext.any (Y:=[Aa,Ab]) Bw)
  have Si:Ext [Aa,Ab] Aq Gu:=R9.trans (Ext.any (Y:=[Aa,Ab]) Bw)
  have Sj:Ext [Aa,Ab] Ag Gu:=Sa.trans (Ext.any (Y:=[Aa,Ab]) Bw)
  have Sk:Ext [Aa,Ab] Ad Gu:=Sb.trans (Ext.any (Y:=[Aa,Ab]) Bw)
  have Lv:Ext [Aa,Ab] Fx Gu:=Lu.trans (Ext.any (Y:=[Aa,Ab]) Bw)
  have Sm:=Sc.ext Bw (by simp)
  have Sn:=Sd.ext Bw (by simp)
  have So:=Se.keep Bw (by intro g hg hm; simp at hm) (by simp)
  refine WL.nil ⟨_,rfl,cstY rfl rfl,?_⟩
  refine Tree.node (rs:=[7]) (by kernel_rfl) ⟨offF rfl,offF rfl,offF rfl,offF rfl,offF rfl,offF rfl,(fun _ _=>I4.ext Lv (fun hm=>hnb740 (mem_pre (O:=[Aa,Ab]) (X:=X) hm))),offF rfl,offF rfl,trivial⟩ ⟨⟨_,rfl,[9,10,11],by kernel_rfl,?_⟩,trivial⟩
  intro Yv Vr Sp
  refine WL.c (Sure.none rfl) rfl (C.call1 (x:=.tmp 187) rfl cl36 ((Sp 6 (by kernel_rfl) 187 rfl).trans (F9 6 _ 187 rfl rfl))) (Fnc.mono (ref_EntryBytes (e:=((entL q (diffF p q + (k:Int))).getD 0 default)) ⟨Gs,rfl,(R7.ext (Ext.pre Lv)),Lt⟩ (by omega) (by omega) (by first | assumption | exact fun j hj=>(hok.me.2 j hj).1 | exact fun j hj=>((hok.em k (by omega)).2 j hj).1)) ?_)
  rintro _ Gv ⟨rfl,C9⟩
  have Lw:Ext [Aa,Ab] w Gv:=Sh.trans (Ext.any (Y:=[Aa,Ab]) C9)
  have Sq:Ext [Aa,Ab] Aq Gv:=Si.trans (Ext.any (Y:=[Aa,Ab]) C9)
  have Sr:Ext [Aa,Ab] Ag Gv:=Sj.trans (Ext.any (Y:=[Aa,Ab]) C9)
  have Ss:Ext [Aa,Ab] Ad Gv:=Sk.trans (Ext.any (Y:=[Aa,Ab]) C9)
  have Lx:=Sm.ext C9 (by simp)
  have Ly:=Sn.ext C9 (by simp)
  have Lz:=So.keep C9 (by intro g hg hm; simp at hm) (by simp)
  refine WL.nil ⟨_,rfl,cstY rfl rfl,?_⟩
  refine Tree.node (rs:=[9]) (by kernel_rfl) ⟨offF rfl,offF rfl,offF rfl,offF rfl,offF rfl,offF rfl,offN (by kernel_rfl),offF rfl,offF rfl,trivial⟩ ⟨⟨_,rfl,[10,11],by kernel_rfl,?_⟩,trivial⟩
  intro Yw Vs St
  refine WL.lit (R:=strR) (X:=(Aa :: (Ab :: X))) (vs:=[.string (((ByteArray.mk #[69]) ++ (numB (diffF p q + (k:Int)))) ++ (entB ((entL q (diffF p q + (k:Int))).getD 0 default)))]) (xs:=[(((ByteArray.mk #[69]) ++ (numB (diffF p q + (k:Int)))) ++ (entB ((entL q (diffF p q + (k:Int))).getD 0 default)))]) (Sure.none rfl) rfl rfl u33 e9 (by show 0 < (1:Nat); decide) (by show _ * (1:Nat) ≤ 1024; decide) (lit1 ((St 8 (by kernel_rfl) 189 rfl).trans (F9 8 _ 189 rfl rfl))) rfl rfl (by intro i v x hv hx; match i,hv,hx with | 0,rfl,rfl=>exact ⟨rfl,by first | (simp only [maxLen,ByteArray.size_append]; omega) | (simp [maxLen]; omega)⟩ | i + 1,hv,_=>simp at hv) (fun T6 Ip Da Su hlit803=>?_)
  have I5:∀ g,(T6).ownBlock = some g → g ∉ (Aa :: (Ab :: X)):=by intro g hg hm; have h1:=hlit803 g hg; have h2:=(inCons Ly.lt (inCons Lx.lt (inMono hX Lw.size))) g hm; omega
  have L0:Ext [Aa,Ab] w Ip:=Lw.trans (Ext.any (Y:=[Aa,Ab]) Da)
  have Sv:Ext [Aa,Ab] Aq Ip:=Sq.trans (Ext.any (Y:=[Aa,Ab]) Da)
  have Sw:Ext [Aa,Ab] Ag Ip:=Sr.trans (Ext.any (Y:=[Aa,Ab]) Da)
  have L1:Ext [Aa,Ab] Ad Ip:=Ss.trans (Ext.any (Y:=[Aa,Ab]) Da)
  have L2:=Lx.ext Da (by simp)
  have L3:=Ly.ext Da (by simp)
  have Fm:=Lz.keep Da (by intro g hg hm; simp at hm) (by simp)
  have L4:=Su.low (B':=Gv.heap.size) (Nat.le_refl _)
  refine WL.nil ⟨_,rfl,cstN rfl,?_⟩
  refine Tree.node (rs:=[10]) (by kernel_rfl) ⟨offF rfl,offF rfl,offF rfl,offF rfl,offF rfl,offF rfl,offN (by kernel_rfl),offF rfl,offF rfl,trivial⟩ ⟨⟨_,rfl,[11],by kernel_rfl,?_⟩,trivial⟩
  intro Yx Vt L5
  refine WL.appendOwn (x:=.tmp 181) (y:=.tmp 190) (R:=strR) (X:=(Aa :: (Ab :: X))) (B:=Ad.heap.size) (xs:=baseL2 p q ++ laidK q (diffF p q) k) (ys:=[(((ByteArray.mk #[69]) ++ (numB (diffF p q + (k:Int)))) ++ (entB ((entL q (diffF p q + (k:Int))).getD 0 default)))]) (Sure.none rfl) rfl rfl u33 e9 rfl (by show 0 < (1:Nat); decide) ((L5 0 (by kernel_rfl) 181 rfl).trans (F9 0 _ 181 rfl rfl)) ((L5 9 (by kernel_rfl) 190 rfl).trans rfl) Fm (Owns.sl' L4 I5) (fun g hg=>Owns.sl' (Owns.flat flat_str L4) (fun gs hgs hm=>(List.mem_cons.1 hm).elim (fun h=>by have h1:=hlit803 gs hgs; have h2:=(Lz.lt g hg).2; omega) (fun h=>I5 gs hgs h))) L1.size (by first | omega | (simp only [List.length_cons,List.length_nil,List.length_append,laidK_len]; omega)) (by first | (simp only [maxLen]; omega) | (simp only [List.length_cons,List.length_nil,List.length_append,laidK_len,maxLen]; omega)) (fun T7 Yy Sx D4 hf833=>?_)
  have Nh:=after_no hf833 C7 (inCons L3.lt (inCons L2.lt (inMono hX L0.size)))
  have Sy:=Ext.ownB (L0) D4 (fun k hk=>(Owns.lt Fm k hk).1) By
  have Sz:=Ext.ownB (Sv) D4 (fun k hk=>(Owns.lt Fm k hk).1) Bz
  have S0:=Ext.ownB (Sw) D4 (fun k hk=>(Owns.lt Fm k hk).1) B0
  have S1:=Ext.ownB (L1) D4 (fun k hk=>(Owns.lt Fm k hk).1) (Nat.le_refl _)
  have S2:=L2.grown D4 (fun g hg e=>C7 g hg (by simp [e]))
  have S3:=L3.grown D4 (fun g hg e=>C7 g hg (by simp [e]))
  refine WL.nil ⟨_,rfl,cstN rfl,?_⟩
  refine Tree.node (rs:=[11]) (by kernel_rfl) ⟨offF rfl,offF rfl,offF rfl,offF rfl,offF rfl,offF rfl,offN (by kernel_rfl),offF rfl,offF rfl,trivial⟩ ⟨⟨_,rfl,[],by kernel_rfl,?_⟩,trivial⟩
  intro Yz Vu S4
  refine WL.z (T7) (V.assign (x:=.tmp 191) rfl ((S4 10 (by kernel_rfl) 191 rfl).trans rfl)) ?_
  refine WL.nil ⟨_,rfl,cstN rfl,?_⟩
  refine Tree.leaf ?_
  refine WP.region ?_
  refine WL.m rfl ?_
  refine WL.z (.int .u64 ((diffF p q + (k:Int)) + 1)) (V.arith (x:=.tmp 173) rfl ((Bb 18 (by kernel_rfl)).trans D3) rfl rfl (wrap_u64 (by omega) (by omega))) ?_
  refine WL.m rfl ?_
  refine WL.nil ?_
  exact ⟨k + 1,⟨((Bb 0 (by kernel_rfl)).trans Nd),((Bb 1 (by kernel_rfl)).trans Ne),((Bb 2 (by kernel_rfl)).trans Nf),((Bb 3 (by kernel_rfl)).trans I2),((Bb 7 (by kernel_rfl)).trans Ng),((Bb 9 (by kernel_rfl)).trans I3),((Bb 11 (by kernel_rfl)).trans Mg),((Bb 12 (by kernel_rfl)).trans Mh),((Bb 13 (by kernel_rfl)).trans Mi),(int_eq (by omega)),((Bb 49 (by kernel_rfl)).trans Mj),Sy,Sz,S0,S1,S2,S3,⟨(Owns.castE (by exact laid_step hent) Sx),Nh⟩,(.inr (by omega)),(by omega)⟩,(by omega)⟩
end Go.Proofs.Ytiaicihpocoeiaa.X1
