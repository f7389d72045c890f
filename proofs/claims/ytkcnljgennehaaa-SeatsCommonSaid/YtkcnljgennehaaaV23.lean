import Derived.Test.YtkcnljgennehaaaV21
namespace Go.Proofs.Ytkcnljgennehaaa.T
open W Go.RowKit
set_option maxRecDepth 100000
set_option maxHeartbeats 400000

def vM1 (p : PeerD) : Bool := idB p.Id && (!decide (p.Wait ≤ 0) && (!decide (p.Wait > 1073741824) && (!decide (p.Idle < 0) && (!decide (p.Idle > 1073741824) && (!decide (p.Term > 4611686018427387904) && (!decide (p.Base > 4611686018427387904) && !decide (p.Round > 4611686018427387904)))))))
def vM2 (p : PeerD) : Bool := (!decide (p.Vote ≠ 0) || idB p.Vote) && ((!decide (p.Lead ≠ 0) || idB p.Lead) && membersB p.BaseMembers)
def vM3 (p : PeerD) : Bool := !decide (p.BaseTerm > p.Term) && ((decide (p.Base = 0) == decide (p.BaseTerm = 0)) && ((!decide (p.Base = 0) || seqB p.Snap (ByteArray.mk #[])) && entsB p.Log p.BaseTerm p.Term))
def vM4 (p : PeerD) : Bool := eqB ieq p.Members (membersOf p (lastI p)) && (!decide (p.Commit < p.Base) && !decide (p.Commit > lastI p))
def vNone (p : PeerD) : Bool := decide ((p.Follows.length : Int) = 0) && decide ((p.Reads.length : Int) = 0)
def vM5 (p : PeerD) : Bool :=
  if decide (p.Role = 0) = true then vNone p && decide ((p.Votes.length : Int) = 0)
  else if decide (p.Role = 1) = true then vNone p && (decide (p.Lead = 0) && (decide (p.Vote = p.Id) && (idsB p.Votes && (hasB p.Votes p.Id && hasB p.Members p.Id))))
  else if decide (p.Role = 2) = true then decide ((p.Votes.length : Int) = 0) && (decide (p.Lead = p.Id) && (decide (p.Term > 0) && (vfollowsB p (lastI p) && readsB p)))
  else false
def vmayB (p : PeerD) : Bool := vM1 p && (vM2 p && (vM3 p && (vM4 p && vM5 p)))
theorem vM1_base {p : PeerD} (h : vM1 p = true) : p.Base ≤ 4611686018427387904 := by
  simp only [vM1, Bool.and_eq_true, Bool.not_eq_true', decide_eq_false_iff_not] at h; omega

set_option maxHeartbeats 8000000 in
theorem vote_may {w : World} {X : List Nat} {p : PeerD} {c_p : List Value} (h_p : peerR.rd X w c_p p) (hX : ∀ x ∈ X, x < w.heap.size) (hF : Fits p) : Fnc Try.prog 13 #[.agg c_p.toArray] w (fun v w' => v = .bool (vmayB p) ∧ Ext [] w w') := by
  obtain ⟨v1, v3, v5, v7, v9, v11, rfl, hl2, hl4, hl6, hl8, hl10, hl12, hk13⟩ := h_p
  obtain ⟨hin14, hin15, hin16, hin17, hin18, hin19, hin20, hin21, hin22, hin23, hin24, hin25⟩ := (show PeerD.InR p from hk13)
  have hin14 := inK_i64 hin14
  have hin15 := inK_u64 hin15
  have hin16 := inK_i64 hin16
  have hin17 := inK_u8 hin17
  have hin18 := inK_i64 hin18
  have hin19 := inK_u64 hin19
  have hin20 := inK_u64 hin20
  have hin22 := inK_u64 hin22
  have hin23 := inK_i64 hin23
  have hin24 := inK_i64 hin24
  have hin25 := inK_u64 hin25
  have hle26 := hl2.le'
  have hle27 := hl4.le'
  have hle28 := hl6.le'
  have hle29 := hl8.le'
  have hle30 := hl10.le'
  have hle31 := hl12.le'
  have hlI : lastI p = p.Base + (p.Log.length : Int) := rfl
  have hfl := hF.log
  have hfm := hF.mem
  refine Fnc.of_WP (n := 215) Try.func13 rfl Try.ntmps13 (by simp) ?_
  intro E hE
  have h0 : E 0 = .agg #[.int .i64 (p.Id), v1, .int .u64 (p.Term), .int .i64 (p.Vote), .int .u8 (p.Role), .int .i64 (p.Lead), .int .u64 (p.Base), .int .u64 (p.BaseTerm), v3, .string (p.Snap), v5, .int .u64 (p.Commit), .int .i64 (p.Idle), .int .i64 (p.Wait), v7, v9, .int .u64 (p.Round), v11] := hE 0 (by simp)
  clear hE
  refine WP.sr ?_
  refine WL.box (x := .tmp 0) (cs := [.int .i64 (p.Id), v1, .int .u64 (p.Term), .int .i64 (p.Vote), .int .u8 (p.Role), .int .i64 (p.Lead), .int .u64 (p.Base), .int .u64 (p.BaseTerm), v3, .string (p.Snap), v5, .int .u64 (p.Commit), .int .i64 (p.Idle), .int .i64 (p.Wait), v7, v9, .int .u64 (p.Round), v11]) (Sure.none rfl) rfl rfl h0 rfl (fun b32 w33 hx34 he35 hb36 => ?_)
  have hl37 := (Sl.new (b := b32) (by show (1 : Nat) ≠ 0; decide) hl2 (by omega)).ext (Ext.any hx34)
  have hl38 := (Sl.new (b := b32) (by show (1 : Nat) ≠ 0; decide) hl4 (by omega)).ext (Ext.any hx34)
  have hl39 := (Sl.new (b := b32) (by show (4 : Nat) ≠ 0; decide) hl6 (by omega)).ext (Ext.any hx34)
  have hl40 := (Sl.new (b := b32) (by show (1 : Nat) ≠ 0; decide) hl8 (by omega)).ext (Ext.any hx34)
  have hl41 := (Sl.new (b := b32) (by show (3 : Nat) ≠ 0; decide) hl10 (by omega)).ext (Ext.any hx34)
  have hl42 := (Sl.new (b := b32) (by show (3 : Nat) ≠ 0; decide) hl12 (by omega)).ext (Ext.any hx34)
  have hx43 : Ext [b32] _ _ := (Ext.refl _ _).trans (Ext.any hx34)
  have hge_b32_w : w.heap.size ≤ b32 := by have := Nat.le_refl w.heap.size; omega
  refine WL.m rfl ?_
  refine WL.nil ?_
  refine WP.seq ?_
  refine WP.block ?_
  have hsz46 : w.heap.size ≤ w33.heap.size := hx43.size
  refine WP.seq_cut (fun E44 w45 => E44 0 = .agg #[.int .i64 (p.Id), v1, .int .u64 (p.Term), .int .i64 (p.Vote), .int .u8 (p.Role), .int .i64 (p.Lead), .int .u64 (p.Base), .int .u64 (p.BaseTerm), v3, .string (p.Snap), v5, .int .u64 (p.Commit), .int .i64 (p.Idle), .int .i64 (p.Wait), v7, v9, .int .u64 (p.Round), v11] ∧ E44 1 = .pointer (some ⟨b32, 0, none⟩) ∧ E44 6 = .bool (!vM1 p) ∧ Ext [b32] w33 w45 ∧ Box w45 b32 30 [.int .i64 (p.Id), v1, .int .u64 (p.Term), .int .i64 (p.Vote), .int .u8 (p.Role), .int .i64 (p.Lead), .int .u64 (p.Base), .int .u64 (p.BaseTerm), v3, .string (p.Snap), v5, .int .u64 (p.Commit), .int .i64 (p.Idle), .int .i64 (p.Wait), v7, v9, .int .u64 (p.Round), v11]) ?_ ?_
  · refine WP.region ?_
    refine WL.f (.int .i64 (p.Id)) fl30_0 rfl p3 (hb36.cell rfl) ?_
    refine WL.c (Sure.none rfl) rfl (C.call1 rfl cl29 rfl) (Fnc.mono (vote_id p.Id) ?_)
    rintro _ w47 ⟨rfl, hx48⟩
    have hx50 : Ext [b32] w33 w47 := (Ext.any (Y := [b32]) hx48)
    have hb51 := hb36.ext hx48 (by simp)
    refine WL.z (.bool (!(idB p.Id))) (V.not rfl rfl) ?_
    refine WL.vbn (c := idB p.Id) (Sure.none rfl) rfl (V.move rfl rfl) (fun hc52 => ?_) (fun hc52 => ?_)
    · refine WL.skips [(11, some true)] [(6, some true)] (kc (some true) rfl kn) (by kernel_rfl) (fun E53 hK54 hE55 => ?_)
      exact ⟨((hE55 0 rfl).trans h0), (hE55 1 rfl), (Eq.trans (hK54 6 (some true) rfl) (bool_eq (by first | assumption | grind [vM1]))), hx50, hb51⟩
    refine WL.fy (.int .i64 (p.Wait)) rfl fl30_13 rfl p3 (hb51.cell rfl) ?_
    refine WL.y (.bool (decide (p.Wait ≤ 0))) rfl (V.cmp rfl rfl rfl rfl) ?_
    refine WL.k (a := false) rfl rfl ?_
    refine WL.vbp (c := p.Wait ≤ 0) (Sure.none rfl) rfl (V.move rfl rfl) (fun hc56 => ?_) (fun hc56 => ?_)
    · refine WL.skips [(16, some true)] [(6, some true)] (kc (some true) rfl kn) (by kernel_rfl) (fun E57 hK58 hE59 => ?_)
      exact ⟨((hE59 0 rfl).trans h0), (hE59 1 rfl), (Eq.trans (hK58 6 (some true) rfl) (bool_eq (by first | assumption | grind [vM1]))), hx50, hb51⟩
    refine WL.fy (.int .i64 (p.Wait)) rfl fl30_13 rfl p3 (hb51.cell rfl) ?_
    refine WL.y (.bool (decide (p.Wait > 1073741824))) rfl (V.cmp rfl rfl rfl rfl) ?_
    refine WL.k (a := false) rfl rfl ?_
    refine WL.vbp (c := p.Wait > 1073741824) (Sure.none rfl) rfl (V.move rfl rfl) (fun hc60 => ?_) (fun hc60 => ?_)
    · refine WL.skips [(21, some true)] [(6, some true)] (kc (some true) rfl kn) (by kernel_rfl) (fun E61 hK62 hE63 => ?_)
      exact ⟨((hE63 0 rfl).trans h0), (hE63 1 rfl), (Eq.trans (hK62 6 (some true) rfl) (bool_eq (by first | assumption | grind [vM1]))), hx50, hb51⟩
    refine WL.fy (.int .i64 (p.Idle)) rfl fl30_12 rfl p3 (hb51.cell rfl) ?_
    refine WL.y (.bool (decide (p.Idle < 0))) rfl (V.cmp rfl rfl rfl rfl) ?_
    refine WL.k (a := false) rfl rfl ?_
    refine WL.vbp (c := p.Idle < 0) (Sure.none rfl) rfl (V.move rfl rfl) (fun hc64 => ?_) (fun hc64 => ?_)
    · refine WL.skips [(26, some true)] [(6, some true)] (kc (some true) rfl kn) (by kernel_rfl) (fun E65 hK66 hE67 => ?_)
      exact ⟨((hE67 0 rfl).trans h0), (hE67 1 rfl), (Eq.trans (hK66 6 (some true) rfl) (bool_eq (by first | assumption | grind [vM1]))), hx50, hb51⟩
    refine WL.fy (.int .i64 (p.Idle)) rfl fl30_12 rfl p3 (hb51.cell rfl) ?_
    refine WL.y (.bool (decide (p.Idle > 1073741824))) rfl (V.cmp rfl rfl rfl rfl) ?_
    refine WL.k (a := false) rfl rfl ?_
    refine WL.vbp (c := p.Idle > 1073741824) (Sure.none rfl) rfl (V.move rfl rfl) (fun hc68 => ?_) (fun hc68 => ?_)
    · refine WL.skips [(31, some true)] [(6, some true)] (kc (some true) rfl kn) (by kernel_rfl) (fun E69 hK70 hE71 => ?_)
      exact ⟨((hE71 0 rfl).trans h0), (hE71 1 rfl), (Eq.trans (hK70 6 (some true) rfl) (bool_eq (by first | assumption | grind [vM1]))), hx50, hb51⟩
    refine WL.fy (.int .u64 (p.Term)) rfl fl30_2 rfl p24 (hb51.cell rfl) ?_
    refine WL.y (.bool (decide (p.Term > 4611686018427387904))) rfl (V.cmp rfl rfl rfl rfl) ?_
    refine WL.k (a := false) rfl rfl ?_
    refine WL.vbp (c := p.Term > 4611686018427387904) (Sure.none rfl) rfl (V.move rfl rfl) (fun hc72 => ?_) (fun hc72 => ?_)
    · refine WL.skips [(36, some true)] [(6, some true)] (kc (some true) rfl kn) (by kernel_rfl) (fun E73 hK74 hE75 => ?_)
      exact ⟨((hE75 0 rfl).trans h0), (hE75 1 rfl), (Eq.trans (hK74 6 (some true) rfl) (bool_eq (by first | assumption | grind [vM1]))), hx50, hb51⟩
    refine WL.fy (.int .u64 (p.Base)) rfl fl30_6 rfl p24 (hb51.cell rfl) ?_
    refine WL.y (.bool (decide (p.Base > 4611686018427387904))) rfl (V.cmp rfl rfl rfl rfl) ?_
    refine WL.k (a := false) rfl rfl ?_
    refine WL.vbp (c := p.Base > 4611686018427387904) (Sure.none rfl) rfl (V.move rfl rfl) (fun hc76 => ?_) (fun hc76 => ?_)
    · refine WL.skips [(41, some true)] [(6, some true)] (kc (some true) rfl kn) (by kernel_rfl) (fun E77 hK78 hE79 => ?_)
      exact ⟨((hE79 0 rfl).trans h0), (hE79 1 rfl), (Eq.trans (hK78 6 (some true) rfl) (bool_eq (by first | assumption | grind [vM1]))), hx50, hb51⟩
    refine WL.fy (.int .u64 (p.Round)) rfl fl30_16 rfl p24 (hb51.cell rfl) ?_
    refine WL.y (.bool (decide (p.Round > 4611686018427387904))) rfl (V.cmp rfl rfl rfl rfl) ?_
    refine WL.k (a := false) rfl rfl ?_
    refine WL.m rfl ?_
    refine WL.nil ?_
    exact ⟨h0, rfl, (bool_eq (by first | assumption | grind [vM1])), hx50, hb51⟩
  rintro E44 w45 ⟨h0_80, h1_80, h6_80, hx80, hbb32_80⟩
  have hx81 : Ext [b32] w w45 := hx43.trans hx80
  have hx82 : Ext [b32] w33 w45 := hx80
  refine WP.condn (t := vM1 p) h6_80 (fun hc83 => ?_) (fun hc83 => ?_)
  · refine WP.sr ?_
    refine WL.m rfl ?_
    refine WL.nil ?_
    refine WP.ret ?_
    refine resOf.c1 rfl (v := .bool (false)) rfl ?_
    exact ⟨(bool_eq (by first | assumption | grind [vmayB, vM4, vM5])), ((hx81).done (geCons hge_b32_w geNil))⟩
  have hsz86 : w.heap.size ≤ w45.heap.size := hx81.size
  refine WP.seq_cut (fun E84 w85 => E84 0 = .agg #[.int .i64 (p.Id), v1, .int .u64 (p.Term), .int .i64 (p.Vote), .int .u8 (p.Role), .int .i64 (p.Lead), .int .u64 (p.Base), .int .u64 (p.BaseTerm), v3, .string (p.Snap), v5, .int .u64 (p.Commit), .int .i64 (p.Idle), .int .i64 (p.Wait), v7, v9, .int .u64 (p.Round), v11] ∧ E84 1 = .pointer (some ⟨b32, 0, none⟩) ∧ E84 6 = .bool (!vM1 p) ∧ E84 46 = .bool (!vM2 p) ∧ Ext [b32] w45 w85 ∧ Box w85 b32 30 [.int .i64 (p.Id), v1, .int .u64 (p.Term), .int .i64 (p.Vote), .int .u8 (p.Role), .int .i64 (p.Lead), .int .u64 (p.Base), .int .u64 (p.BaseTerm), v3, .string (p.Snap), v5, .int .u64 (p.Commit), .int .i64 (p.Idle), .int .i64 (p.Wait), v7, v9, .int .u64 (p.Round), v11]) ?_ ?_
  · refine WP.region ?_
    refine WL.f (x := .tmp 1) (.int .i64 (p.Vote)) fl30_3 h1_80 p3 (hbb32_80.cell rfl) ?_
    refine WL.z (.bool (decide (p.Vote ≠ 0))) (V.cmp rfl rfl rfl rfl) ?_
    refine WL.vbp (c := p.Vote ≠ 0) (Sure.none rfl) rfl (V.move rfl rfl) (fun hc87 => ?_) (fun hc87 => ?_)
    rotate_left
    · refine WL.s (Shut.no rfl rfl rfl rfl) rfl ?_
      refine WL.s (Shut.no rfl rfl rfl rfl) rfl ?_
      refine WL.s (Shut.no rfl rfl rfl rfl) rfl ?_
      refine WL.s (Shut.no rfl rfl rfl rfl) rfl ?_
      refine WL.k (a := false) rfl rfl ?_
      refine WL.m rfl ?_
      refine WL.fy (x := .tmp 1) (.int .i64 (p.Lead)) rfl fl30_5 h1_80 p3 (hbb32_80.cell rfl) ?_
      refine WL.y (.bool (decide (p.Lead ≠ 0))) rfl (V.cmp rfl rfl rfl rfl) ?_
      refine WL.vbp (c := p.Lead ≠ 0) (Sure.yes rfl rfl rfl) rfl (V.move rfl rfl) (fun hc125 => ?_) (fun hc125 => ?_)
      rotate_left
      · refine WL.s (Shut.no rfl rfl rfl rfl) rfl ?_
        refine WL.s (Shut.no rfl rfl rfl rfl) rfl ?_
        refine WL.s (Shut.no rfl rfl rfl rfl) rfl ?_
        refine WL.s (Shut.no rfl rfl rfl rfl) rfl ?_
        refine WL.ky (a := false) rfl rfl rfl ?_
        refine WL.k (a := false) rfl rfl ?_
        refine WL.m rfl ?_
        refine WL.fy (x := .tmp 1) (v3) rfl fl30_8 h1_80 p22 (hbb32_80.cell rfl) ?_
        refine WL.c (Sure.yes rfl rfl rfl) rfl (C.call1 rfl cl30 rfl) (Fnc.mono (vote_members (hl38.ext (Ext.pre hx82))) ?_)
        rintro _ w143 ⟨rfl, hx144⟩
        have hx147 : Ext [b32] w45 w143 := (Ext.any (Y := [b32]) hx144)
        have hb148 := hbb32_80.ext hx144 (by simp)
        refine WL.y (.bool (!(membersB p.BaseMembers))) rfl (V.not rfl rfl) ?_
        refine WL.k (a := false) rfl rfl ?_
        refine WL.m rfl ?_
        refine WL.nil ?_
        exact ⟨h0_80, h1_80, h6_80, (bool_eq (by first | assumption | grind [vM2])), hx147, hb148⟩
      refine WL.fy (x := .tmp 1) (.int .i64 (p.Lead)) rfl fl30_5 h1_80 p3 (hbb32_80.cell rfl) ?_
      refine WL.c (Sure.yes rfl rfl rfl) rfl (C.call1 rfl cl29 rfl) (Fnc.mono (vote_id p.Lead) ?_)
      rintro _ w126 ⟨rfl, hx127⟩
      have hx129 : Ext [b32] w33 w126 := hx82.trans (Ext.any (Y := [b32]) hx127)
      have hx130 : Ext [b32] w45 w126 := (Ext.any (Y := [b32]) hx127)
      have hb131 := hbb32_80.ext hx127 (by simp)
      refine WL.y (.bool (!(idB p.Lead))) rfl (V.not rfl rfl) ?_
      refine WL.ky (a := true) rfl rfl rfl ?_
      refine WL.k (a := false) rfl rfl ?_
      refine WL.vbn (c := idB p.Lead) (Sure.none rfl) rfl (V.move rfl rfl) (fun hc132 => ?_) (fun hc132 => ?_)
      · refine WL.skips [(67, some true)] [(46, some true)] (kc (some true) rfl kn) (by kernel_rfl) (fun E133 hK134 hE135 => ?_)
        exact ⟨((hE135 0 rfl).trans h0_80), ((hE135 1 rfl).trans h1_80), ((hE135 6 rfl).trans h6_80), (Eq.trans (hK134 46 (some true) rfl) (bool_eq (by first | assumption | grind [vM2]))), hx130, hb131⟩
      refine WL.fy (x := .tmp 1) (v3) rfl fl30_8 h1_80 p22 (hb131.cell rfl) ?_
      refine WL.c (Sure.yes rfl rfl rfl) rfl (C.call1 rfl cl30 rfl) (Fnc.mono (vote_members (hl38.ext (Ext.pre hx129))) ?_)
      rintro _ w136 ⟨rfl, hx137⟩
      have hx140 : Ext [b32] w45 w136 := hx130.trans (Ext.any (Y := [b32]) hx137)
      have hb142 := hb131.ext hx137 (by simp)
      refine WL.y (.bool (!(membersB p.BaseMembers))) rfl (V.not rfl rfl) ?_
      refine WL.k (a := false) rfl rfl ?_
      refine WL.m rfl ?_
      refine WL.nil ?_
      exact ⟨h0_80, h1_80, h6_80, (bool_eq (by first | assumption | grind [vM2])), hx140, hb142⟩
    refine WL.fy (x := .tmp 1) (.int .i64 (p.Vote)) rfl fl30_3 h1_80 p3 (hbb32_80.cell rfl) ?_
    refine WL.c (Sure.yes rfl rfl rfl) rfl (C.call1 rfl cl29 rfl) (Fnc.mono (vote_id p.Vote) ?_)
    rintro _ w88 ⟨rfl, hx89⟩
    have hx91 : Ext [b32] w33 w88 := hx82.trans (Ext.any (Y := [b32]) hx89)
    have hx92 : Ext [b32] w45 w88 := (Ext.any (Y := [b32]) hx89)
    have hb93 := hbb32_80.ext hx89 (by simp)
    refine WL.y (.bool (!(idB p.Vote))) rfl (V.not rfl rfl) ?_
    refine WL.k (a := true) rfl rfl ?_
    refine WL.vbn (c := idB p.Vote) (Sure.none rfl) rfl (V.move rfl rfl) (fun hc94 => ?_) (fun hc94 => ?_)
    · refine WL.skips [(56, some true)] [(46, some true)] (kc (some true) rfl kn) (by kernel_rfl) (fun E95 hK96 hE97 => ?_)
      exact ⟨((hE97 0 rfl).trans h0_80), ((hE97 1 rfl).trans h1_80), ((hE97 6 rfl).trans h6_80), (Eq.trans (hK96 46 (some true) rfl) (bool_eq (by first | assumption | grind [vM2]))), hx92, hb93⟩
    refine WL.fy (x := .tmp 1) (.int .i64 (p.Lead)) rfl fl30_5 h1_80 p3 (hb93.cell rfl) ?_
    refine WL.y (.bool (decide (p.Lead ≠ 0))) rfl (V.cmp rfl rfl rfl rfl) ?_
    refine WL.vbp (c := p.Lead ≠ 0) (Sure.yes rfl rfl rfl) rfl (V.move rfl rfl) (fun hc98 => ?_) (fun hc98 => ?_)
    rotate_left
    · refine WL.s (Shut.no rfl rfl rfl rfl) rfl ?_
      refine WL.s (Shut.no rfl rfl rfl rfl) rfl ?_
      refine WL.s (Shut.no rfl rfl rfl rfl) rfl ?_
      refine WL.s (Shut.no rfl rfl rfl rfl) rfl ?_
      refine WL.ky (a := false) rfl rfl rfl ?_
      refine WL.k (a := false) rfl rfl ?_
      refine WL.m rfl ?_
      refine WL.fy (x := .tmp 1) (v3) rfl fl30_8 h1_80 p22 (hb93.cell rfl) ?_
      refine WL.c (Sure.yes rfl rfl rfl) rfl (C.call1 rfl cl30 rfl) (Fnc.mono (vote_members (hl38.ext (Ext.pre hx91))) ?_)
      rintro _ w118 ⟨rfl, hx119⟩
      have hx122 : Ext [b32] w45 w118 := hx92.trans (Ext.any (Y := [b32]) hx119)
      have hb124 := hb93.ext hx119 (by simp)
      refine WL.y (.bool (!(membersB p.BaseMembers))) rfl (V.not rfl rfl) ?_
      refine WL.k (a := false) rfl rfl ?_
      refine WL.m rfl ?_
      refine WL.nil ?_
      exact ⟨h0_80, h1_80, h6_80, (bool_eq (by first | assumption | grind [vM2])), hx122, hb124⟩
    refine WL.fy (x := .tmp 1) (.int .i64 (p.Lead)) rfl fl30_5 h1_80 p3 (hb93.cell rfl) ?_
    refine WL.c (Sure.yes rfl rfl rfl) rfl (C.call1 rfl cl29 rfl) (Fnc.mono (vote_id p.Lead) ?_)
    rintro _ w99 ⟨rfl, hx100⟩
    have hx102 : Ext [b32] w33 w99 := hx91.trans (Ext.any (Y := [b32]) hx100)
    have hx103 : Ext [b32] w45 w99 := hx92.trans (Ext.any (Y := [b32]) hx100)
    have hb105 := hb93.ext hx100 (by simp)
    refine WL.y (.bool (!(idB p.Lead))) rfl (V.not rfl rfl) ?_
    refine WL.ky (a := true) rfl rfl rfl ?_
    refine WL.k (a := false) rfl rfl ?_
    refine WL.vbn (c := idB p.Lead) (Sure.none rfl) rfl (V.move rfl rfl) (fun hc106 => ?_) (fun hc106 => ?_)
    · refine WL.skips [(67, some true)] [(46, some true)] (kc (some true) rfl kn) (by kernel_rfl) (fun E107 hK108 hE109 => ?_)
      exact ⟨((hE109 0 rfl).trans h0_80), ((hE109 1 rfl).trans h1_80), ((hE109 6 rfl).trans h6_80), (Eq.trans (hK108 46 (some true) rfl) (bool_eq (by first | assumption | grind [vM2]))), hx103, hb105⟩
    refine WL.fy (x := .tmp 1) (v3) rfl fl30_8 h1_80 p22 (hb105.cell rfl) ?_
    refine WL.c (Sure.yes rfl rfl rfl) rfl (C.call1 rfl cl30 rfl) (Fnc.mono (vote_members (hl38.ext (Ext.pre hx102))) ?_)
    rintro _ w110 ⟨rfl, hx111⟩
    have hx114 : Ext [b32] w45 w110 := hx103.trans (Ext.any (Y := [b32]) hx111)
    have hb117 := hb105.ext hx111 (by simp)
    refine WL.y (.bool (!(membersB p.BaseMembers))) rfl (V.not rfl rfl) ?_
    refine WL.k (a := false) rfl rfl ?_
    refine WL.m rfl ?_
    refine WL.nil ?_
    exact ⟨h0_80, h1_80, h6_80, (bool_eq (by first | assumption | grind [vM2])), hx114, hb117⟩
  rintro E84 w85 ⟨h0_149, h1_149, h6_149, h46_149, hx149, hbb32_149⟩
  have hx150 : Ext [b32] w w85 := hx81.trans hx149
  have hx151 : Ext [b32] w33 w85 := hx82.trans hx149
  refine WP.condn (t := vM2 p) h46_149 (fun hc153 => ?_) (fun hc153 => ?_)
  · refine WP.sr ?_
    refine WL.m rfl ?_
    refine WL.nil ?_
    refine WP.ret ?_
    refine resOf.c1 rfl (v := .bool (false)) rfl ?_
    exact ⟨(bool_eq (by first | assumption | grind [vmayB, vM4, vM5])), ((hx150).done (geCons hge_b32_w geNil))⟩
  have hsz156 : w.heap.size ≤ w85.heap.size := hx150.size
  refine WP.seq_cut (fun E154 w155 => E154 0 = .agg #[.int .i64 (p.Id), v1, .int .u64 (p.Term), .int .i64 (p.Vote), .int .u8 (p.Role), .int .i64 (p.Lead), .int .u64 (p.Base), .int .u64 (p.BaseTerm), v3, .string (p.Snap), v5, .int .u64 (p.Commit), .int .i64 (p.Idle), .int .i64 (p.Wait), v7, v9, .int .u64 (p.Round), v11] ∧ E154 1 = .pointer (some ⟨b32, 0, none⟩) ∧ E154 6 = .bool (!vM1 p) ∧ E154 46 = .bool (!vM2 p) ∧ E154 73 = .bool (!vM3 p) ∧ Ext [b32] w85 w155 ∧ Box w155 b32 30 [.int .i64 (p.Id), v1, .int .u64 (p.Term), .int .i64 (p.Vote), .int .u8 (p.Role), .int .i64 (p.Lead), .int .u64 (p.Base), .int .u64 (p.BaseTerm), v3, .string (p.Snap), v5, .int .u64 (p.Commit), .int .i64 (p.Idle), .int .i64 (p.Wait), v7, v9, .int .u64 (p.Round), v11]) ?_ ?_
  · refine WP.region ?_
    refine WL.f (x := .tmp 1) (.int .u64 (p.BaseTerm)) fl30_7 h1_149 p24 (hbb32_149.cell rfl) ?_
    refine WL.f (x := .tmp 1) (.int .u64 (p.Term)) fl30_2 h1_149 p24 (hbb32_149.cell rfl) ?_
    refine WL.z (.bool (decide (p.BaseTerm > p.Term))) (V.cmp rfl rfl rfl rfl) ?_
    refine WL.vbp (c := p.BaseTerm > p.Term) (Sure.none rfl) rfl (V.move rfl rfl) (fun hc157 => ?_) (fun hc157 => ?_)
    · refine WL.skips [(79, some true)] [(73, some true)] (kc (some true) rfl kn) (by kernel_rfl) (fun E158 hK159 hE160 => ?_)
      exact ⟨((hE160 0 rfl).trans h0_149), ((hE160 1 rfl).trans h1_149), ((hE160 6 rfl).trans h6_149), ((hE160 46 rfl).trans h46_149), (Eq.trans (hK159 73 (some true) rfl) (bool_eq (by first | assumption | grind [vM3]))), Ext.refl _ _, hbb32_149⟩
    refine WL.fy (x := .tmp 1) (.int .u64 (p.Base)) rfl fl30_6 h1_149 p24 (hbb32_149.cell rfl) ?_
    refine WL.y (.bool (decide (p.Base = 0))) rfl (V.cmp rfl rfl rfl rfl) ?_
    refine WL.fy (x := .tmp 1) (.int .u64 (p.BaseTerm)) rfl fl30_7 h1_149 p24 (hbb32_149.cell rfl) ?_
    refine WL.y (.bool (decide (p.BaseTerm = 0))) rfl (V.cmp rfl rfl rfl rfl) ?_
    refine WL.y (.bool (!((decide (p.Base = 0)) == (decide (p.BaseTerm = 0))))) rfl (V.bcmpNe rfl u4 rfl rfl) ?_
    refine WL.k (a := false) rfl rfl ?_
    refine WL.vbn (c := (decide (p.Base = 0)) == (decide (p.BaseTerm = 0))) (Sure.none rfl) rfl (V.move rfl rfl) (fun hc161 => ?_) (fun hc161 => ?_)
    · refine WL.skips [(88, some true)] [(73, some true)] (kc (some true) rfl kn) (by kernel_rfl) (fun E162 hK163 hE164 => ?_)
      exact ⟨((hE164 0 rfl).trans h0_149), ((hE164 1 rfl).trans h1_149), ((hE164 6 rfl).trans h6_149), ((hE164 46 rfl).trans h46_149), (Eq.trans (hK163 73 (some true) rfl) (bool_eq (by first | assumption | grind [vM3]))), Ext.refl _ _, hbb32_149⟩
    refine WL.fy (x := .tmp 1) (.int .u64 (p.Base)) rfl fl30_6 h1_149 p24 (hbb32_149.cell rfl) ?_
    refine WL.y (.bool (decide (p.Base = 0))) rfl (V.cmp rfl rfl rfl rfl) ?_
    refine WL.vbp (c := p.Base = 0) (Sure.yes rfl rfl rfl) rfl (V.move rfl rfl) (fun hc165 => ?_) (fun hc165 => ?_)
    rotate_left
    · refine WL.s (Shut.no rfl rfl rfl rfl) rfl ?_
      refine WL.s (Shut.no rfl rfl rfl rfl) rfl ?_
      refine WL.s (Shut.no rfl rfl rfl rfl) rfl ?_
      refine WL.ky (a := false) rfl rfl rfl ?_
      refine WL.k (a := false) rfl rfl ?_
      refine WL.m rfl ?_
      refine WL.fy (x := .tmp 1) (v5) rfl fl30_10 h1_149 p26 (hbb32_149.cell rfl) ?_
      refine WL.fy (x := .tmp 1) (.int .u64 (p.BaseTerm)) rfl fl30_7 h1_149 p24 (hbb32_149.cell rfl) ?_
      refine WL.fy (x := .tmp 1) (.int .u64 (p.Term)) rfl fl30_2 h1_149 p24 (hbb32_149.cell rfl) ?_
      refine WL.c (Sure.yes rfl rfl rfl) rfl (C.call3 rfl cl31 rfl rfl rfl) (Fnc.mono (vote_entries (hl39.ext (Ext.pre hx151)) p.BaseTerm p.Term (by omega)) ?_)
      rintro _ w177 ⟨rfl, hx178⟩
      have hx182 : Ext [b32] w85 w177 := (Ext.any (Y := [b32]) hx178)
      have hb183 := hbb32_149.ext hx178 (by simp)
      refine WL.y (.bool (!(entsB p.Log p.BaseTerm p.Term))) rfl (V.not rfl rfl) ?_
      refine WL.k (a := false) rfl rfl ?_
      refine WL.m rfl ?_
      refine WL.nil ?_
      exact ⟨h0_149, h1_149, h6_149, h46_149, (bool_eq (by first | assumption | grind [vM3])), hx182, hb183⟩
    refine WL.fy (x := .tmp 1) (.string (p.Snap)) rfl fl30_9 h1_149 p9 (hbb32_149.cell rfl) ?_
    refine WL.y (.bool (!(seqB p.Snap (ByteArray.mk #[])))) rfl (V.scmp rfl rfl rfl rfl) ?_
    refine WL.ky (a := true) rfl rfl rfl ?_
    refine WL.k (a := false) rfl rfl ?_
    refine WL.vbn (c := seqB p.Snap (ByteArray.mk #[])) (Sure.none rfl) rfl (V.move rfl rfl) (fun hc166 => ?_) (fun hc166 => ?_)
    · refine WL.skips [(98, some true)] [(73, some true)] (kc (some true) rfl kn) (by kernel_rfl) (fun E167 hK168 hE169 => ?_)
      exact ⟨((hE169 0 rfl).trans h0_149), ((hE169 1 rfl).trans h1_149), ((hE169 6 rfl).trans h6_149), ((hE169 46 rfl).trans h46_149), (Eq.trans (hK168 73 (some true) rfl) (bool_eq (by first | assumption | grind [vM3]))), Ext.refl _ _, hbb32_149⟩
    refine WL.fy (x := .tmp 1) (v5) rfl fl30_10 h1_149 p26 (hbb32_149.cell rfl) ?_
    refine WL.fy (x := .tmp 1) (.int .u64 (p.BaseTerm)) rfl fl30_7 h1_149 p24 (hbb32_149.cell rfl) ?_
    refine WL.fy (x := .tmp 1) (.int .u64 (p.Term)) rfl fl30_2 h1_149 p24 (hbb32_149.cell rfl) ?_
    refine WL.c (Sure.yes rfl rfl rfl) rfl (C.call3 rfl cl31 rfl rfl rfl) (Fnc.mono (vote_entries (hl39.ext (Ext.pre hx151)) p.BaseTerm p.Term (by omega)) ?_)
    rintro _ w170 ⟨rfl, hx171⟩
    have hx175 : Ext [b32] w85 w170 := (Ext.any (Y := [b32]) hx171)
    have hb176 := hbb32_149.ext hx171 (by simp)
    refine WL.y (.bool (!(entsB p.Log p.BaseTerm p.Term))) rfl (V.not rfl rfl) ?_
    refine WL.k (a := false) rfl rfl ?_
    refine WL.m rfl ?_
    refine WL.nil ?_
    exact ⟨h0_149, h1_149, h6_149, h46_149, (bool_eq (by first | assumption | grind [vM3])), hx175, hb176⟩
  rintro E154 w155 ⟨h0_184, h1_184, h6_184, h46_184, h73_184, hx184, hbb32_184⟩
  have hx185 : Ext [b32] w w155 := hx150.trans hx184
  have hx186 : Ext [b32] w33 w155 := hx151.trans hx184
  refine WP.condn (t := vM3 p) h73_184 (fun hc189 => ?_) (fun hc189 => ?_)
  · refine WP.sr ?_
    refine WL.m rfl ?_
    refine WL.nil ?_
    refine WP.ret ?_
    refine resOf.c1 rfl (v := .bool (false)) rfl ?_
    exact ⟨(bool_eq (by first | assumption | grind [vmayB, vM4, vM5])), ((hx185).done (geCons hge_b32_w geNil))⟩
  refine WP.skip ?_
  refine WP.sr ?_
  have hbase := vM1_base (p := p) (by assumption)
  refine WL.z (.agg #[.int .i64 (p.Id), v1, .int .u64 (p.Term), .int .i64 (p.Vote), .int .u8 (p.Role), .int .i64 (p.Lead), .int .u64 (p.Base), .int .u64 (p.BaseTerm), v3, .string (p.Snap), v5, .int .u64 (p.Commit), .int .i64 (p.Idle), .int .i64 (p.Wait), v7, v9, .int .u64 (p.Round), v11]) (V.loadAgg (x := .tmp 1) (cs := [.int .i64 (p.Id), v1, .int .u64 (p.Term), .int .i64 (p.Vote), .int .u8 (p.Role), .int .i64 (p.Lead), .int .u64 (p.Base), .int .u64 (p.BaseTerm), v3, .string (p.Snap), v5, .int .u64 (p.Commit), .int .i64 (p.Idle), .int .i64 (p.Wait), v7, v9, .int .u64 (p.Round), v11]) rfl a30 h1_184 (At.box hbb32_184) rfl) ?_
  refine WL.c (Sure.none rfl) rfl (C.call1 rfl cl32 rfl) (Fnc.mono (vote_Last (p := p) ⟨v1, v3, v5, v7, v9, v11, rfl, (hl37.ext (Ext.pre hx186)), (hl38.ext (Ext.pre hx186)), (hl39.ext (Ext.pre hx186)), (hl40.ext (Ext.pre hx186)), (hl41.ext (Ext.pre hx186)), (hl42.ext (Ext.pre hx186)), hk13⟩ (by omega)) ?_)
  rintro _ w190 ⟨rfl, hx191⟩
  have hx192 : Ext [b32] w w190 := hx185.trans (Ext.any (Y := [b32]) hx191)
  have hx193 : Ext [b32] w33 w190 := hx186.trans (Ext.any (Y := [b32]) hx191)
  have hb197 := hbb32_184.ext hx191 (by simp)
  refine WL.m rfl ?_
  refine WL.z (.int .u64 (lastI p)) (V.extract rfl rfl rfl) ?_
  refine WL.z (.int .u64 (lastT p)) (V.extract rfl rfl rfl) ?_
  refine WL.m rfl ?_
  refine WL.m rfl ?_
  refine WL.nil ?_
  refine WP.seq ?_
  refine WP.seq ?_
  refine W.bsplit (c := !(eqB ieq p.Members (membersOf p (lastI p)))) (fun hc198 => ?_) (fun hc198 => ?_)
  · have hc198r := hc198
    replace hc198 := bnot_true hc198
    refine WP.anyMake [fun v _ => v = (.pointer (some ⟨b32, 1, none⟩) : Value), fun v _ => v = (v1 : Value), fun v _ => v = (.agg #[.int .i64 (p.Id), v1, .int .u64 (p.Term), .int .i64 (p.Vote), .int .u8 (p.Role), .int .i64 (p.Lead), .int .u64 (p.Base), .int .u64 (p.BaseTerm), v3, .string (p.Snap), v5, .int .u64 (p.Commit), .int .i64 (p.Idle), .int .i64 (p.Wait), v7, v9, .int .u64 (p.Round), v11] : Value), fun v _ => v = (.int .u64 (lastI p) : Value), fun v w => Sl (intR .i64) (b32 :: X) w v (membersOf p (lastI p)), fun v _ => v = (.bool (eqB ieq p.Members (membersOf p (lastI p))) : Value), fun v _ => v = (.bool (!(eqB ieq p.Members (membersOf p (lastI p)))) : Value), fun v _ => v = (.bool (true) : Value), fun v _ => v = (undef : Value), fun v _ => v = (undef : Value), fun v _ => v = (undef : Value), fun v _ => v = (undef : Value), fun v _ => v = (undef : Value), fun v _ => v = (.bool (true) : Value), fun v _ => v = (.bool (true) : Value), fun v _ => v = (undef : Value), fun v _ => v = (undef : Value), fun v _ => v = (undef : Value), fun v _ => v = (undef : Value), fun v _ => v = (.bool (true) : Value)] mo (by kernel_rfl) (by kernel_rfl) (by kernel_rfl) ⟨Stab.eq _, Stab.eq _, Stab.eq _, Stab.eq _, Stab.sl, Stab.eq _, Stab.eq _, Stab.eq _, Stab.eq _, Stab.eq _, Stab.eq _, Stab.eq _, Stab.eq _, Stab.eq _, Stab.eq _, Stab.eq _, Stab.eq _, Stab.eq _, Stab.eq _, Stab.eq _, trivial⟩ ⟨?_, ?_, ?_, ?_, ?_, ?_, ?_, ?_, ?_, ?_, ?_, ?_, ?_, ?_, ?_, ?_, ?_, ?_, ?_, ?_, trivial⟩ ?_
    · intro E' w' hw hE hp
      exact .inr ⟨(Sure.none rfl), .inl ⟨.pointer (some ⟨b32, 1, none⟩), V.fieldAddr (x := .tmp 1) rfl fl30_1 ((hE 1 (by kernel_rfl)).trans h1_184), rfl⟩⟩
    · intro E' w' hw hE hp
      have p_0 : E' 113 = (.pointer (some ⟨b32, 1, none⟩) : Value) := hp 0 (by kernel_rfl)
      exact .inr ⟨(Sure.none rfl), .inl ⟨v1, V.load (x := .tmp 113) rfl p22 p_0 ((hb197.ext hw (by simp)).cell rfl), rfl⟩⟩
    · intro E' w' hw hE hp
      exact .inr ⟨(Sure.none rfl), .inl ⟨.agg #[.int .i64 (p.Id), v1, .int .u64 (p.Term), .int .i64 (p.Vote), .int .u8 (p.Role), .int .i64 (p.Lead), .int .u64 (p.Base), .int .u64 (p.BaseTerm), v3, .string (p.Snap), v5, .int .u64 (p.Commit), .int .i64 (p.Idle), .int .i64 (p.Wait), v7, v9, .int .u64 (p.Round), v11], V.loadAgg (x := .tmp 1) (cs := [.int .i64 (p.Id), v1, .int .u64 (p.Term), .int .i64 (p.Vote), .int .u8 (p.Role), .int .i64 (p.Lead), .int .u64 (p.Base), .int .u64 (p.BaseTerm), v3, .string (p.Snap), v5, .int .u64 (p.Commit), .int .i64 (p.Idle), .int .i64 (p.Wait), v7, v9, .int .u64 (p.Round), v11]) rfl a30 ((hE 1 (by kernel_rfl)).trans h1_184) ((At.box hb197).ext hw (by simp)) rfl, rfl⟩⟩
    · intro E' w' hw hE hp
      exact .inr ⟨(Sure.none rfl), .inl ⟨.int .u64 (lastI p), V.move rfl ((hE 3 (by kernel_rfl)).trans rfl), rfl⟩⟩
    · intro E' w' hw hE hp
      have p_2 : E' 115 = (.agg #[.int .i64 (p.Id), v1, .int .u64 (p.Term), .int .i64 (p.Vote), .int .u8 (p.Role), .int .i64 (p.Lead), .int .u64 (p.Base), .int .u64 (p.BaseTerm), v3, .string (p.Snap), v5, .int .u64 (p.Commit), .int .i64 (p.Idle), .int .i64 (p.Wait), v7, v9, .int .u64 (p.Round), v11] : Value) := hp 2 (by kernel_rfl)
      have p_3 : E' 116 = (.int .u64 (lastI p) : Value) := hp 3 (by kernel_rfl)
      exact .inr ⟨(Sure.none rfl), .inr ⟨_, _, C.call2 (x := .tmp 115) (y := .tmp 116) rfl cl34 p_2 p_3, Fnc.mono (vote_Members (p := p) ⟨v1, v3, v5, v7, v9, v11, rfl, ((hl37.ext (Ext.pre hx193)).ext (Ext.any hw)), ((hl38.ext (Ext.pre hx193)).ext (Ext.any hw)), ((hl39.ext (Ext.pre hx193)).ext (Ext.any hw)), ((hl40.ext (Ext.pre hx193)).ext (Ext.any hw)), ((hl41.ext (Ext.pre hx193)).ext (Ext.any hw)), ((hl42.ext (Ext.pre hx193)).ext (Ext.any hw)), hk13⟩ (lastI p) (by omega) (by omega) (by assumption) (X := (b32 :: X)) (inMono (inCons hb197.lt (inMono hX hx192.size)) hw.size)) (fun v w'' ⟨_, e, hs, hx⟩ => ⟨hx, by subst e; exact hs⟩)⟩⟩
    · intro E' w' hw hE hp
      have p_1 : E' 114 = (v1 : Value) := hp 1 (by kernel_rfl)
      have p_4 : Sl (intR .i64) (b32 :: X) w' (E' 117) (membersOf p (lastI p)) := hp 4 (by kernel_rfl)
      exact .inr ⟨(Sure.none rfl), .inr ⟨_, _, C.call2 (x := .tmp 114) (y := .tmp 117) rfl cl33 p_1 rfl, Fnc.mono (sl_equal_int ((hl37.ext (Ext.pre hx193)).ext (Ext.any hw)) p_4) (fun v w'' h => ⟨h.2, h.1⟩)⟩⟩
    · intro E' w' hw hE hp
      have p_5 : E' 118 = (.bool (eqB ieq p.Members (membersOf p (lastI p))) : Value) := hp 5 (by kernel_rfl)
      exact .inr ⟨(Sure.none rfl), .inl ⟨.bool (!(eqB ieq p.Members (membersOf p (lastI p)))), V.not (x := .tmp 118) rfl p_5, rfl⟩⟩
    · intro E' w' hw hE hp
      have p_6 : E' 119 = (.bool (!(eqB ieq p.Members (membersOf p (lastI p)))) : Value) := hp 6 (by kernel_rfl)
      exact .inr ⟨(Sure.none rfl), .inl ⟨.bool (!(eqB ieq p.Members (membersOf p (lastI p)))), V.move (x := .tmp 119) rfl p_6, (congrArg Value.bool hc198r)⟩⟩
    · intro E' w' hw hE hp
      have p_7 : E' 120 = (.bool (true) : Value) := hp 7 (by kernel_rfl)
      exact .inl ⟨(Shut.no rfl rfl p_7 rfl), rfl⟩
    · intro E' w' hw hE hp
      have p_7 : E' 120 = (.bool (true) : Value) := hp 7 (by kernel_rfl)
      have p_8 : E' 121 = (undef : Value) := hp 8 (by kernel_rfl)
      exact .inl ⟨(Shut.no rfl rfl p_7 rfl), rfl⟩
    · intro E' w' hw hE hp
      have p_7 : E' 120 = (.bool (true) : Value) := hp 7 (by kernel_rfl)
      exact .inl ⟨(Shut.no rfl rfl p_7 rfl), rfl⟩
    · intro E' w' hw hE hp
      have p_7 : E' 120 = (.bool (true) : Value) := hp 7 (by kernel_rfl)
      have p_10 : E' 123 = (undef : Value) := hp 10 (by kernel_rfl)
      exact .inl ⟨(Shut.no rfl rfl p_7 rfl), rfl⟩
    · intro E' w' hw hE hp
      have p_7 : E' 120 = (.bool (true) : Value) := hp 7 (by kernel_rfl)
      have p_9 : E' 122 = (undef : Value) := hp 9 (by kernel_rfl)
      have p_11 : E' 124 = (undef : Value) := hp 11 (by kernel_rfl)
      exact .inl ⟨(Shut.no rfl rfl p_7 rfl), rfl⟩
    · intro E' w' hw hE hp
      have p_7 : E' 120 = (.bool (true) : Value) := hp 7 (by kernel_rfl)
      have p_12 : E' 125 = (undef : Value) := hp 12 (by kernel_rfl)
      exact .inr ⟨(Sure.none rfl), .inl ⟨.bool (true), V.pick (c := .tmp 120) (y := .tmp 125) rfl p_7 rfl, rfl⟩⟩
    · intro E' w' hw hE hp
      have p_13 : E' 126 = (.bool (true) : Value) := hp 13 (by kernel_rfl)
      exact .inr ⟨(Sure.none rfl), .inl ⟨.bool (true), V.move (x := .tmp 126) rfl p_13, rfl⟩⟩
    · intro E' w' hw hE hp
      have p_14 : E' 127 = (.bool (true) : Value) := hp 14 (by kernel_rfl)
      exact .inl ⟨(Shut.no rfl rfl p_14 rfl), rfl⟩
    · intro E' w' hw hE hp
      have p_14 : E' 127 = (.bool (true) : Value) := hp 14 (by kernel_rfl)
      have p_15 : E' 128 = (undef : Value) := hp 15 (by kernel_rfl)
      exact .inl ⟨(Shut.no rfl rfl p_14 rfl), rfl⟩
    · intro E' w' hw hE hp
      have p_14 : E' 127 = (.bool (true) : Value) := hp 14 (by kernel_rfl)
      exact .inl ⟨(Shut.no rfl rfl p_14 rfl), rfl⟩
    · intro E' w' hw hE hp
      have p_14 : E' 127 = (.bool (true) : Value) := hp 14 (by kernel_rfl)
      have p_16 : E' 129 = (undef : Value) := hp 16 (by kernel_rfl)
      have p_17 : E' 130 = (undef : Value) := hp 17 (by kernel_rfl)
      exact .inl ⟨(Shut.no rfl rfl p_14 rfl), rfl⟩
    · intro E' w' hw hE hp
      have p_14 : E' 127 = (.bool (true) : Value) := hp 14 (by kernel_rfl)
      have p_18 : E' 131 = (undef : Value) := hp 18 (by kernel_rfl)
      exact .inr ⟨(Sure.none rfl), .inl ⟨.bool (true), V.pick (c := .tmp 127) (y := .tmp 131) rfl p_14 rfl, rfl⟩⟩
    · intro E199 w200 hw201 hE202 hp203
      have hx204 : Ext [b32] w w200 := hx192.trans (Ext.any (Y := [b32]) hw201)
      have hp211 : E199 132 = (.bool (true) : Value) := hp203 19 (of_decide_eq_true (by kernel_rfl))
      refine WP.cond_true hp211 ?_
      refine WP.sr ?_
      refine WL.m rfl ?_
      refine WL.nil ?_
      refine WP.ret ?_
      refine resOf.c1 rfl (v := .bool (false)) rfl ?_
      exact ⟨(bool_eq (by first | assumption | grind [vmayB, vM4, vM5])), ((hx204).done (geCons hge_b32_w geNil))⟩
  have hc198r := hc198
  replace hc198 := bnot_false hc198
  refine W.bsplit (c := decide (p.Commit < p.Base)) (fun hc212 => ?_) (fun hc212 => ?_)
  · have hc212r := hc212
    replace hc212 := of_decide_eq_true hc212
    refine WP.anyMake [fun v _ => v = (.pointer (some ⟨b32, 1, none⟩) : Value), fun v _ => v = (v1 : Value), fun v _ => v = (.agg #[.int .i64 (p.Id), v1, .int .u64 (p.Term), .int .i64 (p.Vote), .int .u8 (p.Role), .int .i64 (p.Lead), .int .u64 (p.Base), .int .u64 (p.BaseTerm), v3, .string (p.Snap), v5, .int .u64 (p.Commit), .int .i64 (p.Idle), .int .i64 (p.Wait), v7, v9, .int .u64 (p.Round), v11] : Value), fun v _ => v = (.int .u64 (lastI p) : Value), fun v w => Sl (intR .i64) (b32 :: X) w v (membersOf p (lastI p)), fun v _ => v = (.bool (eqB ieq p.Members (membersOf p (lastI p))) : Value), fun v _ => v = (.bool (!(eqB ieq p.Members (membersOf p (lastI p)))) : Value), fun v _ => v = (.bool (false) : Value), fun v _ => v = (.pointer (some ⟨b32, 11, none⟩) : Value), fun v _ => v = (.int .u64 (p.Commit) : Value), fun v _ => v = (.pointer (some ⟨b32, 6, none⟩) : Value), fun v _ => v = (.int .u64 (p.Base) : Value), fun v _ => v = (.bool (decide (p.Commit < p.Base)) : Value), fun v _ => v = (.bool (decide (p.Commit < p.Base)) : Value), fun v _ => v = (.bool (true) : Value), fun v _ => v = (undef : Value), fun v _ => v = (undef : Value), fun v _ => v = (undef : Value), fun v _ => v = (undef : Value), fun v _ => v = (.bool (true) : Value)] mo (by kernel_rfl) (by kernel_rfl) (by kernel_rfl) ⟨Stab.eq _, Stab.eq _, Stab.eq _, Stab.eq _, Stab.sl, Stab.eq _, Stab.eq _, Stab.eq _, Stab.eq _, Stab.eq _, Stab.eq _, Stab.eq _, Stab.eq _, Stab.eq _, Stab.eq _, Stab.eq _, Stab.eq _, Stab.eq _, Stab.eq _, Stab.eq _, trivial⟩ ⟨?_, ?_, ?_, ?_, ?_, ?_, ?_, ?_, ?_, ?_, ?_, ?_, ?_, ?_, ?_, ?_, ?_, ?_, ?_, ?_, trivial⟩ ?_
    · intro E' w' hw hE hp
      exact .inr ⟨(Sure.none rfl), .inl ⟨.pointer (some ⟨b32, 1, none⟩), V.fieldAddr (x := .tmp 1) rfl fl30_1 ((hE 1 (by kernel_rfl)).trans h1_184), rfl⟩⟩
    · intro E' w' hw hE hp
      have p_0 : E' 113 = (.pointer (some ⟨b32, 1, none⟩) : Value) := hp 0 (by kernel_rfl)
      exact .inr ⟨(Sure.none rfl), .inl ⟨v1, V.load (x := .tmp 113) rfl p22 p_0 ((hb197.ext hw (by simp)).cell rfl), rfl⟩⟩
    · intro E' w' hw hE hp
      exact .inr ⟨(Sure.none rfl), .inl ⟨.agg #[.int .i64 (p.Id), v1, .int .u64 (p.Term), .int .i64 (p.Vote), .int .u8 (p.Role), .int .i64 (p.Lead), .int .u64 (p.Base), .int .u64 (p.BaseTerm), v3, .string (p.Snap), v5, .int .u64 (p.Commit), .int .i64 (p.Idle), .int .i64 (p.Wait), v7, v9, .int .u64 (p.Round), v11], V.loadAgg (x := .tmp 1) (cs := [.int .i64 (p.Id), v1, .int .u64 (p.Term), .int .i64 (p.Vote), .int .u8 (p.Role), .int .i64 (p.Lead), .int .u64 (p.Base), .int .u64 (p.BaseTerm), v3, .string (p.Snap), v5, .int .u64 (p.Commit), .int .i64 (p.Idle), .int .i64 (p.Wait), v7, v9, .int .u64 (p.Round), v11]) rfl a30 ((hE 1 (by kernel_rfl)).trans h1_184) ((At.box hb197).ext hw (by simp)) rfl, rfl⟩⟩
    · intro E' w' hw hE hp
      exact .inr ⟨(Sure.none rfl), .inl ⟨.int .u64 (lastI p), V.move (x := .tmp 3) rfl ((hE 3 (by kernel_rfl)).trans rfl), rfl⟩⟩
    · intro E' w' hw hE hp
      have p_2 : E' 115 = (.agg #[.int .i64 (p.Id), v1, .int .u64 (p.Term), .int .i64 (p.Vote), .int .u8 (p.Role), .int .i64 (p.Lead), .int .u64 (p.Base), .int .u64 (p.BaseTerm), v3, .string (p.Snap), v5, .int .u64 (p.Commit), .int .i64 (p.Idle), .int .i64 (p.Wait), v7, v9, .int .u64 (p.Round), v11] : Value) := hp 2 (by kernel_rfl)
      have p_3 : E' 116 = (.int .u64 (lastI p) : Value) := hp 3 (by kernel_rfl)
      exact .inr ⟨(Sure.none rfl), .inr ⟨_, _, C.call2 (x := .tmp 115) (y := .tmp 116) rfl cl34 p_2 p_3, Fnc.mono (vote_Members (p := p) ⟨v1, v3, v5, v7, v9, v11, rfl, ((hl37.ext (Ext.pre hx193)).ext (Ext.any hw)), ((hl38.ext (Ext.pre hx193)).ext (Ext.any hw)), ((hl39.ext (Ext.pre hx193)).ext (Ext.any hw)), ((hl40.ext (Ext.pre hx193)).ext (Ext.any hw)), ((hl41.ext (Ext.pre hx193)).ext (Ext.any hw)), ((hl42.ext (Ext.pre hx193)).ext (Ext.any hw)), hk13⟩ (lastI p) (by omega) (by omega) (by assumption) (X := (b32 :: X)) (inMono (inCons hb197.lt (inMono hX hx192.size)) hw.size)) (fun v w'' ⟨_, e, hs, hx⟩ => ⟨hx, by subst e; exact hs⟩)⟩⟩
    · intro E' w' hw hE hp
      have p_1 : E' 114 = (v1 : Value) := hp 1 (by kernel_rfl)
      have p_4 : Sl (intR .i64) (b32 :: X) w' (E' 117) (membersOf p (lastI p)) := hp 4 (by kernel_rfl)
      exact .inr ⟨(Sure.none rfl), .inr ⟨_, _, C.call2 (x := .tmp 114) (y := .tmp 117) rfl cl33 p_1 rfl, Fnc.mono (sl_equal_int ((hl37.ext (Ext.pre hx193)).ext (Ext.any hw)) p_4) (fun v w'' h => ⟨h.2, h.1⟩)⟩⟩
    · intro E' w' hw hE hp
      have p_5 : E' 118 = (.bool (eqB ieq p.Members (membersOf p (lastI p))) : Value) := hp 5 (by kernel_rfl)
      exact .inr ⟨(Sure.none rfl), .inl ⟨.bool (!(eqB ieq p.Members (membersOf p (lastI p)))), V.not (x := .tmp 118) rfl p_5, rfl⟩⟩
    · intro E' w' hw hE hp
      have p_6 : E' 119 = (.bool (!(eqB ieq p.Members (membersOf p (lastI p)))) : Value) := hp 6 (by kernel_rfl)
      exact .inr ⟨(Sure.none rfl), .inl ⟨.bool (!(eqB ieq p.Members (membersOf p (lastI p)))), V.move (x := .tmp 119) rfl p_6, (congrArg Value.bool hc198r)⟩⟩
    · intro E' w' hw hE hp
      have p_7 : E' 120 = (.bool (false) : Value) := hp 7 (by kernel_rfl)
      exact .inr ⟨(Sure.yes rfl rfl p_7), .inl ⟨.pointer (some ⟨b32, 11, none⟩), V.fieldAddr (x := .tmp 1) rfl fl30_11 ((hE 1 (by kernel_rfl)).trans h1_184), rfl⟩⟩
    · intro E' w' hw hE hp
      have p_7 : E' 120 = (.bool (false) : Value) := hp 7 (by kernel_rfl)
      have p_8 : E' 121 = (.pointer (some ⟨b32, 11, none⟩) : Value) := hp 8 (by kernel_rfl)
      exact .inr ⟨(Sure.yes rfl rfl p_7), .inl ⟨.int .u64 (p.Commit), V.load (x := .tmp 121) rfl p24 p_8 ((hb197.ext hw (by simp)).cell rfl), rfl⟩⟩
    · intro E' w' hw hE hp
      have p_7 : E' 120 = (.bool (false) : Value) := hp 7 (by kernel_rfl)
      exact .inr ⟨(Sure.yes rfl rfl p_7), .inl ⟨.pointer (some ⟨b32, 6, none⟩), V.fieldAddr (x := .tmp 1) rfl fl30_6 ((hE 1 (by kernel_rfl)).trans h1_184), rfl⟩⟩
    · intro E' w' hw hE hp
      have p_7 : E' 120 = (.bool (false) : Value) := hp 7 (by kernel_rfl)
      have p_10 : E' 123 = (.pointer (some ⟨b32, 6, none⟩) : Value) := hp 10 (by kernel_rfl)
      exact .inr ⟨(Sure.yes rfl rfl p_7), .inl ⟨.int .u64 (p.Base), V.load (x := .tmp 123) rfl p24 p_10 ((hb197.ext hw (by simp)).cell rfl), rfl⟩⟩
    · intro E' w' hw hE hp
      have p_7 : E' 120 = (.bool (false) : Value) := hp 7 (by kernel_rfl)
      have p_9 : E' 122 = (.int .u64 (p.Commit) : Value) := hp 9 (by kernel_rfl)
      have p_11 : E' 124 = (.int .u64 (p.Base) : Value) := hp 11 (by kernel_rfl)
      exact .inr ⟨(Sure.yes rfl rfl p_7), .inl ⟨.bool (decide (p.Commit < p.Base)), V.cmp (x := .tmp 122) (y := .tmp 124) rfl p_9 p_11 rfl, rfl⟩⟩
    · intro E' w' hw hE hp
      have p_7 : E' 120 = (.bool (false) : Value) := hp 7 (by kernel_rfl)
      have p_12 : E' 125 = (.bool (decide (p.Commit < p.Base)) : Value) := hp 12 (by kernel_rfl)
      exact .inr ⟨(Sure.none rfl), .inl ⟨.bool (decide (p.Commit < p.Base)), V.pick (c := .tmp 120) (y := .tmp 125) rfl p_7 p_12, rfl⟩⟩
    · intro E' w' hw hE hp
      have p_13 : E' 126 = (.bool (decide (p.Commit < p.Base)) : Value) := hp 13 (by kernel_rfl)
      exact .inr ⟨(Sure.none rfl), .inl ⟨.bool (decide (p.Commit < p.Base)), V.move (x := .tmp 126) rfl p_13, (congrArg Value.bool hc212r)⟩⟩
    · intro E' w' hw hE hp
      have p_14 : E' 127 = (.bool (true) : Value) := hp 14 (by kernel_rfl)
      exact .inl ⟨(Shut.no rfl rfl p_14 rfl), rfl⟩
    · intro E' w' hw hE hp
      have p_14 : E' 127 = (.bool (true) : Value) := hp 14 (by kernel_rfl)
      have p_15 : E' 128 = (undef : Value) := hp 15 (by kernel_rfl)
      exact .inl ⟨(Shut.no rfl rfl p_14 rfl), rfl⟩
    · intro E' w' hw hE hp
      have p_14 : E' 127 = (.bool (true) : Value) := hp 14 (by kernel_rfl)
      exact .inl ⟨(Shut.no rfl rfl p_14 rfl), rfl⟩
    · intro E' w' hw hE hp
      have p_14 : E' 127 = (.bool (true) : Value) := hp 14 (by kernel_rfl)
      have p_16 : E' 129 = (undef : Value) := hp 16 (by kernel_rfl)
      have p_17 : E' 130 = (undef : Value) := hp 17 (by kernel_rfl)
      exact .inl ⟨(Shut.no rfl rfl p_14 rfl), rfl⟩
    · intro E' w' hw hE hp
      have p_14 : E' 127 = (.bool (true) : Value) := hp 14 (by kernel_rfl)
      have p_18 : E' 131 = (undef : Value) := hp 18 (by kernel_rfl)
      exact .inr ⟨(Sure.none rfl), .inl ⟨.bool (true), V.pick (c := .tmp 127) (y := .tmp 131) rfl p_14 rfl, rfl⟩⟩
    · intro E213 w214 hw215 hE216 hp217
      have hx218 : Ext [b32] w w214 := hx192.trans (Ext.any (Y := [b32]) hw215)
      have hp225 : E213 132 = (.bool (true) : Value) := hp217 19 (of_decide_eq_true (by kernel_rfl))
      refine WP.cond_true hp225 ?_
      refine WP.sr ?_
      refine WL.m rfl ?_
      refine WL.nil ?_
      refine WP.ret ?_
      refine resOf.c1 rfl (v := .bool (false)) rfl ?_
      exact ⟨(bool_eq (by first | assumption | grind [vmayB, vM4, vM5])), ((hx218).done (geCons hge_b32_w geNil))⟩
  have hc212r := hc212
  replace hc212 := of_decide_eq_false hc212
  refine WP.anyMake [fun v _ => v = (.pointer (some ⟨b32, 1, none⟩) : Value), fun v _ => v = (v1 : Value), fun v _ => v = (.agg #[.int .i64 (p.Id), v1, .int .u64 (p.Term), .int .i64 (p.Vote), .int .u8 (p.Role), .int .i64 (p.Lead), .int .u64 (p.Base), .int .u64 (p.BaseTerm), v3, .string (p.Snap), v5, .int .u64 (p.Commit), .int .i64 (p.Idle), .int .i64 (p.Wait), v7, v9, .int .u64 (p.Round), v11] : Value), fun v _ => v = (.int .u64 (lastI p) : Value), fun v w => Sl (intR .i64) (b32 :: X) w v (membersOf p (lastI p)), fun v _ => v = (.bool (eqB ieq p.Members (membersOf p (lastI p))) : Value), fun v _ => v = (.bool (!(eqB ieq p.Members (membersOf p (lastI p)))) : Value), fun v _ => v = (.bool (false) : Value), fun v _ => v = (.pointer (some ⟨b32, 11, none⟩) : Value), fun v _ => v = (.int .u64 (p.Commit) : Value), fun v _ => v = (.pointer (some ⟨b32, 6, none⟩) : Value), fun v _ => v = (.int .u64 (p.Base) : Value), fun v _ => v = (.bool (decide (p.Commit < p.Base)) : Value), fun v _ => v = (.bool (decide (p.Commit < p.Base)) : Value), fun v _ => v = (.bool (false) : Value), fun v _ => v = (.pointer (some ⟨b32, 11, none⟩) : Value), fun v _ => v = (.int .u64 (p.Commit) : Value), fun v _ => v = (.int .u64 (lastI p) : Value), fun v _ => v = (.bool (decide (p.Commit > (lastI p))) : Value), fun v _ => v = (.bool (decide (p.Commit > (lastI p))) : Value)] mo (by kernel_rfl) (by kernel_rfl) (by kernel_rfl) ⟨Stab.eq _, Stab.eq _, Stab.eq _, Stab.eq _, Stab.sl, Stab.eq _, Stab.eq _, Stab.eq _, Stab.eq _, Stab.eq _, Stab.eq _, Stab.eq _, Stab.eq _, Stab.eq _, Stab.eq _, Stab.eq _, Stab.eq _, Stab.eq _, Stab.eq _, Stab.eq _, trivial⟩ ⟨?_, ?_, ?_, ?_, ?_, ?_, ?_, ?_, ?_, ?_, ?_, ?_, ?_, ?_, ?_, ?_, ?_, ?_, ?_, ?_, trivial⟩ ?_
  · intro E' w' hw hE hp
    exact .inr ⟨(Sure.none rfl), .inl ⟨.pointer (some ⟨b32, 1, none⟩), V.fieldAddr (x := .tmp 1) rfl fl30_1 ((hE 1 (by kernel_rfl)).trans h1_184), rfl⟩⟩
  · intro E' w' hw hE hp
    have p_0 : E' 113 = (.pointer (some ⟨b32, 1, none⟩) : Value) := hp 0 (by kernel_rfl)
    exact .inr ⟨(Sure.none rfl), .inl ⟨v1, V.load (x := .tmp 113) rfl p22 p_0 ((hb197.ext hw (by simp)).cell rfl), rfl⟩⟩
  · intro E' w' hw hE hp
    exact .inr ⟨(Sure.none rfl), .inl ⟨.agg #[.int .i64 (p.Id), v1, .int .u64 (p.Term), .int .i64 (p.Vote), .int .u8 (p.Role), .int .i64 (p.Lead), .int .u64 (p.Base), .int .u64 (p.BaseTerm), v3, .string (p.Snap), v5, .int .u64 (p.Commit), .int .i64 (p.Idle), .int .i64 (p.Wait), v7, v9, .int .u64 (p.Round), v11], V.loadAgg (x := .tmp 1) (cs := [.int .i64 (p.Id), v1, .int .u64 (p.Term), .int .i64 (p.Vote), .int .u8 (p.Role), .int .i64 (p.Lead), .int .u64 (p.Base), .int .u64 (p.BaseTerm), v3, .string (p.Snap), v5, .int .u64 (p.Commit), .int .i64 (p.Idle), .int .i64 (p.Wait), v7, v9, .int .u64 (p.Round), v11]) rfl a30 ((hE 1 (by kernel_rfl)).trans h1_184) ((At.box hb197).ext hw (by simp)) rfl, rfl⟩⟩
  · intro E' w' hw hE hp
    exact .inr ⟨(Sure.none rfl), .inl ⟨.int .u64 (lastI p), V.move (x := .tmp 3) rfl ((hE 3 (by kernel_rfl)).trans rfl), rfl⟩⟩
  · intro E' w' hw hE hp
    have p_2 : E' 115 = (.agg #[.int .i64 (p.Id), v1, .int .u64 (p.Term), .int .i64 (p.Vote), .int .u8 (p.Role), .int .i64 (p.Lead), .int .u64 (p.Base), .int .u64 (p.BaseTerm), v3, .string (p.Snap), v5, .int .u64 (p.Commit), .int .i64 (p.Idle), .int .i64 (p.Wait), v7, v9, .int .u64 (p.Round), v11] : Value) := hp 2 (by kernel_rfl)
    have p_3 : E' 116 = (.int .u64 (lastI p) : Value) := hp 3 (by kernel_rfl)
    exact .inr ⟨(Sure.none rfl), .inr ⟨_, _, C.call2 (x := .tmp 115) (y := .tmp 116) rfl cl34 p_2 p_3, Fnc.mono (vote_Members (p := p) ⟨v1, v3, v5, v7, v9, v11, rfl, ((hl37.ext (Ext.pre hx193)).ext (Ext.any hw)), ((hl38.ext (Ext.pre hx193)).ext (Ext.any hw)), ((hl39.ext (Ext.pre hx193)).ext (Ext.any hw)), ((hl40.ext (Ext.pre hx193)).ext (Ext.any hw)), ((hl41.ext (Ext.pre hx193)).ext (Ext.any hw)), ((hl42.ext (Ext.pre hx193)).ext (Ext.any hw)), hk13⟩ (lastI p) (by omega) (by omega) (by assumption) (X := (b32 :: X)) (inMono (inCons hb197.lt (inMono hX hx192.size)) hw.size)) (fun v w'' ⟨_, e, hs, hx⟩ => ⟨hx, by subst e; exact hs⟩)⟩⟩
  · intro E' w' hw hE hp
    have p_1 : E' 114 = (v1 : Value) := hp 1 (by kernel_rfl)
    have p_4 : Sl (intR .i64) (b32 :: X) w' (E' 117) (membersOf p (lastI p)) := hp 4 (by kernel_rfl)
    exact .inr ⟨(Sure.none rfl), .inr ⟨_, _, C.call2 (x := .tmp 114) (y := .tmp 117) rfl cl33 p_1 rfl, Fnc.mono (sl_equal_int ((hl37.ext (Ext.pre hx193)).ext (Ext.any hw)) p_4) (fun v w'' h => ⟨h.2, h.1⟩)⟩⟩
  · intro E' w' hw hE hp
    have p_5 : E' 118 = (.bool (eqB ieq p.Members (membersOf p (lastI p))) : Value) := hp 5 (by kernel_rfl)
    exact .inr ⟨(Sure.none rfl), .inl ⟨.bool (!(eqB ieq p.Members (membersOf p (lastI p)))), V.not (x := .tmp 118) rfl p_5, rfl⟩⟩
  · intro E' w' hw hE hp
    have p_6 : E' 119 = (.bool (!(eqB ieq p.Members (membersOf p (lastI p)))) : Value) := hp 6 (by kernel_rfl)
    exact .inr ⟨(Sure.none rfl), .inl ⟨.bool (!(eqB ieq p.Members (membersOf p (lastI p)))), V.move (x := .tmp 119) rfl p_6, (congrArg Value.bool hc198r)⟩⟩
  · intro E' w' hw hE hp
    have p_7 : E' 120 = (.bool (false) : Value) := hp 7 (by kernel_rfl)
    exact .inr ⟨(Sure.yes rfl rfl p_7), .inl ⟨.pointer (some ⟨b32, 11, none⟩), V.fieldAddr (x := .tmp 1) rfl fl30_11 ((hE 1 (by kernel_rfl)).trans h1_184), rfl⟩⟩
  · intro E' w' hw hE hp
    have p_7 : E' 120 = (.bool (false) : Value) := hp 7 (by kernel_rfl)
    have p_8 : E' 121 = (.pointer (some ⟨b32, 11, none⟩) : Value) := hp 8 (by kernel_rfl)
    exact .inr ⟨(Sure.yes rfl rfl p_7), .inl ⟨.int .u64 (p.Commit), V.load (x := .tmp 121) rfl p24 p_8 ((hb197.ext hw (by simp)).cell rfl), rfl⟩⟩
  · intro E' w' hw hE hp
    have p_7 : E' 120 = (.bool (false) : Value) := hp 7 (by kernel_rfl)
    exact .inr ⟨(Sure.yes rfl rfl p_7), .inl ⟨.pointer (some ⟨b32, 6, none⟩), V.fieldAddr (x := .tmp 1) rfl fl30_6 ((hE 1 (by kernel_rfl)).trans h1_184), rfl⟩⟩
  · intro E' w' hw hE hp
    have p_7 : E' 120 = (.bool (false) : Value) := hp 7 (by kernel_rfl)
    have p_10 : E' 123 = (.pointer (some ⟨b32, 6, none⟩) : Value) := hp 10 (by kernel_rfl)
    exact .inr ⟨(Sure.yes rfl rfl p_7), .inl ⟨.int .u64 (p.Base), V.load (x := .tmp 123) rfl p24 p_10 ((hb197.ext hw (by simp)).cell rfl), rfl⟩⟩
  · intro E' w' hw hE hp
    have p_7 : E' 120 = (.bool (false) : Value) := hp 7 (by kernel_rfl)
    have p_9 : E' 122 = (.int .u64 (p.Commit) : Value) := hp 9 (by kernel_rfl)
    have p_11 : E' 124 = (.int .u64 (p.Base) : Value) := hp 11 (by kernel_rfl)
    exact .inr ⟨(Sure.yes rfl rfl p_7), .inl ⟨.bool (decide (p.Commit < p.Base)), V.cmp (x := .tmp 122) (y := .tmp 124) rfl p_9 p_11 rfl, rfl⟩⟩
  · intro E' w' hw hE hp
    have p_7 : E' 120 = (.bool (false) : Value) := hp 7 (by kernel_rfl)
    have p_12 : E' 125 = (.bool (decide (p.Commit < p.Base)) : Value) := hp 12 (by kernel_rfl)
    exact .inr ⟨(Sure.none rfl), .inl ⟨.bool (decide (p.Commit < p.Base)), V.pick (c := .tmp 120) (y := .tmp 125) rfl p_7 p_12, rfl⟩⟩
  · intro E' w' hw hE hp
    have p_13 : E' 126 = (.bool (decide (p.Commit < p.Base)) : Value) := hp 13 (by kernel_rfl)
    exact .inr ⟨(Sure.none rfl), .inl ⟨.bool (decide (p.Commit < p.Base)), V.move (x := .tmp 126) rfl p_13, (congrArg Value.bool hc212r)⟩⟩
  · intro E' w' hw hE hp
    have p_14 : E' 127 = (.bool (false) : Value) := hp 14 (by kernel_rfl)
    exact .inr ⟨(Sure.yes rfl rfl p_14), .inl ⟨.pointer (some ⟨b32, 11, none⟩), V.fieldAddr (x := .tmp 1) rfl fl30_11 ((hE 1 (by kernel_rfl)).trans h1_184), rfl⟩⟩
  · intro E' w' hw hE hp
    have p_14 : E' 127 = (.bool (false) : Value) := hp 14 (by kernel_rfl)
    have p_15 : E' 128 = (.pointer (some ⟨b32, 11, none⟩) : Value) := hp 15 (by kernel_rfl)
    exact .inr ⟨(Sure.yes rfl rfl p_14), .inl ⟨.int .u64 (p.Commit), V.load (x := .tmp 128) rfl p24 p_15 ((hb197.ext hw (by simp)).cell rfl), rfl⟩⟩
  · intro E' w' hw hE hp
    have p_14 : E' 127 = (.bool (false) : Value) := hp 14 (by kernel_rfl)
    exact .inr ⟨(Sure.yes rfl rfl p_14), .inl ⟨.int .u64 (lastI p), V.move (x := .tmp 3) rfl ((hE 3 (by kernel_rfl)).trans rfl), rfl⟩⟩
  · intro E' w' hw hE hp
    have p_14 : E' 127 = (.bool (false) : Value) := hp 14 (by kernel_rfl)
    have p_16 : E' 129 = (.int .u64 (p.Commit) : Value) := hp 16 (by kernel_rfl)
    have p_17 : E' 130 = (.int .u64 (lastI p) : Value) := hp 17 (by kernel_rfl)
    exact .inr ⟨(Sure.yes rfl rfl p_14), .inl ⟨.bool (decide (p.Commit > (lastI p))), V.cmp (x := .tmp 129) (y := .tmp 130) rfl p_16 p_17 rfl, rfl⟩⟩
  · intro E' w' hw hE hp
    have p_14 : E' 127 = (.bool (false) : Value) := hp 14 (by kernel_rfl)
    have p_18 : E' 131 = (.bool (decide (p.Commit > (lastI p))) : Value) := hp 18 (by kernel_rfl)
    exact .inr ⟨(Sure.none rfl), .inl ⟨.bool (decide (p.Commit > (lastI p))), V.pick (c := .tmp 127) (y := .tmp 131) rfl p_14 p_18, rfl⟩⟩
  · intro E226 w227 hw228 hE229 hp230
    have hx231 : Ext [b32] w w227 := hx192.trans (Ext.any (Y := [b32]) hw228)
    have hx232 : Ext [b32] w33 w227 := hx193.trans (Ext.any (Y := [b32]) hw228)
    have hb237 := hb197.ext hw228 (by simp)
    have hp238 : E226 132 = (.bool (decide (p.Commit > (lastI p))) : Value) := hp230 19 (of_decide_eq_true (by kernel_rfl))
    refine WP.condp (t := p.Commit > (lastI p)) hp238 (fun hc239 => ?_) (fun hc239 => ?_)
    · refine WP.sr ?_
      refine WL.m rfl ?_
      refine WL.nil ?_
      refine WP.ret ?_
      refine resOf.c1 rfl (v := .bool (false)) rfl ?_
      exact ⟨(bool_eq (by first | assumption | grind [vmayB, vM4, vM5])), ((hx231).done (geCons hge_b32_w geNil))⟩
    refine WP.skip ?_
    have hsz242 : w.heap.size ≤ w227.heap.size := hx231.size
    refine WP.seq_cut (fun E240 w241 => E240 0 = .agg #[.int .i64 (p.Id), v1, .int .u64 (p.Term), .int .i64 (p.Vote), .int .u8 (p.Role), .int .i64 (p.Lead), .int .u64 (p.Base), .int .u64 (p.BaseTerm), v3, .string (p.Snap), v5, .int .u64 (p.Commit), .int .i64 (p.Idle), .int .i64 (p.Wait), v7, v9, .int .u64 (p.Round), v11] ∧ E240 1 = .pointer (some ⟨b32, 0, none⟩) ∧ E240 3 = .int .u64 (lastI p) ∧ E240 4 = .int .u64 (lastT p) ∧ E240 6 = .bool (!vM1 p) ∧ E240 46 = .bool (!vM2 p) ∧ E240 73 = .bool (!vM3 p) ∧ E240 108 = .tuple #[.int .u64 (lastI p), .int .u64 (lastT p)] ∧ E240 109 = .agg #[.int .i64 (p.Id), v1, .int .u64 (p.Term), .int .i64 (p.Vote), .int .u8 (p.Role), .int .i64 (p.Lead), .int .u64 (p.Base), .int .u64 (p.BaseTerm), v3, .string (p.Snap), v5, .int .u64 (p.Commit), .int .i64 (p.Idle), .int .i64 (p.Wait), v7, v9, .int .u64 (p.Round), v11] ∧ E240 110 = .tuple #[.int .u64 (lastI p), .int .u64 (lastT p)] ∧ E240 111 = .int .u64 (lastI p) ∧ E240 112 = .int .u64 (lastT p) ∧ E240 132 = .bool (decide (p.Commit > (lastI p))) ∧ E240 5 = .bool (vNone p) ∧ Ext [b32] w227 w241 ∧ Box w241 b32 30 [.int .i64 (p.Id), v1, .int .u64 (p.Term), .int .i64 (p.Vote), .int .u8 (p.Role), .int .i64 (p.Lead), .int .u64 (p.Base), .int .u64 (p.BaseTerm), v3, .string (p.Snap), v5, .int .u64 (p.Commit), .int .i64 (p.Idle), .int .i64 (p.Wait), v7, v9, .int .u64 (p.Round), v11]) ?_ ?_
    · refine WP.region ?_
      refine WL.f (x := .tmp 1) (v9) fl30_15 ((hE229 1 (by kernel_rfl)).trans h1_184) p27 (hb237.cell rfl) ?_
      obtain ⟨a243, c244, hv245⟩ := hl41.shape
      refine WL.z (.int .i64 (((p.Follows).length : Int))) (V.lenSlice rfl rfl u27 (Eq.trans (b := v9) rfl hv245)) ?_
      refine WL.z (.bool (decide (((p.Follows).length : Int) = 0))) (V.cmp rfl rfl rfl rfl) ?_
      refine WL.vbp (c := ((p.Follows).length : Int) = 0) (Sure.none rfl) rfl (V.move rfl rfl) (fun hc246 => ?_) (fun hc246 => ?_)
      · refine WL.fy (x := .tmp 1) (v11) rfl fl30_17 ((hE229 1 (by kernel_rfl)).trans h1_184) p28 (hb237.cell rfl) ?_
        obtain ⟨a247, c248, hv249⟩ := hl42.shape
        refine WL.y (.int .i64 (((p.Reads).length : Int))) rfl (V.lenSlice rfl rfl u28 (Eq.trans (b := v11) rfl hv249)) ?_
        refine WL.y (.bool (decide (((p.Reads).length : Int) = 0))) rfl (V.cmp rfl rfl rfl rfl) ?_
        refine WL.k (a := true) rfl rfl ?_
        refine WL.m rfl ?_
        refine WL.nil ?_
        exact ⟨((hE229 0 (by kernel_rfl)).trans h0_184), ((hE229 1 (by kernel_rfl)).trans h1_184), ((hE229 3 (by kernel_rfl)).trans rfl), ((hE229 4 (by kernel_rfl)).trans rfl), ((hE229 6 (by kernel_rfl)).trans h6_184), ((hE229 46 (by kernel_rfl)).trans h46_184), ((hE229 73 (by kernel_rfl)).trans h73_184), ((hE229 108 (by kernel_rfl)).trans rfl), ((hE229 109 (by kernel_rfl)).trans rfl), ((hE229 110 (by kernel_rfl)).trans rfl), ((hE229 111 (by kernel_rfl)).trans rfl), ((hE229 112 (by kernel_rfl)).trans rfl), hp238, (bool_eq (by first | assumption | grind [vNone])), Ext.refl _ _, hb237⟩
      refine WL.skips [(137, some false)] [(5, some false)] (kc (some false) rfl kn) (by kernel_rfl) (fun E250 hK251 hE252 => ?_)
      exact ⟨((hE252 0 rfl).trans ((hE229 0 (by kernel_rfl)).trans h0_184)), ((hE252 1 rfl).trans ((hE229 1 (by kernel_rfl)).trans h1_184)), ((hE252 3 rfl).trans ((hE229 3 (by kernel_rfl)).trans rfl)), ((hE252 4 rfl).trans ((hE229 4 (by kernel_rfl)).trans rfl)), ((hE252 6 rfl).trans ((hE229 6 (by kernel_rfl)).trans h6_184)), ((hE252 46 rfl).trans ((hE229 46 (by kernel_rfl)).trans h46_184)), ((hE252 73 rfl).trans ((hE229 73 (by kernel_rfl)).trans h73_184)), ((hE252 108 rfl).trans ((hE229 108 (by kernel_rfl)).trans rfl)), ((hE252 109 rfl).trans ((hE229 109 (by kernel_rfl)).trans rfl)), ((hE252 110 rfl).trans ((hE229 110 (by kernel_rfl)).trans rfl)), ((hE252 111 rfl).trans ((hE229 111 (by kernel_rfl)).trans rfl)), ((hE252 112 rfl).trans ((hE229 112 (by kernel_rfl)).trans rfl)), ((hE252 132 rfl).trans hp238), (Eq.trans (hK251 5 (some false) rfl) (bool_eq (by first | assumption | grind [vNone]))), Ext.refl _ _, hb237⟩
    rintro E240 w241 ⟨h0_253, h1_253, h3_253, h4_253, h6_253, h46_253, h73_253, h108_253, h109_253, h110_253, h111_253, h112_253, h132_253, h5_253, hx253, hbb32_253⟩
    have hx254 : Ext [b32] w w241 := hx231.trans hx253
    have hx255 : Ext [b32] w33 w241 := hx232.trans hx253
    refine WP.seq ?_
    refine WP.sr ?_
    refine WL.f (x := .tmp 1) (.int .u8 (p.Role)) fl30_4 h1_253 p25 (hbb32_253.cell rfl) ?_
    refine WL.nil ?_
    refine WP.block ?_
    refine WP.sr ?_
    refine WL.z (.bool (decide (p.Role = 0))) (V.cmp rfl rfl rfl rfl) ?_
    refine WL.m rfl ?_
    refine WL.nil ?_
    refine WP.condp (t := p.Role = 0) rfl (fun hc261 => ?_) (fun hc261 => ?_)
    · refine WP.sr ?_
      refine WL.m rfl ?_
      refine WL.vb (c := vNone p) (Sure.none rfl) rfl (V.move (x := .tmp 147) rfl h5_253) (fun hc262 => ?_) (fun hc262 => ?_)
      rotate_left
      · refine WL.skips [(148, some false)] [(2, some false)] (kc (some false) rfl kn) (by kernel_rfl) (fun E266 hK267 hE268 => ?_)
        refine WP.ret ?_
        refine resOf.c1 rfl (v := .bool (false)) (hK267 2 (some false) rfl) ?_
        exact ⟨(bool_eq (by first | assumption | grind [vmayB, vM4, vM5])), ((hx254).done (geCons hge_b32_w geNil))⟩
      refine WL.fy (x := .tmp 1) (v7) rfl fl30_14 h1_253 p22 (hbb32_253.cell rfl) ?_
      obtain ⟨a263, c264, hv265⟩ := hl40.shape
      refine WL.y (.int .i64 (((p.Votes).length : Int))) rfl (V.lenSlice rfl rfl u22 (Eq.trans (b := v7) rfl hv265)) ?_
      refine WL.y (.bool (decide (((p.Votes).length : Int) = 0))) rfl (V.cmp rfl rfl rfl rfl) ?_
      refine WL.k (a := true) rfl rfl ?_
      refine WL.m rfl ?_
      refine WL.nil ?_
      refine WP.ret ?_
      refine resOf.c1 rfl (v := .bool (decide (((p.Votes).length : Int) = 0))) rfl ?_
      exact ⟨(bool_eq (by first | assumption | grind [vmayB, vM4, vM5])), ((hx254).done (geCons hge_b32_w geNil))⟩
    refine WP.sr ?_
    refine WL.z (.bool (decide (p.Role = 1))) (V.cmp rfl rfl rfl rfl) ?_
    refine WL.m rfl ?_
    refine WL.nil ?_
    refine WP.condp (t := p.Role = 1) rfl (fun hc269 => ?_) (fun hc269 => ?_)
    · refine WP.sr ?_
      refine WL.m rfl ?_
      refine WL.vb (c := vNone p) (Sure.none rfl) rfl (V.move (x := .tmp 156) rfl h5_253) (fun hc270 => ?_) (fun hc270 => ?_)
      rotate_left
      · refine WL.skips [(157, some false)] [(2, some false)] (kc (some false) rfl kn) (by kernel_rfl) (fun E323 hK324 hE325 => ?_)
        refine WP.ret ?_
        refine resOf.c1 rfl (v := .bool (false)) (hK324 2 (some false) rfl) ?_
        exact ⟨(bool_eq (by first | assumption | grind [vmayB, vM4, vM5])), ((hx254).done (geCons hge_b32_w geNil))⟩
      refine WL.fy (x := .tmp 1) (.int .i64 (p.Lead)) rfl fl30_5 h1_253 p3 (hbb32_253.cell rfl) ?_
      refine WL.y (.bool (decide (p.Lead = 0))) rfl (V.cmp rfl rfl rfl rfl) ?_
      refine WL.k (a := true) rfl rfl ?_
      refine WL.vbp (c := p.Lead = 0) (Sure.none rfl) rfl (V.move rfl rfl) (fun hc271 => ?_) (fun hc271 => ?_)
      rotate_left
      · refine WL.skips [(162, some false)] [(2, some false)] (kc (some false) rfl kn) (by kernel_rfl) (fun E320 hK321 hE322 => ?_)
        refine WP.ret ?_
        refine resOf.c1 rfl (v := .bool (false)) (hK321 2 (some false) rfl) ?_
        exact ⟨(bool_eq (by first | assumption | grind [vmayB, vM4, vM5])), ((hx254).done (geCons hge_b32_w geNil))⟩
      refine WL.fy (x := .tmp 1) (.int .i64 (p.Vote)) rfl fl30_3 h1_253 p3 (hbb32_253.cell rfl) ?_
      refine WL.fy (x := .tmp 1) (.int .i64 (p.Id)) rfl fl30_0 h1_253 p3 (hbb32_253.cell rfl) ?_
      refine WL.y (.bool (decide (p.Vote = p.Id))) rfl (V.cmp rfl rfl rfl rfl) ?_
      refine WL.k (a := true) rfl rfl ?_
      refine WL.vbp (c := p.Vote = p.Id) (Sure.none rfl) rfl (V.move rfl rfl) (fun hc272 => ?_) (fun hc272 => ?_)
      rotate_left
      · refine WL.skips [(169, some false)] [(2, some false)] (kc (some false) rfl kn) (by kernel_rfl) (fun E317 hK318 hE319 => ?_)
        refine WP.ret ?_
        refine resOf.c1 rfl (v := .bool (false)) (hK318 2 (some false) rfl) ?_
        exact ⟨(bool_eq (by first | assumption | grind [vmayB, vM4, vM5])), ((hx254).done (geCons hge_b32_w geNil))⟩
      refine WL.fy (x := .tmp 1) (v7) rfl fl30_14 h1_253 p22 (hbb32_253.cell rfl) ?_
      refine WL.c (Sure.yes rfl rfl rfl) rfl (C.call1 rfl cl35 rfl) (Fnc.mono (vote_rising (hl40.ext (Ext.pre hx255))) ?_)
      rintro _ w273 ⟨rfl, hx274⟩
      have hx275 : Ext [b32] w w273 := hx254.trans (Ext.any (Y := [b32]) hx274)
      have hx276 : Ext [b32] w33 w273 := hx255.trans (Ext.any (Y := [b32]) hx274)
      have hb283 := hbb32_253.ext hx274 (by simp)
      refine WL.k (a := true) rfl rfl ?_
      refine WL.vb (c := idsB p.Votes) (Sure.none rfl) rfl (V.move rfl rfl) (fun hc284 => ?_) (fun hc284 => ?_)
      rotate_left
      · refine WL.skips [(174, some false)] [(2, some false)] (kc (some false) rfl kn) (by kernel_rfl) (fun E314 hK315 hE316 => ?_)
        refine WP.ret ?_
        refine resOf.c1 rfl (v := .bool (false)) (hK315 2 (some false) rfl) ?_
        exact ⟨(bool_eq (by first | assumption | grind [vmayB, vM4, vM5])), ((hx275).done (geCons hge_b32_w geNil))⟩
      refine WL.fy (x := .tmp 1) (v7) rfl fl30_14 h1_253 p22 (hb283.cell rfl) ?_
      refine WL.fy (x := .tmp 1) (.int .i64 (p.Id)) rfl fl30_0 h1_253 p3 (hb283.cell rfl) ?_
      refine WL.c (Sure.yes rfl rfl rfl) rfl (C.call2 rfl cl14 rfl rfl) (Fnc.mono (sl_Contains (hl40.ext (Ext.pre hx276)) p.Id) ?_)
      rintro _ w285 ⟨rfl, hx286⟩
      have hx287 : Ext [b32] w w285 := hx275.trans (Ext.any (Y := [b32]) hx286)
      have hx288 : Ext [b32] w33 w285 := hx276.trans (Ext.any (Y := [b32]) hx286)
      have hb296 := hb283.ext hx286 (by simp)
      refine WL.k (a := true) rfl rfl ?_
      refine WL.vb (c := hasB p.Votes p.Id) (Sure.none rfl) rfl (V.move rfl rfl) (fun hc297 => ?_) (fun hc297 => ?_)
      rotate_left
      · refine WL.skips [(181, some false)] [(2, some false)] (kc (some false) rfl kn) (by kernel_rfl) (fun E311 hK312 hE313 => ?_)
        refine WP.ret ?_
        refine resOf.c1 rfl (v := .bool (false)) (hK312 2 (some false) rfl) ?_
        exact ⟨(bool_eq (by first | assumption | grind [vmayB, vM4, vM5])), ((hx287).done (geCons hge_b32_w geNil))⟩
      refine WL.fy (x := .tmp 1) (v1) rfl fl30_1 h1_253 p22 (hb296.cell rfl) ?_
      refine WL.fy (x := .tmp 1) (.int .i64 (p.Id)) rfl fl30_0 h1_253 p3 (hb296.cell rfl) ?_
      refine WL.c (Sure.yes rfl rfl rfl) rfl (C.call2 rfl cl14 rfl rfl) (Fnc.mono (sl_Contains (hl37.ext (Ext.pre hx288)) p.Id) ?_)
      rintro _ w298 ⟨rfl, hx299⟩
      have hx300 : Ext [b32] w w298 := hx287.trans (Ext.any (Y := [b32]) hx299)
      refine WL.k (a := true) rfl rfl ?_
      refine WL.m rfl ?_
      refine WL.nil ?_
      refine WP.ret ?_
      refine resOf.c1 rfl (v := .bool (hasB p.Members p.Id)) rfl ?_
      exact ⟨(bool_eq (by first | assumption | grind [vmayB, vM4, vM5])), ((hx300).done (geCons hge_b32_w geNil))⟩
    refine WP.sr ?_
    refine WL.z (.bool (decide (p.Role = 2))) (V.cmp rfl rfl rfl rfl) ?_
    refine WL.m rfl ?_
    refine WL.nil ?_
    refine WP.condp (t := p.Role = 2) rfl (fun hc326 => ?_) (fun hc326 => ?_)
    rotate_left
    · refine WP.skip ?_
      refine WP.sr ?_
      refine WL.m rfl ?_
      refine WL.nil ?_
      refine WP.ret ?_
      refine resOf.c1 rfl (v := .bool (false)) rfl ?_
      exact ⟨(bool_eq (by first | assumption | grind [vmayB, vM4, vM5])), ((hx254).done (geCons hge_b32_w geNil))⟩
    refine WP.sr ?_
    refine WL.f (x := .tmp 1) (v7) fl30_14 h1_253 p22 (hbb32_253.cell rfl) ?_
    obtain ⟨a327, c328, hv329⟩ := hl40.shape
    refine WL.z (.int .i64 (((p.Votes).length : Int))) (V.lenSlice rfl rfl u22 (Eq.trans (b := v7) rfl hv329)) ?_
    refine WL.z (.bool (decide (((p.Votes).length : Int) = 0))) (V.cmp rfl rfl rfl rfl) ?_
    refine WL.vbp (c := ((p.Votes).length : Int) = 0) (Sure.none rfl) rfl (V.move rfl rfl) (fun hc330 => ?_) (fun hc330 => ?_)
    rotate_left
    · refine WL.skips [(194, some false)] [(2, some false)] (kc (some false) rfl kn) (by kernel_rfl) (fun E366 hK367 hE368 => ?_)
      refine WP.ret ?_
      refine resOf.c1 rfl (v := .bool (false)) (hK367 2 (some false) rfl) ?_
      exact ⟨(bool_eq (by first | assumption | grind [vmayB, vM4, vM5])), ((hx254).done (geCons hge_b32_w geNil))⟩
    refine WL.fy (x := .tmp 1) (.int .i64 (p.Lead)) rfl fl30_5 h1_253 p3 (hbb32_253.cell rfl) ?_
    refine WL.fy (x := .tmp 1) (.int .i64 (p.Id)) rfl fl30_0 h1_253 p3 (hbb32_253.cell rfl) ?_
    refine WL.y (.bool (decide (p.Lead = p.Id))) rfl (V.cmp rfl rfl rfl rfl) ?_
    refine WL.k (a := true) rfl rfl ?_
    refine WL.vbp (c := p.Lead = p.Id) (Sure.none rfl) rfl (V.move rfl rfl) (fun hc331 => ?_) (fun hc331 => ?_)
    rotate_left
    · refine WL.skips [(201, some false)] [(2, some false)] (kc (some false) rfl kn) (by kernel_rfl) (fun E363 hK364 hE365 => ?_)
      refine WP.ret ?_
      refine resOf.c1 rfl (v := .bool (false)) (hK364 2 (some false) rfl) ?_
      exact ⟨(bool_eq (by first | assumption | grind [vmayB, vM4, vM5])), ((hx254).done (geCons hge_b32_w geNil))⟩
    refine WL.fy (x := .tmp 1) (.int .u64 (p.Term)) rfl fl30_2 h1_253 p24 (hbb32_253.cell rfl) ?_
    refine WL.y (.bool (decide (p.Term > 0))) rfl (V.cmp rfl rfl rfl rfl) ?_
    refine WL.k (a := true) rfl rfl ?_
    refine WL.vbp (c := p.Term > 0) (Sure.none rfl) rfl (V.move rfl rfl) (fun hc332 => ?_) (fun hc332 => ?_)
    rotate_left
    · refine WL.skips [(206, some false)] [(2, some false)] (kc (some false) rfl kn) (by kernel_rfl) (fun E360 hK361 hE362 => ?_)
      refine WP.ret ?_
      refine resOf.c1 rfl (v := .bool (false)) (hK361 2 (some false) rfl) ?_
      exact ⟨(bool_eq (by first | assumption | grind [vmayB, vM4, vM5])), ((hx254).done (geCons hge_b32_w geNil))⟩
    refine WL.y (.agg #[.int .i64 (p.Id), v1, .int .u64 (p.Term), .int .i64 (p.Vote), .int .u8 (p.Role), .int .i64 (p.Lead), .int .u64 (p.Base), .int .u64 (p.BaseTerm), v3, .string (p.Snap), v5, .int .u64 (p.Commit), .int .i64 (p.Idle), .int .i64 (p.Wait), v7, v9, .int .u64 (p.Round), v11]) rfl (V.loadAgg (x := .tmp 1) (cs := [.int .i64 (p.Id), v1, .int .u64 (p.Term), .int .i64 (p.Vote), .int .u8 (p.Role), .int .i64 (p.Lead), .int .u64 (p.Base), .int .u64 (p.BaseTerm), v3, .string (p.Snap), v5, .int .u64 (p.Commit), .int .i64 (p.Idle), .int .i64 (p.Wait), v7, v9, .int .u64 (p.Round), v11]) rfl a30 h1_253 (At.box hbb32_253) rfl) ?_
    refine WL.my rfl rfl ?_
    refine WL.c (Sure.yes rfl rfl rfl) rfl (C.call2 (y := .tmp 208) rfl cl36 rfl h3_253) (Fnc.mono (vote_follows (p := p) ⟨v1, v3, v5, v7, v9, v11, rfl, (hl37.ext (Ext.pre hx255)), (hl38.ext (Ext.pre hx255)), (hl39.ext (Ext.pre hx255)), (hl40.ext (Ext.pre hx255)), (hl41.ext (Ext.pre hx255)), (hl42.ext (Ext.pre hx255)), hk13⟩ (lastI p) (inCons hbb32_253.lt (inMono hX hx254.size)) (by omega) (by assumption)) ?_)
    rintro _ w333 ⟨rfl, hx334⟩
    have hx335 : Ext [b32] w w333 := hx254.trans (Ext.any (Y := [b32]) hx334)
    have hx336 : Ext [b32] w33 w333 := hx255.trans (Ext.any (Y := [b32]) hx334)
    have hb343 := hbb32_253.ext hx334 (by simp)
    refine WL.k (a := true) rfl rfl ?_
    refine WL.vb (c := vfollowsB p (lastI p)) (Sure.none rfl) rfl (V.move rfl rfl) (fun hc344 => ?_) (fun hc344 => ?_)
    rotate_left
    · refine WL.skips [(211, some false)] [(2, some false)] (kc (some false) rfl kn) (by kernel_rfl) (fun E357 hK358 hE359 => ?_)
      refine WP.ret ?_
      refine resOf.c1 rfl (v := .bool (false)) (hK358 2 (some false) rfl) ?_
      exact ⟨(bool_eq (by first | assumption | grind [vmayB, vM4, vM5])), ((hx335).done (geCons hge_b32_w geNil))⟩
    refine WL.y (.agg #[.int .i64 (p.Id), v1, .int .u64 (p.Term), .int .i64 (p.Vote), .int .u8 (p.Role), .int .i64 (p.Lead), .int .u64 (p.Base), .int .u64 (p.BaseTerm), v3, .string (p.Snap), v5, .int .u64 (p.Commit), .int .i64 (p.Idle), .int .i64 (p.Wait), v7, v9, .int .u64 (p.Round), v11]) rfl (V.loadAgg (x := .tmp 1) (cs := [.int .i64 (p.Id), v1, .int .u64 (p.Term), .int .i64 (p.Vote), .int .u8 (p.Role), .int .i64 (p.Lead), .int .u64 (p.Base), .int .u64 (p.BaseTerm), v3, .string (p.Snap), v5, .int .u64 (p.Commit), .int .i64 (p.Idle), .int .i64 (p.Wait), v7, v9, .int .u64 (p.Round), v11]) rfl a30 h1_253 (At.box hb343) rfl) ?_
    refine WL.c (Sure.yes rfl rfl rfl) rfl (C.call1 rfl cl37 rfl) (Fnc.mono (vote_reads (p := p) ⟨v1, v3, v5, v7, v9, v11, rfl, (hl37.ext (Ext.pre hx336)), (hl38.ext (Ext.pre hx336)), (hl39.ext (Ext.pre hx336)), (hl40.ext (Ext.pre hx336)), (hl41.ext (Ext.pre hx336)), (hl42.ext (Ext.pre hx336)), hk13⟩) ?_)
    rintro _ w345 ⟨rfl, hx346⟩
    have hx347 : Ext [b32] w w345 := hx335.trans (Ext.any (Y := [b32]) hx346)
    refine WL.k (a := true) rfl rfl ?_
    refine WL.m rfl ?_
    refine WL.nil ?_
    refine WP.ret ?_
    refine resOf.c1 rfl (v := .bool (readsB p)) rfl ?_
    exact ⟨(bool_eq (by first | assumption | grind [vmayB, vM4, vM5])), ((hx347).done (geCons hge_b32_w geNil))⟩

theorem idsB_nil {xs : List Int} (h : (xs.length : Int) = 0) : idsB xs = true := by
  have : xs.length = 0 := by omega
  rw [idsB, this]; rfl
theorem lastT_le {p : PeerD} (h : entsB p.Log p.BaseTerm p.Term = true) (hb : p.BaseTerm ≤ p.Term) : lastT p ≤ p.Term := by
  unfold lastT
  split
  · exact hb
  · rename_i hl
    have := allB_iff.1 h (p.Log.length - 1) (by omega)
    simp only [entOk, Bool.and_eq_true, decide_eq_true_eq] at this
    omega
theorem vmay_eq (p : PeerD) (hp : p.InR) : vmayB p = refMayB p := by
  have hrole : 0 ≤ p.Role := (inK_u8 hp.2.2.2.1).1
  rw [Bool.eq_iff_iff]
  simp only [vmayB, refMayB, vM1, vM2, vM3, vM4, vM5, vNone, refM1, refM2, refM3, refM4, refM5, membersB, vfollows_eq, Bool.and_eq_true, Bool.or_eq_true, Bool.not_eq_true', decide_eq_false_iff_not, decide_eq_true_eq]
  by_cases h0 : p.Role = 0
  · have h1 : ¬ p.Role = 1 := by omega
    have h2 : ¬ p.Role = 2 := by omega
    simp only [h0, h1, h2, if_true, if_false]
    have hi := @idsB_nil p.Votes
    constructor
    · grind
    · grind
  by_cases h1 : p.Role = 1
  · have h2 : ¬ p.Role = 2 := by omega
    simp only [h0, h1, h2, if_true, if_false]
    constructor
    · grind
    · grind
  by_cases h2 : p.Role = 2
  · simp only [h0, h1, h2, if_true, if_false]
    have hi := @idsB_nil p.Votes
    have hl := @lastT_le p
    constructor
    · grind
    · grind
  · simp only [h0, h1, h2, if_false]
    constructor
    · grind
    · have : ¬ p.Role ≤ 2 := by omega
      grind

end Go.Proofs.Ytkcnljgennehaaa.T
