import Derived.Test.YtbpamkbegggeoaaV15
import Derived.Test.YtbpamkbegggeoaaW10
namespace Go.Proofs.Ytbpamkbegggeoaa.T
open W Go.RowKit
set_option maxRecDepth 100000
set_option maxHeartbeats 400000

def refM1 (p : PeerD) : Bool := idB p.Id && (!decide (p.Wait ≤ 0) && (!decide (p.Idle < 0) && (!decide (p.Role > 2) && ((!decide (p.Vote ≠ 0) || idB p.Vote) && (!decide (p.Lead ≠ 0) || idB p.Lead)))))
def refM2 (p : PeerD) : Bool := !decide ((p.BaseMembers.length : Int) = 0) && (idsB p.BaseMembers && (!decide (p.BaseTerm > p.Term) && ((decide (p.Base = 0) == decide (p.BaseTerm = 0)) && (!decide (p.Base = 0) || seqB p.Snap (ByteArray.mk #[])))))
def refM3 (p : PeerD) : Bool := !decide (p.Base > 4611686018427387904) && (!decide (p.Term > 4611686018427387904) && (!decide (p.Round > 4611686018427387904) && (!decide (p.Idle > 1073741824) && (!decide (p.Wait > 1073741824) && entsB p.Log p.BaseTerm p.Term))))
def refM4 (p : PeerD) : Bool := eqB ieq p.Members (membersOf p (lastI p)) && (!decide (p.Commit < p.Base) && (!decide (p.Commit > lastI p) && idsB p.Votes))
def refM5 (p : PeerD) : Bool :=
  if decide (p.Role = 1) = true then hasB p.Members p.Id && (!decide (p.Vote ≠ p.Id) && (hasB p.Votes p.Id && (!decide (p.Lead ≠ 0) && (decide ((p.Follows.length : Int) = 0) && decide ((p.Reads.length : Int) = 0)))))
  else if decide (p.Role = 2) = true then decide ((p.Votes.length : Int) = 0) && (decide (p.Lead = p.Id) && (decide (p.Term > 0) && (decide (lastT p ≤ p.Term) && (followsB p (lastI p) && readsB p))))
  else !decide ((p.Votes.length : Int) > 0) && (decide ((p.Follows.length : Int) = 0) && decide ((p.Reads.length : Int) = 0))
def refMayB (p : PeerD) : Bool := refM1 p && (refM2 p && (refM3 p && (refM4 p && refM5 p)))
theorem refM3_base {p : PeerD} (h : refM3 p = true) : p.Base ≤ 4611686018427387904 := by
  simp only [refM3, Bool.and_eq_true, Bool.not_eq_true', decide_eq_false_iff_not] at h; omega

set_option maxHeartbeats 8000000 in
theorem ref_May {w : World} {X : List Nat} {p : PeerD} {c_p : List Value} (h_p : peerR.rd X w c_p p) (hX : ∀ x ∈ X, x < w.heap.size) (hF : Fits p) : Fnc Try.prog 10 #[.agg c_p.toArray] w (fun v w' => v = .bool (refMayB p) ∧ Ext [] w w') := by
  obtain ⟨v1, v3, v5, v7, v9, v11, rfl, hl2, hl4, hl6, hl8, hl10, hl12, hk13⟩ := h_p
  obtain ⟨hin14, hin15, hin16, hin17, hin18, hin19, hin20, hin21, hin22, hin23, hin24, hin25⟩ := (show PeerD.InR p from hk13)
  have hin14 := inK_i64 hin14
  have hin15 := inK_u64 hin15
  have hin16 := inK_i64 hin16
  have hin17 := inK_u8 hin17
  have hin18 := inK_i64 hin18
  have hin19 := inK_u64 hin19
  have hin20 := inK_u64 hin20
  have hin22 := inK_u64 hin22
  have hin23 := inK_i64 hin23
  have hin24 := inK_i64 hin24
  have hin25 := inK_u64 hin25
  have hle26 := hl2.le'
  have hle27 := hl4.le'
  have hle28 := hl6.le'
  have hle29 := hl8.le'
  have hle30 := hl10.le'
  have hle31 := hl12.le'
  have hlI : lastI p = p.Base + (p.Log.length : Int) := rfl
  refine Fnc.of_WP (n := 223) Try.func10 rfl Try.ntmps10 (by simp) ?_
  intro E hE
  have h0 : E 0 = .agg #[.int .i64 (p.Id), v1, .int .u64 (p.Term), .int .i64 (p.Vote), .int .u8 (p.Role), .int .i64 (p.Lead), .int .u64 (p.Base), .int .u64 (p.BaseTerm), v3, .string (p.Snap), v5, .int .u64 (p.Commit), .int .i64 (p.Idle), .int .i64 (p.Wait), v7, v9, .int .u64 (p.Round), v11] := hE 0 (by simp)
  clear hE
  refine WP.sr ?_
  refine WL.box (x := .tmp 0) (cs := [.int .i64 (p.Id), v1, .int .u64 (p.Term), .int .i64 (p.Vote), .int .u8 (p.Role), .int .i64 (p.Lead), .int .u64 (p.Base), .int .u64 (p.BaseTerm), v3, .string (p.Snap), v5, .int .u64 (p.Commit), .int .i64 (p.Idle), .int .i64 (p.Wait), v7, v9, .int .u64 (p.Round), v11]) (Sure.none rfl) rfl rfl h0 rfl (fun b32 w33 hx34 he35 hb36 => ?_)
  have hl37 := (Sl.new (b := b32) (by show (1 : Nat) ≠ 0; decide) hl2 (by omega)).ext (Ext.any hx34)
  have hl38 := (Sl.new (b := b32) (by show (1 : Nat) ≠ 0; decide) hl4 (by omega)).ext (Ext.any hx34)
  have hl39 := (Sl.new (b := b32) (by show (4 : Nat) ≠ 0; decide) hl6 (by omega)).ext (Ext.any hx34)
  have hl40 := (Sl.new (b := b32) (by show (1 : Nat) ≠ 0; decide) hl8 (by omega)).ext (Ext.any hx34)
  have hl41 := (Sl.new (b := b32) (by show (3 : Nat) ≠ 0; decide) hl10 (by omega)).ext (Ext.any hx34)
  have hl42 := (Sl.new (b := b32) (by show (3 : Nat) ≠ 0; decide) hl12 (by omega)).ext (Ext.any hx34)
  have hx43 : Ext [b32] _ _ := (Ext.refl _ _).trans (Ext.any hx34)
  have hge_b32_w : w.heap.size ≤ b32 := by have := Nat.le_refl w.heap.size; omega
  refine WL.m rfl ?_
  refine WL.nil ?_
  refine WP.seq ?_
  have hsz46 : w.heap.size ≤ w33.heap.size := hx43.size
  refine WP.seq_cut (fun E44 w45 => E44 0 = .agg #[.int .i64 (p.Id), v1, .int .u64 (p.Term), .int .i64 (p.Vote), .int .u8 (p.Role), .int .i64 (p.Lead), .int .u64 (p.Base), .int .u64 (p.BaseTerm), v3, .string (p.Snap), v5, .int .u64 (p.Commit), .int .i64 (p.Idle), .int .i64 (p.Wait), v7, v9, .int .u64 (p.Round), v11] ∧ E44 1 = .pointer (some ⟨b32, 0, none⟩) ∧ E44 45 = .bool (!refM1 p) ∧ Ext [b32] w33 w45 ∧ Box w45 b32 29 [.int .i64 (p.Id), v1, .int .u64 (p.Term), .int .i64 (p.Vote), .int .u8 (p.Role), .int .i64 (p.Lead), .int .u64 (p.Base), .int .u64 (p.BaseTerm), v3, .string (p.Snap), v5, .int .u64 (p.Commit), .int .i64 (p.Idle), .int .i64 (p.Wait), v7, v9, .int .u64 (p.Round), v11]) ?_ ?_
  · refine WP.region ?_
    refine WL.f (.int .i64 (p.Id)) fl29_0 rfl p3 (hb36.cell rfl) ?_
    refine WL.c (Sure.none rfl) rfl (C.call1 rfl cl37 rfl) (Fnc.mono (ref_id p.Id) ?_)
    rintro _ w47 ⟨rfl, hx48⟩
    have hx50 : Ext [b32] w33 w47 := (Ext.any (Y := [b32]) hx48)
    have hb51 := hb36.ext hx48 (by simp)
    refine WL.z (.bool (!(idB p.Id))) (V.not rfl rfl) ?_
    refine WL.vbn (c := idB p.Id) (Sure.none rfl) rfl (V.move rfl rfl) (fun hc52 => ?_) (fun hc52 => ?_)
    · refine WL.skips [(9, some true)] [(45, some true)] (kc (some true) rfl kn) (by kernel_rfl) (fun E53 hK54 hE55 => ?_)
      exact ⟨((hE55 0 rfl).trans h0), (hE55 1 rfl), (Eq.trans (hK54 45 (some true) rfl) (bool_eq (by first | assumption | grind [refM1]))), hx50, hb51⟩
    refine WL.fy (.int .i64 (p.Wait)) rfl fl29_13 rfl p3 (hb51.cell rfl) ?_
    refine WL.y (.bool (decide (p.Wait ≤ 0))) rfl (V.cmp rfl rfl rfl rfl) ?_
    refine WL.k (a := false) rfl rfl ?_
    refine WL.vbp (c := p.Wait ≤ 0) (Sure.none rfl) rfl (V.move rfl rfl) (fun hc56 => ?_) (fun hc56 => ?_)
    · refine WL.skips [(14, some true)] [(45, some true)] (kc (some true) rfl kn) (by kernel_rfl) (fun E57 hK58 hE59 => ?_)
      exact ⟨((hE59 0 rfl).trans h0), (hE59 1 rfl), (Eq.trans (hK58 45 (some true) rfl) (bool_eq (by first | assumption | grind [refM1]))), hx50, hb51⟩
    refine WL.fy (.int .i64 (p.Idle)) rfl fl29_12 rfl p3 (hb51.cell rfl) ?_
    refine WL.y (.bool (decide (p.Idle < 0))) rfl (V.cmp rfl rfl rfl rfl) ?_
    refine WL.k (a := false) rfl rfl ?_
    refine WL.vbp (c := p.Idle < 0) (Sure.none rfl) rfl (V.move rfl rfl) (fun hc60 => ?_) (fun hc60 => ?_)
    · refine WL.skips [(19, some true)] [(45, some true)] (kc (some true) rfl kn) (by kernel_rfl) (fun E61 hK62 hE63 => ?_)
      exact ⟨((hE63 0 rfl).trans h0), (hE63 1 rfl), (Eq.trans (hK62 45 (some true) rfl) (bool_eq (by first | assumption | grind [refM1]))), hx50, hb51⟩
    refine WL.fy (.int .u8 (p.Role)) rfl fl29_4 rfl p24 (hb51.cell rfl) ?_
    refine WL.y (.bool (decide (p.Role > 2))) rfl (V.cmp rfl rfl rfl rfl) ?_
    refine WL.k (a := false) rfl rfl ?_
    refine WL.vbp (c := p.Role > 2) (Sure.none rfl) rfl (V.move rfl rfl) (fun hc64 => ?_) (fun hc64 => ?_)
    · refine WL.skips [(24, some true)] [(45, some true)] (kc (some true) rfl kn) (by kernel_rfl) (fun E65 hK66 hE67 => ?_)
      exact ⟨((hE67 0 rfl).trans h0), (hE67 1 rfl), (Eq.trans (hK66 45 (some true) rfl) (bool_eq (by first | assumption | grind [refM1]))), hx50, hb51⟩
    refine WL.fy (.int .i64 (p.Vote)) rfl fl29_3 rfl p3 (hb51.cell rfl) ?_
    refine WL.y (.bool (decide (p.Vote ≠ 0))) rfl (V.cmp rfl rfl rfl rfl) ?_
    refine WL.vbp (c := p.Vote ≠ 0) (Sure.yes rfl rfl rfl) rfl (V.move rfl rfl) (fun hc68 => ?_) (fun hc68 => ?_)
    rotate_left
    · refine WL.s (Shut.no rfl rfl rfl rfl) rfl ?_
      refine WL.s (Shut.no rfl rfl rfl rfl) rfl ?_
      refine WL.s (Shut.no rfl rfl rfl rfl) rfl ?_
      refine WL.s (Shut.no rfl rfl rfl rfl) rfl ?_
      refine WL.ky (a := false) rfl rfl rfl ?_
      refine WL.k (a := false) rfl rfl ?_
      refine WL.m rfl ?_
      refine WL.fy (.int .i64 (p.Lead)) rfl fl29_5 rfl p3 (hb51.cell rfl) ?_
      refine WL.y (.bool (decide (p.Lead ≠ 0))) rfl (V.cmp rfl rfl rfl rfl) ?_
      refine WL.vbp (c := p.Lead ≠ 0) (Sure.yes rfl rfl rfl) rfl (V.move rfl rfl) (fun hc90 => ?_) (fun hc90 => ?_)
      rotate_left
      · refine WL.skips [(39, some false), (35, some false)] [(45, some false)] (kc (some false) rfl (kc (some false) rfl kn)) (by kernel_rfl) (fun E97 hK98 hE99 => ?_)
        exact ⟨((hE99 0 rfl).trans h0), (hE99 1 rfl), (Eq.trans (hK98 45 (some false) rfl) (bool_eq (by first | assumption | grind [refM1]))), hx50, hb51⟩
      refine WL.fy (.int .i64 (p.Lead)) rfl fl29_5 rfl p3 (hb51.cell rfl) ?_
      refine WL.c (Sure.yes rfl rfl rfl) rfl (C.call1 rfl cl37 rfl) (Fnc.mono (ref_id p.Lead) ?_)
      rintro _ w91 ⟨rfl, hx92⟩
      have hx94 : Ext [b32] w33 w91 := hx50.trans (Ext.any (Y := [b32]) hx92)
      have hb96 := hb51.ext hx92 (by simp)
      refine WL.y (.bool (!(idB p.Lead))) rfl (V.not rfl rfl) ?_
      refine WL.ky (a := true) rfl rfl rfl ?_
      refine WL.k (a := false) rfl rfl ?_
      refine WL.nil ?_
      exact ⟨h0, rfl, (bool_eq (by first | assumption | grind [refM1])), hx94, hb96⟩
    refine WL.fy (.int .i64 (p.Vote)) rfl fl29_3 rfl p3 (hb51.cell rfl) ?_
    refine WL.c (Sure.yes rfl rfl rfl) rfl (C.call1 rfl cl37 rfl) (Fnc.mono (ref_id p.Vote) ?_)
    rintro _ w69 ⟨rfl, hx70⟩
    have hx72 : Ext [b32] w33 w69 := hx50.trans (Ext.any (Y := [b32]) hx70)
    have hb74 := hb51.ext hx70 (by simp)
    refine WL.y (.bool (!(idB p.Vote))) rfl (V.not rfl rfl) ?_
    refine WL.ky (a := true) rfl rfl rfl ?_
    refine WL.k (a := false) rfl rfl ?_
    refine WL.vbn (c := idB p.Vote) (Sure.none rfl) rfl (V.move rfl rfl) (fun hc75 => ?_) (fun hc75 => ?_)
    · refine WL.skips [(35, some true)] [(45, some true)] (kc (some true) rfl kn) (by kernel_rfl) (fun E76 hK77 hE78 => ?_)
      exact ⟨((hE78 0 rfl).trans h0), (hE78 1 rfl), (Eq.trans (hK77 45 (some true) rfl) (bool_eq (by first | assumption | grind [refM1]))), hx72, hb74⟩
    refine WL.fy (.int .i64 (p.Lead)) rfl fl29_5 rfl p3 (hb74.cell rfl) ?_
    refine WL.y (.bool (decide (p.Lead ≠ 0))) rfl (V.cmp rfl rfl rfl rfl) ?_
    refine WL.vbp (c := p.Lead ≠ 0) (Sure.yes rfl rfl rfl) rfl (V.move rfl rfl) (fun hc79 => ?_) (fun hc79 => ?_)
    rotate_left
    · refine WL.skips [(39, some false), (35, some false)] [(45, some false)] (kc (some false) rfl (kc (some false) rfl kn)) (by kernel_rfl) (fun E87 hK88 hE89 => ?_)
      exact ⟨((hE89 0 rfl).trans h0), (hE89 1 rfl), (Eq.trans (hK88 45 (some false) rfl) (bool_eq (by first | assumption | grind [refM1]))), hx72, hb74⟩
    refine WL.fy (.int .i64 (p.Lead)) rfl fl29_5 rfl p3 (hb74.cell rfl) ?_
    refine WL.c (Sure.yes rfl rfl rfl) rfl (C.call1 rfl cl37 rfl) (Fnc.mono (ref_id p.Lead) ?_)
    rintro _ w80 ⟨rfl, hx81⟩
    have hx83 : Ext [b32] w33 w80 := hx72.trans (Ext.any (Y := [b32]) hx81)
    have hb86 := hb74.ext hx81 (by simp)
    refine WL.y (.bool (!(idB p.Lead))) rfl (V.not rfl rfl) ?_
    refine WL.ky (a := true) rfl rfl rfl ?_
    refine WL.k (a := false) rfl rfl ?_
    refine WL.nil ?_
    exact ⟨h0, rfl, (bool_eq (by first | assumption | grind [refM1])), hx83, hb86⟩
  rintro E44 w45 ⟨h0_100, h1_100, h45_100, hx100, hbb32_100⟩
  have hx101 : Ext [b32] w w45 := hx43.trans hx100
  have hx102 : Ext [b32] w33 w45 := hx100
  refine WP.condn (t := refM1 p) h45_100 (fun hc103 => ?_) (fun hc103 => ?_)
  · refine WP.sr ?_
    refine WL.m rfl ?_
    refine WL.nil ?_
    refine WP.ret ?_
    refine resOf.c1 rfl (v := .bool (false)) rfl ?_
    exact ⟨(bool_eq (by first | assumption | grind [refMayB, refM3, refM4, refM5])), ((hx101).done (geCons hge_b32_w geNil))⟩
  refine WP.skip ?_
  refine WP.seq ?_
  have hsz106 : w.heap.size ≤ w45.heap.size := hx101.size
  refine WP.seq_cut (fun E104 w105 => E104 0 = .agg #[.int .i64 (p.Id), v1, .int .u64 (p.Term), .int .i64 (p.Vote), .int .u8 (p.Role), .int .i64 (p.Lead), .int .u64 (p.Base), .int .u64 (p.BaseTerm), v3, .string (p.Snap), v5, .int .u64 (p.Commit), .int .i64 (p.Idle), .int .i64 (p.Wait), v7, v9, .int .u64 (p.Round), v11] ∧ E104 1 = .pointer (some ⟨b32, 0, none⟩) ∧ E104 45 = .bool (!refM1 p) ∧ E104 81 = .bool (!refM2 p) ∧ Ext [b32] w45 w105 ∧ Box w105 b32 29 [.int .i64 (p.Id), v1, .int .u64 (p.Term), .int .i64 (p.Vote), .int .u8 (p.Role), .int .i64 (p.Lead), .int .u64 (p.Base), .int .u64 (p.BaseTerm), v3, .string (p.Snap), v5, .int .u64 (p.Commit), .int .i64 (p.Idle), .int .i64 (p.Wait), v7, v9, .int .u64 (p.Round), v11]) ?_ ?_
  · refine WP.region ?_
    refine WL.f (x := .tmp 1) (v3) fl29_8 h1_100 p22 (hbb32_100.cell rfl) ?_
    obtain ⟨a107, c108, hv109⟩ := hl38.shape
    refine WL.z (.int .i64 (((p.BaseMembers).length : Int))) (V.lenSlice rfl rfl u22 (Eq.trans (b := v3) rfl hv109)) ?_
    refine WL.z (.bool (decide (((p.BaseMembers).length : Int) = 0))) (V.cmp rfl rfl rfl rfl) ?_
    refine WL.vbp (c := ((p.BaseMembers).length : Int) = 0) (Sure.none rfl) rfl (V.move rfl rfl) (fun hc110 => ?_) (fun hc110 => ?_)
    · refine WL.skips [(50, some true)] [(81, some true)] (kc (some true) rfl kn) (by kernel_rfl) (fun E111 hK112 hE113 => ?_)
      exact ⟨((hE113 0 rfl).trans h0_100), ((hE113 1 rfl).trans h1_100), ((hE113 45 rfl).trans h45_100), (Eq.trans (hK112 81 (some true) rfl) (bool_eq (by first | assumption | grind [refM2]))), Ext.refl _ _, hbb32_100⟩
    refine WL.fy (x := .tmp 1) (v3) rfl fl29_8 h1_100 p22 (hbb32_100.cell rfl) ?_
    refine WL.c (Sure.yes rfl rfl rfl) rfl (C.call1 rfl cl38 rfl) (Fnc.mono (ref_ids (hl38.ext (Ext.pre hx102))) ?_)
    rintro _ w114 ⟨rfl, hx115⟩
    have hx118 : Ext [b32] w45 w114 := (Ext.any (Y := [b32]) hx115)
    have hb119 := hbb32_100.ext hx115 (by simp)
    refine WL.y (.bool (!(idsB p.BaseMembers))) rfl (V.not rfl rfl) ?_
    refine WL.k (a := false) rfl rfl ?_
    refine WL.vbn (c := idsB p.BaseMembers) (Sure.none rfl) rfl (V.move rfl rfl) (fun hc120 => ?_) (fun hc120 => ?_)
    · refine WL.skips [(56, some true)] [(81, some true)] (kc (some true) rfl kn) (by kernel_rfl) (fun E121 hK122 hE123 => ?_)
      exact ⟨((hE123 0 rfl).trans h0_100), ((hE123 1 rfl).trans h1_100), ((hE123 45 rfl).trans h45_100), (Eq.trans (hK122 81 (some true) rfl) (bool_eq (by first | assumption | grind [refM2]))), hx118, hb119⟩
    refine WL.fy (x := .tmp 1) (.int .u64 (p.BaseTerm)) rfl fl29_7 h1_100 p23 (hb119.cell rfl) ?_
    refine WL.fy (x := .tmp 1) (.int .u64 (p.Term)) rfl fl29_2 h1_100 p23 (hb119.cell rfl) ?_
    refine WL.y (.bool (decide (p.BaseTerm > p.Term))) rfl (V.cmp rfl rfl rfl rfl) ?_
    refine WL.k (a := false) rfl rfl ?_
    refine WL.vbp (c := p.BaseTerm > p.Term) (Sure.none rfl) rfl (V.move rfl rfl) (fun hc124 => ?_) (fun hc124 => ?_)
    · refine WL.skips [(63, some true)] [(81, some true)] (kc (some true) rfl kn) (by kernel_rfl) (fun E125 hK126 hE127 => ?_)
      exact ⟨((hE127 0 rfl).trans h0_100), ((hE127 1 rfl).trans h1_100), ((hE127 45 rfl).trans h45_100), (Eq.trans (hK126 81 (some true) rfl) (bool_eq (by first | assumption | grind [refM2]))), hx118, hb119⟩
    refine WL.fy (x := .tmp 1) (.int .u64 (p.Base)) rfl fl29_6 h1_100 p23 (hb119.cell rfl) ?_
    refine WL.y (.bool (decide (p.Base = 0))) rfl (V.cmp rfl rfl rfl rfl) ?_
    refine WL.fy (x := .tmp 1) (.int .u64 (p.BaseTerm)) rfl fl29_7 h1_100 p23 (hb119.cell rfl) ?_
    refine WL.y (.bool (decide (p.BaseTerm = 0))) rfl (V.cmp rfl rfl rfl rfl) ?_
    refine WL.y (.bool (!((decide (p.Base = 0)) == (decide (p.BaseTerm = 0))))) rfl (V.bcmpNe rfl u4 rfl rfl) ?_
    refine WL.k (a := false) rfl rfl ?_
    refine WL.vbn (c := (decide (p.Base = 0)) == (decide (p.BaseTerm = 0))) (Sure.none rfl) rfl (V.move rfl rfl) (fun hc128 => ?_) (fun hc128 => ?_)
    · refine WL.skips [(72, some true)] [(81, some true)] (kc (some true) rfl kn) (by kernel_rfl) (fun E129 hK130 hE131 => ?_)
      exact ⟨((hE131 0 rfl).trans h0_100), ((hE131 1 rfl).trans h1_100), ((hE131 45 rfl).trans h45_100), (Eq.trans (hK130 81 (some true) rfl) (bool_eq (by first | assumption | grind [refM2]))), hx118, hb119⟩
    refine WL.fy (x := .tmp 1) (.int .u64 (p.Base)) rfl fl29_6 h1_100 p23 (hb119.cell rfl) ?_
    refine WL.y (.bool (decide (p.Base = 0))) rfl (V.cmp rfl rfl rfl rfl) ?_
    refine WL.vbp (c := p.Base = 0) (Sure.yes rfl rfl rfl) rfl (V.move rfl rfl) (fun hc132 => ?_) (fun hc132 => ?_)
    rotate_left
    · refine WL.skips [(76, some false), (72, some false)] [(81, some false)] (kc (some false) rfl (kc (some false) rfl kn)) (by kernel_rfl) (fun E133 hK134 hE135 => ?_)
      exact ⟨((hE135 0 rfl).trans h0_100), ((hE135 1 rfl).trans h1_100), ((hE135 45 rfl).trans h45_100), (Eq.trans (hK134 81 (some false) rfl) (bool_eq (by first | assumption | grind [refM2]))), hx118, hb119⟩
    refine WL.fy (x := .tmp 1) (.string (p.Snap)) rfl fl29_9 h1_100 p9 (hb119.cell rfl) ?_
    refine WL.y (.bool (!(seqB p.Snap (ByteArray.mk #[])))) rfl (V.scmp rfl rfl rfl rfl) ?_
    refine WL.ky (a := true) rfl rfl rfl ?_
    refine WL.k (a := false) rfl rfl ?_
    refine WL.nil ?_
    exact ⟨h0_100, h1_100, h45_100, (bool_eq (by first | assumption | grind [refM2])), hx118, hb119⟩
  rintro E104 w105 ⟨h0_136, h1_136, h45_136, h81_136, hx136, hbb32_136⟩
  have hx137 : Ext [b32] w w105 := hx101.trans hx136
  have hx138 : Ext [b32] w33 w105 := hx102.trans hx136
  refine WP.condn (t := refM2 p) h81_136 (fun hc140 => ?_) (fun hc140 => ?_)
  · refine WP.sr ?_
    refine WL.m rfl ?_
    refine WL.nil ?_
    refine WP.ret ?_
    refine resOf.c1 rfl (v := .bool (false)) rfl ?_
    exact ⟨(bool_eq (by first | assumption | grind [refMayB, refM3, refM4, refM5])), ((hx137).done (geCons hge_b32_w geNil))⟩
  refine WP.skip ?_
  refine WP.seq ?_
  refine WP.sr ?_
  refine WL.f (x := .tmp 1) (.int .u64 (p.Base)) fl29_6 h1_136 p23 (hbb32_136.cell rfl) ?_
  refine WL.z (.bool (decide (p.Base > 4611686018427387904))) (V.cmp rfl rfl rfl rfl) ?_
  refine WL.vbp (c := p.Base > 4611686018427387904) (Sure.none rfl) rfl (V.move rfl rfl) (fun hc141 => ?_) (fun hc141 => ?_)
  · refine WL.skips [(85, some true)] [(114, some true)] (kc (some true) rfl kn) (by kernel_rfl) (fun E142 hK143 hE144 => ?_)
    refine WP.cond_true (hK143 114 (some true) rfl) ?_
    refine WP.sr ?_
    refine WL.m rfl ?_
    refine WL.nil ?_
    refine WP.ret ?_
    refine resOf.c1 rfl (v := .bool (false)) rfl ?_
    exact ⟨(bool_eq (by first | assumption | grind [refMayB, refM3, refM4, refM5])), ((hx137).done (geCons hge_b32_w geNil))⟩
  refine WL.fy (x := .tmp 1) (.int .u64 (p.Term)) rfl fl29_2 h1_136 p23 (hbb32_136.cell rfl) ?_
  refine WL.y (.bool (decide (p.Term > 4611686018427387904))) rfl (V.cmp rfl rfl rfl rfl) ?_
  refine WL.k (a := false) rfl rfl ?_
  refine WL.vbp (c := p.Term > 4611686018427387904) (Sure.none rfl) rfl (V.move rfl rfl) (fun hc145 => ?_) (fun hc145 => ?_)
  · refine WL.skips [(90, some true)] [(114, some true)] (kc (some true) rfl kn) (by kernel_rfl) (fun E146 hK147 hE148 => ?_)
    refine WP.cond_true (hK147 114 (some true) rfl) ?_
    refine WP.sr ?_
    refine WL.m rfl ?_
    refine WL.nil ?_
    refine WP.ret ?_
    refine resOf.c1 rfl (v := .bool (false)) rfl ?_
    exact ⟨(bool_eq (by first | assumption | grind [refMayB, refM3, refM4, refM5])), ((hx137).done (geCons hge_b32_w geNil))⟩
  refine WL.fy (x := .tmp 1) (.int .u64 (p.Round)) rfl fl29_16 h1_136 p23 (hbb32_136.cell rfl) ?_
  refine WL.y (.bool (decide (p.Round > 4611686018427387904))) rfl (V.cmp rfl rfl rfl rfl) ?_
  refine WL.k (a := false) rfl rfl ?_
  refine WL.vbp (c := p.Round > 4611686018427387904) (Sure.none rfl) rfl (V.move rfl rfl) (fun hc149 => ?_) (fun hc149 => ?_)
  · refine WL.skips [(95, some true)] [(114, some true)] (kc (some true) rfl kn) (by kernel_rfl) (fun E150 hK151 hE152 => ?_)
    refine WP.cond_true (hK151 114 (some true) rfl) ?_
    refine WP.sr ?_
    refine WL.m rfl ?_
    refine WL.nil ?_
    refine WP.ret ?_
    refine resOf.c1 rfl (v := .bool (false)) rfl ?_
    exact ⟨(bool_eq (by first | assumption | grind [refMayB, refM3, refM4, refM5])), ((hx137).done (geCons hge_b32_w geNil))⟩
  refine WL.fy (x := .tmp 1) (.int .i64 (p.Idle)) rfl fl29_12 h1_136 p3 (hbb32_136.cell rfl) ?_
  refine WL.y (.bool (decide (p.Idle > 1073741824))) rfl (V.cmp rfl rfl rfl rfl) ?_
  refine WL.k (a := false) rfl rfl ?_
  refine WL.vbp (c := p.Idle > 1073741824) (Sure.none rfl) rfl (V.move rfl rfl) (fun hc153 => ?_) (fun hc153 => ?_)
  · refine WL.skips [(100, some true)] [(114, some true)] (kc (some true) rfl kn) (by kernel_rfl) (fun E154 hK155 hE156 => ?_)
    refine WP.cond_true (hK155 114 (some true) rfl) ?_
    refine WP.sr ?_
    refine WL.m rfl ?_
    refine WL.nil ?_
    refine WP.ret ?_
    refine resOf.c1 rfl (v := .bool (false)) rfl ?_
    exact ⟨(bool_eq (by first | assumption | grind [refMayB, refM3, refM4, refM5])), ((hx137).done (geCons hge_b32_w geNil))⟩
  refine WL.fy (x := .tmp 1) (.int .i64 (p.Wait)) rfl fl29_13 h1_136 p3 (hbb32_136.cell rfl) ?_
  refine WL.y (.bool (decide (p.Wait > 1073741824))) rfl (V.cmp rfl rfl rfl rfl) ?_
  refine WL.k (a := false) rfl rfl ?_
  refine WL.vbp (c := p.Wait > 1073741824) (Sure.none rfl) rfl (V.move rfl rfl) (fun hc157 => ?_) (fun hc157 => ?_)
  · refine WL.skips [(105, some true)] [(114, some true)] (kc (some true) rfl kn) (by kernel_rfl) (fun E158 hK159 hE160 => ?_)
    refine WP.cond_true (hK159 114 (some true) rfl) ?_
    refine WP.sr ?_
    refine WL.m rfl ?_
    refine WL.nil ?_
    refine WP.ret ?_
    refine resOf.c1 rfl (v := .bool (false)) rfl ?_
    exact ⟨(bool_eq (by first | assumption | grind [refMayB, refM3, refM4, refM5])), ((hx137).done (geCons hge_b32_w geNil))⟩
  refine WL.fy (x := .tmp 1) (v5) rfl fl29_10 h1_136 p25 (hbb32_136.cell rfl) ?_
  refine WL.fy (x := .tmp 1) (.int .u64 (p.BaseTerm)) rfl fl29_7 h1_136 p23 (hbb32_136.cell rfl) ?_
  refine WL.fy (x := .tmp 1) (.int .u64 (p.Term)) rfl fl29_2 h1_136 p23 (hbb32_136.cell rfl) ?_
  refine WL.c (Sure.yes rfl rfl rfl) rfl (C.call3 rfl cl39 rfl rfl rfl) (Fnc.mono (ref_entries (hl39.ext (Ext.pre hx138)) p.BaseTerm p.Term (by omega)) ?_)
  rintro _ w161 ⟨rfl, hx162⟩
  have hx163 : Ext [b32] w w161 := hx137.trans (Ext.any (Y := [b32]) hx162)
  have hx164 : Ext [b32] w33 w161 := hx138.trans (Ext.any (Y := [b32]) hx162)
  have hb167 := hbb32_136.ext hx162 (by simp)
  refine WL.y (.bool (!(entsB p.Log p.BaseTerm p.Term))) rfl (V.not rfl rfl) ?_
  refine WL.k (a := false) rfl rfl ?_
  refine WL.nil ?_
  refine WP.condn (t := entsB p.Log p.BaseTerm p.Term) rfl (fun hc168 => ?_) (fun hc168 => ?_)
  · refine WP.sr ?_
    refine WL.m rfl ?_
    refine WL.nil ?_
    refine WP.ret ?_
    refine resOf.c1 rfl (v := .bool (false)) rfl ?_
    exact ⟨(bool_eq (by first | assumption | grind [refMayB, refM3, refM4, refM5])), ((hx163).done (geCons hge_b32_w geNil))⟩
  refine WP.skip ?_
  refine WP.sr ?_
  refine WL.z (.agg #[.int .i64 (p.Id), v1, .int .u64 (p.Term), .int .i64 (p.Vote), .int .u8 (p.Role), .int .i64 (p.Lead), .int .u64 (p.Base), .int .u64 (p.BaseTerm), v3, .string (p.Snap), v5, .int .u64 (p.Commit), .int .i64 (p.Idle), .int .i64 (p.Wait), v7, v9, .int .u64 (p.Round), v11]) (V.loadAgg (x := .tmp 1) (cs := [.int .i64 (p.Id), v1, .int .u64 (p.Term), .int .i64 (p.Vote), .int .u8 (p.Role), .int .i64 (p.Lead), .int .u64 (p.Base), .int .u64 (p.BaseTerm), v3, .string (p.Snap), v5, .int .u64 (p.Commit), .int .i64 (p.Idle), .int .i64 (p.Wait), v7, v9, .int .u64 (p.Round), v11]) rfl a29 h1_136 (At.box hb167) rfl) ?_
  refine WL.c (Sure.none rfl) rfl (C.call1 rfl cl17 rfl) (Fnc.mono (ref_Last (p := p) ⟨v1, v3, v5, v7, v9, v11, rfl, (hl37.ext (Ext.pre hx164)), (hl38.ext (Ext.pre hx164)), (hl39.ext (Ext.pre hx164)), (hl40.ext (Ext.pre hx164)), (hl41.ext (Ext.pre hx164)), (hl42.ext (Ext.pre hx164)), hk13⟩ (by omega)) ?_)
  rintro _ w169 ⟨rfl, hx170⟩
  have hx171 : Ext [b32] w w169 := hx163.trans (Ext.any (Y := [b32]) hx170)
  have hx172 : Ext [b32] w33 w169 := hx164.trans (Ext.any (Y := [b32]) hx170)
  have hb176 := hb167.ext hx170 (by simp)
  refine WL.m rfl ?_
  refine WL.z (.int .u64 (lastI p)) (V.extract rfl rfl rfl) ?_
  refine WL.z (.int .u64 (lastT p)) (V.extract rfl rfl rfl) ?_
  refine WL.m rfl ?_
  refine WL.m rfl ?_
  refine WL.nil ?_
  refine WP.seq ?_
  refine WP.seq ?_
  refine W.bsplit (c := !(eqB ieq p.Members (membersOf p (lastI p)))) (fun hc177 => ?_) (fun hc177 => ?_)
  · have hc177r := hc177
    replace hc177 := bnot_true hc177
    refine WP.anyMake [fun v _ => v = (.pointer (some ⟨b32, 1, none⟩) : Value), fun v _ => v = (v1 : Value), fun v _ => v = (.agg #[.int .i64 (p.Id), v1, .int .u64 (p.Term), .int .i64 (p.Vote), .int .u8 (p.Role), .int .i64 (p.Lead), .int .u64 (p.Base), .int .u64 (p.BaseTerm), v3, .string (p.Snap), v5, .int .u64 (p.Commit), .int .i64 (p.Idle), .int .i64 (p.Wait), v7, v9, .int .u64 (p.Round), v11] : Value), fun v _ => v = (.int .u64 (lastI p) : Value), fun v w => Sl (intR .i64) (b32 :: X) w v (membersOf p (lastI p)), fun v _ => v = (.bool (eqB ieq p.Members (membersOf p (lastI p))) : Value), fun v _ => v = (.bool (!(eqB ieq p.Members (membersOf p (lastI p)))) : Value), fun v _ => v = (.bool (true) : Value), fun v _ => v = (undef : Value), fun v _ => v = (undef : Value), fun v _ => v = (undef : Value), fun v _ => v = (undef : Value), fun v _ => v = (undef : Value), fun v _ => v = (.bool (true) : Value), fun v _ => v = (.bool (true) : Value), fun v _ => v = (undef : Value), fun v _ => v = (undef : Value), fun v _ => v = (undef : Value), fun v _ => v = (undef : Value), fun v _ => v = (.bool (true) : Value), fun v _ => v = (.bool (true) : Value), fun v _ => v = (undef : Value), fun v _ => v = (undef : Value), fun v _ => v = (undef : Value), fun v _ => v = (undef : Value), fun v _ => v = (.bool (true) : Value)] mo (by kernel_rfl) (by kernel_rfl) (by kernel_rfl) ⟨Stab.eq _, Stab.eq _, Stab.eq _, Stab.eq _, Stab.sl, Stab.eq _, Stab.eq _, Stab.eq _, Stab.eq _, Stab.eq _, Stab.eq _, Stab.eq _, Stab.eq _, Stab.eq _, Stab.eq _, Stab.eq _, Stab.eq _, Stab.eq _, Stab.eq _, Stab.eq _, Stab.eq _, Stab.eq _, Stab.eq _, Stab.eq _, Stab.eq _, Stab.eq _, trivial⟩ ⟨?_, ?_, ?_, ?_, ?_, ?_, ?_, ?_, ?_, ?_, ?_, ?_, ?_, ?_, ?_, ?_, ?_, ?_, ?_, ?_, ?_, ?_, ?_, ?_, ?_, ?_, trivial⟩ ?_
    · intro E' w' hw hE hp
      exact .inr ⟨(Sure.none rfl), .inl ⟨.pointer (some ⟨b32, 1, none⟩), V.fieldAddr (x := .tmp 1) rfl fl29_1 ((hE 1 (by kernel_rfl)).trans h1_136), rfl⟩⟩
    · intro E' w' hw hE hp
      have p_0 : E' 120 = (.pointer (some ⟨b32, 1, none⟩) : Value) := hp 0 (by kernel_rfl)
      exact .inr ⟨(Sure.none rfl), .inl ⟨v1, V.load (x := .tmp 120) rfl p22 p_0 ((hb176.ext hw (by simp)).cell rfl), rfl⟩⟩
    · intro E' w' hw hE hp
      exact .inr ⟨(Sure.none rfl), .inl ⟨.agg #[.int .i64 (p.Id), v1, .int .u64 (p.Term), .int .i64 (p.Vote), .int .u8 (p.Role), .int .i64 (p.Lead), .int .u64 (p.Base), .int .u64 (p.BaseTerm), v3, .string (p.Snap), v5, .int .u64 (p.Commit), .int .i64 (p.Idle), .int .i64 (p.Wait), v7, v9, .int .u64 (p.Round), v11], V.loadAgg (x := .tmp 1) (cs := [.int .i64 (p.Id), v1, .int .u64 (p.Term), .int .i64 (p.Vote), .int .u8 (p.Role), .int .i64 (p.Lead), .int .u64 (p.Base), .int .u64 (p.BaseTerm), v3, .string (p.Snap), v5, .int .u64 (p.Commit), .int .i64 (p.Idle), .int .i64 (p.Wait), v7, v9, .int .u64 (p.Round), v11]) rfl a29 ((hE 1 (by kernel_rfl)).trans h1_136) ((At.box hb176).ext hw (by simp)) rfl, rfl⟩⟩
    · intro E' w' hw hE hp
      exact .inr ⟨(Sure.none rfl), .inl ⟨.int .u64 (lastI p), V.move rfl ((hE 3 (by kernel_rfl)).trans rfl), rfl⟩⟩
    · intro E' w' hw hE hp
      have p_2 : E' 122 = (.agg #[.int .i64 (p.Id), v1, .int .u64 (p.Term), .int .i64 (p.Vote), .int .u8 (p.Role), .int .i64 (p.Lead), .int .u64 (p.Base), .int .u64 (p.BaseTerm), v3, .string (p.Snap), v5, .int .u64 (p.Commit), .int .i64 (p.Idle), .int .i64 (p.Wait), v7, v9, .int .u64 (p.Round), v11] : Value) := hp 2 (by kernel_rfl)
      have p_3 : E' 123 = (.int .u64 (lastI p) : Value) := hp 3 (by kernel_rfl)
      exact .inr ⟨(Sure.none rfl), .inr ⟨_, _, C.call2 (x := .tmp 122) (y := .tmp 123) rfl cl21 p_2 p_3, Fnc.mono (ref_Members (p := p) ⟨v1, v3, v5, v7, v9, v11, rfl, ((hl37.ext (Ext.pre hx172)).ext (Ext.any hw)), ((hl38.ext (Ext.pre hx172)).ext (Ext.any hw)), ((hl39.ext (Ext.pre hx172)).ext (Ext.any hw)), ((hl40.ext (Ext.pre hx172)).ext (Ext.any hw)), ((hl41.ext (Ext.pre hx172)).ext (Ext.any hw)), ((hl42.ext (Ext.pre hx172)).ext (Ext.any hw)), hk13⟩ (lastI p) (by omega) (by omega) (by assumption) (X := (b32 :: X)) (inMono (inCons hb176.lt (inMono hX hx171.size)) hw.size)) (fun v w'' ⟨_, e, hs, hx⟩ => ⟨hx, by subst e; exact hs⟩)⟩⟩
    · intro E' w' hw hE hp
      have p_1 : E' 121 = (v1 : Value) := hp 1 (by kernel_rfl)
      have p_4 : Sl (intR .i64) (b32 :: X) w' (E' 124) (membersOf p (lastI p)) := hp 4 (by kernel_rfl)
      exact .inr ⟨(Sure.none rfl), .inr ⟨_, _, C.call2 (x := .tmp 121) (y := .tmp 124) rfl cl40 p_1 rfl, Fnc.mono (ref_sameInts ((hl37.ext (Ext.pre hx172)).ext (Ext.any hw)) p_4) (fun v w'' h => ⟨h.2, h.1⟩)⟩⟩
    · intro E' w' hw hE hp
      have p_5 : E' 125 = (.bool (eqB ieq p.Members (membersOf p (lastI p))) : Value) := hp 5 (by kernel_rfl)
      exact .inr ⟨(Sure.none rfl), .inl ⟨.bool (!(eqB ieq p.Members (membersOf p (lastI p)))), V.not (x := .tmp 125) rfl p_5, rfl⟩⟩
    · intro E' w' hw hE hp
      have p_6 : E' 126 = (.bool (!(eqB ieq p.Members (membersOf p (lastI p)))) : Value) := hp 6 (by kernel_rfl)
      exact .inr ⟨(Sure.none rfl), .inl ⟨.bool (!(eqB ieq p.Members (membersOf p (lastI p)))), V.move (x := .tmp 126) rfl p_6, (congrArg Value.bool hc177r)⟩⟩
    · intro E' w' hw hE hp
      have p_7 : E' 127 = (.bool (true) : Value) := hp 7 (by kernel_rfl)
      exact .inl ⟨(Shut.no rfl rfl p_7 rfl), rfl⟩
    · intro E' w' hw hE hp
      have p_7 : E' 127 = (.bool (true) : Value) := hp 7 (by kernel_rfl)
      have p_8 : E' 128 = (undef : Value) := hp 8 (by kernel_rfl)
      exact .inl ⟨(Shut.no rfl rfl p_7 rfl), rfl⟩
    · intro E' w' hw hE hp
      have p_7 : E' 127 = (.bool (true) : Value) := hp 7 (by kernel_rfl)
      exact .inl ⟨(Shut.no rfl rfl p_7 rfl), rfl⟩
    · intro E' w' hw hE hp
      have p_7 : E' 127 = (.bool (true) : Value) := hp 7 (by kernel_rfl)
      have p_10 : E' 130 = (undef : Value) := hp 10 (by kernel_rfl)
      exact .inl ⟨(Shut.no rfl rfl p_7 rfl), rfl⟩
    · intro E' w' hw hE hp
      have p_7 : E' 127 = (.bool (true) : Value) := hp 7 (by kernel_rfl)
      have p_9 : E' 129 = (undef : Value) := hp 9 (by kernel_rfl)
      have p_11 : E' 131 = (undef : Value) := hp 11 (by kernel_rfl)
      exact .inl ⟨(Shut.no rfl rfl p_7 rfl), rfl⟩
    · intro E' w' hw hE hp
      have p_7 : E' 127 = (.bool (true) : Value) := hp 7 (by kernel_rfl)
      have p_12 : E' 132 = (undef : Value) := hp 12 (by kernel_rfl)
      exact .inr ⟨(Sure.none rfl), .inl ⟨.bool (true), V.pick (c := .tmp 127) (y := .tmp 132) rfl p_7 rfl, rfl⟩⟩
    · intro E' w' hw hE hp
      have p_13 : E' 133 = (.bool (true) : Value) := hp 13 (by kernel_rfl)
      exact .inr ⟨(Sure.none rfl), .inl ⟨.bool (true), V.move (x := .tmp 133) rfl p_13, rfl⟩⟩
    · intro E' w' hw hE hp
      have p_14 : E' 134 = (.bool (true) : Value) := hp 14 (by kernel_rfl)
      exact .inl ⟨(Shut.no rfl rfl p_14 rfl), rfl⟩
    · intro E' w' hw hE hp
      have p_14 : E' 134 = (.bool (true) : Value) := hp 14 (by kernel_rfl)
      have p_15 : E' 135 = (undef : Value) := hp 15 (by kernel_rfl)
      exact .inl ⟨(Shut.no rfl rfl p_14 rfl), rfl⟩
    · intro E' w' hw hE hp
      have p_14 : E' 134 = (.bool (true) : Value) := hp 14 (by kernel_rfl)
      exact .inl ⟨(Shut.no rfl rfl p_14 rfl), rfl⟩
    · intro E' w' hw hE hp
      have p_14 : E' 134 = (.bool (true) : Value) := hp 14 (by kernel_rfl)
      have p_16 : E' 136 = (undef : Value) := hp 16 (by kernel_rfl)
      have p_17 : E' 137 = (undef : Value) := hp 17 (by kernel_rfl)
      exact .inl ⟨(Shut.no rfl rfl p_14 rfl), rfl⟩
    · intro E' w' hw hE hp
      have p_14 : E' 134 = (.bool (true) : Value) := hp 14 (by kernel_rfl)
      have p_18 : E' 138 = (undef : Value) := hp 18 (by kernel_rfl)
      exact .inr ⟨(Sure.none rfl), .inl ⟨.bool (true), V.pick (c := .tmp 134) (y := .tmp 138) rfl p_14 rfl, rfl⟩⟩
    · intro E' w' hw hE hp
      have p_19 : E' 139 = (.bool (true) : Value) := hp 19 (by kernel_rfl)
      exact .inr ⟨(Sure.none rfl), .inl ⟨.bool (true), V.move (x := .tmp 139) rfl p_19, rfl⟩⟩
    · intro E' w' hw hE hp
      have p_20 : E' 140 = (.bool (true) : Value) := hp 20 (by kernel_rfl)
      exact .inl ⟨(Shut.no rfl rfl p_20 rfl), rfl⟩
    · intro E' w' hw hE hp
      have p_20 : E' 140 = (.bool (true) : Value) := hp 20 (by kernel_rfl)
      have p_21 : E' 141 = (undef : Value) := hp 21 (by kernel_rfl)
      exact .inl ⟨(Shut.no rfl rfl p_20 rfl), rfl⟩
    · intro E' w' hw hE hp
      have p_20 : E' 140 = (.bool (true) : Value) := hp 20 (by kernel_rfl)
      have p_22 : E' 142 = (undef : Value) := hp 22 (by kernel_rfl)
      exact .inl ⟨(Shut.no rfl rfl p_20 rfl), rfl⟩
    · intro E' w' hw hE hp
      have p_20 : E' 140 = (.bool (true) : Value) := hp 20 (by kernel_rfl)
      have p_23 : E' 143 = (undef : Value) := hp 23 (by kernel_rfl)
      exact .inl ⟨(Shut.no rfl rfl p_20 rfl), rfl⟩
    · intro E' w' hw hE hp
      have p_20 : E' 140 = (.bool (true) : Value) := hp 20 (by kernel_rfl)
      have p_24 : E' 144 = (undef : Value) := hp 24 (by kernel_rfl)
      exact .inr ⟨(Sure.none rfl), .inl ⟨.bool (true), V.pick (c := .tmp 140) (y := .tmp 144) rfl p_20 rfl, rfl⟩⟩
    · intro E178 w179 hw180 hE181 hp182
      have hx183 : Ext [b32] w w179 := hx171.trans (Ext.any (Y := [b32]) hw180)
      have hp190 : E178 145 = (.bool (true) : Value) := hp182 25 (of_decide_eq_true (by kernel_rfl))
      refine WP.cond_true hp190 ?_
      refine WP.sr ?_
      refine WL.m rfl ?_
      refine WL.nil ?_
      refine WP.ret ?_
      refine resOf.c1 rfl (v := .bool (false)) rfl ?_
      exact ⟨(bool_eq (by first | assumption | grind [refMayB, refM3, refM4, refM5])), ((hx183).done (geCons hge_b32_w geNil))⟩
  have hc177r := hc177
  replace hc177 := bnot_false hc177
  refine W.bsplit (c := decide (p.Commit < p.Base)) (fun hc191 => ?_) (fun hc191 => ?_)
  · have hc191r := hc191
    replace hc191 := of_decide_eq_true hc191
    refine WP.anyMake [fun v _ => v = (.pointer (some ⟨b32, 1, none⟩) : Value), fun v _ => v = (v1 : Value), fun v _ => v = (.agg #[.int .i64 (p.Id), v1, .int .u64 (p.Term), .int .i64 (p.Vote), .int .u8 (p.Role), .int .i64 (p.Lead), .int .u64 (p.Base), .int .u64 (p.BaseTerm), v3, .string (p.Snap), v5, .int .u64 (p.Commit), .int .i64 (p.Idle), .int .i64 (p.Wait), v7, v9, .int .u64 (p.Round), v11] : Value), fun v _ => v = (.int .u64 (lastI p) : Value), fun v w => Sl (intR .i64) (b32 :: X) w v (membersOf p (lastI p)), fun v _ => v = (.bool (eqB ieq p.Members (membersOf p (lastI p))) : Value), fun v _ => v = (.bool (!(eqB ieq p.Members (membersOf p (lastI p)))) : Value), fun v _ => v = (.bool (false) : Value), fun v _ => v = (.pointer (some ⟨b32, 11, none⟩) : Value), fun v _ => v = (.int .u64 (p.Commit) : Value), fun v _ => v = (.pointer (some ⟨b32, 6, none⟩) : Value), fun v _ => v = (.int .u64 (p.Base) : Value), fun v _ => v = (.bool (decide (p.Commit < p.Base)) : Value), fun v _ => v = (.bool (decide (p.Commit < p.Base)) : Value), fun v _ => v = (.bool (true) : Value), fun v _ => v = (undef : Value), fun v _ => v = (undef : Value), fun v _ => v = (undef : Value), fun v _ => v = (undef : Value), fun v _ => v = (.bool (true) : Value), fun v _ => v = (.bool (true) : Value), fun v _ => v = (undef : Value), fun v _ => v = (undef : Value), fun v _ => v = (undef : Value), fun v _ => v = (undef : Value), fun v _ => v = (.bool (true) : Value)] mo (by kernel_rfl) (by kernel_rfl) (by kernel_rfl) ⟨Stab.eq _, Stab.eq _, Stab.eq _, Stab.eq _, Stab.sl, Stab.eq _, Stab.eq _, Stab.eq _, Stab.eq _, Stab.eq _, Stab.eq _, Stab.eq _, Stab.eq _, Stab.eq _, Stab.eq _, Stab.eq _, Stab.eq _, Stab.eq _, Stab.eq _, Stab.eq _, Stab.eq _, Stab.eq _, Stab.eq _, Stab.eq _, Stab.eq _, Stab.eq _, trivial⟩ ⟨?_, ?_, ?_, ?_, ?_, ?_, ?_, ?_, ?_, ?_, ?_, ?_, ?_, ?_, ?_, ?_, ?_, ?_, ?_, ?_, ?_, ?_, ?_, ?_, ?_, ?_, trivial⟩ ?_
    · intro E' w' hw hE hp
      exact .inr ⟨(Sure.none rfl), .inl ⟨.pointer (some ⟨b32, 1, none⟩), V.fieldAddr (x := .tmp 1) rfl fl29_1 ((hE 1 (by kernel_rfl)).trans h1_136), rfl⟩⟩
    · intro E' w' hw hE hp
      have p_0 : E' 120 = (.pointer (some ⟨b32, 1, none⟩) : Value) := hp 0 (by kernel_rfl)
      exact .inr ⟨(Sure.none rfl), .inl ⟨v1, V.load (x := .tmp 120) rfl p22 p_0 ((hb176.ext hw (by simp)).cell rfl), rfl⟩⟩
    · intro E' w' hw hE hp
      exact .inr ⟨(Sure.none rfl), .inl ⟨.agg #[.int .i64 (p.Id), v1, .int .u64 (p.Term), .int .i64 (p.Vote), .int .u8 (p.Role), .int .i64 (p.Lead), .int .u64 (p.Base), .int .u64 (p.BaseTerm), v3, .string (p.Snap), v5, .int .u64 (p.Commit), .int .i64 (p.Idle), .int .i64 (p.Wait), v7, v9, .int .u64 (p.Round), v11], V.loadAgg (x := .tmp 1) (cs := [.int .i64 (p.Id), v1, .int .u64 (p.Term), .int .i64 (p.Vote), .int .u8 (p.Role), .int .i64 (p.Lead), .int .u64 (p.Base), .int .u64 (p.BaseTerm), v3, .string (p.Snap), v5, .int .u64 (p.Commit), .int .i64 (p.Idle), .int .i64 (p.Wait), v7, v9, .int .u64 (p.Round), v11]) rfl a29 ((hE 1 (by kernel_rfl)).trans h1_136) ((At.box hb176).ext hw (by simp)) rfl, rfl⟩⟩
    · intro E' w' hw hE hp
      exact .inr ⟨(Sure.none rfl), .inl ⟨.int .u64 (lastI p), V.move (x := .tmp 3) rfl ((hE 3 (by kernel_rfl)).trans rfl), rfl⟩⟩
    · intro E' w' hw hE hp
      have p_2 : E' 122 = (.agg #[.int .i64 (p.Id), v1, .int .u64 (p.Term), .int .i64 (p.Vote), .int .u8 (p.Role), .int .i64 (p.Lead), .int .u64 (p.Base), .int .u64 (p.BaseTerm), v3, .string (p.Snap), v5, .int .u64 (p.Commit), .int .i64 (p.Idle), .int .i64 (p.Wait), v7, v9, .int .u64 (p.Round), v11] : Value) := hp 2 (by kernel_rfl)
      have p_3 : E' 123 = (.int .u64 (lastI p) : Value) := hp 3 (by kernel_rfl)
      exact .inr ⟨(Sure.none rfl), .inr ⟨_, _, C.call2 (x := .tmp 122) (y := .tmp 123) rfl cl21 p_2 p_3, Fnc.mono (ref_Members (p := p) ⟨v1, v3, v5, v7, v9, v11, rfl, ((hl37.ext (Ext.pre hx172)).ext (Ext.any hw)), ((hl38.ext (Ext.pre hx172)).ext (Ext.any hw)), ((hl39.ext (Ext.pre hx172)).ext (Ext.any hw)), ((hl40.ext (Ext.pre hx172)).ext (Ext.any hw)), ((hl41.ext (Ext.pre hx172)).ext (Ext.any hw)), ((hl42.ext (Ext.pre hx172)).ext (Ext.any hw)), hk13⟩ (lastI p) (by omega) (by omega) (by assumption) (X := (b32 :: X)) (inMono (inCons hb176.lt (inMono hX hx171.size)) hw.size)) (fun v w'' ⟨_, e, hs, hx⟩ => ⟨hx, by subst e; exact hs⟩)⟩⟩
    · intro E' w' hw hE hp
      have p_1 : E' 121 = (v1 : Value) := hp 1 (by kernel_rfl)
      have p_4 : Sl (intR .i64) (b32 :: X) w' (E' 124) (membersOf p (lastI p)) := hp 4 (by kernel_rfl)
      exact .inr ⟨(Sure.none rfl), .inr ⟨_, _, C.call2 (x := .tmp 121) (y := .tmp 124) rfl cl40 p_1 rfl, Fnc.mono (ref_sameInts ((hl37.ext (Ext.pre hx172)).ext (Ext.any hw)) p_4) (fun v w'' h => ⟨h.2, h.1⟩)⟩⟩
    · intro E' w' hw hE hp
      have p_5 : E' 125 = (.bool (eqB ieq p.Members (membersOf p (lastI p))) : Value) := hp 5 (by kernel_rfl)
      exact .inr ⟨(Sure.none rfl), .inl ⟨.bool (!(eqB ieq p.Members (membersOf p (lastI p)))), V.not (x := .tmp 125) rfl p_5, rfl⟩⟩
    · intro E' w' hw hE hp
      have p_6 : E' 126 = (.bool (!(eqB ieq p.Members (membersOf p (lastI p)))) : Value) := hp 6 (by kernel_rfl)
      exact .inr ⟨(Sure.none rfl), .inl ⟨.bool (!(eqB ieq p.Members (membersOf p (lastI p)))), V.move (x := .tmp 126) rfl p_6, (congrArg Value.bool hc177r)⟩⟩
    · intro E' w' hw hE hp
      have p_7 : E' 127 = (.bool (false) : Value) := hp 7 (by kernel_rfl)
      exact .inr ⟨(Sure.yes rfl rfl p_7), .inl ⟨.pointer (some ⟨b32, 11, none⟩), V.fieldAddr (x := .tmp 1) rfl fl29_11 ((hE 1 (by kernel_rfl)).trans h1_136), rfl⟩⟩
    · intro E' w' hw hE hp
      have p_7 : E' 127 = (.bool (false) : Value) := hp 7 (by kernel_rfl)
      have p_8 : E' 128 = (.pointer (some ⟨b32, 11, none⟩) : Value) := hp 8 (by kernel_rfl)
      exact .inr ⟨(Sure.yes rfl rfl p_7), .inl ⟨.int .u64 (p.Commit), V.load (x := .tmp 128) rfl p23 p_8 ((hb176.ext hw (by simp)).cell rfl), rfl⟩⟩
    · intro E' w' hw hE hp
      have p_7 : E' 127 = (.bool (false) : Value) := hp 7 (by kernel_rfl)
      exact .inr ⟨(Sure.yes rfl rfl p_7), .inl ⟨.pointer (some ⟨b32, 6, none⟩), V.fieldAddr (x := .tmp 1) rfl fl29_6 ((hE 1 (by kernel_rfl)).trans h1_136), rfl⟩⟩
    · intro E' w' hw hE hp
      have p_7 : E' 127 = (.bool (false) : Value) := hp 7 (by kernel_rfl)
      have p_10 : E' 130 = (.pointer (some ⟨b32, 6, none⟩) : Value) := hp 10 (by kernel_rfl)
      exact .inr ⟨(Sure.yes rfl rfl p_7), .inl ⟨.int .u64 (p.Base), V.load (x := .tmp 130) rfl p23 p_10 ((hb176.ext hw (by simp)).cell rfl), rfl⟩⟩
    · intro E' w' hw hE hp
      have p_7 : E' 127 = (.bool (false) : Value) := hp 7 (by kernel_rfl)
      have p_9 : E' 129 = (.int .u64 (p.Commit) : Value) := hp 9 (by kernel_rfl)
      have p_11 : E' 131 = (.int .u64 (p.Base) : Value) := hp 11 (by kernel_rfl)
      exact .inr ⟨(Sure.yes rfl rfl p_7), .inl ⟨.bool (decide (p.Commit < p.Base)), V.cmp (x := .tmp 129) (y := .tmp 131) rfl p_9 p_11 rfl, rfl⟩⟩
    · intro E' w' hw hE hp
      have p_7 : E' 127 = (.bool (false) : Value) := hp 7 (by kernel_rfl)
      have p_12 : E' 132 = (.bool (decide (p.Commit < p.Base)) : Value) := hp 12 (by kernel_rfl)
      exact .inr ⟨(Sure.none rfl), .inl ⟨.bool (decide (p.Commit < p.Base)), V.pick (c := .tmp 127) (y := .tmp 132) rfl p_7 p_12, rfl⟩⟩
    · intro E' w' hw hE hp
      have p_13 : E' 133 = (.bool (decide (p.Commit < p.Base)) : Value) := hp 13 (by kernel_rfl)
      exact .inr ⟨(Sure.none rfl), .inl ⟨.bool (decide (p.Commit < p.Base)), V.move (x := .tmp 133) rfl p_13, (congrArg Value.bool hc191r)⟩⟩
    · intro E' w' hw hE hp
      have p_14 : E' 134 = (.bool (true) : Value) := hp 14 (by kernel_rfl)
      exact .inl ⟨(Shut.no rfl rfl p_14 rfl), rfl⟩
    · intro E' w' hw hE hp
      have p_14 : E' 134 = (.bool (true) : Value) := hp 14 (by kernel_rfl)
      have p_15 : E' 135 = (undef : Value) := hp 15 (by kernel_rfl)
      exact .inl ⟨(Shut.no rfl rfl p_14 rfl), rfl⟩
    · intro E' w' hw hE hp
      have p_14 : E' 134 = (.bool (true) : Value) := hp 14 (by kernel_rfl)
      exact .inl ⟨(Shut.no rfl rfl p_14 rfl), rfl⟩
    · intro E' w' hw hE hp
      have p_14 : E' 134 = (.bool (true) : Value) := hp 14 (by kernel_rfl)
      have p_16 : E' 136 = (undef : Value) := hp 16 (by kernel_rfl)
      have p_17 : E' 137 = (undef : Value) := hp 17 (by kernel_rfl)
      exact .inl ⟨(Shut.no rfl rfl p_14 rfl), rfl⟩
    · intro E' w' hw hE hp
      have p_14 : E' 134 = (.bool (true) : Value) := hp 14 (by kernel_rfl)
      have p_18 : E' 138 = (undef : Value) := hp 18 (by kernel_rfl)
      exact .inr ⟨(Sure.none rfl), .inl ⟨.bool (true), V.pick (c := .tmp 134) (y := .tmp 138) rfl p_14 rfl, rfl⟩⟩
    · intro E' w' hw hE hp
      have p_19 : E' 139 = (.bool (true) : Value) := hp 19 (by kernel_rfl)
      exact .inr ⟨(Sure.none rfl), .inl ⟨.bool (true), V.move (x := .tmp 139) rfl p_19, rfl⟩⟩
    · intro E' w' hw hE hp
      have p_20 : E' 140 = (.bool (true) : Value) := hp 20 (by kernel_rfl)
      exact .inl ⟨(Shut.no rfl rfl p_20 rfl), rfl⟩
    · intro E' w' hw hE hp
      have p_20 : E' 140 = (.bool (true) : Value) := hp 20 (by kernel_rfl)
      have p_21 : E' 141 = (undef : Value) := hp 21 (by kernel_rfl)
      exact .inl ⟨(Shut.no rfl rfl p_20 rfl), rfl⟩
    · intro E' w' hw hE hp
      have p_20 : E' 140 = (.bool (true) : Value) := hp 20 (by kernel_rfl)
      have p_22 : E' 142 = (undef : Value) := hp 22 (by kernel_rfl)
      exact .inl ⟨(Shut.no rfl rfl p_20 rfl), rfl⟩
    · intro E' w' hw hE hp
      have p_20 : E' 140 = (.bool (true) : Value) := hp 20 (by kernel_rfl)
      have p_23 : E' 143 = (undef : Value) := hp 23 (by kernel_rfl)
      exact .inl ⟨(Shut.no rfl rfl p_20 rfl), rfl⟩
    · intro E' w' hw hE hp
      have p_20 : E' 140 = (.bool (true) : Value) := hp 20 (by kernel_rfl)
      have p_24 : E' 144 = (undef : Value) := hp 24 (by kernel_rfl)
      exact .inr ⟨(Sure.none rfl), .inl ⟨.bool (true), V.pick (c := .tmp 140) (y := .tmp 144) rfl p_20 rfl, rfl⟩⟩
    · intro E192 w193 hw194 hE195 hp196
      have hx197 : Ext [b32] w w193 := hx171.trans (Ext.any (Y := [b32]) hw194)
      have hp204 : E192 145 = (.bool (true) : Value) := hp196 25 (of_decide_eq_true (by kernel_rfl))
      refine WP.cond_true hp204 ?_
      refine WP.sr ?_
      refine WL.m rfl ?_
      refine WL.nil ?_
      refine WP.ret ?_
      refine resOf.c1 rfl (v := .bool (false)) rfl ?_
      exact ⟨(bool_eq (by first | assumption | grind [refMayB, refM3, refM4, refM5])), ((hx197).done (geCons hge_b32_w geNil))⟩
  have hc191r := hc191
  replace hc191 := of_decide_eq_false hc191
  refine W.bsplit (c := decide (p.Commit > (lastI p))) (fun hc205 => ?_) (fun hc205 => ?_)
  · have hc205r := hc205
    replace hc205 := of_decide_eq_true hc205
    refine WP.anyMake [fun v _ => v = (.pointer (some ⟨b32, 1, none⟩) : Value), fun v _ => v = (v1 : Value), fun v _ => v = (.agg #[.int .i64 (p.Id), v1, .int .u64 (p.Term), .int .i64 (p.Vote), .int .u8 (p.Role), .int .i64 (p.Lead), .int .u64 (p.Base), .int .u64 (p.BaseTerm), v3, .string (p.Snap), v5, .int .u64 (p.Commit), .int .i64 (p.Idle), .int .i64 (p.Wait), v7, v9, .int .u64 (p.Round), v11] : Value), fun v _ => v = (.int .u64 (lastI p) : Value), fun v w => Sl (intR .i64) (b32 :: X) w v (membersOf p (lastI p)), fun v _ => v = (.bool (eqB ieq p.Members (membersOf p (lastI p))) : Value), fun v _ => v = (.bool (!(eqB ieq p.Members (membersOf p (lastI p)))) : Value), fun v _ => v = (.bool (false) : Value), fun v _ => v = (.pointer (some ⟨b32, 11, none⟩) : Value), fun v _ => v = (.int .u64 (p.Commit) : Value), fun v _ => v = (.pointer (some ⟨b32, 6, none⟩) : Value), fun v _ => v = (.int .u64 (p.Base) : Value), fun v _ => v = (.bool (decide (p.Commit < p.Base)) : Value), fun v _ => v = (.bool (decide (p.Commit < p.Base)) : Value), fun v _ => v = (.bool (false) : Value), fun v _ => v = (.pointer (some ⟨b32, 11, none⟩) : Value), fun v _ => v = (.int .u64 (p.Commit) : Value), fun v _ => v = (.int .u64 (lastI p) : Value), fun v _ => v = (.bool (decide (p.Commit > (lastI p))) : Value), fun v _ => v = (.bool (decide (p.Commit > (lastI p))) : Value), fun v _ => v = (.bool (true) : Value), fun v _ => v = (undef : Value), fun v _ => v = (undef : Value), fun v _ => v = (undef : Value), fun v _ => v = (undef : Value), fun v _ => v = (.bool (true) : Value)] mo (by kernel_rfl) (by kernel_rfl) (by kernel_rfl) ⟨Stab.eq _, Stab.eq _, Stab.eq _, Stab.eq _, Stab.sl, Stab.eq _, Stab.eq _, Stab.eq _, Stab.eq _, Stab.eq _, Stab.eq _, Stab.eq _, Stab.eq _, Stab.eq _, Stab.eq _, Stab.eq _, Stab.eq _, Stab.eq _, Stab.eq _, Stab.eq _, Stab.eq _, Stab.eq _, Stab.eq _, Stab.eq _, Stab.eq _, Stab.eq _, trivial⟩ ⟨?_, ?_, ?_, ?_, ?_, ?_, ?_, ?_, ?_, ?_, ?_, ?_, ?_, ?_, ?_, ?_, ?_, ?_, ?_, ?_, ?_, ?_, ?_, ?_, ?_, ?_, trivial⟩ ?_
    · intro E' w' hw hE hp
      exact .inr ⟨(Sure.none rfl), .inl ⟨.pointer (some ⟨b32, 1, none⟩), V.fieldAddr (x := .tmp 1) rfl fl29_1 ((hE 1 (by kernel_rfl)).trans h1_136), rfl⟩⟩
    · intro E' w' hw hE hp
      have p_0 : E' 120 = (.pointer (some ⟨b32, 1, none⟩) : Value) := hp 0 (by kernel_rfl)
      exact .inr ⟨(Sure.none rfl), .inl ⟨v1, V.load (x := .tmp 120) rfl p22 p_0 ((hb176.ext hw (by simp)).cell rfl), rfl⟩⟩
    · intro E' w' hw hE hp
      exact .inr ⟨(Sure.none rfl), .inl ⟨.agg #[.int .i64 (p.Id), v1, .int .u64 (p.Term), .int .i64 (p.Vote), .int .u8 (p.Role), .int .i64 (p.Lead), .int .u64 (p.Base), .int .u64 (p.BaseTerm), v3, .string (p.Snap), v5, .int .u64 (p.Commit), .int .i64 (p.Idle), .int .i64 (p.Wait), v7, v9, .int .u64 (p.Round), v11], V.loadAgg (x := .tmp 1) (cs := [.int .i64 (p.Id), v1, .int .u64 (p.Term), .int .i64 (p.Vote), .int .u8 (p.Role), .int .i64 (p.Lead), .int .u64 (p.Base), .int .u64 (p.BaseTerm), v3, .string (p.Snap), v5, .int .u64 (p.Commit), .int .i64 (p.Idle), .int .i64 (p.Wait), v7, v9, .int .u64 (p.Round), v11]) rfl a29 ((hE 1 (by kernel_rfl)).trans h1_136) ((At.box hb176).ext hw (by simp)) rfl, rfl⟩⟩
    · intro E' w' hw hE hp
      exact .inr ⟨(Sure.none rfl), .inl ⟨.int .u64 (lastI p), V.move (x := .tmp 3) rfl ((hE 3 (by kernel_rfl)).trans rfl), rfl⟩⟩
    · intro E' w' hw hE hp
      have p_2 : E' 122 = (.agg #[.int .i64 (p.Id), v1, .int .u64 (p.Term), .int .i64 (p.Vote), .int .u8 (p.Role), .int .i64 (p.Lead), .int .u64 (p.Base), .int .u64 (p.BaseTerm), v3, .string (p.Snap), v5, .int .u64 (p.Commit), .int .i64 (p.Idle), .int .i64 (p.Wait), v7, v9, .int .u64 (p.Round), v11] : Value) := hp 2 (by kernel_rfl)
      have p_3 : E' 123 = (.int .u64 (lastI p) : Value) := hp 3 (by kernel_rfl)
      exact .inr ⟨(Sure.none rfl), .inr ⟨_, _, C.call2 (x := .tmp 122) (y := .tmp 123) rfl cl21 p_2 p_3, Fnc.mono (ref_Members (p := p) ⟨v1, v3, v5, v7, v9, v11, rfl, ((hl37.ext (Ext.pre hx172)).ext (Ext.any hw)), ((hl38.ext (Ext.pre hx172)).ext (Ext.any hw)), ((hl39.ext (Ext.pre hx172)).ext (Ext.any hw)), ((hl40.ext (Ext.pre hx172)).ext (Ext.any hw)), ((hl41.ext (Ext.pre hx172)).ext (Ext.any hw)), ((hl42.ext (Ext.pre hx172)).ext (Ext.any hw)), hk13⟩ (lastI p) (by omega) (by omega) (by assumption) (X := (b32 :: X)) (inMono (inCons hb176.lt (inMono hX hx171.size)) hw.size)) (fun v w'' ⟨_, e, hs, hx⟩ => ⟨hx, by subst e; exact hs⟩)⟩⟩
    · intro E' w' hw hE hp
      have p_1 : E' 121 = (v1 : Value) := hp 1 (by kernel_rfl)
      have p_4 : Sl (intR .i64) (b32 :: X) w' (E' 124) (membersOf p (lastI p)) := hp 4 (by kernel_rfl)
      exact .inr ⟨(Sure.none rfl), .inr ⟨_, _, C.call2 (x := .tmp 121) (y := .tmp 124) rfl cl40 p_1 rfl, Fnc.mono (ref_sameInts ((hl37.ext (Ext.pre hx172)).ext (Ext.any hw)) p_4) (fun v w'' h => ⟨h.2, h.1⟩)⟩⟩
    · intro E' w' hw hE hp
      have p_5 : E' 125 = (.bool (eqB ieq p.Members (membersOf p (lastI p))) : Value) := hp 5 (by kernel_rfl)
      exact .inr ⟨(Sure.none rfl), .inl ⟨.bool (!(eqB ieq p.Members (membersOf p (lastI p)))), V.not (x := .tmp 125) rfl p_5, rfl⟩⟩
    · intro E' w' hw hE hp
      have p_6 : E' 126 = (.bool (!(eqB ieq p.Members (membersOf p (lastI p)))) : Value) := hp 6 (by kernel_rfl)
      exact .inr ⟨(Sure.none rfl), .inl ⟨.bool (!(eqB ieq p.Members (membersOf p (lastI p)))), V.move (x := .tmp 126) rfl p_6, (congrArg Value.bool hc177r)⟩⟩
    · intro E' w' hw hE hp
      have p_7 : E' 127 = (.bool (false) : Value) := hp 7 (by kernel_rfl)
      exact .inr ⟨(Sure.yes rfl rfl p_7), .inl ⟨.pointer (some ⟨b32, 11, none⟩), V.fieldAddr (x := .tmp 1) rfl fl29_11 ((hE 1 (by kernel_rfl)).trans h1_136), rfl⟩⟩
    · intro E' w' hw hE hp
      have p_7 : E' 127 = (.bool (false) : Value) := hp 7 (by kernel_rfl)
      have p_8 : E' 128 = (.pointer (some ⟨b32, 11, none⟩) : Value) := hp 8 (by kernel_rfl)
      exact .inr ⟨(Sure.yes rfl rfl p_7), .inl ⟨.int .u64 (p.Commit), V.load (x := .tmp 128) rfl p23 p_8 ((hb176.ext hw (by simp)).cell rfl), rfl⟩⟩
    · intro E' w' hw hE hp
      have p_7 : E' 127 = (.bool (false) : Value) := hp 7 (by kernel_rfl)
      exact .inr ⟨(Sure.yes rfl rfl p_7), .inl ⟨.pointer (some ⟨b32, 6, none⟩), V.fieldAddr (x := .tmp 1) rfl fl29_6 ((hE 1 (by kernel_rfl)).trans h1_136), rfl⟩⟩
    · intro E' w' hw hE hp
      have p_7 : E' 127 = (.bool (false) : Value) := hp 7 (by kernel_rfl)
      have p_10 : E' 130 = (.pointer (some ⟨b32, 6, none⟩) : Value) := hp 10 (by kernel_rfl)
      exact .inr ⟨(Sure.yes rfl rfl p_7), .inl ⟨.int .u64 (p.Base), V.load (x := .tmp 130) rfl p23 p_10 ((hb176.ext hw (by simp)).cell rfl), rfl⟩⟩
    · intro E' w' hw hE hp
      have p_7 : E' 127 = (.bool (false) : Value) := hp 7 (by kernel_rfl)
      have p_9 : E' 129 = (.int .u64 (p.Commit) : Value) := hp 9 (by kernel_rfl)
      have p_11 : E' 131 = (.int .u64 (p.Base) : Value) := hp 11 (by kernel_rfl)
      exact .inr ⟨(Sure.yes rfl rfl p_7), .inl ⟨.bool (decide (p.Commit < p.Base)), V.cmp (x := .tmp 129) (y := .tmp 131) rfl p_9 p_11 rfl, rfl⟩⟩
    · intro E' w' hw hE hp
      have p_7 : E' 127 = (.bool (false) : Value) := hp 7 (by kernel_rfl)
      have p_12 : E' 132 = (.bool (decide (p.Commit < p.Base)) : Value) := hp 12 (by kernel_rfl)
      exact .inr ⟨(Sure.none rfl), .inl ⟨.bool (decide (p.Commit < p.Base)), V.pick (c := .tmp 127) (y := .tmp 132) rfl p_7 p_12, rfl⟩⟩
    · intro E' w' hw hE hp
      have p_13 : E' 133 = (.bool (decide (p.Commit < p.Base)) : Value) := hp 13 (by kernel_rfl)
      exact .inr ⟨(Sure.none rfl), .inl ⟨.bool (decide (p.Commit < p.Base)), V.move (x := .tmp 133) rfl p_13, (congrArg Value.bool hc191r)⟩⟩
    · intro E' w' hw hE hp
      have p_14 : E' 134 = (.bool (false) : Value) := hp 14 (by kernel_rfl)
      exact .inr ⟨(Sure.yes rfl rfl p_14), .inl ⟨.pointer (some ⟨b32, 11, none⟩), V.fieldAddr (x := .tmp 1) rfl fl29_11 ((hE 1 (by kernel_rfl)).trans h1_136), rfl⟩⟩
    · intro E' w' hw hE hp
      have p_14 : E' 134 = (.bool (false) : Value) := hp 14 (by kernel_rfl)
      have p_15 : E' 135 = (.pointer (some ⟨b32, 11, none⟩) : Value) := hp 15 (by kernel_rfl)
      exact .inr ⟨(Sure.yes rfl rfl p_14), .inl ⟨.int .u64 (p.Commit), V.load (x := .tmp 135) rfl p23 p_15 ((hb176.ext hw (by simp)).cell rfl), rfl⟩⟩
    · intro E' w' hw hE hp
      have p_14 : E' 134 = (.bool (false) : Value) := hp 14 (by kernel_rfl)
      exact .inr ⟨(Sure.yes rfl rfl p_14), .inl ⟨.int .u64 (lastI p), V.move (x := .tmp 3) rfl ((hE 3 (by kernel_rfl)).trans rfl), rfl⟩⟩
    · intro E' w' hw hE hp
      have p_14 : E' 134 = (.bool (false) : Value) := hp 14 (by kernel_rfl)
      have p_16 : E' 136 = (.int .u64 (p.Commit) : Value) := hp 16 (by kernel_rfl)
      have p_17 : E' 137 = (.int .u64 (lastI p) : Value) := hp 17 (by kernel_rfl)
      exact .inr ⟨(Sure.yes rfl rfl p_14), .inl ⟨.bool (decide (p.Commit > (lastI p))), V.cmp (x := .tmp 136) (y := .tmp 137) rfl p_16 p_17 rfl, rfl⟩⟩
    · intro E' w' hw hE hp
      have p_14 : E' 134 = (.bool (false) : Value) := hp 14 (by kernel_rfl)
      have p_18 : E' 138 = (.bool (decide (p.Commit > (lastI p))) : Value) := hp 18 (by kernel_rfl)
      exact .inr ⟨(Sure.none rfl), .inl ⟨.bool (decide (p.Commit > (lastI p))), V.pick (c := .tmp 134) (y := .tmp 138) rfl p_14 p_18, rfl⟩⟩
    · intro E' w' hw hE hp
      have p_19 : E' 139 = (.bool (decide (p.Commit > (lastI p))) : Value) := hp 19 (by kernel_rfl)
      exact .inr ⟨(Sure.none rfl), .inl ⟨.bool (decide (p.Commit > (lastI p))), V.move (x := .tmp 139) rfl p_19, (congrArg Value.bool hc205r)⟩⟩
    · intro E' w' hw hE hp
      have p_20 : E' 140 = (.bool (true) : Value) := hp 20 (by kernel_rfl)
      exact .inl ⟨(Shut.no rfl rfl p_20 rfl), rfl⟩
    · intro E' w' hw hE hp
      have p_20 : E' 140 = (.bool (true) : Value) := hp 20 (by kernel_rfl)
      have p_21 : E' 141 = (undef : Value) := hp 21 (by kernel_rfl)
      exact .inl ⟨(Shut.no rfl rfl p_20 rfl), rfl⟩
    · intro E' w' hw hE hp
      have p_20 : E' 140 = (.bool (true) : Value) := hp 20 (by kernel_rfl)
      have p_22 : E' 142 = (undef : Value) := hp 22 (by kernel_rfl)
      exact .inl ⟨(Shut.no rfl rfl p_20 rfl), rfl⟩
    · intro E' w' hw hE hp
      have p_20 : E' 140 = (.bool (true) : Value) := hp 20 (by kernel_rfl)
      have p_23 : E' 143 = (undef : Value) := hp 23 (by kernel_rfl)
      exact .inl ⟨(Shut.no rfl rfl p_20 rfl), rfl⟩
    · intro E' w' hw hE hp
      have p_20 : E' 140 = (.bool (true) : Value) := hp 20 (by kernel_rfl)
      have p_24 : E' 144 = (undef : Value) := hp 24 (by kernel_rfl)
      exact .inr ⟨(Sure.none rfl), .inl ⟨.bool (true), V.pick (c := .tmp 140) (y := .tmp 144) rfl p_20 rfl, rfl⟩⟩
    · intro E206 w207 hw208 hE209 hp210
      have hx211 : Ext [b32] w w207 := hx171.trans (Ext.any (Y := [b32]) hw208)
      have hp218 : E206 145 = (.bool (true) : Value) := hp210 25 (of_decide_eq_true (by kernel_rfl))
      refine WP.cond_true hp218 ?_
      refine WP.sr ?_
      refine WL.m rfl ?_
      refine WL.nil ?_
      refine WP.ret ?_
      refine resOf.c1 rfl (v := .bool (false)) rfl ?_
      exact ⟨(bool_eq (by first | assumption | grind [refMayB, refM3, refM4, refM5])), ((hx211).done (geCons hge_b32_w geNil))⟩
  have hc205r := hc205
  replace hc205 := of_decide_eq_false hc205
  refine WP.anyMake [fun v _ => v = (.pointer (some ⟨b32, 1, none⟩) : Value), fun v _ => v = (v1 : Value), fun v _ => v = (.agg #[.int .i64 (p.Id), v1, .int .u64 (p.Term), .int .i64 (p.Vote), .int .u8 (p.Role), .int .i64 (p.Lead), .int .u64 (p.Base), .int .u64 (p.BaseTerm), v3, .string (p.Snap), v5, .int .u64 (p.Commit), .int .i64 (p.Idle), .int .i64 (p.Wait), v7, v9, .int .u64 (p.Round), v11] : Value), fun v _ => v = (.int .u64 (lastI p) : Value), fun v w => Sl (intR .i64) (b32 :: X) w v (membersOf p (lastI p)), fun v _ => v = (.bool (eqB ieq p.Members (membersOf p (lastI p))) : Value), fun v _ => v = (.bool (!(eqB ieq p.Members (membersOf p (lastI p)))) : Value), fun v _ => v = (.bool (false) : Value), fun v _ => v = (.pointer (some ⟨b32, 11, none⟩) : Value), fun v _ => v = (.int .u64 (p.Commit) : Value), fun v _ => v = (.pointer (some ⟨b32, 6, none⟩) : Value), fun v _ => v = (.int .u64 (p.Base) : Value), fun v _ => v = (.bool (decide (p.Commit < p.Base)) : Value), fun v _ => v = (.bool (decide (p.Commit < p.Base)) : Value), fun v _ => v = (.bool (false) : Value), fun v _ => v = (.pointer (some ⟨b32, 11, none⟩) : Value), fun v _ => v = (.int .u64 (p.Commit) : Value), fun v _ => v = (.int .u64 (lastI p) : Value), fun v _ => v = (.bool (decide (p.Commit > (lastI p))) : Value), fun v _ => v = (.bool (decide (p.Commit > (lastI p))) : Value), fun v _ => v = (.bool (false) : Value), fun v _ => v = (.pointer (some ⟨b32, 14, none⟩) : Value), fun v _ => v = (v7 : Value), fun v _ => v = (.bool (idsB p.Votes) : Value), fun v _ => v = (.bool (!(idsB p.Votes)) : Value), fun v _ => v = (.bool (!(idsB p.Votes)) : Value)] mo (by kernel_rfl) (by kernel_rfl) (by kernel_rfl) ⟨Stab.eq _, Stab.eq _, Stab.eq _, Stab.eq _, Stab.sl, Stab.eq _, Stab.eq _, Stab.eq _, Stab.eq _, Stab.eq _, Stab.eq _, Stab.eq _, Stab.eq _, Stab.eq _, Stab.eq _, Stab.eq _, Stab.eq _, Stab.eq _, Stab.eq _, Stab.eq _, Stab.eq _, Stab.eq _, Stab.eq _, Stab.eq _, Stab.eq _, Stab.eq _, trivial⟩ ⟨?_, ?_, ?_, ?_, ?_, ?_, ?_, ?_, ?_, ?_, ?_, ?_, ?_, ?_, ?_, ?_, ?_, ?_, ?_, ?_, ?_, ?_, ?_, ?_, ?_, ?_, trivial⟩ ?_
  · intro E' w' hw hE hp
    exact .inr ⟨(Sure.none rfl), .inl ⟨.pointer (some ⟨b32, 1, none⟩), V.fieldAddr (x := .tmp 1) rfl fl29_1 ((hE 1 (by kernel_rfl)).trans h1_136), rfl⟩⟩
  · intro E' w' hw hE hp
    have p_0 : E' 120 = (.pointer (some ⟨b32, 1, none⟩) : Value) := hp 0 (by kernel_rfl)
    exact .inr ⟨(Sure.none rfl), .inl ⟨v1, V.load (x := .tmp 120) rfl p22 p_0 ((hb176.ext hw (by simp)).cell rfl), rfl⟩⟩
  · intro E' w' hw hE hp
    exact .inr ⟨(Sure.none rfl), .inl ⟨.agg #[.int .i64 (p.Id), v1, .int .u64 (p.Term), .int .i64 (p.Vote), .int .u8 (p.Role), .int .i64 (p.Lead), .int .u64 (p.Base), .int .u64 (p.BaseTerm), v3, .string (p.Snap), v5, .int .u64 (p.Commit), .int .i64 (p.Idle), .int .i64 (p.Wait), v7, v9, .int .u64 (p.Round), v11], V.loadAgg (x := .tmp 1) (cs := [.int .i64 (p.Id), v1, .int .u64 (p.Term), .int .i64 (p.Vote), .int .u8 (p.Role), .int .i64 (p.Lead), .int .u64 (p.Base), .int .u64 (p.BaseTerm), v3, .string (p.Snap), v5, .int .u64 (p.Commit), .int .i64 (p.Idle), .int .i64 (p.Wait), v7, v9, .int .u64 (p.Round), v11]) rfl a29 ((hE 1 (by kernel_rfl)).trans h1_136) ((At.box hb176).ext hw (by simp)) rfl, rfl⟩⟩
  · intro E' w' hw hE hp
    exact .inr ⟨(Sure.none rfl), .inl ⟨.int .u64 (lastI p), V.move (x := .tmp 3) rfl ((hE 3 (by kernel_rfl)).trans rfl), rfl⟩⟩
  · intro E' w' hw hE hp
    have p_2 : E' 122 = (.agg #[.int .i64 (p.Id), v1, .int .u64 (p.Term), .int .i64 (p.Vote), .int .u8 (p.Role), .int .i64 (p.Lead), .int .u64 (p.Base), .int .u64 (p.BaseTerm), v3, .string (p.Snap), v5, .int .u64 (p.Commit), .int .i64 (p.Idle), .int .i64 (p.Wait), v7, v9, .int .u64 (p.Round), v11] : Value) := hp 2 (by kernel_rfl)
    have p_3 : E' 123 = (.int .u64 (lastI p) : Value) := hp 3 (by kernel_rfl)
    exact .inr ⟨(Sure.none rfl), .inr ⟨_, _, C.call2 (x := .tmp 122) (y := .tmp 123) rfl cl21 p_2 p_3, Fnc.mono (ref_Members (p := p) ⟨v1, v3, v5, v7, v9, v11, rfl, ((hl37.ext (Ext.pre hx172)).ext (Ext.any hw)), ((hl38.ext (Ext.pre hx172)).ext (Ext.any hw)), ((hl39.ext (Ext.pre hx172)).ext (Ext.any hw)), ((hl40.ext (Ext.pre hx172)).ext (Ext.any hw)), ((hl41.ext (Ext.pre hx172)).ext (Ext.any hw)), ((hl42.ext (Ext.pre hx172)).ext (Ext.any hw)), hk13⟩ (lastI p) (by omega) (by omega) (by assumption) (X := (b32 :: X)) (inMono (inCons hb176.lt (inMono hX hx171.size)) hw.size)) (fun v w'' ⟨_, e, hs, hx⟩ => ⟨hx, by subst e; exact hs⟩)⟩⟩
  · intro E' w' hw hE hp
    have p_1 : E' 121 = (v1 : Value) := hp 1 (by kernel_rfl)
    have p_4 : Sl (intR .i64) (b32 :: X) w' (E' 124) (membersOf p (lastI p)) := hp 4 (by kernel_rfl)
    exact .inr ⟨(Sure.none rfl), .inr ⟨_, _, C.call2 (x := .tmp 121) (y := .tmp 124) rfl cl40 p_1 rfl, Fnc.mono (ref_sameInts ((hl37.ext (Ext.pre hx172)).ext (Ext.any hw)) p_4) (fun v w'' h => ⟨h.2, h.1⟩)⟩⟩
  · intro E' w' hw hE hp
    have p_5 : E' 125 = (.bool (eqB ieq p.Members (membersOf p (lastI p))) : Value) := hp 5 (by kernel_rfl)
    exact .inr ⟨(Sure.none rfl), .inl ⟨.bool (!(eqB ieq p.Members (membersOf p (lastI p)))), V.not (x := .tmp 125) rfl p_5, rfl⟩⟩
  · intro E' w' hw hE hp
    have p_6 : E' 126 = (.bool (!(eqB ieq p.Members (membersOf p (lastI p)))) : Value) := hp 6 (by kernel_rfl)
    exact .inr ⟨(Sure.none rfl), .inl ⟨.bool (!(eqB ieq p.Members (membersOf p (lastI p)))), V.move (x := .tmp 126) rfl p_6, (congrArg Value.bool hc177r)⟩⟩
  · intro E' w' hw hE hp
    have p_7 : E' 127 = (.bool (false) : Value) := hp 7 (by kernel_rfl)
    exact .inr ⟨(Sure.yes rfl rfl p_7), .inl ⟨.pointer (some ⟨b32, 11, none⟩), V.fieldAddr (x := .tmp 1) rfl fl29_11 ((hE 1 (by kernel_rfl)).trans h1_136), rfl⟩⟩
  · intro E' w' hw hE hp
    have p_7 : E' 127 = (.bool (false) : Value) := hp 7 (by kernel_rfl)
    have p_8 : E' 128 = (.pointer (some ⟨b32, 11, none⟩) : Value) := hp 8 (by kernel_rfl)
    exact .inr ⟨(Sure.yes rfl rfl p_7), .inl ⟨.int .u64 (p.Commit), V.load (x := .tmp 128) rfl p23 p_8 ((hb176.ext hw (by simp)).cell rfl), rfl⟩⟩
  · intro E' w' hw hE hp
    have p_7 : E' 127 = (.bool (false) : Value) := hp 7 (by kernel_rfl)
    exact .inr ⟨(Sure.yes rfl rfl p_7), .inl ⟨.pointer (some ⟨b32, 6, none⟩), V.fieldAddr (x := .tmp 1) rfl fl29_6 ((hE 1 (by kernel_rfl)).trans h1_136), rfl⟩⟩
  · intro E' w' hw hE hp
    have p_7 : E' 127 = (.bool (false) : Value) := hp 7 (by kernel_rfl)
    have p_10 : E' 130 = (.pointer (some ⟨b32, 6, none⟩) : Value) := hp 10 (by kernel_rfl)
    exact .inr ⟨(Sure.yes rfl rfl p_7), .inl ⟨.int .u64 (p.Base), V.load (x := .tmp 130) rfl p23 p_10 ((hb176.ext hw (by simp)).cell rfl), rfl⟩⟩
  · intro E' w' hw hE hp
    have p_7 : E' 127 = (.bool (false) : Value) := hp 7 (by kernel_rfl)
    have p_9 : E' 129 = (.int .u64 (p.Commit) : Value) := hp 9 (by kernel_rfl)
    have p_11 : E' 131 = (.int .u64 (p.Base) : Value) := hp 11 (by kernel_rfl)
    exact .inr ⟨(Sure.yes rfl rfl p_7), .inl ⟨.bool (decide (p.Commit < p.Base)), V.cmp (x := .tmp 129) (y := .tmp 131) rfl p_9 p_11 rfl, rfl⟩⟩
  · intro E' w' hw hE hp
    have p_7 : E' 127 = (.bool (false) : Value) := hp 7 (by kernel_rfl)
    have p_12 : E' 132 = (.bool (decide (p.Commit < p.Base)) : Value) := hp 12 (by kernel_rfl)
    exact .inr ⟨(Sure.none rfl), .inl ⟨.bool (decide (p.Commit < p.Base)), V.pick (c := .tmp 127) (y := .tmp 132) rfl p_7 p_12, rfl⟩⟩
  · intro E' w' hw hE hp
    have p_13 : E' 133 = (.bool (decide (p.Commit < p.Base)) : Value) := hp 13 (by kernel_rfl)
    exact .inr ⟨(Sure.none rfl), .inl ⟨.bool (decide (p.Commit < p.Base)), V.move (x := .tmp 133) rfl p_13, (congrArg Value.bool hc191r)⟩⟩
  · intro E' w' hw hE hp
    have p_14 : E' 134 = (.bool (false) : Value) := hp 14 (by kernel_rfl)
    exact .inr ⟨(Sure.yes rfl rfl p_14), .inl ⟨.pointer (some ⟨b32, 11, none⟩), V.fieldAddr (x := .tmp 1) rfl fl29_11 ((hE 1 (by kernel_rfl)).trans h1_136), rfl⟩⟩
  · intro E' w' hw hE hp
    have p_14 : E' 134 = (.bool (false) : Value) := hp 14 (by kernel_rfl)
    have p_15 : E' 135 = (.pointer (some ⟨b32, 11, none⟩) : Value) := hp 15 (by kernel_rfl)
    exact .inr ⟨(Sure.yes rfl rfl p_14), .inl ⟨.int .u64 (p.Commit), V.load (x := .tmp 135) rfl p23 p_15 ((hb176.ext hw (by simp)).cell rfl), rfl⟩⟩
  · intro E' w' hw hE hp
    have p_14 : E' 134 = (.bool (false) : Value) := hp 14 (by kernel_rfl)
    exact .inr ⟨(Sure.yes rfl rfl p_14), .inl ⟨.int .u64 (lastI p), V.move (x := .tmp 3) rfl ((hE 3 (by kernel_rfl)).trans rfl), rfl⟩⟩
  · intro E' w' hw hE hp
    have p_14 : E' 134 = (.bool (false) : Value) := hp 14 (by kernel_rfl)
    have p_16 : E' 136 = (.int .u64 (p.Commit) : Value) := hp 16 (by kernel_rfl)
    have p_17 : E' 137 = (.int .u64 (lastI p) : Value) := hp 17 (by kernel_rfl)
    exact .inr ⟨(Sure.yes rfl rfl p_14), .inl ⟨.bool (decide (p.Commit > (lastI p))), V.cmp (x := .tmp 136) (y := .tmp 137) rfl p_16 p_17 rfl, rfl⟩⟩
  · intro E' w' hw hE hp
    have p_14 : E' 134 = (.bool (false) : Value) := hp 14 (by kernel_rfl)
    have p_18 : E' 138 = (.bool (decide (p.Commit > (lastI p))) : Value) := hp 18 (by kernel_rfl)
    exact .inr ⟨(Sure.none rfl), .inl ⟨.bool (decide (p.Commit > (lastI p))), V.pick (c := .tmp 134) (y := .tmp 138) rfl p_14 p_18, rfl⟩⟩
  · intro E' w' hw hE hp
    have p_19 : E' 139 = (.bool (decide (p.Commit > (lastI p))) : Value) := hp 19 (by kernel_rfl)
    exact .inr ⟨(Sure.none rfl), .inl ⟨.bool (decide (p.Commit > (lastI p))), V.move (x := .tmp 139) rfl p_19, (congrArg Value.bool hc205r)⟩⟩
  · intro E' w' hw hE hp
    have p_20 : E' 140 = (.bool (false) : Value) := hp 20 (by kernel_rfl)
    exact .inr ⟨(Sure.yes rfl rfl p_20), .inl ⟨.pointer (some ⟨b32, 14, none⟩), V.fieldAddr (x := .tmp 1) rfl fl29_14 ((hE 1 (by kernel_rfl)).trans h1_136), rfl⟩⟩
  · intro E' w' hw hE hp
    have p_20 : E' 140 = (.bool (false) : Value) := hp 20 (by kernel_rfl)
    have p_21 : E' 141 = (.pointer (some ⟨b32, 14, none⟩) : Value) := hp 21 (by kernel_rfl)
    exact .inr ⟨(Sure.yes rfl rfl p_20), .inl ⟨v7, V.load (x := .tmp 141) rfl p22 p_21 ((hb176.ext hw (by simp)).cell rfl), rfl⟩⟩
  · intro E' w' hw hE hp
    have p_20 : E' 140 = (.bool (false) : Value) := hp 20 (by kernel_rfl)
    have p_22 : E' 142 = (v7 : Value) := hp 22 (by kernel_rfl)
    exact .inr ⟨(Sure.yes rfl rfl p_20), .inr ⟨_, _, C.call1 (x := .tmp 142) rfl cl38 p_22, Fnc.mono (ref_ids ((hl40.ext (Ext.pre hx172)).ext (Ext.any hw))) (fun v w'' h => ⟨h.2, h.1⟩)⟩⟩
  · intro E' w' hw hE hp
    have p_20 : E' 140 = (.bool (false) : Value) := hp 20 (by kernel_rfl)
    have p_23 : E' 143 = (.bool (idsB p.Votes) : Value) := hp 23 (by kernel_rfl)
    exact .inr ⟨(Sure.yes rfl rfl p_20), .inl ⟨.bool (!(idsB p.Votes)), V.not (x := .tmp 143) rfl p_23, rfl⟩⟩
  · intro E' w' hw hE hp
    have p_20 : E' 140 = (.bool (false) : Value) := hp 20 (by kernel_rfl)
    have p_24 : E' 144 = (.bool (!(idsB p.Votes)) : Value) := hp 24 (by kernel_rfl)
    exact .inr ⟨(Sure.none rfl), .inl ⟨.bool (!(idsB p.Votes)), V.pick (c := .tmp 140) (y := .tmp 144) rfl p_20 p_24, rfl⟩⟩
  · intro E219 w220 hw221 hE222 hp223
    have hx224 : Ext [b32] w w220 := hx171.trans (Ext.any (Y := [b32]) hw221)
    have hx225 : Ext [b32] w33 w220 := hx172.trans (Ext.any (Y := [b32]) hw221)
    have hb230 := hb176.ext hw221 (by simp)
    have hp231 : E219 145 = (.bool (!(idsB p.Votes)) : Value) := hp223 25 (of_decide_eq_true (by kernel_rfl))
    refine WP.condn (t := idsB p.Votes) hp231 (fun hc232 => ?_) (fun hc232 => ?_)
    · refine WP.sr ?_
      refine WL.m rfl ?_
      refine WL.nil ?_
      refine WP.ret ?_
      refine resOf.c1 rfl (v := .bool (false)) rfl ?_
      exact ⟨(bool_eq (by first | assumption | grind [refMayB, refM3, refM4, refM5])), ((hx224).done (geCons hge_b32_w geNil))⟩
    refine WP.skip ?_
    refine WP.seq ?_
    refine WP.sr ?_
    refine WL.f (x := .tmp 1) (.int .u8 (p.Role)) fl29_4 ((hE222 1 (by kernel_rfl)).trans h1_136) p24 (hb230.cell rfl) ?_
    refine WL.nil ?_
    refine WP.block ?_
    refine WP.sr ?_
    refine WL.z (.bool (decide (p.Role = 1))) (V.cmp rfl rfl rfl rfl) ?_
    refine WL.m rfl ?_
    refine WL.nil ?_
    refine WP.condp (t := p.Role = 1) rfl (fun hc233 => ?_) (fun hc233 => ?_)
    · refine WP.sr ?_
      refine WL.f (x := .tmp 1) (v1) fl29_1 ((hE222 1 (by kernel_rfl)).trans h1_136) p22 (hb230.cell rfl) ?_
      refine WL.f (x := .tmp 1) (.int .i64 (p.Id)) fl29_0 ((hE222 1 (by kernel_rfl)).trans h1_136) p3 (hb230.cell rfl) ?_
      refine WL.c (Sure.none rfl) rfl (C.call2 rfl cl41 rfl rfl) (Fnc.mono (ref_Has (hl37.ext (Ext.pre hx225)) p.Id) ?_)
      rintro _ w234 ⟨rfl, hx235⟩
      have hx236 : Ext [b32] w w234 := hx224.trans (Ext.any (Y := [b32]) hx235)
      have hx237 : Ext [b32] w33 w234 := hx225.trans (Ext.any (Y := [b32]) hx235)
      have hb243 := hb230.ext hx235 (by simp)
      refine WL.z (.bool (!(hasB p.Members p.Id))) (V.not rfl rfl) ?_
      refine WL.vbn (c := hasB p.Members p.Id) (Sure.none rfl) rfl (V.move rfl rfl) (fun hc244 => ?_) (fun hc244 => ?_)
      · refine WL.skips [(160, some true)] [(179, some true)] (kc (some true) rfl kn) (by kernel_rfl) (fun E245 hK246 hE247 => ?_)
        refine WP.cond_true (hK246 179 (some true) rfl) ?_
        refine WP.sr ?_
        refine WL.m rfl ?_
        refine WL.nil ?_
        refine WP.ret ?_
        refine resOf.c1 rfl (v := .bool (false)) rfl ?_
        exact ⟨(bool_eq (by first | assumption | grind [refMayB, refM3, refM4, refM5])), ((hx236).done (geCons hge_b32_w geNil))⟩
      refine WL.fy (x := .tmp 1) (.int .i64 (p.Vote)) rfl fl29_3 ((hE222 1 (by kernel_rfl)).trans h1_136) p3 (hb243.cell rfl) ?_
      refine WL.fy (x := .tmp 1) (.int .i64 (p.Id)) rfl fl29_0 ((hE222 1 (by kernel_rfl)).trans h1_136) p3 (hb243.cell rfl) ?_
      refine WL.y (.bool (decide (p.Vote ≠ p.Id))) rfl (V.cmp rfl rfl rfl rfl) ?_
      refine WL.k (a := false) rfl rfl ?_
      refine WL.vbp (c := p.Vote ≠ p.Id) (Sure.none rfl) rfl (V.move rfl rfl) (fun hc248 => ?_) (fun hc248 => ?_)
      · refine WL.skips [(167, some true)] [(179, some true)] (kc (some true) rfl kn) (by kernel_rfl) (fun E249 hK250 hE251 => ?_)
        refine WP.cond_true (hK250 179 (some true) rfl) ?_
        refine WP.sr ?_
        refine WL.m rfl ?_
        refine WL.nil ?_
        refine WP.ret ?_
        refine resOf.c1 rfl (v := .bool (false)) rfl ?_
        exact ⟨(bool_eq (by first | assumption | grind [refMayB, refM3, refM4, refM5])), ((hx236).done (geCons hge_b32_w geNil))⟩
      refine WL.fy (x := .tmp 1) (v7) rfl fl29_14 ((hE222 1 (by kernel_rfl)).trans h1_136) p22 (hb243.cell rfl) ?_
      refine WL.fy (x := .tmp 1) (.int .i64 (p.Id)) rfl fl29_0 ((hE222 1 (by kernel_rfl)).trans h1_136) p3 (hb243.cell rfl) ?_
      refine WL.c (Sure.yes rfl rfl rfl) rfl (C.call2 rfl cl41 rfl rfl) (Fnc.mono (ref_Has (hl40.ext (Ext.pre hx237)) p.Id) ?_)
      rintro _ w252 ⟨rfl, hx253⟩
      have hx254 : Ext [b32] w w252 := hx236.trans (Ext.any (Y := [b32]) hx253)
      have hb262 := hb243.ext hx253 (by simp)
      refine WL.y (.bool (!(hasB p.Votes p.Id))) rfl (V.not rfl rfl) ?_
      refine WL.k (a := false) rfl rfl ?_
      refine WL.vbn (c := hasB p.Votes p.Id) (Sure.none rfl) rfl (V.move rfl rfl) (fun hc263 => ?_) (fun hc263 => ?_)
      · refine WL.skips [(175, some true)] [(179, some true)] (kc (some true) rfl kn) (by kernel_rfl) (fun E264 hK265 hE266 => ?_)
        refine WP.cond_true (hK265 179 (some true) rfl) ?_
        refine WP.sr ?_
        refine WL.m rfl ?_
        refine WL.nil ?_
        refine WP.ret ?_
        refine resOf.c1 rfl (v := .bool (false)) rfl ?_
        exact ⟨(bool_eq (by first | assumption | grind [refMayB, refM3, refM4, refM5])), ((hx254).done (geCons hge_b32_w geNil))⟩
      refine WL.fy (x := .tmp 1) (.int .i64 (p.Lead)) rfl fl29_5 ((hE222 1 (by kernel_rfl)).trans h1_136) p3 (hb262.cell rfl) ?_
      refine WL.y (.bool (decide (p.Lead ≠ 0))) rfl (V.cmp rfl rfl rfl rfl) ?_
      refine WL.k (a := false) rfl rfl ?_
      refine WL.nil ?_
      refine WP.condp (t := p.Lead ≠ 0) rfl (fun hc267 => ?_) (fun hc267 => ?_)
      · refine WP.sr ?_
        refine WL.m rfl ?_
        refine WL.nil ?_
        refine WP.ret ?_
        refine resOf.c1 rfl (v := .bool (false)) rfl ?_
        exact ⟨(bool_eq (by first | assumption | grind [refMayB, refM3, refM4, refM5])), ((hx254).done (geCons hge_b32_w geNil))⟩
      refine WP.skip ?_
      refine WP.sr ?_
      refine WL.f (x := .tmp 1) (v9) fl29_15 ((hE222 1 (by kernel_rfl)).trans h1_136) p26 (hb262.cell rfl) ?_
      obtain ⟨a268, c269, hv270⟩ := hl41.shape
      refine WL.z (.int .i64 (((p.Follows).length : Int))) (V.lenSlice rfl rfl u26 (Eq.trans (b := v9) rfl hv270)) ?_
      refine WL.z (.bool (decide (((p.Follows).length : Int) = 0))) (V.cmp rfl rfl rfl rfl) ?_
      refine WL.vbp (c := ((p.Follows).length : Int) = 0) (Sure.none rfl) rfl (V.move rfl rfl) (fun hc271 => ?_) (fun hc271 => ?_)
      rotate_left
      · refine WL.skips [(217, some false)] [(2, some false)] (kc (some false) rfl kn) (by kernel_rfl) (fun E275 hK276 hE277 => ?_)
        refine WP.ret ?_
        refine resOf.c1 rfl (v := .bool (false)) (hK276 2 (some false) rfl) ?_
        exact ⟨(bool_eq (by first | assumption | grind [refMayB, refM3, refM4, refM5])), ((hx254).done (geCons hge_b32_w geNil))⟩
      refine WL.fy (x := .tmp 1) (v11) rfl fl29_17 ((hE222 1 (by kernel_rfl)).trans h1_136) p27 (hb262.cell rfl) ?_
      obtain ⟨a272, c273, hv274⟩ := hl42.shape
      refine WL.y (.int .i64 (((p.Reads).length : Int))) rfl (V.lenSlice rfl rfl u27 (Eq.trans (b := v11) rfl hv274)) ?_
      refine WL.y (.bool (decide (((p.Reads).length : Int) = 0))) rfl (V.cmp rfl rfl rfl rfl) ?_
      refine WL.k (a := true) rfl rfl ?_
      refine WL.m rfl ?_
      refine WL.nil ?_
      refine WP.ret ?_
      refine resOf.c1 rfl (v := .bool (decide (((p.Reads).length : Int) = 0))) rfl ?_
      exact ⟨(bool_eq (by first | assumption | grind [refMayB, refM3, refM4, refM5])), ((hx254).done (geCons hge_b32_w geNil))⟩
    refine WP.sr ?_
    refine WL.z (.bool (decide (p.Role = 2))) (V.cmp rfl rfl rfl rfl) ?_
    refine WL.m rfl ?_
    refine WL.nil ?_
    refine WP.condp (t := p.Role = 2) rfl (fun hc278 => ?_) (fun hc278 => ?_)
    rotate_left
    · refine WP.sr ?_
      refine WL.f (x := .tmp 1) (v7) fl29_14 ((hE222 1 (by kernel_rfl)).trans h1_136) p22 (hb230.cell rfl) ?_
      obtain ⟨a323, c324, hv325⟩ := hl40.shape
      refine WL.z (.int .i64 (((p.Votes).length : Int))) (V.lenSlice rfl rfl u22 (Eq.trans (b := v7) rfl hv325)) ?_
      refine WL.z (.bool (decide (((p.Votes).length : Int) > 0))) (V.cmp rfl rfl rfl rfl) ?_
      refine WL.nil ?_
      refine WP.condp (t := ((p.Votes).length : Int) > 0) rfl (fun hc326 => ?_) (fun hc326 => ?_)
      · refine WP.sr ?_
        refine WL.m rfl ?_
        refine WL.nil ?_
        refine WP.ret ?_
        refine resOf.c1 rfl (v := .bool (false)) rfl ?_
        exact ⟨(bool_eq (by first | assumption | grind [refMayB, refM3, refM4, refM5])), ((hx224).done (geCons hge_b32_w geNil))⟩
      refine WP.skip ?_
      refine WP.sr ?_
      refine WL.f (x := .tmp 1) (v9) fl29_15 ((hE222 1 (by kernel_rfl)).trans h1_136) p26 (hb230.cell rfl) ?_
      obtain ⟨a327, c328, hv329⟩ := hl41.shape
      refine WL.z (.int .i64 (((p.Follows).length : Int))) (V.lenSlice rfl rfl u26 (Eq.trans (b := v9) rfl hv329)) ?_
      refine WL.z (.bool (decide (((p.Follows).length : Int) = 0))) (V.cmp rfl rfl rfl rfl) ?_
      refine WL.vbp (c := ((p.Follows).length : Int) = 0) (Sure.none rfl) rfl (V.move rfl rfl) (fun hc330 => ?_) (fun hc330 => ?_)
      rotate_left
      · refine WL.skips [(217, some false)] [(2, some false)] (kc (some false) rfl kn) (by kernel_rfl) (fun E334 hK335 hE336 => ?_)
        refine WP.ret ?_
        refine resOf.c1 rfl (v := .bool (false)) (hK335 2 (some false) rfl) ?_
        exact ⟨(bool_eq (by first | assumption | grind [refMayB, refM3, refM4, refM5])), ((hx224).done (geCons hge_b32_w geNil))⟩
      refine WL.fy (x := .tmp 1) (v11) rfl fl29_17 ((hE222 1 (by kernel_rfl)).trans h1_136) p27 (hb230.cell rfl) ?_
      obtain ⟨a331, c332, hv333⟩ := hl42.shape
      refine WL.y (.int .i64 (((p.Reads).length : Int))) rfl (V.lenSlice rfl rfl u27 (Eq.trans (b := v11) rfl hv333)) ?_
      refine WL.y (.bool (decide (((p.Reads).length : Int) = 0))) rfl (V.cmp rfl rfl rfl rfl) ?_
      refine WL.k (a := true) rfl rfl ?_
      refine WL.m rfl ?_
      refine WL.nil ?_
      refine WP.ret ?_
      refine resOf.c1 rfl (v := .bool (decide (((p.Reads).length : Int) = 0))) rfl ?_
      exact ⟨(bool_eq (by first | assumption | grind [refMayB, refM3, refM4, refM5])), ((hx224).done (geCons hge_b32_w geNil))⟩
    refine WP.sr ?_
    refine WL.f (x := .tmp 1) (v7) fl29_14 ((hE222 1 (by kernel_rfl)).trans h1_136) p22 (hb230.cell rfl) ?_
    obtain ⟨a279, c280, hv281⟩ := hl40.shape
    refine WL.z (.int .i64 (((p.Votes).length : Int))) (V.lenSlice rfl rfl u22 (Eq.trans (b := v7) rfl hv281)) ?_
    refine WL.z (.bool (decide (((p.Votes).length : Int) = 0))) (V.cmp rfl rfl rfl rfl) ?_
    refine WL.vbp (c := ((p.Votes).length : Int) = 0) (Sure.none rfl) rfl (V.move rfl rfl) (fun hc282 => ?_) (fun hc282 => ?_)
    rotate_left
    · refine WL.skips [(186, some false)] [(2, some false)] (kc (some false) rfl kn) (by kernel_rfl) (fun E320 hK321 hE322 => ?_)
      refine WP.ret ?_
      refine resOf.c1 rfl (v := .bool (false)) (hK321 2 (some false) rfl) ?_
      exact ⟨(bool_eq (by first | assumption | grind [refMayB, refM3, refM4, refM5])), ((hx224).done (geCons hge_b32_w geNil))⟩
    refine WL.fy (x := .tmp 1) (.int .i64 (p.Lead)) rfl fl29_5 ((hE222 1 (by kernel_rfl)).trans h1_136) p3 (hb230.cell rfl) ?_
    refine WL.fy (x := .tmp 1) (.int .i64 (p.Id)) rfl fl29_0 ((hE222 1 (by kernel_rfl)).trans h1_136) p3 (hb230.cell rfl) ?_
    refine WL.y (.bool (decide (p.Lead = p.Id))) rfl (V.cmp rfl rfl rfl rfl) ?_
    refine WL.k (a := true) rfl rfl ?_
    refine WL.vbp (c := p.Lead = p.Id) (Sure.none rfl) rfl (V.move rfl rfl) (fun hc283 => ?_) (fun hc283 => ?_)
    rotate_left
    · refine WL.skips [(193, some false)] [(2, some false)] (kc (some false) rfl kn) (by kernel_rfl) (fun E317 hK318 hE319 => ?_)
      refine WP.ret ?_
      refine resOf.c1 rfl (v := .bool (false)) (hK318 2 (some false) rfl) ?_
      exact ⟨(bool_eq (by first | assumption | grind [refMayB, refM3, refM4, refM5])), ((hx224).done (geCons hge_b32_w geNil))⟩
    refine WL.fy (x := .tmp 1) (.int .u64 (p.Term)) rfl fl29_2 ((hE222 1 (by kernel_rfl)).trans h1_136) p23 (hb230.cell rfl) ?_
    refine WL.y (.bool (decide (p.Term > 0))) rfl (V.cmp rfl rfl rfl rfl) ?_
    refine WL.k (a := true) rfl rfl ?_
    refine WL.vbp (c := p.Term > 0) (Sure.none rfl) rfl (V.move rfl rfl) (fun hc284 => ?_) (fun hc284 => ?_)
    rotate_left
    · refine WL.skips [(198, some false)] [(2, some false)] (kc (some false) rfl kn) (by kernel_rfl) (fun E314 hK315 hE316 => ?_)
      refine WP.ret ?_
      refine resOf.c1 rfl (v := .bool (false)) (hK315 2 (some false) rfl) ?_
      exact ⟨(bool_eq (by first | assumption | grind [refMayB, refM3, refM4, refM5])), ((hx224).done (geCons hge_b32_w geNil))⟩
    refine WL.my rfl rfl ?_
    refine WL.fy (x := .tmp 1) (.int .u64 (p.Term)) rfl fl29_2 ((hE222 1 (by kernel_rfl)).trans h1_136) p23 (hb230.cell rfl) ?_
    refine WL.y (.bool (decide ((lastT p) ≤ p.Term))) rfl (V.cmp (x := .tmp 199) rfl ((hE222 4 (by kernel_rfl)).trans rfl) rfl rfl) ?_
    refine WL.k (a := true) rfl rfl ?_
    refine WL.vbp (c := (lastT p) ≤ p.Term) (Sure.none rfl) rfl (V.move rfl rfl) (fun hc285 => ?_) (fun hc285 => ?_)
    rotate_left
    · refine WL.skips [(204, some false)] [(2, some false)] (kc (some false) rfl kn) (by kernel_rfl) (fun E311 hK312 hE313 => ?_)
      refine WP.ret ?_
      refine resOf.c1 rfl (v := .bool (false)) (hK312 2 (some false) rfl) ?_
      exact ⟨(bool_eq (by first | assumption | grind [refMayB, refM3, refM4, refM5])), ((hx224).done (geCons hge_b32_w geNil))⟩
    refine WL.y (.agg #[.int .i64 (p.Id), v1, .int .u64 (p.Term), .int .i64 (p.Vote), .int .u8 (p.Role), .int .i64 (p.Lead), .int .u64 (p.Base), .int .u64 (p.BaseTerm), v3, .string (p.Snap), v5, .int .u64 (p.Commit), .int .i64 (p.Idle), .int .i64 (p.Wait), v7, v9, .int .u64 (p.Round), v11]) rfl (V.loadAgg (x := .tmp 1) (cs := [.int .i64 (p.Id), v1, .int .u64 (p.Term), .int .i64 (p.Vote), .int .u8 (p.Role), .int .i64 (p.Lead), .int .u64 (p.Base), .int .u64 (p.BaseTerm), v3, .string (p.Snap), v5, .int .u64 (p.Commit), .int .i64 (p.Idle), .int .i64 (p.Wait), v7, v9, .int .u64 (p.Round), v11]) rfl a29 ((hE222 1 (by kernel_rfl)).trans h1_136) (At.box hb230) rfl) ?_
    refine WL.my rfl rfl ?_
    refine WL.c (Sure.yes rfl rfl rfl) rfl (C.call2 (y := .tmp 206) rfl cl42 rfl ((hE222 3 (by kernel_rfl)).trans rfl)) (Fnc.mono (ref_follows (p := p) ⟨v1, v3, v5, v7, v9, v11, rfl, (hl37.ext (Ext.pre hx225)), (hl38.ext (Ext.pre hx225)), (hl39.ext (Ext.pre hx225)), (hl40.ext (Ext.pre hx225)), (hl41.ext (Ext.pre hx225)), (hl42.ext (Ext.pre hx225)), hk13⟩ (lastI p) (by omega)) ?_)
    rintro _ w286 ⟨rfl, hx287⟩
    have hx288 : Ext [b32] w w286 := hx224.trans (Ext.any (Y := [b32]) hx287)
    have hx289 : Ext [b32] w33 w286 := hx225.trans (Ext.any (Y := [b32]) hx287)
    have hb295 := hb230.ext hx287 (by simp)
    refine WL.k (a := true) rfl rfl ?_
    refine WL.vb (c := followsB p (lastI p)) (Sure.none rfl) rfl (V.move rfl rfl) (fun hc296 => ?_) (fun hc296 => ?_)
    rotate_left
    · refine WL.skips [(209, some false)] [(2, some false)] (kc (some false) rfl kn) (by kernel_rfl) (fun E308 hK309 hE310 => ?_)
      refine WP.ret ?_
      refine resOf.c1 rfl (v := .bool (false)) (hK309 2 (some false) rfl) ?_
      exact ⟨(bool_eq (by first | assumption | grind [refMayB, refM3, refM4, refM5])), ((hx288).done (geCons hge_b32_w geNil))⟩
    refine WL.y (.agg #[.int .i64 (p.Id), v1, .int .u64 (p.Term), .int .i64 (p.Vote), .int .u8 (p.Role), .int .i64 (p.Lead), .int .u64 (p.Base), .int .u64 (p.BaseTerm), v3, .string (p.Snap), v5, .int .u64 (p.Commit), .int .i64 (p.Idle), .int .i64 (p.Wait), v7, v9, .int .u64 (p.Round), v11]) rfl (V.loadAgg (x := .tmp 1) (cs := [.int .i64 (p.Id), v1, .int .u64 (p.Term), .int .i64 (p.Vote), .int .u8 (p.Role), .int .i64 (p.Lead), .int .u64 (p.Base), .int .u64 (p.BaseTerm), v3, .string (p.Snap), v5, .int .u64 (p.Commit), .int .i64 (p.Idle), .int .i64 (p.Wait), v7, v9, .int .u64 (p.Round), v11]) rfl a29 ((hE222 1 (by kernel_rfl)).trans h1_136) (At.box hb295) rfl) ?_
    refine WL.c (Sure.yes rfl rfl rfl) rfl (C.call1 rfl cl43 rfl) (Fnc.mono (ref_reads (p := p) ⟨v1, v3, v5, v7, v9, v11, rfl, (hl37.ext (Ext.pre hx289)), (hl38.ext (Ext.pre hx289)), (hl39.ext (Ext.pre hx289)), (hl40.ext (Ext.pre hx289)), (hl41.ext (Ext.pre hx289)), (hl42.ext (Ext.pre hx289)), hk13⟩) ?_)
    rintro _ w297 ⟨rfl, hx298⟩
    have hx299 : Ext [b32] w w297 := hx288.trans (Ext.any (Y := [b32]) hx298)
    refine WL.k (a := true) rfl rfl ?_
    refine WL.m rfl ?_
    refine WL.nil ?_
    refine WP.ret ?_
    refine resOf.c1 rfl (v := .bool (readsB p)) rfl ?_
    exact ⟨(bool_eq (by first | assumption | grind [refMayB, refM3, refM4, refM5])), ((hx299).done (geCons hge_b32_w geNil))⟩

end Go.Proofs.Ytbpamkbegggeoaa.T
