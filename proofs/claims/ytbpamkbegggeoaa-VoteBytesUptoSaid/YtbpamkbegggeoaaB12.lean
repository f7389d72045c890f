/- My texts, cut to what this claim needs and merged. -/
import Derived.Test.YtbpamkbegggeoaaB11
import Derived.Test.YtbpamkbegggeoaaB4
import Derived.Test.YtbpamkbegggeoaaB5
namespace Go.Proofs.Ytbpamkbegggeoaa.X1
open T W Go.RowKit
set_option maxRecDepth 100000
set_option maxHeartbeats 400000
theorem cl8 : Callable Try.prog 8 := ⟨Try.f8, Try.func8, by kernel_rfl, rfl⟩
theorem cl23 : Callable Try.prog 23 := ⟨Try.f23, Try.func23, by kernel_rfl, rfl⟩
theorem cl24 : Callable Try.prog 24 := ⟨Try.f24, Try.func24, by kernel_rfl, rfl⟩
theorem cl25 : Callable Try.prog 25 := ⟨Try.f25, Try.func25, by kernel_rfl, rfl⟩
set_option maxHeartbeats 8000000 in
theorem law_VoteBytes {w : World} {X : List Nat} {m : MsgD} {c_m : List Value} (h_m : msgR.rd X w c_m m) (s : ByteArray) (hsm : MsgSm m) (hmi : m.InR) (hei : ∀ k, k < m.Entries.length → (m.Entries.getD k default).InR) (hX : ∀ x ∈ X, x < w.heap.size) : Fnc Try.prog 4 #[.agg c_m.toArray, .string (s)] w (fun v w' => v = .bool (true) ∧ Ext [] w w') := by
  obtain ⟨v1, v3, rfl, hl2, hl4, hk5⟩ := h_m
  obtain ⟨hin6, hin7, hin8, hin9, hin10, hin11, hin12, hin13, hin14⟩ := (show MsgD.InR m from hk5)
  have hin6 := inK_u8 hin6
  have hin7 := inK_i64 hin7
  have hin8 := inK_i64 hin8
  have hin9 := inK_u64 hin9
  have hin10 := inK_u64 hin10
  have hin11 := inK_u64 hin11
  have hin12 := inK_u64 hin12
  have hin13 := inK_u64 hin13
  have hle15 := hl2.le'
  have hle16 := hl4.le'
  have hsz := hsm.sz
  refine Fnc.of_WP (n := 82) Try.func4 rfl Try.ntmps4 (by simp) ?_
  intro E hE
  have h0 : E 0 = .agg #[.int .u8 (m.Kind), .int .i64 (m.From), .int .i64 (m.To), .int .u64 (m.Term), .int .u64 (m.Index), .int .u64 (m.LogTerm), .int .u64 (m.Commit), .int .u64 (m.Round), .bool (m.Ok), v1, v3, .string (m.Snap)] := hE 0 (by simp)
  have h1 : E 1 = .string (s) := hE 1 (by simp)
  clear hE
  refine WP.sr ?_
  refine WL.box (x := .tmp 0) (cs := [.int .u8 (m.Kind), .int .i64 (m.From), .int .i64 (m.To), .int .u64 (m.Term), .int .u64 (m.Index), .int .u64 (m.LogTerm), .int .u64 (m.Commit), .int .u64 (m.Round), .bool (m.Ok), v1, v3, .string (m.Snap)]) (Sure.none rfl) rfl rfl h0 rfl (fun b17 w18 hx19 he20 hb21 => ?_)
  have hl22 := (Sl.new (b := b17) (by show (4 : Nat) ≠ 0; decide) hl2 (by omega)).ext (Ext.any hx19)
  have hl23 := (Sl.new (b := b17) (by show (1 : Nat) ≠ 0; decide) hl4 (by omega)).ext (Ext.any hx19)
  have hx24 : Ext [b17] _ _ := (Ext.refl _ _).trans (Ext.any hx19)
  have hge_b17_w : w.heap.size ≤ b17 := by have := Nat.le_refl w.heap.size; omega
  refine WL.m rfl ?_
  refine WL.nil ?_
  refine WP.seq ?_
  refine WP.sr ?_
  refine WL.f (v1) fl32_9 rfl p25 (hb21.cell rfl) ?_
  obtain ⟨a25, c26, hv27⟩ := hl22.shape
  refine WL.z (.int .i64 (((m.Entries).length : Int))) (V.lenSlice rfl rfl u25 (Eq.trans (b := v1) rfl hv27)) ?_
  refine WL.z (.bool (decide (((m.Entries).length : Int) > 60))) (V.cmp rfl rfl rfl rfl) ?_
  refine WL.vbp (c := ((m.Entries).length : Int) > 60) (Sure.none rfl) rfl (V.move rfl rfl) (fun hc28 => ?_) (fun hc28 => ?_)
  · refine WL.skips [(15, some true)] [(19, some true)] (kc (some true) rfl kn) (by kernel_rfl) (fun E29 hK30 hE31 => ?_)
    refine WP.cond_true (hK30 19 (some true) rfl) ?_
    refine WP.sr ?_
    refine WL.c (Sure.none rfl) rfl (C.call0 rfl cl8 ) (Fnc.mono (law_alive ) ?_)
    rintro _ w32 ⟨rfl, hx33⟩
    have hx34 : Ext [b17] w w32 := hx24.trans (Ext.any (Y := [b17]) hx33)
    refine WL.m rfl ?_
    refine WL.nil ?_
    refine WP.ret ?_
    refine resOf.c1 rfl (v := .bool (true)) rfl ?_
    exact ⟨(bool_eq (by first | rfl)), ((hx34).done (geCons hge_b17_w geNil))⟩
  refine WL.my rfl rfl ?_
  refine WL.y (.int .i64 (((s).size : Int))) rfl (V.lenString (x := .tmp 16) rfl rfl u9 h1) ?_
  refine WL.y (.bool (decide (((s).size : Int) > 65536))) rfl (V.cmp rfl rfl rfl rfl) ?_
  refine WL.k (a := false) rfl rfl ?_
  refine WL.nil ?_
  refine WP.condp (t := ((s).size : Int) > 65536) rfl (fun hc37 => ?_) (fun hc37 => ?_)
  · refine WP.sr ?_
    refine WL.c (Sure.none rfl) rfl (C.call0 rfl cl8 ) (Fnc.mono (law_alive ) ?_)
    rintro _ w38 ⟨rfl, hx39⟩
    have hx40 : Ext [b17] w w38 := hx24.trans (Ext.any (Y := [b17]) hx39)
    refine WL.m rfl ?_
    refine WL.nil ?_
    refine WP.ret ?_
    refine resOf.c1 rfl (v := .bool (true)) rfl ?_
    exact ⟨(bool_eq (by first | rfl)), ((hx40).done (geCons hge_b17_w geNil))⟩
  refine WP.skip ?_
  refine WP.sr ?_
  refine WL.z (.agg #[.int .u8 (m.Kind), .int .i64 (m.From), .int .i64 (m.To), .int .u64 (m.Term), .int .u64 (m.Index), .int .u64 (m.LogTerm), .int .u64 (m.Commit), .int .u64 (m.Round), .bool (m.Ok), v1, v3, .string (m.Snap)]) (V.loadAgg (cs := [.int .u8 (m.Kind), .int .i64 (m.From), .int .i64 (m.To), .int .u64 (m.Term), .int .u64 (m.Index), .int .u64 (m.LogTerm), .int .u64 (m.Commit), .int .u64 (m.Round), .bool (m.Ok), v1, v3, .string (m.Snap)]) rfl a32 rfl (At.box hb21) rfl) ?_
  refine WL.c (Sure.none rfl) rfl (C.call1 rfl cl22 rfl) (Fnc.mono (vote_Bytes (m := m) ⟨v1, v3, rfl, hl22, hl23, hk5⟩ (by assumption)) ?_)
  rintro _ w43 ⟨rfl, hx44⟩
  have hx45 : Ext [b17] w w43 := hx24.trans (Ext.any (Y := [b17]) hx44)
  have hx46 : Ext [b17] w18 w43 := (Ext.any (Y := [b17]) hx44)
  have hb47 := hb21.ext hx44 (by simp)
  refine WL.m rfl ?_
  refine WL.z (.string (if mayMsgB m = true then bytesB m else ByteArray.mk #[])) (V.extract rfl rfl rfl) ?_
  refine WL.z (.int .i64 (if mayMsgB m = true then (0 : Int) else 2)) (V.extract rfl rfl rfl) ?_
  refine WL.m rfl ?_
  refine WL.m rfl ?_
  refine WL.nil ?_
  refine WP.sr ?_
  refine WL.m rfl ?_
  refine WL.c (Sure.none rfl) rfl (C.call1 (x := .tmp 27) rfl cl23 h1) (Fnc.mono (vote_Read s (by omega) (X := (b17 :: X)) (inCons hb47.lt (inMono hX hx45.size))) ?_)
  rintro _ w48 ⟨cs50, rfl, hr51, hx49⟩
  have hx52 : Ext [b17] w w48 := hx45.trans (Ext.any (Y := [b17]) hx49)
  have hx53 : Ext [b17] w18 w48 := hx46.trans (Ext.any (Y := [b17]) hx49)
  have hb55 := hb47.ext hx49 (by simp)
  obtain ⟨v56, v58, rfl, hl57, hl59, hk60⟩ := hr51
  obtain ⟨hin61, hin62, hin63, hin64, hin65, hin66, hin67, hin68, hin69⟩ := (show MsgD.InR (vRead s) from hk60)
  have hin61 := inK_u8 hin61
  have hin62 := inK_i64 hin62
  have hin63 := inK_i64 hin63
  have hin64 := inK_u64 hin64
  have hin65 := inK_u64 hin65
  have hin66 := inK_u64 hin66
  have hin67 := inK_u64 hin67
  have hin68 := inK_u64 hin68
  have hle70 := hl57.le'
  have hle71 := hl59.le'
  refine WL.m rfl ?_
  refine WL.z (.agg #[.int .u8 ((vRead s).Kind), .int .i64 ((vRead s).From), .int .i64 ((vRead s).To), .int .u64 ((vRead s).Term), .int .u64 ((vRead s).Index), .int .u64 ((vRead s).LogTerm), .int .u64 ((vRead s).Commit), .int .u64 ((vRead s).Round), .bool ((vRead s).Ok), v56, v58, .string ((vRead s).Snap)]) (V.extract rfl rfl rfl) ?_
  refine WL.z (.int .i64 (if vOk s = true then (0 : Int) else 2)) (V.extract rfl rfl rfl) ?_
  refine WL.alloc (cs := [.int .u8 (0), .int .i64 (0), .int .i64 (0), .int .u64 (0), .int .u64 (0), .int .u64 (0), .int .u64 (0), .int .u64 (0), .bool (false), .slice none 0 0, .slice none 0 0, .string (ByteArray.mk #[])]) (Sure.none rfl) rfl rfl z32 rfl (fun b72 w73 hx74 he75 hb76 => ?_)
  have hlt_b17_b72 : b17 < b72 := by have := hb55.lt; omega
  have hb77 := hb55.ext hx74 (by simp)
  have hl78 := (Sl.new (b := b72) (by show (4 : Nat) ≠ 0; decide) (hl22.ext (Ext.pre hx53)) (by omega)).ext (Ext.any hx74)
  have hl79 := (Sl.new (b := b72) (by show (1 : Nat) ≠ 0; decide) (hl23.ext (Ext.pre hx53)) (by omega)).ext (Ext.any hx74)
  have hl80 := (Sl.new (b := b72) (by show (4 : Nat) ≠ 0; decide) hl57 (by omega)).ext (Ext.any hx74)
  have hl81 := (Sl.new (b := b72) (by show (1 : Nat) ≠ 0; decide) hl59 (by omega)).ext (Ext.any hx74)
  have hx82 : Ext [b72, b17] _ _ := (Ext.cons hx52).trans (Ext.any hx74)
  have hge_b72_w : w.heap.size ≤ b72 := by have := hx52.size; omega
  refine WL.storeAgg (vs := [.int .u8 ((vRead s).Kind), .int .i64 ((vRead s).From), .int .i64 ((vRead s).To), .int .u64 ((vRead s).Term), .int .u64 ((vRead s).Index), .int .u64 ((vRead s).LogTerm), .int .u64 ((vRead s).Commit), .int .u64 ((vRead s).Round), .bool ((vRead s).Ok), v56, v58, .string ((vRead s).Snap)]) (Sure.none rfl) rfl rfl s32 rfl rfl rfl (by intro u hu; simp only [List.mem_cons, List.not_mem_nil, or_false] at hu; rcases hu with rfl | rfl | rfl | rfl | rfl | rfl | rfl | rfl | rfl | rfl | rfl | rfl <;> first | rfl | exact Sl.one (by assumption)) hb76 (by show (0 : Nat) + 12 ≤ 12; decide) (fun w83 hs84 hb85 => ?_)
  replace hb85 : Box w83 b72 32 [.int .u8 ((vRead s).Kind), .int .i64 ((vRead s).From), .int .i64 ((vRead s).To), .int .u64 ((vRead s).Term), .int .u64 ((vRead s).Index), .int .u64 ((vRead s).LogTerm), .int .u64 ((vRead s).Commit), .int .u64 ((vRead s).Round), .bool ((vRead s).Ok), v56, v58, .string ((vRead s).Snap)] := hb85
  have hb86 := hb77.ext hs84 (by simp; omega)
  have hx87 : Ext [b72, b17] w w83 := hx82.trans (hs84.mono (by simp))
  have hx88 : Ext [b72, b17] w73 w83 := (hs84.mono (by simp))
  refine WL.m rfl ?_
  refine WL.nil ?_
  refine WP.sr ?_
  refine WL.m rfl ?_
  refine WL.c (Sure.none rfl) rfl (C.call1 (x := .tmp 32) rfl cl24 h1) (Fnc.mono (ref_Read s (by omega) (X := (b72 :: (b17 :: X))) (inCons hb85.lt (inCons hb86.lt (inMono hX hx87.size)))) ?_)
  rintro _ w89 ⟨cs91, rfl, hr92, hx90⟩
  have hx93 : Ext [b72, b17] w w89 := hx87.trans (Ext.any (Y := [b72, b17]) hx90)
  have hx94 : Ext [b72, b17] w73 w89 := hx88.trans (Ext.any (Y := [b72, b17]) hx90)
  have hb96 := hb86.ext hx90 (by simp)
  have hb97 := hb85.ext hx90 (by simp)
  obtain ⟨v98, v100, rfl, hl99, hl101, hk102⟩ := hr92
  obtain ⟨hin103, hin104, hin105, hin106, hin107, hin108, hin109, hin110, hin111⟩ := (show MsgD.InR (rRead s) from hk102)
  have hin103 := inK_u8 hin103
  have hin104 := inK_i64 hin104
  have hin105 := inK_i64 hin105
  have hin106 := inK_u64 hin106
  have hin107 := inK_u64 hin107
  have hin108 := inK_u64 hin108
  have hin109 := inK_u64 hin109
  have hin110 := inK_u64 hin110
  have hle112 := hl99.le'
  have hle113 := hl101.le'
  refine WL.m rfl ?_
  refine WL.z (.agg #[.int .u8 ((rRead s).Kind), .int .i64 ((rRead s).From), .int .i64 ((rRead s).To), .int .u64 ((rRead s).Term), .int .u64 ((rRead s).Index), .int .u64 ((rRead s).LogTerm), .int .u64 ((rRead s).Commit), .int .u64 ((rRead s).Round), .bool ((rRead s).Ok), v98, v100, .string ((rRead s).Snap)]) (V.extract rfl rfl rfl) ?_
  refine WL.z (.int .i64 (if rOk s = true then (0 : Int) else 2)) (V.extract rfl rfl rfl) ?_
  refine WL.alloc (cs := [.int .u8 (0), .int .i64 (0), .int .i64 (0), .int .u64 (0), .int .u64 (0), .int .u64 (0), .int .u64 (0), .int .u64 (0), .bool (false), .slice none 0 0, .slice none 0 0, .string (ByteArray.mk #[])]) (Sure.none rfl) rfl rfl z32 rfl (fun b114 w115 hx116 he117 hb118 => ?_)
  have hlt_b17_b114 : b17 < b114 := by have := hb96.lt; omega
  have hb119 := hb96.ext hx116 (by simp)
  have hlt_b72_b114 : b72 < b114 := by have := hb97.lt; omega
  have hb120 := hb97.ext hx116 (by simp)
  have hl121 := (Sl.new (b := b114) (by show (4 : Nat) ≠ 0; decide) (hl78.ext (Ext.pre hx94)) (by omega)).ext (Ext.any hx116)
  have hl122 := (Sl.new (b := b114) (by show (1 : Nat) ≠ 0; decide) (hl79.ext (Ext.pre hx94)) (by omega)).ext (Ext.any hx116)
  have hl123 := (Sl.new (b := b114) (by show (4 : Nat) ≠ 0; decide) (hl80.ext (Ext.pre hx94)) (by omega)).ext (Ext.any hx116)
  have hl124 := (Sl.new (b := b114) (by show (1 : Nat) ≠ 0; decide) (hl81.ext (Ext.pre hx94)) (by omega)).ext (Ext.any hx116)
  have hl125 := (Sl.new (b := b114) (by show (4 : Nat) ≠ 0; decide) hl99 (by omega)).ext (Ext.any hx116)
  have hl126 := (Sl.new (b := b114) (by show (1 : Nat) ≠ 0; decide) hl101 (by omega)).ext (Ext.any hx116)
  have hx127 : Ext [b114, b72, b17] _ _ := (Ext.cons hx93).trans (Ext.any hx116)
  have hge_b114_w : w.heap.size ≤ b114 := by have := hx93.size; omega
  refine WL.storeAgg (vs := [.int .u8 ((rRead s).Kind), .int .i64 ((rRead s).From), .int .i64 ((rRead s).To), .int .u64 ((rRead s).Term), .int .u64 ((rRead s).Index), .int .u64 ((rRead s).LogTerm), .int .u64 ((rRead s).Commit), .int .u64 ((rRead s).Round), .bool ((rRead s).Ok), v98, v100, .string ((rRead s).Snap)]) (Sure.none rfl) rfl rfl s32 rfl rfl rfl (by intro u hu; simp only [List.mem_cons, List.not_mem_nil, or_false] at hu; rcases hu with rfl | rfl | rfl | rfl | rfl | rfl | rfl | rfl | rfl | rfl | rfl | rfl <;> first | rfl | exact Sl.one (by assumption)) hb118 (by show (0 : Nat) + 12 ≤ 12; decide) (fun w128 hs129 hb130 => ?_)
  replace hb130 : Box w128 b114 32 [.int .u8 ((rRead s).Kind), .int .i64 ((rRead s).From), .int .i64 ((rRead s).To), .int .u64 ((rRead s).Term), .int .u64 ((rRead s).Index), .int .u64 ((rRead s).LogTerm), .int .u64 ((rRead s).Commit), .int .u64 ((rRead s).Round), .bool ((rRead s).Ok), v98, v100, .string ((rRead s).Snap)] := hb130
  have hb131 := hb119.ext hs129 (by simp; omega)
  have hb132 := hb120.ext hs129 (by simp; omega)
  have hx133 : Ext [b114, b72, b17] w w128 := hx127.trans (hs129.mono (by simp))
  have hx134 : Ext [b114, b72, b17] w115 w128 := (hs129.mono (by simp))
  refine WL.m rfl ?_
  refine WL.nil ?_
  refine WP.seq ?_
  refine WP.sr ?_
  have hread := law_read (s := s) (by omega)
  refine WL.z (.agg #[.int .u8 ((vRead s).Kind), .int .i64 ((vRead s).From), .int .i64 ((vRead s).To), .int .u64 ((vRead s).Term), .int .u64 ((vRead s).Index), .int .u64 ((vRead s).LogTerm), .int .u64 ((vRead s).Commit), .int .u64 ((vRead s).Round), .bool ((vRead s).Ok), v56, v58, .string ((vRead s).Snap)]) (V.loadAgg (cs := [.int .u8 ((vRead s).Kind), .int .i64 ((vRead s).From), .int .i64 ((vRead s).To), .int .u64 ((vRead s).Term), .int .u64 ((vRead s).Index), .int .u64 ((vRead s).LogTerm), .int .u64 ((vRead s).Commit), .int .u64 ((vRead s).Round), .bool ((vRead s).Ok), v56, v58, .string ((vRead s).Snap)]) rfl a32 rfl (At.box hb132) rfl) ?_
  refine WL.z (.agg #[.int .u8 ((rRead s).Kind), .int .i64 ((rRead s).From), .int .i64 ((rRead s).To), .int .u64 ((rRead s).Term), .int .u64 ((rRead s).Index), .int .u64 ((rRead s).LogTerm), .int .u64 ((rRead s).Commit), .int .u64 ((rRead s).Round), .bool ((rRead s).Ok), v98, v100, .string ((rRead s).Snap)]) (V.loadAgg (cs := [.int .u8 ((rRead s).Kind), .int .i64 ((rRead s).From), .int .i64 ((rRead s).To), .int .u64 ((rRead s).Term), .int .u64 ((rRead s).Index), .int .u64 ((rRead s).LogTerm), .int .u64 ((rRead s).Commit), .int .u64 ((rRead s).Round), .bool ((rRead s).Ok), v98, v100, .string ((rRead s).Snap)]) rfl a32 rfl (At.box hb130) rfl) ?_
  refine WL.c (Sure.none rfl) rfl (C.call2 rfl cl25 rfl rfl) (Fnc.mono (ref_SameMsg (a := (vRead s)) ⟨v56, v58, rfl, (hl123.ext (Ext.pre hx134)), (hl124.ext (Ext.pre hx134)), hk60⟩ (b := (rRead s)) ⟨v98, v100, rfl, (hl125.ext (Ext.pre hx134)), (hl126.ext (Ext.pre hx134)), hk102⟩) ?_)
  rintro _ w135 ⟨rfl, hx136⟩
  have hx137 : Ext [b114, b72, b17] w w135 := hx133.trans (Ext.any (Y := [b114, b72, b17]) hx136)
  have hx138 : Ext [b114, b72, b17] w115 w135 := hx134.trans (Ext.any (Y := [b114, b72, b17]) hx136)
  have hb140 := hb131.ext hx136 (by simp)
  have hb141 := hb132.ext hx136 (by simp)
  have hb142 := hb130.ext hx136 (by simp)
  refine WL.z (.bool (!(sameMsgB (vRead s) (rRead s)))) (V.not rfl rfl) ?_
  refine WL.vbn (c := sameMsgB (vRead s) (rRead s)) (Sure.none rfl) rfl (V.move rfl rfl) (fun hc143 => ?_) (fun hc143 => ?_)
  · refine WL.skips [(40, some true)] [(44, some true)] (kc (some true) rfl kn) (by kernel_rfl) (fun E144 hK145 hE146 => ?_)
    refine WP.cond_true (hK145 44 (some true) rfl) ?_
    refine WP.sr ?_
    refine WL.m rfl ?_
    refine WL.nil ?_
    refine WP.ret ?_
    refine resOf.c1 rfl (v := .bool (false)) rfl ?_
    exact ⟨(bool_eq (by first | rfl | exact no_of hread.1 hc143)), ((hx137).done (geCons hge_b114_w (geCons hge_b72_w (geCons hge_b17_w geNil))))⟩
  refine WL.my rfl rfl ?_
  refine WL.my rfl rfl ?_
  refine WL.y (.bool (decide ((if vOk s = true then (0 : Int) else 2) ≠ (if rOk s = true then (0 : Int) else 2)))) rfl (V.cmp rfl rfl rfl rfl) ?_
  refine WL.k (a := false) rfl rfl ?_
  refine WL.nil ?_
  refine WP.condp (t := (if vOk s = true then (0 : Int) else 2) ≠ (if rOk s = true then (0 : Int) else 2)) rfl (fun hc147 => ?_) (fun hc147 => ?_)
  · refine WP.sr ?_
    refine WL.m rfl ?_
    refine WL.nil ?_
    refine WP.ret ?_
    refine resOf.c1 rfl (v := .bool (false)) rfl ?_
    exact ⟨(bool_eq (by first | rfl | exact absurd hread.2 hc147)), ((hx137).done (geCons hge_b114_w (geCons hge_b72_w (geCons hge_b17_w geNil))))⟩
  refine WP.skip ?_
  refine WP.seq ?_
  refine WP.sr ?_
  refine WL.z (.agg #[.int .u8 (m.Kind), .int .i64 (m.From), .int .i64 (m.To), .int .u64 (m.Term), .int .u64 (m.Index), .int .u64 (m.LogTerm), .int .u64 (m.Commit), .int .u64 (m.Round), .bool (m.Ok), v1, v3, .string (m.Snap)]) (V.loadAgg (cs := [.int .u8 (m.Kind), .int .i64 (m.From), .int .i64 (m.To), .int .u64 (m.Term), .int .u64 (m.Index), .int .u64 (m.LogTerm), .int .u64 (m.Commit), .int .u64 (m.Round), .bool (m.Ok), v1, v3, .string (m.Snap)]) rfl a32 rfl (At.box hb140) rfl) ?_
  refine WL.c (Sure.none rfl) rfl (C.call1 rfl cl13 rfl) (Fnc.mono (ref_MayMsg (m := m) ⟨v1, v3, rfl, (hl121.ext (Ext.pre hx138)), (hl122.ext (Ext.pre hx138)), hk5⟩) ?_)
  rintro _ w148 ⟨rfl, hx149⟩
  have hx150 : Ext [b114, b72, b17] w w148 := hx137.trans (Ext.any (Y := [b114, b72, b17]) hx149)
  have hx151 : Ext [b114, b72, b17] w115 w148 := hx138.trans (Ext.any (Y := [b114, b72, b17]) hx149)
  have hb154 := hb140.ext hx149 (by simp)
  have hb155 := hb141.ext hx149 (by simp)
  have hb156 := hb142.ext hx149 (by simp)
  refine WL.z (.bool (!(refMayMsgB m))) (V.not rfl rfl) ?_
  refine WL.nil ?_
  refine WP.condn (t := refMayMsgB m) rfl (fun hc157 => ?_) (fun hc157 => ?_)
  · refine WP.sr ?_
    have hno := law_no hmi hc157
    refine WL.m rfl ?_
    refine WL.z (.bool (seqB (if mayMsgB m = true then bytesB m else ByteArray.mk #[]) (ByteArray.mk #[]))) (V.scmp rfl rfl rfl rfl) ?_
    refine WL.vb (c := seqB (if mayMsgB m = true then bytesB m else ByteArray.mk #[]) (ByteArray.mk #[])) (Sure.none rfl) rfl (V.move rfl rfl) (fun hc158 => ?_) (fun hc158 => ?_)
    rotate_left
    · refine WL.skips [(50, some false)] [(4, some false)] (kc (some false) rfl kn) (by kernel_rfl) (fun E173 hK174 hE175 => ?_)
      refine WP.ret ?_
      refine resOf.c1 rfl (v := .bool (false)) (hK174 4 (some false) rfl) ?_
      exact ⟨(bool_eq (by first | rfl | exact no_of hno.1 hc158)), ((hx150).done (geCons hge_b114_w (geCons hge_b72_w (geCons hge_b17_w geNil))))⟩
    refine WL.my rfl rfl ?_
    refine WL.y (.bool (decide ((if mayMsgB m = true then (0 : Int) else 2) = 2))) rfl (V.cmp rfl rfl rfl rfl) ?_
    refine WL.k (a := true) rfl rfl ?_
    refine WL.vbp (c := (if mayMsgB m = true then (0 : Int) else 2) = 2) (Sure.none rfl) rfl (V.move rfl rfl) (fun hc159 => ?_) (fun hc159 => ?_)
    rotate_left
    · refine WL.skips [(54, some false)] [(4, some false)] (kc (some false) rfl kn) (by kernel_rfl) (fun E170 hK171 hE172 => ?_)
      refine WP.ret ?_
      refine resOf.c1 rfl (v := .bool (false)) (hK171 4 (some false) rfl) ?_
      exact ⟨(bool_eq (by first | rfl | exact absurd hno.2 hc159)), ((hx150).done (geCons hge_b114_w (geCons hge_b72_w (geCons hge_b17_w geNil))))⟩
    refine WL.c (Sure.yes rfl rfl rfl) rfl (C.call0 rfl cl8 ) (Fnc.mono (law_alive ) ?_)
    rintro _ w160 ⟨rfl, hx161⟩
    have hx162 : Ext [b114, b72, b17] w w160 := hx150.trans (Ext.any (Y := [b114, b72, b17]) hx161)
    refine WL.k (a := true) rfl rfl ?_
    refine WL.m rfl ?_
    refine WL.nil ?_
    refine WP.ret ?_
    refine resOf.c1 rfl (v := .bool (true)) rfl ?_
    exact ⟨(bool_eq (by first | rfl | exact absurd hno.2 hc159)), ((hx162).done (geCons hge_b114_w (geCons hge_b72_w (geCons hge_b17_w geNil))))⟩
  refine WP.skip ?_
  refine WP.sr ?_
  obtain ⟨hok, hys, hy1, hy2, hy3, hy4⟩ := law_yes hmi hei hsm hc157
  refine WL.m rfl ?_
  refine WL.c (Sure.none rfl) rfl (C.call1 rfl cl23 rfl) (Fnc.mono (vote_Read (if mayMsgB m = true then bytesB m else ByteArray.mk #[]) (by omega) (X := (b114 :: (b72 :: (b17 :: X)))) (inCons hb156.lt (inCons hb155.lt (inCons hb154.lt (inMono hX hx150.size))))) ?_)
  rintro _ w176 ⟨cs178, rfl, hr179, hx177⟩
  have hx180 : Ext [b114, b72, b17] w w176 := hx150.trans (Ext.any (Y := [b114, b72, b17]) hx177)
  have hx181 : Ext [b114, b72, b17] w115 w176 := hx151.trans (Ext.any (Y := [b114, b72, b17]) hx177)
  have hb185 := hb154.ext hx177 (by simp)
  have hb186 := hb155.ext hx177 (by simp)
  obtain ⟨v188, v190, rfl, hl189, hl191, hk192⟩ := hr179
  obtain ⟨hin193, hin194, hin195, hin196, hin197, hin198, hin199, hin200, hin201⟩ := (show MsgD.InR (vRead (if mayMsgB m = true then bytesB m else ByteArray.mk #[])) from hk192)
  have hin193 := inK_u8 hin193
  have hin194 := inK_i64 hin194
  have hin195 := inK_i64 hin195
  have hin196 := inK_u64 hin196
  have hin197 := inK_u64 hin197
  have hin198 := inK_u64 hin198
  have hin199 := inK_u64 hin199
  have hin200 := inK_u64 hin200
  have hle202 := hl189.le'
  have hle203 := hl191.le'
  refine WL.m rfl ?_
  refine WL.z (.agg #[.int .u8 ((vRead (if mayMsgB m = true then bytesB m else ByteArray.mk #[])).Kind), .int .i64 ((vRead (if mayMsgB m = true then bytesB m else ByteArray.mk #[])).From), .int .i64 ((vRead (if mayMsgB m = true then bytesB m else ByteArray.mk #[])).To), .int .u64 ((vRead (if mayMsgB m = true then bytesB m else ByteArray.mk #[])).Term), .int .u64 ((vRead (if mayMsgB m = true then bytesB m else ByteArray.mk #[])).Index), .int .u64 ((vRead (if mayMsgB m = true then bytesB m else ByteArray.mk #[])).LogTerm), .int .u64 ((vRead (if mayMsgB m = true then bytesB m else ByteArray.mk #[])).Commit), .int .u64 ((vRead (if mayMsgB m = true then bytesB m else ByteArray.mk #[])).Round), .bool ((vRead (if mayMsgB m = true then bytesB m else ByteArray.mk #[])).Ok), v188, v190, .string ((vRead (if mayMsgB m = true then bytesB m else ByteArray.mk #[])).Snap)]) (V.extract rfl rfl rfl) ?_
  refine WL.z (.int .i64 (if vOk (if mayMsgB m = true then bytesB m else ByteArray.mk #[]) = true then (0 : Int) else 2)) (V.extract rfl rfl rfl) ?_
  refine WL.storeAgg (vs := [.int .u8 ((vRead (if mayMsgB m = true then bytesB m else ByteArray.mk #[])).Kind), .int .i64 ((vRead (if mayMsgB m = true then bytesB m else ByteArray.mk #[])).From), .int .i64 ((vRead (if mayMsgB m = true then bytesB m else ByteArray.mk #[])).To), .int .u64 ((vRead (if mayMsgB m = true then bytesB m else ByteArray.mk #[])).Term), .int .u64 ((vRead (if mayMsgB m = true then bytesB m else ByteArray.mk #[])).Index), .int .u64 ((vRead (if mayMsgB m = true then bytesB m else ByteArray.mk #[])).LogTerm), .int .u64 ((vRead (if mayMsgB m = true then bytesB m else ByteArray.mk #[])).Commit), .int .u64 ((vRead (if mayMsgB m = true then bytesB m else ByteArray.mk #[])).Round), .bool ((vRead (if mayMsgB m = true then bytesB m else ByteArray.mk #[])).Ok), v188, v190, .string ((vRead (if mayMsgB m = true then bytesB m else ByteArray.mk #[])).Snap)]) (Sure.none rfl) rfl rfl s32 rfl rfl rfl (by intro u hu; simp only [List.mem_cons, List.not_mem_nil, or_false] at hu; rcases hu with rfl | rfl | rfl | rfl | rfl | rfl | rfl | rfl | rfl | rfl | rfl | rfl <;> first | rfl | exact Sl.one (by assumption)) hb186 (by show (0 : Nat) + 12 ≤ 12; decide) (fun w204 hs205 hb206 => ?_)
  replace hb206 : Box w204 b72 32 [.int .u8 ((vRead (if mayMsgB m = true then bytesB m else ByteArray.mk #[])).Kind), .int .i64 ((vRead (if mayMsgB m = true then bytesB m else ByteArray.mk #[])).From), .int .i64 ((vRead (if mayMsgB m = true then bytesB m else ByteArray.mk #[])).To), .int .u64 ((vRead (if mayMsgB m = true then bytesB m else ByteArray.mk #[])).Term), .int .u64 ((vRead (if mayMsgB m = true then bytesB m else ByteArray.mk #[])).Index), .int .u64 ((vRead (if mayMsgB m = true then bytesB m else ByteArray.mk #[])).LogTerm), .int .u64 ((vRead (if mayMsgB m = true then bytesB m else ByteArray.mk #[])).Commit), .int .u64 ((vRead (if mayMsgB m = true then bytesB m else ByteArray.mk #[])).Round), .bool ((vRead (if mayMsgB m = true then bytesB m else ByteArray.mk #[])).Ok), v188, v190, .string ((vRead (if mayMsgB m = true then bytesB m else ByteArray.mk #[])).Snap)] := hb206
  have hb207 := hb185.ext hs205 (by simp; omega)
  have hx209 : Ext [b114, b72, b17] w w204 := hx180.trans (hs205.mono (by simp))
  have hx210 : Ext [b114, b72, b17] w115 w204 := hx181.trans (hs205.mono (by simp))
  have hx214 : Ext [b114, b72, b17] w176 w204 := (hs205.mono (by simp))
  refine WL.m rfl ?_
  refine WL.nil ?_
  refine WP.sr ?_
  refine WL.m rfl ?_
  refine WL.z (.agg #[.int .u8 (m.Kind), .int .i64 (m.From), .int .i64 (m.To), .int .u64 (m.Term), .int .u64 (m.Index), .int .u64 (m.LogTerm), .int .u64 (m.Commit), .int .u64 (m.Round), .bool (m.Ok), v1, v3, .string (m.Snap)]) (V.loadAgg (cs := [.int .u8 (m.Kind), .int .i64 (m.From), .int .i64 (m.To), .int .u64 (m.Term), .int .u64 (m.Index), .int .u64 (m.LogTerm), .int .u64 (m.Commit), .int .u64 (m.Round), .bool (m.Ok), v1, v3, .string (m.Snap)]) rfl a32 rfl (At.box hb207) rfl) ?_
  refine WL.c (Sure.none rfl) rfl (C.call1 rfl cl26 rfl) (Fnc.mono (ref_Bytes (m := m) ⟨v1, v3, rfl, (hl121.ext (Ext.pre hx210)), (hl122.ext (Ext.pre hx210)), hk5⟩ (by assumption) (by assumption)) ?_)
  rintro _ w215 ⟨rfl, hx216⟩
  have hx217 : Ext [b114, b72, b17] w w215 := hx209.trans (Ext.any (Y := [b114, b72, b17]) hx216)
  have hx218 : Ext [b114, b72, b17] w115 w215 := hx210.trans (Ext.any (Y := [b114, b72, b17]) hx216)
  have hx222 : Ext [b114, b72, b17] w176 w215 := hx214.trans (Ext.any (Y := [b114, b72, b17]) hx216)
  have hb224 := hb207.ext hx216 (by simp)
  have hb225 := hb206.ext hx216 (by simp)
  refine WL.z (.bool (seqB (if mayMsgB m = true then bytesB m else ByteArray.mk #[]) (bytesB m))) (V.scmp rfl rfl rfl rfl) ?_
  refine WL.vb (c := seqB (if mayMsgB m = true then bytesB m else ByteArray.mk #[]) (bytesB m)) (Sure.none rfl) rfl (V.move rfl rfl) (fun hc227 => ?_) (fun hc227 => ?_)
  rotate_left
  · refine WL.skips [(66, some false)] [(4, some false)] (kc (some false) rfl kn) (by kernel_rfl) (fun E267 hK268 hE269 => ?_)
    refine WP.ret ?_
    refine resOf.c1 rfl (v := .bool (false)) (hK268 4 (some false) rfl) ?_
    exact ⟨(bool_eq (by first | rfl | exact no_of hy1 hc227)), ((hx217).done (geCons hge_b114_w (geCons hge_b72_w (geCons hge_b17_w geNil))))⟩
  refine WL.my rfl rfl ?_
  refine WL.y (.bool (decide ((if mayMsgB m = true then (0 : Int) else 2) = 0))) rfl (V.cmp rfl rfl rfl rfl) ?_
  refine WL.k (a := true) rfl rfl ?_
  refine WL.vbp (c := (if mayMsgB m = true then (0 : Int) else 2) = 0) (Sure.none rfl) rfl (V.move rfl rfl) (fun hc228 => ?_) (fun hc228 => ?_)
  rotate_left
  · refine WL.skips [(70, some false)] [(4, some false)] (kc (some false) rfl kn) (by kernel_rfl) (fun E264 hK265 hE266 => ?_)
    refine WP.ret ?_
    refine resOf.c1 rfl (v := .bool (false)) (hK265 4 (some false) rfl) ?_
    exact ⟨(bool_eq (by first | rfl | exact absurd hy2 hc228)), ((hx217).done (geCons hge_b114_w (geCons hge_b72_w (geCons hge_b17_w geNil))))⟩
  refine WL.y (.agg #[.int .u8 ((vRead (if mayMsgB m = true then bytesB m else ByteArray.mk #[])).Kind), .int .i64 ((vRead (if mayMsgB m = true then bytesB m else ByteArray.mk #[])).From), .int .i64 ((vRead (if mayMsgB m = true then bytesB m else ByteArray.mk #[])).To), .int .u64 ((vRead (if mayMsgB m = true then bytesB m else ByteArray.mk #[])).Term), .int .u64 ((vRead (if mayMsgB m = true then bytesB m else ByteArray.mk #[])).Index), .int .u64 ((vRead (if mayMsgB m = true then bytesB m else ByteArray.mk #[])).LogTerm), .int .u64 ((vRead (if mayMsgB m = true then bytesB m else ByteArray.mk #[])).Commit), .int .u64 ((vRead (if mayMsgB m = true then bytesB m else ByteArray.mk #[])).Round), .bool ((vRead (if mayMsgB m = true then bytesB m else ByteArray.mk #[])).Ok), v188, v190, .string ((vRead (if mayMsgB m = true then bytesB m else ByteArray.mk #[])).Snap)]) rfl (V.loadAgg (cs := [.int .u8 ((vRead (if mayMsgB m = true then bytesB m else ByteArray.mk #[])).Kind), .int .i64 ((vRead (if mayMsgB m = true then bytesB m else ByteArray.mk #[])).From), .int .i64 ((vRead (if mayMsgB m = true then bytesB m else ByteArray.mk #[])).To), .int .u64 ((vRead (if mayMsgB m = true then bytesB m else ByteArray.mk #[])).Term), .int .u64 ((vRead (if mayMsgB m = true then bytesB m else ByteArray.mk #[])).Index), .int .u64 ((vRead (if mayMsgB m = true then bytesB m else ByteArray.mk #[])).LogTerm), .int .u64 ((vRead (if mayMsgB m = true then bytesB m else ByteArray.mk #[])).Commit), .int .u64 ((vRead (if mayMsgB m = true then bytesB m else ByteArray.mk #[])).Round), .bool ((vRead (if mayMsgB m = true then bytesB m else ByteArray.mk #[])).Ok), v188, v190, .string ((vRead (if mayMsgB m = true then bytesB m else ByteArray.mk #[])).Snap)]) rfl a32 rfl (At.box hb225) rfl) ?_
  refine WL.y (.agg #[.int .u8 (m.Kind), .int .i64 (m.From), .int .i64 (m.To), .int .u64 (m.Term), .int .u64 (m.Index), .int .u64 (m.LogTerm), .int .u64 (m.Commit), .int .u64 (m.Round), .bool (m.Ok), v1, v3, .string (m.Snap)]) rfl (V.loadAgg (cs := [.int .u8 (m.Kind), .int .i64 (m.From), .int .i64 (m.To), .int .u64 (m.Term), .int .u64 (m.Index), .int .u64 (m.LogTerm), .int .u64 (m.Commit), .int .u64 (m.Round), .bool (m.Ok), v1, v3, .string (m.Snap)]) rfl a32 rfl (At.box hb224) rfl) ?_
  refine WL.c (Sure.yes rfl rfl rfl) rfl (C.call2 rfl cl25 rfl rfl) (Fnc.mono (ref_SameMsg (a := (vRead (if mayMsgB m = true then bytesB m else ByteArray.mk #[]))) ⟨v188, v190, rfl, (hl189.ext (Ext.pre hx222)), (hl191.ext (Ext.pre hx222)), hk192⟩ (b := m) ⟨v1, v3, rfl, (hl121.ext (Ext.pre hx218)), (hl122.ext (Ext.pre hx218)), hk5⟩) ?_)
  rintro _ w229 ⟨rfl, hx230⟩
  have hx231 : Ext [b114, b72, b17] w w229 := hx217.trans (Ext.any (Y := [b114, b72, b17]) hx230)
  refine WL.k (a := true) rfl rfl ?_
  refine WL.vb (c := sameMsgB (vRead (if mayMsgB m = true then bytesB m else ByteArray.mk #[])) m) (Sure.none rfl) rfl (V.move rfl rfl) (fun hc242 => ?_) (fun hc242 => ?_)
  rotate_left
  · refine WL.skips [(75, some false)] [(4, some false)] (kc (some false) rfl kn) (by kernel_rfl) (fun E261 hK262 hE263 => ?_)
    refine WP.ret ?_
    refine resOf.c1 rfl (v := .bool (false)) (hK262 4 (some false) rfl) ?_
    exact ⟨(bool_eq (by first | rfl | exact no_of hy3 hc242)), ((hx231).done (geCons hge_b114_w (geCons hge_b72_w (geCons hge_b17_w geNil))))⟩
  refine WL.my rfl rfl ?_
  refine WL.y (.bool (decide ((if vOk (if mayMsgB m = true then bytesB m else ByteArray.mk #[]) = true then (0 : Int) else 2) = 0))) rfl (V.cmp rfl rfl rfl rfl) ?_
  refine WL.k (a := true) rfl rfl ?_
  refine WL.vbp (c := (if vOk (if mayMsgB m = true then bytesB m else ByteArray.mk #[]) = true then (0 : Int) else 2) = 0) (Sure.none rfl) rfl (V.move rfl rfl) (fun hc243 => ?_) (fun hc243 => ?_)
  rotate_left
  · refine WL.skips [(79, some false)] [(4, some false)] (kc (some false) rfl kn) (by kernel_rfl) (fun E258 hK259 hE260 => ?_)
    refine WP.ret ?_
    refine resOf.c1 rfl (v := .bool (false)) (hK259 4 (some false) rfl) ?_
    exact ⟨(bool_eq (by first | rfl | exact absurd hy4 hc243)), ((hx231).done (geCons hge_b114_w (geCons hge_b72_w (geCons hge_b17_w geNil))))⟩
  refine WL.c (Sure.yes rfl rfl rfl) rfl (C.call0 rfl cl8 ) (Fnc.mono (law_alive ) ?_)
  rintro _ w244 ⟨rfl, hx245⟩
  have hx246 : Ext [b114, b72, b17] w w244 := hx231.trans (Ext.any (Y := [b114, b72, b17]) hx245)
  refine WL.k (a := true) rfl rfl ?_
  refine WL.m rfl ?_
  refine WL.nil ?_
  refine WP.ret ?_
  refine resOf.c1 rfl (v := .bool (true)) rfl ?_
  exact ⟨(bool_eq (by first | rfl | exact absurd hy4 hc243)), ((hx246).done (geCons hge_b114_w (geCons hge_b72_w (geCons hge_b17_w geNil))))⟩
end Go.Proofs.Ytbpamkbegggeoaa.X1
namespace Go.Proofs.Ytbpamkbegggeoaa.X1
open T W Go.RowKit
set_option maxRecDepth 100000
set_option maxHeartbeats 400000
theorem u30 : Try.prog.underlying 30 = some (.int .u8) := by kernel_rfl
theorem u4 : Try.prog.underlying 4 = some (.bool) := by kernel_rfl
theorem u88 : Try.prog.underlying 88 = some (.int .u8) := by kernel_rfl
theorem ru30 {H : Type} {enc : TypeId × Value → H} : Ru enc Try.prog 30 (intR .u8) (fun (_ : Int) => True) := Ru.int u30
theorem ru3 {H : Type} {enc : TypeId × Value → H} : Ru enc Try.prog 3 (intR .i64) (fun (_ : Int) => True) := Ru.int u3
theorem ru23 {H : Type} {enc : TypeId × Value → H} : Ru enc Try.prog 23 (intR .u64) (fun (_ : Int) => True) := Ru.int u23
theorem ru4 {H : Type} {enc : TypeId × Value → H} : Ru enc Try.prog 4 boolR (fun (_ : Bool) => True) := Ru.bool u4
theorem ru88 {H : Type} {enc : TypeId × Value → H} : Ru enc Try.prog 88 (intR .u8) (fun (_ : Int) => True) := Ru.int u88
theorem ru9 {H : Type} {enc : TypeId × Value → H} : Ru enc Try.prog 9 strR (fun (s : ByteArray) => s.size ≤ 1048576) := Ru.str u9
theorem ru22 {H : Type} {enc : TypeId × Value → H} : Ru enc Try.prog 22 (slR (intR .i64) (by show (1 : Nat) ≠ 0; decide)) (fun (xs : List Int) => xs.length ≤ 1048576 ∧ ∀ (i : Nat) (x : Int), xs[i]? = some x → (fun (_ : Int) => True) x) := Ru.slice u22 (by kernel_rfl) (by show (1 : Nat) ≠ 0; decide) ru3
def EntryD.Few (x : EntryD) : Prop := (fun (s : ByteArray) => s.size ≤ 1048576) x.Data ∧ (fun (xs : List Int) => xs.length ≤ 1048576 ∧ ∀ (i : Nat) (x : Int), xs[i]? = some x → (fun (_ : Int) => True) x) x.Members
theorem ru90 {H : Type} {enc : TypeId × Value → H} : Ru enc Try.prog 90 entryR EntryD.Few := by
  intro w fuel cs x h hw
  have hl : cs.length = 4 := (ru_len h fl90_0).trans (by kernel_rfl)
  match cs, hl with
  | [c0, c1, c2, c3], _ =>
    obtain ⟨d0, ⟨e0, k0⟩, _⟩ := ru_field h hw fl90_0 (by kernel_rfl) ru23
    replace e0 : [c0] = [.int .u64 (d0)] := e0
    obtain ⟨d1, ⟨e1, k1⟩, _⟩ := ru_field h hw fl90_1 (by kernel_rfl) ru88
    replace e1 : [c1] = [.int .u8 (d1)] := e1
    obtain ⟨d2, ⟨e2, k2⟩, g2⟩ := ru_field h hw fl90_2 (by kernel_rfl) ru9
    replace e2 : [c2] = [.string (d2)] := e2
    obtain ⟨d3, ⟨v3, e3, s3⟩, g3⟩ := ru_field h hw fl90_3 (by kernel_rfl) ru22
    replace e3 : [c3] = [v3] := e3
    cases e0
    cases e1
    cases e2
    cases e3
    exact ⟨{ Term := d0, Kind := d1, Data := d2, Members := d3 }, ⟨_, rfl, s3, ⟨k0, k1, k2⟩⟩, ⟨g2, g3⟩⟩
theorem ru25 {H : Type} {enc : TypeId × Value → H} : Ru enc Try.prog 25 (slR entryR (by show (4 : Nat) ≠ 0; decide)) (fun (xs : List EntryD) => xs.length ≤ 1048576 ∧ ∀ (i : Nat) (x : EntryD), xs[i]? = some x → (EntryD.Few) x) := Ru.slice u25 (by kernel_rfl) (by show (4 : Nat) ≠ 0; decide) ru90
def MsgD.Few (x : MsgD) : Prop := (fun (xs : List EntryD) => xs.length ≤ 1048576 ∧ ∀ (i : Nat) (x : EntryD), xs[i]? = some x → (EntryD.Few) x) x.Entries ∧ (fun (xs : List Int) => xs.length ≤ 1048576 ∧ ∀ (i : Nat) (x : Int), xs[i]? = some x → (fun (_ : Int) => True) x) x.Members ∧ (fun (s : ByteArray) => s.size ≤ 1048576) x.Snap
theorem ru32 {H : Type} {enc : TypeId × Value → H} : Ru enc Try.prog 32 msgR MsgD.Few := by
  intro w fuel cs x h hw
  have hl : cs.length = 12 := (ru_len h fl32_0).trans (by kernel_rfl)
  match cs, hl with
  | [c0, c1, c2, c3, c4, c5, c6, c7, c8, c9, c10, c11], _ =>
    obtain ⟨d0, ⟨e0, k0⟩, _⟩ := ru_field h hw fl32_0 (by kernel_rfl) ru30
    replace e0 : [c0] = [.int .u8 (d0)] := e0
    obtain ⟨d1, ⟨e1, k1⟩, _⟩ := ru_field h hw fl32_1 (by kernel_rfl) ru3
    replace e1 : [c1] = [.int .i64 (d1)] := e1
    obtain ⟨d2, ⟨e2, k2⟩, _⟩ := ru_field h hw fl32_2 (by kernel_rfl) ru3
    replace e2 : [c2] = [.int .i64 (d2)] := e2
    obtain ⟨d3, ⟨e3, k3⟩, _⟩ := ru_field h hw fl32_3 (by kernel_rfl) ru23
    replace e3 : [c3] = [.int .u64 (d3)] := e3
    obtain ⟨d4, ⟨e4, k4⟩, _⟩ := ru_field h hw fl32_4 (by kernel_rfl) ru23
    replace e4 : [c4] = [.int .u64 (d4)] := e4
    obtain ⟨d5, ⟨e5, k5⟩, _⟩ := ru_field h hw fl32_5 (by kernel_rfl) ru23
    replace e5 : [c5] = [.int .u64 (d5)] := e5
    obtain ⟨d6, ⟨e6, k6⟩, _⟩ := ru_field h hw fl32_6 (by kernel_rfl) ru23
    replace e6 : [c6] = [.int .u64 (d6)] := e6
    obtain ⟨d7, ⟨e7, k7⟩, _⟩ := ru_field h hw fl32_7 (by kernel_rfl) ru23
    replace e7 : [c7] = [.int .u64 (d7)] := e7
    obtain ⟨d8, e8, _⟩ := ru_field h hw fl32_8 (by kernel_rfl) ru4
    replace e8 : [c8] = [.bool (d8)] := e8
    obtain ⟨d9, ⟨v9, e9, s9⟩, g9⟩ := ru_field h hw fl32_9 (by kernel_rfl) ru25
    replace e9 : [c9] = [v9] := e9
    obtain ⟨d10, ⟨v10, e10, s10⟩, g10⟩ := ru_field h hw fl32_10 (by kernel_rfl) ru22
    replace e10 : [c10] = [v10] := e10
    obtain ⟨d11, ⟨e11, k11⟩, g11⟩ := ru_field h hw fl32_11 (by kernel_rfl) ru9
    replace e11 : [c11] = [.string (d11)] := e11
    cases e0
    cases e1
    cases e2
    cases e3
    cases e4
    cases e5
    cases e6
    cases e7
    cases e8
    cases e9
    cases e10
    cases e11
    exact ⟨{ Kind := d0, From := d1, To := d2, Term := d3, Index := d4, LogTerm := d5, Commit := d6, Round := d7, Ok := d8, Entries := d9, Members := d10, Snap := d11 }, ⟨_, _, rfl, s9, s10, ⟨k0, k1, k2, k3, k4, k5, k6, k7, k11⟩⟩, ⟨g9, g10, g11⟩⟩
theorem ents_in {X : List Nat} {w : World} {v : Value} {l : List EntryD} (h : Sl entryR X w v l) : ∀ k, k < l.length → (l.getD k default).InR := by
  intro k hk
  obtain ⟨_, _, _, _, _, _, hr, _⟩ := h.get (getD_some hk default)
  obtain ⟨_, _, _, hk⟩ := hr
  exact hk
theorem few_small {m : MsgD} (h : MsgD.Few m) : MsgSm m := by
  obtain ⟨⟨_, he⟩, _, hs⟩ := h
  refine ⟨fun k hk => ?_, hs⟩
  exact (he k _ (getD_some hk default)).1
theorem call_VoteBytes {W : World} {m : MsgD} {c : List Value} {s : ByteArray} (hm : msgR.rd [] W c m) (gm : MsgD.Few m) : Fnc Try.prog 4 #[.agg c.toArray, .string s] W fun v w' => v = .bool true ∧ Ext [] W w' := by
  have hm' := hm
  obtain ⟨_, _, _, he, _, hi⟩ := hm'
  exact law_VoteBytes hm s (few_small gm) hi (ents_in he) (fun x hx => by cases hx)
end Go.Proofs.Ytbpamkbegggeoaa.X1
