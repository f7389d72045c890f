import Derived.Test.YtbpamkbegggeoaaV11
namespace Go.Proofs.Ytbpamkbegggeoaa.T
open W Go.RowKit
set_option maxRecDepth 100000
set_option maxHeartbeats 400000

set_option maxHeartbeats 4000000 in
theorem ref_MayMsg {w : World} {X : List Nat} {m : MsgD} {c_m : List Value} (h_m : msgR.rd X w c_m m) : Fnc Try.prog 13 #[.agg c_m.toArray] w (fun v w' => v = .bool (refMayMsgB m) ∧ Ext [] w w') := by
  obtain ⟨v1, v3, rfl, hl2, hl4, hk5⟩ := h_m
  obtain ⟨hin6, hin7, hin8, hin9, hin10, hin11, hin12, hin13, hin14⟩ := (show MsgD.InR m from hk5)
  have hin6 := inK_u8 hin6
  have hin7 := inK_i64 hin7
  have hin8 := inK_i64 hin8
  have hin9 := inK_u64 hin9
  have hin10 := inK_u64 hin10
  have hin11 := inK_u64 hin11
  have hin12 := inK_u64 hin12
  have hin13 := inK_u64 hin13
  have hle15 := hl2.le'
  have hle16 := hl4.le'
  refine Fnc.of_WP (n := 175) Try.func13 rfl Try.ntmps13 (by simp) ?_
  intro E hE
  have h0 : E 0 = .agg #[.int .u8 (m.Kind), .int .i64 (m.From), .int .i64 (m.To), .int .u64 (m.Term), .int .u64 (m.Index), .int .u64 (m.LogTerm), .int .u64 (m.Commit), .int .u64 (m.Round), .bool (m.Ok), v1, v3, .string (m.Snap)] := hE 0 (by simp)
  clear hE
  refine WP.sr ?_
  refine WL.box (x := .tmp 0) (cs := [.int .u8 (m.Kind), .int .i64 (m.From), .int .i64 (m.To), .int .u64 (m.Term), .int .u64 (m.Index), .int .u64 (m.LogTerm), .int .u64 (m.Commit), .int .u64 (m.Round), .bool (m.Ok), v1, v3, .string (m.Snap)]) (Sure.none rfl) rfl rfl h0 rfl (fun b17 w18 hx19 he20 hb21 => ?_)
  have hl22 := (Sl.new (b := b17) (by show (4 : Nat) ≠ 0; decide) hl2 (by omega)).ext (Ext.any hx19)
  have hl23 := (Sl.new (b := b17) (by show (1 : Nat) ≠ 0; decide) hl4 (by omega)).ext (Ext.any hx19)
  have hx24 : Ext [b17] _ _ := (Ext.refl _ _).trans (Ext.any hx19)
  have hge_b17_w : w.heap.size ≤ b17 := by have := Nat.le_refl w.heap.size; omega
  refine WL.m rfl ?_
  refine WL.nil ?_
  refine WP.seq ?_
  refine WP.sr ?_
  refine WL.f (.int .i64 (m.From)) fl32_1 rfl p3 (hb21.cell rfl) ?_
  refine WL.c (Sure.none rfl) rfl (C.call1 rfl cl37 rfl) (Fnc.mono (ref_id m.From) ?_)
  rintro _ w25 ⟨rfl, hx26⟩
  have hx27 : Ext [b17] w w25 := hx24.trans (Ext.any (Y := [b17]) hx26)
  have hx28 : Ext [b17] w18 w25 := (Ext.any (Y := [b17]) hx26)
  have hb29 := hb21.ext hx26 (by simp)
  refine WL.z (.bool (!(idB m.From))) (V.not rfl rfl) ?_
  refine WL.vbn (c := idB m.From) (Sure.none rfl) rfl (V.move rfl rfl) (fun hc30 => ?_) (fun hc30 => ?_)
  · refine WL.skips [(8, some true)] [(47, some true)] (kc (some true) rfl kn) (by kernel_rfl) (fun E31 hK32 hE33 => ?_)
    refine WP.cond_true (hK32 47 (some true) rfl) ?_
    refine WP.sr ?_
    refine WL.m rfl ?_
    refine WL.nil ?_
    refine WP.ret ?_
    refine resOf.c1 rfl (v := .bool (false)) rfl ?_
    exact ⟨(bool_eq (by first | assumption | grind [refMayMsgB, hdB, tailB, eqzB, membersB])), ((hx27).done (geCons hge_b17_w geNil))⟩
  refine WL.fy (.int .i64 (m.To)) rfl fl32_2 rfl p3 (hb29.cell rfl) ?_
  refine WL.c (Sure.yes rfl rfl rfl) rfl (C.call1 rfl cl37 rfl) (Fnc.mono (ref_id m.To) ?_)
  rintro _ w34 ⟨rfl, hx35⟩
  have hx36 : Ext [b17] w w34 := hx27.trans (Ext.any (Y := [b17]) hx35)
  have hx37 : Ext [b17] w18 w34 := hx28.trans (Ext.any (Y := [b17]) hx35)
  have hb39 := hb29.ext hx35 (by simp)
  refine WL.y (.bool (!(idB m.To))) rfl (V.not rfl rfl) ?_
  refine WL.k (a := false) rfl rfl ?_
  refine WL.vbn (c := idB m.To) (Sure.none rfl) rfl (V.move rfl rfl) (fun hc40 => ?_) (fun hc40 => ?_)
  · refine WL.skips [(14, some true)] [(47, some true)] (kc (some true) rfl kn) (by kernel_rfl) (fun E41 hK42 hE43 => ?_)
    refine WP.cond_true (hK42 47 (some true) rfl) ?_
    refine WP.sr ?_
    refine WL.m rfl ?_
    refine WL.nil ?_
    refine WP.ret ?_
    refine resOf.c1 rfl (v := .bool (false)) rfl ?_
    exact ⟨(bool_eq (by first | assumption | grind [refMayMsgB, hdB, tailB, eqzB, membersB])), ((hx36).done (geCons hge_b17_w geNil))⟩
  refine WL.fy (.int .i64 (m.From)) rfl fl32_1 rfl p3 (hb39.cell rfl) ?_
  refine WL.fy (.int .i64 (m.To)) rfl fl32_2 rfl p3 (hb39.cell rfl) ?_
  refine WL.y (.bool (decide (m.From = m.To))) rfl (V.cmp rfl rfl rfl rfl) ?_
  refine WL.k (a := false) rfl rfl ?_
  refine WL.vbp (c := m.From = m.To) (Sure.none rfl) rfl (V.move rfl rfl) (fun hc44 => ?_) (fun hc44 => ?_)
  · refine WL.skips [(21, some true)] [(47, some true)] (kc (some true) rfl kn) (by kernel_rfl) (fun E45 hK46 hE47 => ?_)
    refine WP.cond_true (hK46 47 (some true) rfl) ?_
    refine WP.sr ?_
    refine WL.m rfl ?_
    refine WL.nil ?_
    refine WP.ret ?_
    refine resOf.c1 rfl (v := .bool (false)) rfl ?_
    exact ⟨(bool_eq (by first | assumption | grind [refMayMsgB, hdB, tailB, eqzB, membersB])), ((hx36).done (geCons hge_b17_w geNil))⟩
  refine WL.fy (.int .u64 (m.Term)) rfl fl32_3 rfl p23 (hb39.cell rfl) ?_
  refine WL.y (.bool (decide (m.Term = 0))) rfl (V.cmp rfl rfl rfl rfl) ?_
  refine WL.k (a := false) rfl rfl ?_
  refine WL.vbp (c := m.Term = 0) (Sure.none rfl) rfl (V.move rfl rfl) (fun hc48 => ?_) (fun hc48 => ?_)
  · refine WL.skips [(26, some true)] [(47, some true)] (kc (some true) rfl kn) (by kernel_rfl) (fun E49 hK50 hE51 => ?_)
    refine WP.cond_true (hK50 47 (some true) rfl) ?_
    refine WP.sr ?_
    refine WL.m rfl ?_
    refine WL.nil ?_
    refine WP.ret ?_
    refine resOf.c1 rfl (v := .bool (false)) rfl ?_
    exact ⟨(bool_eq (by first | assumption | grind [refMayMsgB, hdB, tailB, eqzB, membersB])), ((hx36).done (geCons hge_b17_w geNil))⟩
  refine WL.fy (.int .u64 (m.Term)) rfl fl32_3 rfl p23 (hb39.cell rfl) ?_
  refine WL.y (.bool (decide (m.Term > 4611686018427387904))) rfl (V.cmp rfl rfl rfl rfl) ?_
  refine WL.k (a := false) rfl rfl ?_
  refine WL.vbp (c := m.Term > 4611686018427387904) (Sure.none rfl) rfl (V.move rfl rfl) (fun hc52 => ?_) (fun hc52 => ?_)
  · refine WL.skips [(31, some true)] [(47, some true)] (kc (some true) rfl kn) (by kernel_rfl) (fun E53 hK54 hE55 => ?_)
    refine WP.cond_true (hK54 47 (some true) rfl) ?_
    refine WP.sr ?_
    refine WL.m rfl ?_
    refine WL.nil ?_
    refine WP.ret ?_
    refine resOf.c1 rfl (v := .bool (false)) rfl ?_
    exact ⟨(bool_eq (by first | assumption | grind [refMayMsgB, hdB, tailB, eqzB, membersB])), ((hx36).done (geCons hge_b17_w geNil))⟩
  refine WL.fy (.int .u64 (m.Round)) rfl fl32_7 rfl p23 (hb39.cell rfl) ?_
  refine WL.y (.bool (decide (m.Round > 4611686018427387904))) rfl (V.cmp rfl rfl rfl rfl) ?_
  refine WL.k (a := false) rfl rfl ?_
  refine WL.vbp (c := m.Round > 4611686018427387904) (Sure.none rfl) rfl (V.move rfl rfl) (fun hc56 => ?_) (fun hc56 => ?_)
  · refine WL.skips [(36, some true)] [(47, some true)] (kc (some true) rfl kn) (by kernel_rfl) (fun E57 hK58 hE59 => ?_)
    refine WP.cond_true (hK58 47 (some true) rfl) ?_
    refine WP.sr ?_
    refine WL.m rfl ?_
    refine WL.nil ?_
    refine WP.ret ?_
    refine resOf.c1 rfl (v := .bool (false)) rfl ?_
    exact ⟨(bool_eq (by first | assumption | grind [refMayMsgB, hdB, tailB, eqzB, membersB])), ((hx36).done (geCons hge_b17_w geNil))⟩
  refine WL.fy (.int .u64 (m.Index)) rfl fl32_4 rfl p23 (hb39.cell rfl) ?_
  refine WL.y (.bool (decide (m.Index > 4611686018427387904))) rfl (V.cmp rfl rfl rfl rfl) ?_
  refine WL.k (a := false) rfl rfl ?_
  refine WL.vbp (c := m.Index > 4611686018427387904) (Sure.none rfl) rfl (V.move rfl rfl) (fun hc60 => ?_) (fun hc60 => ?_)
  · refine WL.skips [(41, some true)] [(47, some true)] (kc (some true) rfl kn) (by kernel_rfl) (fun E61 hK62 hE63 => ?_)
    refine WP.cond_true (hK62 47 (some true) rfl) ?_
    refine WP.sr ?_
    refine WL.m rfl ?_
    refine WL.nil ?_
    refine WP.ret ?_
    refine resOf.c1 rfl (v := .bool (false)) rfl ?_
    exact ⟨(bool_eq (by first | assumption | grind [refMayMsgB, hdB, tailB, eqzB, membersB])), ((hx36).done (geCons hge_b17_w geNil))⟩
  refine WL.fy (.int .u64 (m.LogTerm)) rfl fl32_5 rfl p23 (hb39.cell rfl) ?_
  refine WL.fy (.int .u64 (m.Term)) rfl fl32_3 rfl p23 (hb39.cell rfl) ?_
  refine WL.y (.bool (decide (m.LogTerm > m.Term))) rfl (V.cmp rfl rfl rfl rfl) ?_
  refine WL.k (a := false) rfl rfl ?_
  refine WL.nil ?_
  refine WP.condp (t := m.LogTerm > m.Term) rfl (fun hc64 => ?_) (fun hc64 => ?_)
  · refine WP.sr ?_
    refine WL.m rfl ?_
    refine WL.nil ?_
    refine WP.ret ?_
    refine resOf.c1 rfl (v := .bool (false)) rfl ?_
    exact ⟨(bool_eq (by first | assumption | grind [refMayMsgB, hdB, tailB, eqzB, membersB])), ((hx36).done (geCons hge_b17_w geNil))⟩
  refine WP.skip ?_
  refine WP.sr ?_
  refine WL.f (.int .u8 (m.Kind)) fl32_0 rfl p30 (hb39.cell rfl) ?_
  refine WL.f (.int .i64 (m.From)) fl32_1 rfl p3 (hb39.cell rfl) ?_
  refine WL.f (.int .i64 (m.To)) fl32_2 rfl p3 (hb39.cell rfl) ?_
  refine WL.f (.int .u64 (m.Term)) fl32_3 rfl p23 (hb39.cell rfl) ?_
  refine WL.z (.agg #[.int .u8 (m.Kind), .int .i64 (m.From), .int .i64 (m.To), .int .u64 (m.Term), .int .u64 (0), .int .u64 (0), .int .u64 (0), .int .u64 (0), .bool (false), .slice none 0 0, .slice none 0 0, .string (ByteArray.mk #[])]) (V.build1 (L := [(0, .int .u8 (m.Kind)), (1, .int .i64 (m.From)), (2, .int .i64 (m.To)), (3, .int .u64 (m.Term))]) rfl (psCons rfl (psCons rfl (psCons rfl (psCons rfl rfl)))) (bu32_03453412 m.Kind m.From m.To m.Term)) ?_
  refine WL.alloc (cs := [.int .u8 (0), .int .i64 (0), .int .i64 (0), .int .u64 (0), .int .u64 (0), .int .u64 (0), .int .u64 (0), .int .u64 (0), .bool (false), .slice none 0 0, .slice none 0 0, .string (ByteArray.mk #[])]) (Sure.none rfl) rfl rfl z32 rfl (fun b65 w66 hx67 he68 hb69 => ?_)
  have hlt_b17_b65 : b17 < b65 := by have := hb39.lt; omega
  have hb70 := hb39.ext hx67 (by simp)
  have hl71 := (Sl.new (b := b65) (by show (4 : Nat) ≠ 0; decide) (hl22.ext (Ext.pre hx37)) (by omega)).ext (Ext.any hx67)
  have hl72 := (Sl.new (b := b65) (by show (1 : Nat) ≠ 0; decide) (hl23.ext (Ext.pre hx37)) (by omega)).ext (Ext.any hx67)
  have hx73 : Ext [b65, b17] _ _ := (Ext.cons hx36).trans (Ext.any hx67)
  have hge_b65_w : w.heap.size ≤ b65 := by have := hx36.size; omega
  refine WL.storeAgg (vs := [.int .u8 (m.Kind), .int .i64 (m.From), .int .i64 (m.To), .int .u64 (m.Term), .int .u64 (0), .int .u64 (0), .int .u64 (0), .int .u64 (0), .bool (false), .slice none 0 0, .slice none 0 0, .string (ByteArray.mk #[])]) (Sure.none rfl) rfl rfl s32 rfl rfl rfl (by intro u hu; simp only [List.mem_cons, List.not_mem_nil, or_false] at hu; rcases hu with rfl | rfl | rfl | rfl | rfl | rfl | rfl | rfl | rfl | rfl | rfl | rfl <;> first | rfl | exact Sl.one (by assumption)) hb69 (by show (0 : Nat) + 12 ≤ 12; decide) (fun w74 hs75 hb76 => ?_)
  replace hb76 : Box w74 b65 32 [.int .u8 (m.Kind), .int .i64 (m.From), .int .i64 (m.To), .int .u64 (m.Term), .int .u64 (0), .int .u64 (0), .int .u64 (0), .int .u64 (0), .bool (false), .slice none 0 0, .slice none 0 0, .string (ByteArray.mk #[])] := hb76
  have hb77 := hb70.ext hs75 (by simp; omega)
  have hx78 : Ext [b65, b17] w w74 := hx73.trans (hs75.mono (by simp))
  have hx79 : Ext [b65, b17] w66 w74 := (hs75.mono (by simp))
  refine WL.nil ?_
  refine WP.seq ?_
  refine WP.sr ?_
  refine WL.f (.int .u8 (m.Kind)) fl32_0 rfl p30 (hb77.cell rfl) ?_
  refine WL.nil ?_
  refine WP.block ?_
  refine WP.sr ?_
  refine WL.z (.bool (decide (m.Kind = 1))) (V.cmp rfl rfl rfl rfl) ?_
  refine WL.m rfl ?_
  refine WL.nil ?_
  refine WP.condp (t := m.Kind = 1) rfl (fun hc80 => ?_) (fun hc80 => ?_)
  · refine WP.sr ?_
    refine WL.f (.int .u64 (m.Index)) fl32_4 rfl p23 (hb77.cell rfl) ?_
    refine WL.z (.pointer (some ⟨b65, 4, none⟩)) (V.fieldAddr rfl fl32_4 rfl) ?_
    refine WL.store (Sure.none rfl) rfl rfl s23 rfl rfl rfl hb76 (by show (4 : Nat) < 12; decide) (fun w81 hs82 hb83 => ?_)
    replace hb83 : Box w81 b65 32 [.int .u8 (m.Kind), .int .i64 (m.From), .int .i64 (m.To), .int .u64 (m.Term), .int .u64 (m.Index), .int .u64 (0), .int .u64 (0), .int .u64 (0), .bool (false), .slice none 0 0, .slice none 0 0, .string (ByteArray.mk #[])] := hb83
    have hb84 := hb77.ext hs82 (by simp; omega)
    have hx85 : Ext [b65, b17] w w81 := hx78.trans (hs82.mono (by simp))
    have hx86 : Ext [b65, b17] w66 w81 := hx79.trans (hs82.mono (by simp))
    refine WL.nil ?_
    refine WP.region ?_
    refine WL.f (.int .u64 (m.LogTerm)) fl32_5 rfl p23 (hb84.cell rfl) ?_
    refine WL.z (.pointer (some ⟨b65, 5, none⟩)) (V.fieldAddr rfl fl32_5 rfl) ?_
    refine WL.store (Sure.none rfl) rfl rfl s23 rfl rfl rfl hb83 (by show (5 : Nat) < 12; decide) (fun w88 hs89 hb90 => ?_)
    replace hb90 : Box w88 b65 32 [.int .u8 (m.Kind), .int .i64 (m.From), .int .i64 (m.To), .int .u64 (m.Term), .int .u64 (m.Index), .int .u64 (m.LogTerm), .int .u64 (0), .int .u64 (0), .bool (false), .slice none 0 0, .slice none 0 0, .string (ByteArray.mk #[])] := hb90
    have hb91 := hb84.ext hs89 (by simp; omega)
    have hx92 : Ext [b65, b17] w w88 := hx85.trans (hs89.mono (by simp))
    have hx93 : Ext [b65, b17] w66 w88 := hx86.trans (hs89.mono (by simp))
    refine WL.nil ?_
    refine WP.seq ?_
    refine WP.sr ?_
    refine WL.z (.agg #[.int .u8 (m.Kind), .int .i64 (m.From), .int .i64 (m.To), .int .u64 (m.Term), .int .u64 (m.Index), .int .u64 (m.LogTerm), .int .u64 (0), .int .u64 (0), .bool (false), .slice none 0 0, .slice none 0 0, .string (ByteArray.mk #[])]) (V.loadAgg (cs := [.int .u8 (m.Kind), .int .i64 (m.From), .int .i64 (m.To), .int .u64 (m.Term), .int .u64 (m.Index), .int .u64 (m.LogTerm), .int .u64 (0), .int .u64 (0), .bool (false), .slice none 0 0, .slice none 0 0, .string (ByteArray.mk #[])]) rfl a32 rfl (At.box hb90) rfl) ?_
    refine WL.z (.agg #[.int .u8 (m.Kind), .int .i64 (m.From), .int .i64 (m.To), .int .u64 (m.Term), .int .u64 (m.Index), .int .u64 (m.LogTerm), .int .u64 (m.Commit), .int .u64 (m.Round), .bool (m.Ok), v1, v3, .string (m.Snap)]) (V.loadAgg (cs := [.int .u8 (m.Kind), .int .i64 (m.From), .int .i64 (m.To), .int .u64 (m.Term), .int .u64 (m.Index), .int .u64 (m.LogTerm), .int .u64 (m.Commit), .int .u64 (m.Round), .bool (m.Ok), v1, v3, .string (m.Snap)]) rfl a32 rfl (At.box hb91) rfl) ?_
    refine WL.c (Sure.none rfl) rfl (C.call2 rfl cl25 rfl rfl) (Fnc.mono (ref_SameMsg (a := ({ Kind := m.Kind, From := m.From, To := m.To, Term := m.Term, Index := m.Index, LogTerm := m.LogTerm, Commit := 0, Round := 0, Ok := false, Entries := [], Members := [], Snap := (ByteArray.mk #[]) } : MsgD)) ⟨.slice none 0 0, .slice none 0 0, rfl, Sl.nil, Sl.nil, ⟨(inK_u8' (n := m.Kind) (by omega)), (inK_i64' (n := m.From) (by omega)), (inK_i64' (n := m.To) (by omega)), (inK_u64' (n := m.Term) (by omega)), (inK_u64' (n := m.Index) (by omega)), (inK_u64' (n := m.LogTerm) (by omega)), (inK_u64' (n := 0) (by omega)), (inK_u64' (n := 0) (by omega)), (Nat.zero_le _)⟩⟩ (b := m) ⟨v1, v3, rfl, (hl71.ext (Ext.pre hx93)), (hl72.ext (Ext.pre hx93)), hk5⟩) ?_)
    rintro _ w96 ⟨rfl, hx97⟩
    have hx98 : Ext [b65, b17] w w96 := hx92.trans (Ext.any (Y := [b65, b17]) hx97)
    have hx99 : Ext [b65, b17] w66 w96 := hx93.trans (Ext.any (Y := [b65, b17]) hx97)
    have hb103 := hb91.ext hx97 (by simp)
    refine WL.z (.bool (!(sameMsgB ({ Kind := m.Kind, From := m.From, To := m.To, Term := m.Term, Index := m.Index, LogTerm := m.LogTerm, Commit := 0, Round := 0, Ok := false, Entries := [], Members := [], Snap := (ByteArray.mk #[]) } : MsgD) m))) (V.not rfl rfl) ?_
    refine WL.nil ?_
    refine WP.condn (t := sameMsgB ({ Kind := m.Kind, From := m.From, To := m.To, Term := m.Term, Index := m.Index, LogTerm := m.LogTerm, Commit := 0, Round := 0, Ok := false, Entries := [], Members := [], Snap := (ByteArray.mk #[]) } : MsgD) m) rfl (fun hc105 => ?_) (fun hc105 => ?_)
    · refine WP.sr ?_
      refine WL.m rfl ?_
      refine WL.nil ?_
      refine WP.ret ?_
      refine resOf.c1 rfl (v := .bool (false)) rfl ?_
      exact ⟨(bool_eq (by first | assumption | grind [refMayMsgB, hdB, tailB, eqzB, membersB])), ((hx98).done (geCons hge_b65_w (geCons hge_b17_w geNil)))⟩
    refine WP.skip ?_
    refine WP.seq ?_
    refine WP.sr ?_
    refine WL.f (.int .u8 (m.Kind)) fl32_0 rfl p30 (hb103.cell rfl) ?_
    refine WL.z (.bool (decide (m.Kind = 1))) (V.cmp rfl rfl rfl rfl) ?_
    refine WL.vbp (c := m.Kind = 1) (Sure.none rfl) rfl (V.move rfl rfl) (fun hc106 => ?_) (fun hc106 => ?_)
    · refine WL.s (Shut.no rfl rfl rfl rfl) rfl ?_
      refine WL.s (Shut.no rfl rfl rfl rfl) rfl ?_
      refine WL.s (Shut.no rfl rfl rfl rfl) rfl ?_
      refine WL.k (a := true) rfl rfl ?_
      refine WL.m rfl ?_
      refine WL.fy (.int .u64 (m.Index)) rfl fl32_4 rfl p23 (hb103.cell rfl) ?_
      refine WL.y (.bool (decide (m.Index = 0))) rfl (V.cmp rfl rfl rfl rfl) ?_
      refine WL.fy (.int .u64 (m.LogTerm)) rfl fl32_5 rfl p23 (hb103.cell rfl) ?_
      refine WL.y (.bool (decide (m.LogTerm = 0))) rfl (V.cmp rfl rfl rfl rfl) ?_
      refine WL.y (.bool (!((decide (m.Index = 0)) == (decide (m.LogTerm = 0))))) rfl (V.bcmpNe rfl u4 rfl rfl) ?_
      refine WL.k (a := true) rfl rfl ?_
      refine WL.nil ?_
      refine WP.condn (t := (decide (m.Index = 0)) == (decide (m.LogTerm = 0))) rfl (fun hc107 => ?_) (fun hc107 => ?_)
      · refine WP.sr ?_
        refine WL.m rfl ?_
        refine WL.nil ?_
        refine WP.ret ?_
        refine resOf.c1 rfl (v := .bool (false)) rfl ?_
        exact ⟨(bool_eq (by first | assumption | grind [refMayMsgB, hdB, tailB, eqzB, membersB])), ((hx98).done (geCons hge_b65_w (geCons hge_b17_w geNil)))⟩
      refine WP.skip ?_
      refine WP.sr ?_
      refine WL.f (v1) fl32_9 rfl p25 (hb103.cell rfl) ?_
      obtain ⟨a108, c109, hv110⟩ := hl71.shape
      refine WL.z (.int .i64 (((m.Entries).length : Int))) (V.lenSlice rfl rfl u25 (Eq.trans (b := v1) rfl hv110)) ?_
      refine WL.z (.bool (decide (((m.Entries).length : Int) ≤ 16))) (V.cmp rfl rfl rfl rfl) ?_
      refine WL.vbp (c := ((m.Entries).length : Int) ≤ 16) (Sure.none rfl) rfl (V.move rfl rfl) (fun hc111 => ?_) (fun hc111 => ?_)
      rotate_left
      · refine WL.skips [(166, some false)] [(2, some false)] (kc (some false) rfl kn) (by kernel_rfl) (fun E122 hK123 hE124 => ?_)
        refine WP.ret ?_
        refine resOf.c1 rfl (v := .bool (false)) (hK123 2 (some false) rfl) ?_
        exact ⟨(bool_eq (by first | assumption | grind [refMayMsgB, hdB, tailB, eqzB, membersB])), ((hx98).done (geCons hge_b65_w (geCons hge_b17_w geNil)))⟩
      refine WL.fy (v1) rfl fl32_9 rfl p25 (hb103.cell rfl) ?_
      refine WL.fy (.int .u64 (m.LogTerm)) rfl fl32_5 rfl p23 (hb103.cell rfl) ?_
      refine WL.fy (.int .u64 (m.Term)) rfl fl32_3 rfl p23 (hb103.cell rfl) ?_
      refine WL.c (Sure.yes rfl rfl rfl) rfl (C.call3 rfl cl39 rfl rfl rfl) (Fnc.mono (ref_entries (hl71.ext (Ext.pre hx99)) m.LogTerm m.Term (by omega)) ?_)
      rintro _ w112 ⟨rfl, hx113⟩
      have hx114 : Ext [b65, b17] w w112 := hx98.trans (Ext.any (Y := [b65, b17]) hx113)
      refine WL.k (a := true) rfl rfl ?_
      refine WL.m rfl ?_
      refine WL.nil ?_
      refine WP.ret ?_
      refine resOf.c1 rfl (v := .bool (entsB m.Entries m.LogTerm m.Term)) rfl ?_
      exact ⟨(bool_eq (by first | assumption | grind [refMayMsgB, hdB, tailB, eqzB, membersB])), ((hx114).done (geCons hge_b65_w (geCons hge_b17_w geNil)))⟩
    refine WL.fy (.int .u8 (m.Kind)) rfl fl32_0 rfl p30 (hb103.cell rfl) ?_
    refine WL.y (.bool (decide (m.Kind = 3))) rfl (V.cmp rfl rfl rfl rfl) ?_
    refine WL.k (a := false) rfl rfl ?_
    refine WL.vbp (c := m.Kind = 3) (Sure.none rfl) rfl (V.move rfl rfl) (fun hc125 => ?_) (fun hc125 => ?_)
    rotate_left
    · refine WL.skips [(153, some false)] [(161, some false)] (kc (some false) rfl kn) (by kernel_rfl) (fun E144 hK145 hE146 => ?_)
      refine WP.cond_false (hK145 161 (some false) rfl) ?_
      refine WP.skip ?_
      refine WP.sr ?_
      refine WL.f (x := .tmp 1) (v1) fl32_9 (hE146 1 rfl) p25 (hb103.cell rfl) ?_
      obtain ⟨a147, c148, hv149⟩ := hl71.shape
      refine WL.z (.int .i64 (((m.Entries).length : Int))) (V.lenSlice rfl rfl u25 (Eq.trans (b := v1) rfl hv149)) ?_
      refine WL.z (.bool (decide (((m.Entries).length : Int) ≤ 16))) (V.cmp rfl rfl rfl rfl) ?_
      refine WL.vbp (c := ((m.Entries).length : Int) ≤ 16) (Sure.none rfl) rfl (V.move rfl rfl) (fun hc150 => ?_) (fun hc150 => ?_)
      rotate_left
      · refine WL.skips [(166, some false)] [(2, some false)] (kc (some false) rfl kn) (by kernel_rfl) (fun E161 hK162 hE163 => ?_)
        refine WP.ret ?_
        refine resOf.c1 rfl (v := .bool (false)) (hK162 2 (some false) rfl) ?_
        exact ⟨(bool_eq (by first | assumption | grind [refMayMsgB, hdB, tailB, eqzB, membersB])), ((hx98).done (geCons hge_b65_w (geCons hge_b17_w geNil)))⟩
      refine WL.fy (x := .tmp 1) (v1) rfl fl32_9 (hE146 1 rfl) p25 (hb103.cell rfl) ?_
      refine WL.fy (x := .tmp 1) (.int .u64 (m.LogTerm)) rfl fl32_5 (hE146 1 rfl) p23 (hb103.cell rfl) ?_
      refine WL.fy (x := .tmp 1) (.int .u64 (m.Term)) rfl fl32_3 (hE146 1 rfl) p23 (hb103.cell rfl) ?_
      refine WL.c (Sure.yes rfl rfl rfl) rfl (C.call3 rfl cl39 rfl rfl rfl) (Fnc.mono (ref_entries (hl71.ext (Ext.pre hx99)) m.LogTerm m.Term (by omega)) ?_)
      rintro _ w151 ⟨rfl, hx152⟩
      have hx153 : Ext [b65, b17] w w151 := hx98.trans (Ext.any (Y := [b65, b17]) hx152)
      refine WL.k (a := true) rfl rfl ?_
      refine WL.m rfl ?_
      refine WL.nil ?_
      refine WP.ret ?_
      refine resOf.c1 rfl (v := .bool (entsB m.Entries m.LogTerm m.Term)) rfl ?_
      exact ⟨(bool_eq (by first | assumption | grind [refMayMsgB, hdB, tailB, eqzB, membersB])), ((hx153).done (geCons hge_b65_w (geCons hge_b17_w geNil)))⟩
    refine WL.fy (.int .u64 (m.Index)) rfl fl32_4 rfl p23 (hb103.cell rfl) ?_
    refine WL.y (.bool (decide (m.Index = 0))) rfl (V.cmp rfl rfl rfl rfl) ?_
    refine WL.fy (.int .u64 (m.LogTerm)) rfl fl32_5 rfl p23 (hb103.cell rfl) ?_
    refine WL.y (.bool (decide (m.LogTerm = 0))) rfl (V.cmp rfl rfl rfl rfl) ?_
    refine WL.y (.bool (!((decide (m.Index = 0)) == (decide (m.LogTerm = 0))))) rfl (V.bcmpNe rfl u4 rfl rfl) ?_
    refine WL.k (a := true) rfl rfl ?_
    refine WL.nil ?_
    refine WP.condn (t := (decide (m.Index = 0)) == (decide (m.LogTerm = 0))) rfl (fun hc126 => ?_) (fun hc126 => ?_)
    · refine WP.sr ?_
      refine WL.m rfl ?_
      refine WL.nil ?_
      refine WP.ret ?_
      refine resOf.c1 rfl (v := .bool (false)) rfl ?_
      exact ⟨(bool_eq (by first | assumption | grind [refMayMsgB, hdB, tailB, eqzB, membersB])), ((hx98).done (geCons hge_b65_w (geCons hge_b17_w geNil)))⟩
    refine WP.skip ?_
    refine WP.sr ?_
    refine WL.f (v1) fl32_9 rfl p25 (hb103.cell rfl) ?_
    obtain ⟨a127, c128, hv129⟩ := hl71.shape
    refine WL.z (.int .i64 (((m.Entries).length : Int))) (V.lenSlice rfl rfl u25 (Eq.trans (b := v1) rfl hv129)) ?_
    refine WL.z (.bool (decide (((m.Entries).length : Int) ≤ 16))) (V.cmp rfl rfl rfl rfl) ?_
    refine WL.vbp (c := ((m.Entries).length : Int) ≤ 16) (Sure.none rfl) rfl (V.move rfl rfl) (fun hc130 => ?_) (fun hc130 => ?_)
    rotate_left
    · refine WL.skips [(166, some false)] [(2, some false)] (kc (some false) rfl kn) (by kernel_rfl) (fun E141 hK142 hE143 => ?_)
      refine WP.ret ?_
      refine resOf.c1 rfl (v := .bool (false)) (hK142 2 (some false) rfl) ?_
      exact ⟨(bool_eq (by first | assumption | grind [refMayMsgB, hdB, tailB, eqzB, membersB])), ((hx98).done (geCons hge_b65_w (geCons hge_b17_w geNil)))⟩
    refine WL.fy (v1) rfl fl32_9 rfl p25 (hb103.cell rfl) ?_
    refine WL.fy (.int .u64 (m.LogTerm)) rfl fl32_5 rfl p23 (hb103.cell rfl) ?_
    refine WL.fy (.int .u64 (m.Term)) rfl fl32_3 rfl p23 (hb103.cell rfl) ?_
    refine WL.c (Sure.yes rfl rfl rfl) rfl (C.call3 rfl cl39 rfl rfl rfl) (Fnc.mono (ref_entries (hl71.ext (Ext.pre hx99)) m.LogTerm m.Term (by omega)) ?_)
    rintro _ w131 ⟨rfl, hx132⟩
    have hx133 : Ext [b65, b17] w w131 := hx98.trans (Ext.any (Y := [b65, b17]) hx132)
    refine WL.k (a := true) rfl rfl ?_
    refine WL.m rfl ?_
    refine WL.nil ?_
    refine WP.ret ?_
    refine resOf.c1 rfl (v := .bool (entsB m.Entries m.LogTerm m.Term)) rfl ?_
    exact ⟨(bool_eq (by first | assumption | grind [refMayMsgB, hdB, tailB, eqzB, membersB])), ((hx133).done (geCons hge_b65_w (geCons hge_b17_w geNil)))⟩
  refine WP.sr ?_
  refine WL.z (.bool (decide (m.Kind = 2))) (V.cmp rfl rfl rfl rfl) ?_
  refine WL.m rfl ?_
  refine WL.nil ?_
  refine WP.condp (t := m.Kind = 2) rfl (fun hc164 => ?_) (fun hc164 => ?_)
  · refine WP.region ?_
    refine WL.f (.bool (m.Ok)) fl32_8 rfl p4 (hb77.cell rfl) ?_
    refine WL.z (.pointer (some ⟨b65, 8, none⟩)) (V.fieldAddr rfl fl32_8 rfl) ?_
    refine WL.store (Sure.none rfl) rfl rfl s4 rfl rfl rfl hb76 (by show (8 : Nat) < 12; decide) (fun w165 hs166 hb167 => ?_)
    replace hb167 : Box w165 b65 32 [.int .u8 (m.Kind), .int .i64 (m.From), .int .i64 (m.To), .int .u64 (m.Term), .int .u64 (0), .int .u64 (0), .int .u64 (0), .int .u64 (0), .bool (m.Ok), .slice none 0 0, .slice none 0 0, .string (ByteArray.mk #[])] := hb167
    have hb168 := hb77.ext hs166 (by simp; omega)
    have hx169 : Ext [b65, b17] w w165 := hx78.trans (hs166.mono (by simp))
    have hx170 : Ext [b65, b17] w66 w165 := hx79.trans (hs166.mono (by simp))
    refine WL.nil ?_
    refine WP.seq ?_
    refine WP.sr ?_
    refine WL.z (.agg #[.int .u8 (m.Kind), .int .i64 (m.From), .int .i64 (m.To), .int .u64 (m.Term), .int .u64 (0), .int .u64 (0), .int .u64 (0), .int .u64 (0), .bool (m.Ok), .slice none 0 0, .slice none 0 0, .string (ByteArray.mk #[])]) (V.loadAgg (cs := [.int .u8 (m.Kind), .int .i64 (m.From), .int .i64 (m.To), .int .u64 (m.Term), .int .u64 (0), .int .u64 (0), .int .u64 (0), .int .u64 (0), .bool (m.Ok), .slice none 0 0, .slice none 0 0, .string (ByteArray.mk #[])]) rfl a32 rfl (At.box hb167) rfl) ?_
    refine WL.z (.agg #[.int .u8 (m.Kind), .int .i64 (m.From), .int .i64 (m.To), .int .u64 (m.Term), .int .u64 (m.Index), .int .u64 (m.LogTerm), .int .u64 (m.Commit), .int .u64 (m.Round), .bool (m.Ok), v1, v3, .string (m.Snap)]) (V.loadAgg (cs := [.int .u8 (m.Kind), .int .i64 (m.From), .int .i64 (m.To), .int .u64 (m.Term), .int .u64 (m.Index), .int .u64 (m.LogTerm), .int .u64 (m.Commit), .int .u64 (m.Round), .bool (m.Ok), v1, v3, .string (m.Snap)]) rfl a32 rfl (At.box hb168) rfl) ?_
    refine WL.c (Sure.none rfl) rfl (C.call2 rfl cl25 rfl rfl) (Fnc.mono (ref_SameMsg (a := ({ Kind := m.Kind, From := m.From, To := m.To, Term := m.Term, Index := 0, LogTerm := 0, Commit := 0, Round := 0, Ok := m.Ok, Entries := [], Members := [], Snap := (ByteArray.mk #[]) } : MsgD)) ⟨.slice none 0 0, .slice none 0 0, rfl, Sl.nil, Sl.nil, ⟨(inK_u8' (n := m.Kind) (by omega)), (inK_i64' (n := m.From) (by omega)), (inK_i64' (n := m.To) (by omega)), (inK_u64' (n := m.Term) (by omega)), (inK_u64' (n := 0) (by omega)), (inK_u64' (n := 0) (by omega)), (inK_u64' (n := 0) (by omega)), (inK_u64' (n := 0) (by omega)), (Nat.zero_le _)⟩⟩ (b := m) ⟨v1, v3, rfl, (hl71.ext (Ext.pre hx170)), (hl72.ext (Ext.pre hx170)), hk5⟩) ?_)
    rintro _ w172 ⟨rfl, hx173⟩
    have hx174 : Ext [b65, b17] w w172 := hx169.trans (Ext.any (Y := [b65, b17]) hx173)
    have hx175 : Ext [b65, b17] w66 w172 := hx170.trans (Ext.any (Y := [b65, b17]) hx173)
    have hb178 := hb168.ext hx173 (by simp)
    refine WL.z (.bool (!(sameMsgB ({ Kind := m.Kind, From := m.From, To := m.To, Term := m.Term, Index := 0, LogTerm := 0, Commit := 0, Round := 0, Ok := m.Ok, Entries := [], Members := [], Snap := (ByteArray.mk #[]) } : MsgD) m))) (V.not rfl rfl) ?_
    refine WL.nil ?_
    refine WP.condn (t := sameMsgB ({ Kind := m.Kind, From := m.From, To := m.To, Term := m.Term, Index := 0, LogTerm := 0, Commit := 0, Round := 0, Ok := m.Ok, Entries := [], Members := [], Snap := (ByteArray.mk #[]) } : MsgD) m) rfl (fun hc180 => ?_) (fun hc180 => ?_)
    · refine WP.sr ?_
      refine WL.m rfl ?_
      refine WL.nil ?_
      refine WP.ret ?_
      refine resOf.c1 rfl (v := .bool (false)) rfl ?_
      exact ⟨(bool_eq (by first | assumption | grind [refMayMsgB, hdB, tailB, eqzB, membersB])), ((hx174).done (geCons hge_b65_w (geCons hge_b17_w geNil)))⟩
    refine WP.skip ?_
    refine WP.seq ?_
    refine WP.sr ?_
    refine WL.f (.int .u8 (m.Kind)) fl32_0 rfl p30 (hb178.cell rfl) ?_
    refine WL.z (.bool (decide (m.Kind = 1))) (V.cmp rfl rfl rfl rfl) ?_
    refine WL.vbp (c := m.Kind = 1) (Sure.none rfl) rfl (V.move rfl rfl) (fun hc181 => ?_) (fun hc181 => ?_)
    · refine WL.s (Shut.no rfl rfl rfl rfl) rfl ?_
      refine WL.s (Shut.no rfl rfl rfl rfl) rfl ?_
      refine WL.s (Shut.no rfl rfl rfl rfl) rfl ?_
      refine WL.k (a := true) rfl rfl ?_
      refine WL.m rfl ?_
      refine WL.fy (.int .u64 (m.Index)) rfl fl32_4 rfl p23 (hb178.cell rfl) ?_
      refine WL.y (.bool (decide (m.Index = 0))) rfl (V.cmp rfl rfl rfl rfl) ?_
      refine WL.fy (.int .u64 (m.LogTerm)) rfl fl32_5 rfl p23 (hb178.cell rfl) ?_
      refine WL.y (.bool (decide (m.LogTerm = 0))) rfl (V.cmp rfl rfl rfl rfl) ?_
      refine WL.y (.bool (!((decide (m.Index = 0)) == (decide (m.LogTerm = 0))))) rfl (V.bcmpNe rfl u4 rfl rfl) ?_
      refine WL.k (a := true) rfl rfl ?_
      refine WL.nil ?_
      refine WP.condn (t := (decide (m.Index = 0)) == (decide (m.LogTerm = 0))) rfl (fun hc182 => ?_) (fun hc182 => ?_)
      · refine WP.sr ?_
        refine WL.m rfl ?_
        refine WL.nil ?_
        refine WP.ret ?_
        refine resOf.c1 rfl (v := .bool (false)) rfl ?_
        exact ⟨(bool_eq (by first | assumption | grind [refMayMsgB, hdB, tailB, eqzB, membersB])), ((hx174).done (geCons hge_b65_w (geCons hge_b17_w geNil)))⟩
      refine WP.skip ?_
      refine WP.sr ?_
      refine WL.f (v1) fl32_9 rfl p25 (hb178.cell rfl) ?_
      obtain ⟨a183, c184, hv185⟩ := hl71.shape
      refine WL.z (.int .i64 (((m.Entries).length : Int))) (V.lenSlice rfl rfl u25 (Eq.trans (b := v1) rfl hv185)) ?_
      refine WL.z (.bool (decide (((m.Entries).length : Int) ≤ 16))) (V.cmp rfl rfl rfl rfl) ?_
      refine WL.vbp (c := ((m.Entries).length : Int) ≤ 16) (Sure.none rfl) rfl (V.move rfl rfl) (fun hc186 => ?_) (fun hc186 => ?_)
      rotate_left
      · refine WL.skips [(166, some false)] [(2, some false)] (kc (some false) rfl kn) (by kernel_rfl) (fun E196 hK197 hE198 => ?_)
        refine WP.ret ?_
        refine resOf.c1 rfl (v := .bool (false)) (hK197 2 (some false) rfl) ?_
        exact ⟨(bool_eq (by first | assumption | grind [refMayMsgB, hdB, tailB, eqzB, membersB])), ((hx174).done (geCons hge_b65_w (geCons hge_b17_w geNil)))⟩
      refine WL.fy (v1) rfl fl32_9 rfl p25 (hb178.cell rfl) ?_
      refine WL.fy (.int .u64 (m.LogTerm)) rfl fl32_5 rfl p23 (hb178.cell rfl) ?_
      refine WL.fy (.int .u64 (m.Term)) rfl fl32_3 rfl p23 (hb178.cell rfl) ?_
      refine WL.c (Sure.yes rfl rfl rfl) rfl (C.call3 rfl cl39 rfl rfl rfl) (Fnc.mono (ref_entries (hl71.ext (Ext.pre hx175)) m.LogTerm m.Term (by omega)) ?_)
      rintro _ w187 ⟨rfl, hx188⟩
      have hx189 : Ext [b65, b17] w w187 := hx174.trans (Ext.any (Y := [b65, b17]) hx188)
      refine WL.k (a := true) rfl rfl ?_
      refine WL.m rfl ?_
      refine WL.nil ?_
      refine WP.ret ?_
      refine resOf.c1 rfl (v := .bool (entsB m.Entries m.LogTerm m.Term)) rfl ?_
      exact ⟨(bool_eq (by first | assumption | grind [refMayMsgB, hdB, tailB, eqzB, membersB])), ((hx189).done (geCons hge_b65_w (geCons hge_b17_w geNil)))⟩
    refine WL.fy (.int .u8 (m.Kind)) rfl fl32_0 rfl p30 (hb178.cell rfl) ?_
    refine WL.y (.bool (decide (m.Kind = 3))) rfl (V.cmp rfl rfl rfl rfl) ?_
    refine WL.k (a := false) rfl rfl ?_
    refine WL.vbp (c := m.Kind = 3) (Sure.none rfl) rfl (V.move rfl rfl) (fun hc199 => ?_) (fun hc199 => ?_)
    rotate_left
    · refine WL.skips [(153, some false)] [(161, some false)] (kc (some false) rfl kn) (by kernel_rfl) (fun E217 hK218 hE219 => ?_)
      refine WP.cond_false (hK218 161 (some false) rfl) ?_
      refine WP.skip ?_
      refine WP.sr ?_
      refine WL.f (x := .tmp 1) (v1) fl32_9 (hE219 1 rfl) p25 (hb178.cell rfl) ?_
      obtain ⟨a220, c221, hv222⟩ := hl71.shape
      refine WL.z (.int .i64 (((m.Entries).length : Int))) (V.lenSlice rfl rfl u25 (Eq.trans (b := v1) rfl hv222)) ?_
      refine WL.z (.bool (decide (((m.Entries).length : Int) ≤ 16))) (V.cmp rfl rfl rfl rfl) ?_
      refine WL.vbp (c := ((m.Entries).length : Int) ≤ 16) (Sure.none rfl) rfl (V.move rfl rfl) (fun hc223 => ?_) (fun hc223 => ?_)
      rotate_left
      · refine WL.skips [(166, some false)] [(2, some false)] (kc (some false) rfl kn) (by kernel_rfl) (fun E233 hK234 hE235 => ?_)
        refine WP.ret ?_
        refine resOf.c1 rfl (v := .bool (false)) (hK234 2 (some false) rfl) ?_
        exact ⟨(bool_eq (by first | assumption | grind [refMayMsgB, hdB, tailB, eqzB, membersB])), ((hx174).done (geCons hge_b65_w (geCons hge_b17_w geNil)))⟩
      refine WL.fy (x := .tmp 1) (v1) rfl fl32_9 (hE219 1 rfl) p25 (hb178.cell rfl) ?_
      refine WL.fy (x := .tmp 1) (.int .u64 (m.LogTerm)) rfl fl32_5 (hE219 1 rfl) p23 (hb178.cell rfl) ?_
      refine WL.fy (x := .tmp 1) (.int .u64 (m.Term)) rfl fl32_3 (hE219 1 rfl) p23 (hb178.cell rfl) ?_
      refine WL.c (Sure.yes rfl rfl rfl) rfl (C.call3 rfl cl39 rfl rfl rfl) (Fnc.mono (ref_entries (hl71.ext (Ext.pre hx175)) m.LogTerm m.Term (by omega)) ?_)
      rintro _ w224 ⟨rfl, hx225⟩
      have hx226 : Ext [b65, b17] w w224 := hx174.trans (Ext.any (Y := [b65, b17]) hx225)
      refine WL.k (a := true) rfl rfl ?_
      refine WL.m rfl ?_
      refine WL.nil ?_
      refine WP.ret ?_
      refine resOf.c1 rfl (v := .bool (entsB m.Entries m.LogTerm m.Term)) rfl ?_
      exact ⟨(bool_eq (by first | assumption | grind [refMayMsgB, hdB, tailB, eqzB, membersB])), ((hx226).done (geCons hge_b65_w (geCons hge_b17_w geNil)))⟩
    refine WL.fy (.int .u64 (m.Index)) rfl fl32_4 rfl p23 (hb178.cell rfl) ?_
    refine WL.y (.bool (decide (m.Index = 0))) rfl (V.cmp rfl rfl rfl rfl) ?_
    refine WL.fy (.int .u64 (m.LogTerm)) rfl fl32_5 rfl p23 (hb178.cell rfl) ?_
    refine WL.y (.bool (decide (m.LogTerm = 0))) rfl (V.cmp rfl rfl rfl rfl) ?_
    refine WL.y (.bool (!((decide (m.Index = 0)) == (decide (m.LogTerm = 0))))) rfl (V.bcmpNe rfl u4 rfl rfl) ?_
    refine WL.k (a := true) rfl rfl ?_
    refine WL.nil ?_
    refine WP.condn (t := (decide (m.Index = 0)) == (decide (m.LogTerm = 0))) rfl (fun hc200 => ?_) (fun hc200 => ?_)
    · refine WP.sr ?_
      refine WL.m rfl ?_
      refine WL.nil ?_
      refine WP.ret ?_
      refine resOf.c1 rfl (v := .bool (false)) rfl ?_
      exact ⟨(bool_eq (by first | assumption | grind [refMayMsgB, hdB, tailB, eqzB, membersB])), ((hx174).done (geCons hge_b65_w (geCons hge_b17_w geNil)))⟩
    refine WP.skip ?_
    refine WP.sr ?_
    refine WL.f (v1) fl32_9 rfl p25 (hb178.cell rfl) ?_
    obtain ⟨a201, c202, hv203⟩ := hl71.shape
    refine WL.z (.int .i64 (((m.Entries).length : Int))) (V.lenSlice rfl rfl u25 (Eq.trans (b := v1) rfl hv203)) ?_
    refine WL.z (.bool (decide (((m.Entries).length : Int) ≤ 16))) (V.cmp rfl rfl rfl rfl) ?_
    refine WL.vbp (c := ((m.Entries).length : Int) ≤ 16) (Sure.none rfl) rfl (V.move rfl rfl) (fun hc204 => ?_) (fun hc204 => ?_)
    rotate_left
    · refine WL.skips [(166, some false)] [(2, some false)] (kc (some false) rfl kn) (by kernel_rfl) (fun E214 hK215 hE216 => ?_)
      refine WP.ret ?_
      refine resOf.c1 rfl (v := .bool (false)) (hK215 2 (some false) rfl) ?_
      exact ⟨(bool_eq (by first | assumption | grind [refMayMsgB, hdB, tailB, eqzB, membersB])), ((hx174).done (geCons hge_b65_w (geCons hge_b17_w geNil)))⟩
    refine WL.fy (v1) rfl fl32_9 rfl p25 (hb178.cell rfl) ?_
    refine WL.fy (.int .u64 (m.LogTerm)) rfl fl32_5 rfl p23 (hb178.cell rfl) ?_
    refine WL.fy (.int .u64 (m.Term)) rfl fl32_3 rfl p23 (hb178.cell rfl) ?_
    refine WL.c (Sure.yes rfl rfl rfl) rfl (C.call3 rfl cl39 rfl rfl rfl) (Fnc.mono (ref_entries (hl71.ext (Ext.pre hx175)) m.LogTerm m.Term (by omega)) ?_)
    rintro _ w205 ⟨rfl, hx206⟩
    have hx207 : Ext [b65, b17] w w205 := hx174.trans (Ext.any (Y := [b65, b17]) hx206)
    refine WL.k (a := true) rfl rfl ?_
    refine WL.m rfl ?_
    refine WL.nil ?_
    refine WP.ret ?_
    refine resOf.c1 rfl (v := .bool (entsB m.Entries m.LogTerm m.Term)) rfl ?_
    exact ⟨(bool_eq (by first | assumption | grind [refMayMsgB, hdB, tailB, eqzB, membersB])), ((hx207).done (geCons hge_b65_w (geCons hge_b17_w geNil)))⟩
  refine WP.sr ?_
  refine WL.z (.bool (decide (m.Kind = 3))) (V.cmp rfl rfl rfl rfl) ?_
  refine WL.m rfl ?_
  refine WL.nil ?_
  refine WP.condp (t := m.Kind = 3) rfl (fun hc236 => ?_) (fun hc236 => ?_)
  · refine WP.sr ?_
    refine WL.f (.int .u64 (m.Index)) fl32_4 rfl p23 (hb77.cell rfl) ?_
    refine WL.z (.pointer (some ⟨b65, 4, none⟩)) (V.fieldAddr rfl fl32_4 rfl) ?_
    refine WL.store (Sure.none rfl) rfl rfl s23 rfl rfl rfl hb76 (by show (4 : Nat) < 12; decide) (fun w237 hs238 hb239 => ?_)
    replace hb239 : Box w237 b65 32 [.int .u8 (m.Kind), .int .i64 (m.From), .int .i64 (m.To), .int .u64 (m.Term), .int .u64 (m.Index), .int .u64 (0), .int .u64 (0), .int .u64 (0), .bool (false), .slice none 0 0, .slice none 0 0, .string (ByteArray.mk #[])] := hb239
    have hb240 := hb77.ext hs238 (by simp; omega)
    have hx241 : Ext [b65, b17] w w237 := hx78.trans (hs238.mono (by simp))
    have hx242 : Ext [b65, b17] w66 w237 := hx79.trans (hs238.mono (by simp))
    refine WL.nil ?_
    refine WP.sr ?_
    refine WL.f (.int .u64 (m.LogTerm)) fl32_5 rfl p23 (hb240.cell rfl) ?_
    refine WL.z (.pointer (some ⟨b65, 5, none⟩)) (V.fieldAddr rfl fl32_5 rfl) ?_
    refine WL.store (Sure.none rfl) rfl rfl s23 rfl rfl rfl hb239 (by show (5 : Nat) < 12; decide) (fun w244 hs245 hb246 => ?_)
    replace hb246 : Box w244 b65 32 [.int .u8 (m.Kind), .int .i64 (m.From), .int .i64 (m.To), .int .u64 (m.Term), .int .u64 (m.Index), .int .u64 (m.LogTerm), .int .u64 (0), .int .u64 (0), .bool (false), .slice none 0 0, .slice none 0 0, .string (ByteArray.mk #[])] := hb246
    have hb247 := hb240.ext hs245 (by simp; omega)
    have hx248 : Ext [b65, b17] w w244 := hx241.trans (hs245.mono (by simp))
    have hx249 : Ext [b65, b17] w66 w244 := hx242.trans (hs245.mono (by simp))
    refine WL.nil ?_
    refine WP.sr ?_
    refine WL.f (.int .u64 (m.Commit)) fl32_6 rfl p23 (hb247.cell rfl) ?_
    refine WL.z (.pointer (some ⟨b65, 6, none⟩)) (V.fieldAddr rfl fl32_6 rfl) ?_
    refine WL.store (Sure.none rfl) rfl rfl s23 rfl rfl rfl hb246 (by show (6 : Nat) < 12; decide) (fun w252 hs253 hb254 => ?_)
    replace hb254 : Box w252 b65 32 [.int .u8 (m.Kind), .int .i64 (m.From), .int .i64 (m.To), .int .u64 (m.Term), .int .u64 (m.Index), .int .u64 (m.LogTerm), .int .u64 (m.Commit), .int .u64 (0), .bool (false), .slice none 0 0, .slice none 0 0, .string (ByteArray.mk #[])] := hb254
    have hb255 := hb247.ext hs253 (by simp; omega)
    have hx256 : Ext [b65, b17] w w252 := hx248.trans (hs253.mono (by simp))
    have hx257 : Ext [b65, b17] w66 w252 := hx249.trans (hs253.mono (by simp))
    refine WL.nil ?_
    refine WP.sr ?_
    refine WL.f (.int .u64 (m.Round)) fl32_7 rfl p23 (hb255.cell rfl) ?_
    refine WL.z (.pointer (some ⟨b65, 7, none⟩)) (V.fieldAddr rfl fl32_7 rfl) ?_
    refine WL.store (Sure.none rfl) rfl rfl s23 rfl rfl rfl hb254 (by show (7 : Nat) < 12; decide) (fun w261 hs262 hb263 => ?_)
    replace hb263 : Box w261 b65 32 [.int .u8 (m.Kind), .int .i64 (m.From), .int .i64 (m.To), .int .u64 (m.Term), .int .u64 (m.Index), .int .u64 (m.LogTerm), .int .u64 (m.Commit), .int .u64 (m.Round), .bool (false), .slice none 0 0, .slice none 0 0, .string (ByteArray.mk #[])] := hb263
    have hb264 := hb255.ext hs262 (by simp; omega)
    have hx265 : Ext [b65, b17] w w261 := hx256.trans (hs262.mono (by simp))
    have hx266 : Ext [b65, b17] w66 w261 := hx257.trans (hs262.mono (by simp))
    refine WL.nil ?_
    refine WP.region ?_
    refine WL.f (v1) fl32_9 rfl p25 (hb264.cell rfl) ?_
    refine WL.z (.pointer (some ⟨b65, 9, none⟩)) (V.fieldAddr rfl fl32_9 rfl) ?_
    refine WL.store (Sure.none rfl) rfl rfl s25 rfl rfl hl71.one hb263 (by show (9 : Nat) < 12; decide) (fun w271 hs272 hb273 => ?_)
    replace hb273 : Box w271 b65 32 [.int .u8 (m.Kind), .int .i64 (m.From), .int .i64 (m.To), .int .u64 (m.Term), .int .u64 (m.Index), .int .u64 (m.LogTerm), .int .u64 (m.Commit), .int .u64 (m.Round), .bool (false), v1, .slice none 0 0, .string (ByteArray.mk #[])] := hb273
    have hb274 := hb264.ext hs272 (by simp; omega)
    have hx275 : Ext [b65, b17] w w271 := hx265.trans (hs272.mono (by simp))
    have hx276 : Ext [b65, b17] w66 w271 := hx266.trans (hs272.mono (by simp))
    refine WL.nil ?_
    refine WP.seq ?_
    refine WP.sr ?_
    refine WL.z (.agg #[.int .u8 (m.Kind), .int .i64 (m.From), .int .i64 (m.To), .int .u64 (m.Term), .int .u64 (m.Index), .int .u64 (m.LogTerm), .int .u64 (m.Commit), .int .u64 (m.Round), .bool (false), v1, .slice none 0 0, .string (ByteArray.mk #[])]) (V.loadAgg (cs := [.int .u8 (m.Kind), .int .i64 (m.From), .int .i64 (m.To), .int .u64 (m.Term), .int .u64 (m.Index), .int .u64 (m.LogTerm), .int .u64 (m.Commit), .int .u64 (m.Round), .bool (false), v1, .slice none 0 0, .string (ByteArray.mk #[])]) rfl a32 rfl (At.box hb273) rfl) ?_
    refine WL.z (.agg #[.int .u8 (m.Kind), .int .i64 (m.From), .int .i64 (m.To), .int .u64 (m.Term), .int .u64 (m.Index), .int .u64 (m.LogTerm), .int .u64 (m.Commit), .int .u64 (m.Round), .bool (m.Ok), v1, v3, .string (m.Snap)]) (V.loadAgg (cs := [.int .u8 (m.Kind), .int .i64 (m.From), .int .i64 (m.To), .int .u64 (m.Term), .int .u64 (m.Index), .int .u64 (m.LogTerm), .int .u64 (m.Commit), .int .u64 (m.Round), .bool (m.Ok), v1, v3, .string (m.Snap)]) rfl a32 rfl (At.box hb274) rfl) ?_
    refine WL.c (Sure.none rfl) rfl (C.call2 rfl cl25 rfl rfl) (Fnc.mono (ref_SameMsg (a := ({ Kind := m.Kind, From := m.From, To := m.To, Term := m.Term, Index := m.Index, LogTerm := m.LogTerm, Commit := m.Commit, Round := m.Round, Ok := false, Entries := m.Entries, Members := [], Snap := (ByteArray.mk #[]) } : MsgD)) ⟨v1, .slice none 0 0, rfl, (hl71.ext (Ext.pre hx276)), Sl.nil, ⟨(inK_u8' (n := m.Kind) (by omega)), (inK_i64' (n := m.From) (by omega)), (inK_i64' (n := m.To) (by omega)), (inK_u64' (n := m.Term) (by omega)), (inK_u64' (n := m.Index) (by omega)), (inK_u64' (n := m.LogTerm) (by omega)), (inK_u64' (n := m.Commit) (by omega)), (inK_u64' (n := m.Round) (by omega)), (Nat.zero_le _)⟩⟩ (b := m) ⟨v1, v3, rfl, (hl71.ext (Ext.pre hx276)), (hl72.ext (Ext.pre hx276)), hk5⟩) ?_)
    rintro _ w282 ⟨rfl, hx283⟩
    have hx284 : Ext [b65, b17] w w282 := hx275.trans (Ext.any (Y := [b65, b17]) hx283)
    have hx285 : Ext [b65, b17] w66 w282 := hx276.trans (Ext.any (Y := [b65, b17]) hx283)
    have hb292 := hb274.ext hx283 (by simp)
    refine WL.z (.bool (!(sameMsgB ({ Kind := m.Kind, From := m.From, To := m.To, Term := m.Term, Index := m.Index, LogTerm := m.LogTerm, Commit := m.Commit, Round := m.Round, Ok := false, Entries := m.Entries, Members := [], Snap := (ByteArray.mk #[]) } : MsgD) m))) (V.not rfl rfl) ?_
    refine WL.nil ?_
    refine WP.condn (t := sameMsgB ({ Kind := m.Kind, From := m.From, To := m.To, Term := m.Term, Index := m.Index, LogTerm := m.LogTerm, Commit := m.Commit, Round := m.Round, Ok := false, Entries := m.Entries, Members := [], Snap := (ByteArray.mk #[]) } : MsgD) m) rfl (fun hc294 => ?_) (fun hc294 => ?_)
    · refine WP.sr ?_
      refine WL.m rfl ?_
      refine WL.nil ?_
      refine WP.ret ?_
      refine resOf.c1 rfl (v := .bool (false)) rfl ?_
      exact ⟨(bool_eq (by first | assumption | grind [refMayMsgB, hdB, tailB, eqzB, membersB])), ((hx284).done (geCons hge_b65_w (geCons hge_b17_w geNil)))⟩
    refine WP.skip ?_
    refine WP.seq ?_
    refine WP.sr ?_
    refine WL.f (.int .u8 (m.Kind)) fl32_0 rfl p30 (hb292.cell rfl) ?_
    refine WL.z (.bool (decide (m.Kind = 1))) (V.cmp rfl rfl rfl rfl) ?_
    refine WL.vbp (c := m.Kind = 1) (Sure.none rfl) rfl (V.move rfl rfl) (fun hc295 => ?_) (fun hc295 => ?_)
    · refine WL.s (Shut.no rfl rfl rfl rfl) rfl ?_
      refine WL.s (Shut.no rfl rfl rfl rfl) rfl ?_
      refine WL.s (Shut.no rfl rfl rfl rfl) rfl ?_
      refine WL.k (a := true) rfl rfl ?_
      refine WL.m rfl ?_
      refine WL.fy (.int .u64 (m.Index)) rfl fl32_4 rfl p23 (hb292.cell rfl) ?_
      refine WL.y (.bool (decide (m.Index = 0))) rfl (V.cmp rfl rfl rfl rfl) ?_
      refine WL.fy (.int .u64 (m.LogTerm)) rfl fl32_5 rfl p23 (hb292.cell rfl) ?_
      refine WL.y (.bool (decide (m.LogTerm = 0))) rfl (V.cmp rfl rfl rfl rfl) ?_
      refine WL.y (.bool (!((decide (m.Index = 0)) == (decide (m.LogTerm = 0))))) rfl (V.bcmpNe rfl u4 rfl rfl) ?_
      refine WL.k (a := true) rfl rfl ?_
      refine WL.nil ?_
      refine WP.condn (t := (decide (m.Index = 0)) == (decide (m.LogTerm = 0))) rfl (fun hc296 => ?_) (fun hc296 => ?_)
      · refine WP.sr ?_
        refine WL.m rfl ?_
        refine WL.nil ?_
        refine WP.ret ?_
        refine resOf.c1 rfl (v := .bool (false)) rfl ?_
        exact ⟨(bool_eq (by first | assumption | grind [refMayMsgB, hdB, tailB, eqzB, membersB])), ((hx284).done (geCons hge_b65_w (geCons hge_b17_w geNil)))⟩
      refine WP.skip ?_
      refine WP.sr ?_
      refine WL.f (v1) fl32_9 rfl p25 (hb292.cell rfl) ?_
      obtain ⟨a297, c298, hv299⟩ := hl71.shape
      refine WL.z (.int .i64 (((m.Entries).length : Int))) (V.lenSlice rfl rfl u25 (Eq.trans (b := v1) rfl hv299)) ?_
      refine WL.z (.bool (decide (((m.Entries).length : Int) ≤ 16))) (V.cmp rfl rfl rfl rfl) ?_
      refine WL.vbp (c := ((m.Entries).length : Int) ≤ 16) (Sure.none rfl) rfl (V.move rfl rfl) (fun hc300 => ?_) (fun hc300 => ?_)
      rotate_left
      · refine WL.skips [(166, some false)] [(2, some false)] (kc (some false) rfl kn) (by kernel_rfl) (fun E314 hK315 hE316 => ?_)
        refine WP.ret ?_
        refine resOf.c1 rfl (v := .bool (false)) (hK315 2 (some false) rfl) ?_
        exact ⟨(bool_eq (by first | assumption | grind [refMayMsgB, hdB, tailB, eqzB, membersB])), ((hx284).done (geCons hge_b65_w (geCons hge_b17_w geNil)))⟩
      refine WL.fy (v1) rfl fl32_9 rfl p25 (hb292.cell rfl) ?_
      refine WL.fy (.int .u64 (m.LogTerm)) rfl fl32_5 rfl p23 (hb292.cell rfl) ?_
      refine WL.fy (.int .u64 (m.Term)) rfl fl32_3 rfl p23 (hb292.cell rfl) ?_
      refine WL.c (Sure.yes rfl rfl rfl) rfl (C.call3 rfl cl39 rfl rfl rfl) (Fnc.mono (ref_entries (hl71.ext (Ext.pre hx285)) m.LogTerm m.Term (by omega)) ?_)
      rintro _ w301 ⟨rfl, hx302⟩
      have hx303 : Ext [b65, b17] w w301 := hx284.trans (Ext.any (Y := [b65, b17]) hx302)
      refine WL.k (a := true) rfl rfl ?_
      refine WL.m rfl ?_
      refine WL.nil ?_
      refine WP.ret ?_
      refine resOf.c1 rfl (v := .bool (entsB m.Entries m.LogTerm m.Term)) rfl ?_
      exact ⟨(bool_eq (by first | assumption | grind [refMayMsgB, hdB, tailB, eqzB, membersB])), ((hx303).done (geCons hge_b65_w (geCons hge_b17_w geNil)))⟩
    refine WL.fy (.int .u8 (m.Kind)) rfl fl32_0 rfl p30 (hb292.cell rfl) ?_
    refine WL.y (.bool (decide (m.Kind = 3))) rfl (V.cmp rfl rfl rfl rfl) ?_
    refine WL.k (a := false) rfl rfl ?_
    refine WL.vbp (c := m.Kind = 3) (Sure.none rfl) rfl (V.move rfl rfl) (fun hc317 => ?_) (fun hc317 => ?_)
    rotate_left
    · refine WL.skips [(153, some false)] [(161, some false)] (kc (some false) rfl kn) (by kernel_rfl) (fun E339 hK340 hE341 => ?_)
      refine WP.cond_false (hK340 161 (some false) rfl) ?_
      refine WP.skip ?_
      refine WP.sr ?_
      refine WL.f (x := .tmp 1) (v1) fl32_9 (hE341 1 rfl) p25 (hb292.cell rfl) ?_
      obtain ⟨a342, c343, hv344⟩ := hl71.shape
      refine WL.z (.int .i64 (((m.Entries).length : Int))) (V.lenSlice rfl rfl u25 (Eq.trans (b := v1) rfl hv344)) ?_
      refine WL.z (.bool (decide (((m.Entries).length : Int) ≤ 16))) (V.cmp rfl rfl rfl rfl) ?_
      refine WL.vbp (c := ((m.Entries).length : Int) ≤ 16) (Sure.none rfl) rfl (V.move rfl rfl) (fun hc345 => ?_) (fun hc345 => ?_)
      rotate_left
      · refine WL.skips [(166, some false)] [(2, some false)] (kc (some false) rfl kn) (by kernel_rfl) (fun E359 hK360 hE361 => ?_)
        refine WP.ret ?_
        refine resOf.c1 rfl (v := .bool (false)) (hK360 2 (some false) rfl) ?_
        exact ⟨(bool_eq (by first | assumption | grind [refMayMsgB, hdB, tailB, eqzB, membersB])), ((hx284).done (geCons hge_b65_w (geCons hge_b17_w geNil)))⟩
      refine WL.fy (x := .tmp 1) (v1) rfl fl32_9 (hE341 1 rfl) p25 (hb292.cell rfl) ?_
      refine WL.fy (x := .tmp 1) (.int .u64 (m.LogTerm)) rfl fl32_5 (hE341 1 rfl) p23 (hb292.cell rfl) ?_
      refine WL.fy (x := .tmp 1) (.int .u64 (m.Term)) rfl fl32_3 (hE341 1 rfl) p23 (hb292.cell rfl) ?_
      refine WL.c (Sure.yes rfl rfl rfl) rfl (C.call3 rfl cl39 rfl rfl rfl) (Fnc.mono (ref_entries (hl71.ext (Ext.pre hx285)) m.LogTerm m.Term (by omega)) ?_)
      rintro _ w346 ⟨rfl, hx347⟩
      have hx348 : Ext [b65, b17] w w346 := hx284.trans (Ext.any (Y := [b65, b17]) hx347)
      refine WL.k (a := true) rfl rfl ?_
      refine WL.m rfl ?_
      refine WL.nil ?_
      refine WP.ret ?_
      refine resOf.c1 rfl (v := .bool (entsB m.Entries m.LogTerm m.Term)) rfl ?_
      exact ⟨(bool_eq (by first | assumption | grind [refMayMsgB, hdB, tailB, eqzB, membersB])), ((hx348).done (geCons hge_b65_w (geCons hge_b17_w geNil)))⟩
    refine WL.fy (.int .u64 (m.Index)) rfl fl32_4 rfl p23 (hb292.cell rfl) ?_
    refine WL.y (.bool (decide (m.Index = 0))) rfl (V.cmp rfl rfl rfl rfl) ?_
    refine WL.fy (.int .u64 (m.LogTerm)) rfl fl32_5 rfl p23 (hb292.cell rfl) ?_
    refine WL.y (.bool (decide (m.LogTerm = 0))) rfl (V.cmp rfl rfl rfl rfl) ?_
    refine WL.y (.bool (!((decide (m.Index = 0)) == (decide (m.LogTerm = 0))))) rfl (V.bcmpNe rfl u4 rfl rfl) ?_
    refine WL.k (a := true) rfl rfl ?_
    refine WL.nil ?_
    refine WP.condn (t := (decide (m.Index = 0)) == (decide (m.LogTerm = 0))) rfl (fun hc318 => ?_) (fun hc318 => ?_)
    · refine WP.sr ?_
      refine WL.m rfl ?_
      refine WL.nil ?_
      refine WP.ret ?_
      refine resOf.c1 rfl (v := .bool (false)) rfl ?_
      exact ⟨(bool_eq (by first | assumption | grind [refMayMsgB, hdB, tailB, eqzB, membersB])), ((hx284).done (geCons hge_b65_w (geCons hge_b17_w geNil)))⟩
    refine WP.skip ?_
    refine WP.sr ?_
    refine WL.f (v1) fl32_9 rfl p25 (hb292.cell rfl) ?_
    obtain ⟨a319, c320, hv321⟩ := hl71.shape
    refine WL.z (.int .i64 (((m.Entries).length : Int))) (V.lenSlice rfl rfl u25 (Eq.trans (b := v1) rfl hv321)) ?_
    refine WL.z (.bool (decide (((m.Entries).length : Int) ≤ 16))) (V.cmp rfl rfl rfl rfl) ?_
    refine WL.vbp (c := ((m.Entries).length : Int) ≤ 16) (Sure.none rfl) rfl (V.move rfl rfl) (fun hc322 => ?_) (fun hc322 => ?_)
    rotate_left
    · refine WL.skips [(166, some false)] [(2, some false)] (kc (some false) rfl kn) (by kernel_rfl) (fun E336 hK337 hE338 => ?_)
      refine WP.ret ?_
      refine resOf.c1 rfl (v := .bool (false)) (hK337 2 (some false) rfl) ?_
      exact ⟨(bool_eq (by first | assumption | grind [refMayMsgB, hdB, tailB, eqzB, membersB])), ((hx284).done (geCons hge_b65_w (geCons hge_b17_w geNil)))⟩
    refine WL.fy (v1) rfl fl32_9 rfl p25 (hb292.cell rfl) ?_
    refine WL.fy (.int .u64 (m.LogTerm)) rfl fl32_5 rfl p23 (hb292.cell rfl) ?_
    refine WL.fy (.int .u64 (m.Term)) rfl fl32_3 rfl p23 (hb292.cell rfl) ?_
    refine WL.c (Sure.yes rfl rfl rfl) rfl (C.call3 rfl cl39 rfl rfl rfl) (Fnc.mono (ref_entries (hl71.ext (Ext.pre hx285)) m.LogTerm m.Term (by omega)) ?_)
    rintro _ w323 ⟨rfl, hx324⟩
    have hx325 : Ext [b65, b17] w w323 := hx284.trans (Ext.any (Y := [b65, b17]) hx324)
    refine WL.k (a := true) rfl rfl ?_
    refine WL.m rfl ?_
    refine WL.nil ?_
    refine WP.ret ?_
    refine resOf.c1 rfl (v := .bool (entsB m.Entries m.LogTerm m.Term)) rfl ?_
    exact ⟨(bool_eq (by first | assumption | grind [refMayMsgB, hdB, tailB, eqzB, membersB])), ((hx325).done (geCons hge_b65_w (geCons hge_b17_w geNil)))⟩
  refine WP.sr ?_
  refine WL.z (.bool (decide (m.Kind = 4))) (V.cmp rfl rfl rfl rfl) ?_
  refine WL.m rfl ?_
  refine WL.nil ?_
  refine WP.condp (t := m.Kind = 4) rfl (fun hc362 => ?_) (fun hc362 => ?_)
  rotate_left
  · refine WP.sr ?_
    refine WL.z (.bool (decide (m.Kind = 5))) (V.cmp rfl rfl rfl rfl) ?_
    refine WL.m rfl ?_
    refine WL.nil ?_
    refine WP.condp (t := m.Kind = 5) rfl (fun hc459 => ?_) (fun hc459 => ?_)
    rotate_left
    · refine WP.sr ?_
      refine WL.m rfl ?_
      refine WL.nil ?_
      refine WP.ret ?_
      refine resOf.c1 rfl (v := .bool (false)) rfl ?_
      exact ⟨(bool_eq (by first | assumption | grind [refMayMsgB, hdB, tailB, eqzB, membersB])), ((hx78).done (geCons hge_b65_w (geCons hge_b17_w geNil)))⟩
    refine WP.sr ?_
    refine WL.f (.int .u64 (m.Index)) fl32_4 rfl p23 (hb77.cell rfl) ?_
    refine WL.z (.pointer (some ⟨b65, 4, none⟩)) (V.fieldAddr rfl fl32_4 rfl) ?_
    refine WL.store (Sure.none rfl) rfl rfl s23 rfl rfl rfl hb76 (by show (4 : Nat) < 12; decide) (fun w460 hs461 hb462 => ?_)
    replace hb462 : Box w460 b65 32 [.int .u8 (m.Kind), .int .i64 (m.From), .int .i64 (m.To), .int .u64 (m.Term), .int .u64 (m.Index), .int .u64 (0), .int .u64 (0), .int .u64 (0), .bool (false), .slice none 0 0, .slice none 0 0, .string (ByteArray.mk #[])] := hb462
    have hb463 := hb77.ext hs461 (by simp; omega)
    have hx464 : Ext [b65, b17] w w460 := hx78.trans (hs461.mono (by simp))
    have hx465 : Ext [b65, b17] w66 w460 := hx79.trans (hs461.mono (by simp))
    refine WL.nil ?_
    refine WP.sr ?_
    refine WL.f (.int .u64 (m.LogTerm)) fl32_5 rfl p23 (hb463.cell rfl) ?_
    refine WL.z (.pointer (some ⟨b65, 5, none⟩)) (V.fieldAddr rfl fl32_5 rfl) ?_
    refine WL.store (Sure.none rfl) rfl rfl s23 rfl rfl rfl hb462 (by show (5 : Nat) < 12; decide) (fun w467 hs468 hb469 => ?_)
    replace hb469 : Box w467 b65 32 [.int .u8 (m.Kind), .int .i64 (m.From), .int .i64 (m.To), .int .u64 (m.Term), .int .u64 (m.Index), .int .u64 (m.LogTerm), .int .u64 (0), .int .u64 (0), .bool (false), .slice none 0 0, .slice none 0 0, .string (ByteArray.mk #[])] := hb469
    have hb470 := hb463.ext hs468 (by simp; omega)
    have hx471 : Ext [b65, b17] w w467 := hx464.trans (hs468.mono (by simp))
    have hx472 : Ext [b65, b17] w66 w467 := hx465.trans (hs468.mono (by simp))
    refine WL.nil ?_
    refine WP.sr ?_
    refine WL.f (.int .u64 (m.Round)) fl32_7 rfl p23 (hb470.cell rfl) ?_
    refine WL.z (.pointer (some ⟨b65, 7, none⟩)) (V.fieldAddr rfl fl32_7 rfl) ?_
    refine WL.store (Sure.none rfl) rfl rfl s23 rfl rfl rfl hb469 (by show (7 : Nat) < 12; decide) (fun w475 hs476 hb477 => ?_)
    replace hb477 : Box w475 b65 32 [.int .u8 (m.Kind), .int .i64 (m.From), .int .i64 (m.To), .int .u64 (m.Term), .int .u64 (m.Index), .int .u64 (m.LogTerm), .int .u64 (0), .int .u64 (m.Round), .bool (false), .slice none 0 0, .slice none 0 0, .string (ByteArray.mk #[])] := hb477
    have hb478 := hb470.ext hs476 (by simp; omega)
    have hx479 : Ext [b65, b17] w w475 := hx471.trans (hs476.mono (by simp))
    have hx480 : Ext [b65, b17] w66 w475 := hx472.trans (hs476.mono (by simp))
    refine WL.nil ?_
    refine WP.sr ?_
    refine WL.f (v3) fl32_10 rfl p22 (hb478.cell rfl) ?_
    refine WL.z (.pointer (some ⟨b65, 10, none⟩)) (V.fieldAddr rfl fl32_10 rfl) ?_
    refine WL.store (Sure.none rfl) rfl rfl s22 rfl rfl hl72.one hb477 (by show (10 : Nat) < 12; decide) (fun w484 hs485 hb486 => ?_)
    replace hb486 : Box w484 b65 32 [.int .u8 (m.Kind), .int .i64 (m.From), .int .i64 (m.To), .int .u64 (m.Term), .int .u64 (m.Index), .int .u64 (m.LogTerm), .int .u64 (0), .int .u64 (m.Round), .bool (false), .slice none 0 0, v3, .string (ByteArray.mk #[])] := hb486
    have hb487 := hb478.ext hs485 (by simp; omega)
    have hx488 : Ext [b65, b17] w w484 := hx479.trans (hs485.mono (by simp))
    have hx489 : Ext [b65, b17] w66 w484 := hx480.trans (hs485.mono (by simp))
    refine WL.nil ?_
    refine WP.sr ?_
    refine WL.f (.string (m.Snap)) fl32_11 rfl p9 (hb487.cell rfl) ?_
    refine WL.z (.pointer (some ⟨b65, 11, none⟩)) (V.fieldAddr rfl fl32_11 rfl) ?_
    refine WL.store (Sure.none rfl) rfl rfl s9 rfl rfl rfl hb486 (by show (11 : Nat) < 12; decide) (fun w494 hs495 hb496 => ?_)
    replace hb496 : Box w494 b65 32 [.int .u8 (m.Kind), .int .i64 (m.From), .int .i64 (m.To), .int .u64 (m.Term), .int .u64 (m.Index), .int .u64 (m.LogTerm), .int .u64 (0), .int .u64 (m.Round), .bool (false), .slice none 0 0, v3, .string (m.Snap)] := hb496
    have hb497 := hb487.ext hs495 (by simp; omega)
    have hx498 : Ext [b65, b17] w w494 := hx488.trans (hs495.mono (by simp))
    have hx499 : Ext [b65, b17] w66 w494 := hx489.trans (hs495.mono (by simp))
    refine WL.nil ?_
    refine WP.sr ?_
    refine WL.z (.agg #[.int .u8 (m.Kind), .int .i64 (m.From), .int .i64 (m.To), .int .u64 (m.Term), .int .u64 (m.Index), .int .u64 (m.LogTerm), .int .u64 (0), .int .u64 (m.Round), .bool (false), .slice none 0 0, v3, .string (m.Snap)]) (V.loadAgg (cs := [.int .u8 (m.Kind), .int .i64 (m.From), .int .i64 (m.To), .int .u64 (m.Term), .int .u64 (m.Index), .int .u64 (m.LogTerm), .int .u64 (0), .int .u64 (m.Round), .bool (false), .slice none 0 0, v3, .string (m.Snap)]) rfl a32 rfl (At.box hb496) rfl) ?_
    refine WL.z (.agg #[.int .u8 (m.Kind), .int .i64 (m.From), .int .i64 (m.To), .int .u64 (m.Term), .int .u64 (m.Index), .int .u64 (m.LogTerm), .int .u64 (m.Commit), .int .u64 (m.Round), .bool (m.Ok), v1, v3, .string (m.Snap)]) (V.loadAgg (cs := [.int .u8 (m.Kind), .int .i64 (m.From), .int .i64 (m.To), .int .u64 (m.Term), .int .u64 (m.Index), .int .u64 (m.LogTerm), .int .u64 (m.Commit), .int .u64 (m.Round), .bool (m.Ok), v1, v3, .string (m.Snap)]) rfl a32 rfl (At.box hb497) rfl) ?_
    refine WL.c (Sure.none rfl) rfl (C.call2 rfl cl25 rfl rfl) (Fnc.mono (ref_SameMsg (a := ({ Kind := m.Kind, From := m.From, To := m.To, Term := m.Term, Index := m.Index, LogTerm := m.LogTerm, Commit := 0, Round := m.Round, Ok := false, Entries := [], Members := m.Members, Snap := m.Snap } : MsgD)) ⟨.slice none 0 0, v3, rfl, Sl.nil, (hl72.ext (Ext.pre hx499)), ⟨(inK_u8' (n := m.Kind) (by omega)), (inK_i64' (n := m.From) (by omega)), (inK_i64' (n := m.To) (by omega)), (inK_u64' (n := m.Term) (by omega)), (inK_u64' (n := m.Index) (by omega)), (inK_u64' (n := m.LogTerm) (by omega)), (inK_u64' (n := 0) (by omega)), (inK_u64' (n := m.Round) (by omega)), (by show (m.Snap).size ≤ maxLen; omega)⟩⟩ (b := m) ⟨v1, v3, rfl, (hl71.ext (Ext.pre hx499)), (hl72.ext (Ext.pre hx499)), hk5⟩) ?_)
    rintro _ w505 ⟨rfl, hx506⟩
    have hx507 : Ext [b65, b17] w w505 := hx498.trans (Ext.any (Y := [b65, b17]) hx506)
    have hx508 : Ext [b65, b17] w66 w505 := hx499.trans (Ext.any (Y := [b65, b17]) hx506)
    have hb515 := hb497.ext hx506 (by simp)
    refine WL.vb (c := sameMsgB ({ Kind := m.Kind, From := m.From, To := m.To, Term := m.Term, Index := m.Index, LogTerm := m.LogTerm, Commit := 0, Round := m.Round, Ok := false, Entries := [], Members := m.Members, Snap := m.Snap } : MsgD) m) (Sure.none rfl) rfl (V.move rfl rfl) (fun hc517 => ?_) (fun hc517 => ?_)
    rotate_left
    · refine WL.skips [(120, some false)] [(2, some false)] (kc (some false) rfl kn) (by kernel_rfl) (fun E546 hK547 hE548 => ?_)
      refine WP.ret ?_
      refine resOf.c1 rfl (v := .bool (false)) (hK547 2 (some false) rfl) ?_
      exact ⟨(bool_eq (by first | assumption | grind [refMayMsgB, hdB, tailB, eqzB, membersB])), ((hx507).done (geCons hge_b65_w (geCons hge_b17_w geNil)))⟩
    refine WL.fy (.int .u64 (m.Index)) rfl fl32_4 rfl p23 (hb515.cell rfl) ?_
    refine WL.y (.bool (decide (m.Index > 0))) rfl (V.cmp rfl rfl rfl rfl) ?_
    refine WL.k (a := true) rfl rfl ?_
    refine WL.vbp (c := m.Index > 0) (Sure.none rfl) rfl (V.move rfl rfl) (fun hc518 => ?_) (fun hc518 => ?_)
    rotate_left
    · refine WL.skips [(125, some false)] [(2, some false)] (kc (some false) rfl kn) (by kernel_rfl) (fun E543 hK544 hE545 => ?_)
      refine WP.ret ?_
      refine resOf.c1 rfl (v := .bool (false)) (hK544 2 (some false) rfl) ?_
      exact ⟨(bool_eq (by first | assumption | grind [refMayMsgB, hdB, tailB, eqzB, membersB])), ((hx507).done (geCons hge_b65_w (geCons hge_b17_w geNil)))⟩
    refine WL.fy (.int .u64 (m.LogTerm)) rfl fl32_5 rfl p23 (hb515.cell rfl) ?_
    refine WL.y (.bool (decide (m.LogTerm > 0))) rfl (V.cmp rfl rfl rfl rfl) ?_
    refine WL.k (a := true) rfl rfl ?_
    refine WL.vbp (c := m.LogTerm > 0) (Sure.none rfl) rfl (V.move rfl rfl) (fun hc519 => ?_) (fun hc519 => ?_)
    rotate_left
    · refine WL.skips [(130, some false)] [(2, some false)] (kc (some false) rfl kn) (by kernel_rfl) (fun E540 hK541 hE542 => ?_)
      refine WP.ret ?_
      refine resOf.c1 rfl (v := .bool (false)) (hK541 2 (some false) rfl) ?_
      exact ⟨(bool_eq (by first | assumption | grind [refMayMsgB, hdB, tailB, eqzB, membersB])), ((hx507).done (geCons hge_b65_w (geCons hge_b17_w geNil)))⟩
    refine WL.fy (v3) rfl fl32_10 rfl p22 (hb515.cell rfl) ?_
    obtain ⟨a520, c521, hv522⟩ := hl72.shape
    refine WL.y (.int .i64 (((m.Members).length : Int))) rfl (V.lenSlice rfl rfl u22 (Eq.trans (b := v3) rfl hv522)) ?_
    refine WL.y (.bool (decide (((m.Members).length : Int) > 0))) rfl (V.cmp rfl rfl rfl rfl) ?_
    refine WL.k (a := true) rfl rfl ?_
    refine WL.vbp (c := ((m.Members).length : Int) > 0) (Sure.none rfl) rfl (V.move rfl rfl) (fun hc523 => ?_) (fun hc523 => ?_)
    rotate_left
    · refine WL.skips [(136, some false)] [(2, some false)] (kc (some false) rfl kn) (by kernel_rfl) (fun E537 hK538 hE539 => ?_)
      refine WP.ret ?_
      refine resOf.c1 rfl (v := .bool (false)) (hK538 2 (some false) rfl) ?_
      exact ⟨(bool_eq (by first | assumption | grind [refMayMsgB, hdB, tailB, eqzB, membersB])), ((hx507).done (geCons hge_b65_w (geCons hge_b17_w geNil)))⟩
    refine WL.fy (v3) rfl fl32_10 rfl p22 (hb515.cell rfl) ?_
    refine WL.c (Sure.yes rfl rfl rfl) rfl (C.call1 rfl cl38 rfl) (Fnc.mono (ref_ids (hl72.ext (Ext.pre hx508))) ?_)
    rintro _ w524 ⟨rfl, hx525⟩
    have hx526 : Ext [b65, b17] w w524 := hx507.trans (Ext.any (Y := [b65, b17]) hx525)
    refine WL.k (a := true) rfl rfl ?_
    refine WL.m rfl ?_
    refine WL.nil ?_
    refine WP.ret ?_
    refine resOf.c1 rfl (v := .bool (idsB m.Members)) rfl ?_
    exact ⟨(bool_eq (by first | assumption | grind [refMayMsgB, hdB, tailB, eqzB, membersB])), ((hx526).done (geCons hge_b65_w (geCons hge_b17_w geNil)))⟩
  refine WP.sr ?_
  refine WL.f (.bool (m.Ok)) fl32_8 rfl p4 (hb77.cell rfl) ?_
  refine WL.z (.pointer (some ⟨b65, 8, none⟩)) (V.fieldAddr rfl fl32_8 rfl) ?_
  refine WL.store (Sure.none rfl) rfl rfl s4 rfl rfl rfl hb76 (by show (8 : Nat) < 12; decide) (fun w363 hs364 hb365 => ?_)
  replace hb365 : Box w363 b65 32 [.int .u8 (m.Kind), .int .i64 (m.From), .int .i64 (m.To), .int .u64 (m.Term), .int .u64 (0), .int .u64 (0), .int .u64 (0), .int .u64 (0), .bool (m.Ok), .slice none 0 0, .slice none 0 0, .string (ByteArray.mk #[])] := hb365
  have hb366 := hb77.ext hs364 (by simp; omega)
  have hx367 : Ext [b65, b17] w w363 := hx78.trans (hs364.mono (by simp))
  have hx368 : Ext [b65, b17] w66 w363 := hx79.trans (hs364.mono (by simp))
  refine WL.nil ?_
  refine WP.sr ?_
  refine WL.f (.int .u64 (m.Index)) fl32_4 rfl p23 (hb366.cell rfl) ?_
  refine WL.z (.pointer (some ⟨b65, 4, none⟩)) (V.fieldAddr rfl fl32_4 rfl) ?_
  refine WL.store (Sure.none rfl) rfl rfl s23 rfl rfl rfl hb365 (by show (4 : Nat) < 12; decide) (fun w370 hs371 hb372 => ?_)
  replace hb372 : Box w370 b65 32 [.int .u8 (m.Kind), .int .i64 (m.From), .int .i64 (m.To), .int .u64 (m.Term), .int .u64 (m.Index), .int .u64 (0), .int .u64 (0), .int .u64 (0), .bool (m.Ok), .slice none 0 0, .slice none 0 0, .string (ByteArray.mk #[])] := hb372
  have hb373 := hb366.ext hs371 (by simp; omega)
  have hx374 : Ext [b65, b17] w w370 := hx367.trans (hs371.mono (by simp))
  have hx375 : Ext [b65, b17] w66 w370 := hx368.trans (hs371.mono (by simp))
  refine WL.nil ?_
  refine WP.region ?_
  refine WL.f (.int .u64 (m.Round)) fl32_7 rfl p23 (hb373.cell rfl) ?_
  refine WL.z (.pointer (some ⟨b65, 7, none⟩)) (V.fieldAddr rfl fl32_7 rfl) ?_
  refine WL.store (Sure.none rfl) rfl rfl s23 rfl rfl rfl hb372 (by show (7 : Nat) < 12; decide) (fun w378 hs379 hb380 => ?_)
  replace hb380 : Box w378 b65 32 [.int .u8 (m.Kind), .int .i64 (m.From), .int .i64 (m.To), .int .u64 (m.Term), .int .u64 (m.Index), .int .u64 (0), .int .u64 (0), .int .u64 (m.Round), .bool (m.Ok), .slice none 0 0, .slice none 0 0, .string (ByteArray.mk #[])] := hb380
  have hb381 := hb373.ext hs379 (by simp; omega)
  have hx382 : Ext [b65, b17] w w378 := hx374.trans (hs379.mono (by simp))
  have hx383 : Ext [b65, b17] w66 w378 := hx375.trans (hs379.mono (by simp))
  refine WL.nil ?_
  refine WP.seq ?_
  refine WP.sr ?_
  refine WL.z (.agg #[.int .u8 (m.Kind), .int .i64 (m.From), .int .i64 (m.To), .int .u64 (m.Term), .int .u64 (m.Index), .int .u64 (0), .int .u64 (0), .int .u64 (m.Round), .bool (m.Ok), .slice none 0 0, .slice none 0 0, .string (ByteArray.mk #[])]) (V.loadAgg (cs := [.int .u8 (m.Kind), .int .i64 (m.From), .int .i64 (m.To), .int .u64 (m.Term), .int .u64 (m.Index), .int .u64 (0), .int .u64 (0), .int .u64 (m.Round), .bool (m.Ok), .slice none 0 0, .slice none 0 0, .string (ByteArray.mk #[])]) rfl a32 rfl (At.box hb380) rfl) ?_
  refine WL.z (.agg #[.int .u8 (m.Kind), .int .i64 (m.From), .int .i64 (m.To), .int .u64 (m.Term), .int .u64 (m.Index), .int .u64 (m.LogTerm), .int .u64 (m.Commit), .int .u64 (m.Round), .bool (m.Ok), v1, v3, .string (m.Snap)]) (V.loadAgg (cs := [.int .u8 (m.Kind), .int .i64 (m.From), .int .i64 (m.To), .int .u64 (m.Term), .int .u64 (m.Index), .int .u64 (m.LogTerm), .int .u64 (m.Commit), .int .u64 (m.Round), .bool (m.Ok), v1, v3, .string (m.Snap)]) rfl a32 rfl (At.box hb381) rfl) ?_
  refine WL.c (Sure.none rfl) rfl (C.call2 rfl cl25 rfl rfl) (Fnc.mono (ref_SameMsg (a := ({ Kind := m.Kind, From := m.From, To := m.To, Term := m.Term, Index := m.Index, LogTerm := 0, Commit := 0, Round := m.Round, Ok := m.Ok, Entries := [], Members := [], Snap := (ByteArray.mk #[]) } : MsgD)) ⟨.slice none 0 0, .slice none 0 0, rfl, Sl.nil, Sl.nil, ⟨(inK_u8' (n := m.Kind) (by omega)), (inK_i64' (n := m.From) (by omega)), (inK_i64' (n := m.To) (by omega)), (inK_u64' (n := m.Term) (by omega)), (inK_u64' (n := m.Index) (by omega)), (inK_u64' (n := 0) (by omega)), (inK_u64' (n := 0) (by omega)), (inK_u64' (n := m.Round) (by omega)), (Nat.zero_le _)⟩⟩ (b := m) ⟨v1, v3, rfl, (hl71.ext (Ext.pre hx383)), (hl72.ext (Ext.pre hx383)), hk5⟩) ?_)
  rintro _ w387 ⟨rfl, hx388⟩
  have hx389 : Ext [b65, b17] w w387 := hx382.trans (Ext.any (Y := [b65, b17]) hx388)
  have hx390 : Ext [b65, b17] w66 w387 := hx383.trans (Ext.any (Y := [b65, b17]) hx388)
  have hb395 := hb381.ext hx388 (by simp)
  refine WL.z (.bool (!(sameMsgB ({ Kind := m.Kind, From := m.From, To := m.To, Term := m.Term, Index := m.Index, LogTerm := 0, Commit := 0, Round := m.Round, Ok := m.Ok, Entries := [], Members := [], Snap := (ByteArray.mk #[]) } : MsgD) m))) (V.not rfl rfl) ?_
  refine WL.nil ?_
  refine WP.condn (t := sameMsgB ({ Kind := m.Kind, From := m.From, To := m.To, Term := m.Term, Index := m.Index, LogTerm := 0, Commit := 0, Round := m.Round, Ok := m.Ok, Entries := [], Members := [], Snap := (ByteArray.mk #[]) } : MsgD) m) rfl (fun hc397 => ?_) (fun hc397 => ?_)
  · refine WP.sr ?_
    refine WL.m rfl ?_
    refine WL.nil ?_
    refine WP.ret ?_
    refine resOf.c1 rfl (v := .bool (false)) rfl ?_
    exact ⟨(bool_eq (by first | assumption | grind [refMayMsgB, hdB, tailB, eqzB, membersB])), ((hx389).done (geCons hge_b65_w (geCons hge_b17_w geNil)))⟩
  refine WP.skip ?_
  refine WP.seq ?_
  refine WP.sr ?_
  refine WL.f (.int .u8 (m.Kind)) fl32_0 rfl p30 (hb395.cell rfl) ?_
  refine WL.z (.bool (decide (m.Kind = 1))) (V.cmp rfl rfl rfl rfl) ?_
  refine WL.vbp (c := m.Kind = 1) (Sure.none rfl) rfl (V.move rfl rfl) (fun hc398 => ?_) (fun hc398 => ?_)
  · refine WL.s (Shut.no rfl rfl rfl rfl) rfl ?_
    refine WL.s (Shut.no rfl rfl rfl rfl) rfl ?_
    refine WL.s (Shut.no rfl rfl rfl rfl) rfl ?_
    refine WL.k (a := true) rfl rfl ?_
    refine WL.m rfl ?_
    refine WL.fy (.int .u64 (m.Index)) rfl fl32_4 rfl p23 (hb395.cell rfl) ?_
    refine WL.y (.bool (decide (m.Index = 0))) rfl (V.cmp rfl rfl rfl rfl) ?_
    refine WL.fy (.int .u64 (m.LogTerm)) rfl fl32_5 rfl p23 (hb395.cell rfl) ?_
    refine WL.y (.bool (decide (m.LogTerm = 0))) rfl (V.cmp rfl rfl rfl rfl) ?_
    refine WL.y (.bool (!((decide (m.Index = 0)) == (decide (m.LogTerm = 0))))) rfl (V.bcmpNe rfl u4 rfl rfl) ?_
    refine WL.k (a := true) rfl rfl ?_
    refine WL.nil ?_
    refine WP.condn (t := (decide (m.Index = 0)) == (decide (m.LogTerm = 0))) rfl (fun hc399 => ?_) (fun hc399 => ?_)
    · refine WP.sr ?_
      refine WL.m rfl ?_
      refine WL.nil ?_
      refine WP.ret ?_
      refine resOf.c1 rfl (v := .bool (false)) rfl ?_
      exact ⟨(bool_eq (by first | assumption | grind [refMayMsgB, hdB, tailB, eqzB, membersB])), ((hx389).done (geCons hge_b65_w (geCons hge_b17_w geNil)))⟩
    refine WP.skip ?_
    refine WP.sr ?_
    refine WL.f (v1) fl32_9 rfl p25 (hb395.cell rfl) ?_
    obtain ⟨a400, c401, hv402⟩ := hl71.shape
    refine WL.z (.int .i64 (((m.Entries).length : Int))) (V.lenSlice rfl rfl u25 (Eq.trans (b := v1) rfl hv402)) ?_
    refine WL.z (.bool (decide (((m.Entries).length : Int) ≤ 16))) (V.cmp rfl rfl rfl rfl) ?_
    refine WL.vbp (c := ((m.Entries).length : Int) ≤ 16) (Sure.none rfl) rfl (V.move rfl rfl) (fun hc403 => ?_) (fun hc403 => ?_)
    rotate_left
    · refine WL.skips [(166, some false)] [(2, some false)] (kc (some false) rfl kn) (by kernel_rfl) (fun E415 hK416 hE417 => ?_)
      refine WP.ret ?_
      refine resOf.c1 rfl (v := .bool (false)) (hK416 2 (some false) rfl) ?_
      exact ⟨(bool_eq (by first | assumption | grind [refMayMsgB, hdB, tailB, eqzB, membersB])), ((hx389).done (geCons hge_b65_w (geCons hge_b17_w geNil)))⟩
    refine WL.fy (v1) rfl fl32_9 rfl p25 (hb395.cell rfl) ?_
    refine WL.fy (.int .u64 (m.LogTerm)) rfl fl32_5 rfl p23 (hb395.cell rfl) ?_
    refine WL.fy (.int .u64 (m.Term)) rfl fl32_3 rfl p23 (hb395.cell rfl) ?_
    refine WL.c (Sure.yes rfl rfl rfl) rfl (C.call3 rfl cl39 rfl rfl rfl) (Fnc.mono (ref_entries (hl71.ext (Ext.pre hx390)) m.LogTerm m.Term (by omega)) ?_)
    rintro _ w404 ⟨rfl, hx405⟩
    have hx406 : Ext [b65, b17] w w404 := hx389.trans (Ext.any (Y := [b65, b17]) hx405)
    refine WL.k (a := true) rfl rfl ?_
    refine WL.m rfl ?_
    refine WL.nil ?_
    refine WP.ret ?_
    refine resOf.c1 rfl (v := .bool (entsB m.Entries m.LogTerm m.Term)) rfl ?_
    exact ⟨(bool_eq (by first | assumption | grind [refMayMsgB, hdB, tailB, eqzB, membersB])), ((hx406).done (geCons hge_b65_w (geCons hge_b17_w geNil)))⟩
  refine WL.fy (.int .u8 (m.Kind)) rfl fl32_0 rfl p30 (hb395.cell rfl) ?_
  refine WL.y (.bool (decide (m.Kind = 3))) rfl (V.cmp rfl rfl rfl rfl) ?_
  refine WL.k (a := false) rfl rfl ?_
  refine WL.vbp (c := m.Kind = 3) (Sure.none rfl) rfl (V.move rfl rfl) (fun hc418 => ?_) (fun hc418 => ?_)
  rotate_left
  · refine WL.skips [(153, some false)] [(161, some false)] (kc (some false) rfl kn) (by kernel_rfl) (fun E438 hK439 hE440 => ?_)
    refine WP.cond_false (hK439 161 (some false) rfl) ?_
    refine WP.skip ?_
    refine WP.sr ?_
    refine WL.f (x := .tmp 1) (v1) fl32_9 (hE440 1 rfl) p25 (hb395.cell rfl) ?_
    obtain ⟨a441, c442, hv443⟩ := hl71.shape
    refine WL.z (.int .i64 (((m.Entries).length : Int))) (V.lenSlice rfl rfl u25 (Eq.trans (b := v1) rfl hv443)) ?_
    refine WL.z (.bool (decide (((m.Entries).length : Int) ≤ 16))) (V.cmp rfl rfl rfl rfl) ?_
    refine WL.vbp (c := ((m.Entries).length : Int) ≤ 16) (Sure.none rfl) rfl (V.move rfl rfl) (fun hc444 => ?_) (fun hc444 => ?_)
    rotate_left
    · refine WL.skips [(166, some false)] [(2, some false)] (kc (some false) rfl kn) (by kernel_rfl) (fun E456 hK457 hE458 => ?_)
      refine WP.ret ?_
      refine resOf.c1 rfl (v := .bool (false)) (hK457 2 (some false) rfl) ?_
      exact ⟨(bool_eq (by first | assumption | grind [refMayMsgB, hdB, tailB, eqzB, membersB])), ((hx389).done (geCons hge_b65_w (geCons hge_b17_w geNil)))⟩
    refine WL.fy (x := .tmp 1) (v1) rfl fl32_9 (hE440 1 rfl) p25 (hb395.cell rfl) ?_
    refine WL.fy (x := .tmp 1) (.int .u64 (m.LogTerm)) rfl fl32_5 (hE440 1 rfl) p23 (hb395.cell rfl) ?_
    refine WL.fy (x := .tmp 1) (.int .u64 (m.Term)) rfl fl32_3 (hE440 1 rfl) p23 (hb395.cell rfl) ?_
    refine WL.c (Sure.yes rfl rfl rfl) rfl (C.call3 rfl cl39 rfl rfl rfl) (Fnc.mono (ref_entries (hl71.ext (Ext.pre hx390)) m.LogTerm m.Term (by omega)) ?_)
    rintro _ w445 ⟨rfl, hx446⟩
    have hx447 : Ext [b65, b17] w w445 := hx389.trans (Ext.any (Y := [b65, b17]) hx446)
    refine WL.k (a := true) rfl rfl ?_
    refine WL.m rfl ?_
    refine WL.nil ?_
    refine WP.ret ?_
    refine resOf.c1 rfl (v := .bool (entsB m.Entries m.LogTerm m.Term)) rfl ?_
    exact ⟨(bool_eq (by first | assumption | grind [refMayMsgB, hdB, tailB, eqzB, membersB])), ((hx447).done (geCons hge_b65_w (geCons hge_b17_w geNil)))⟩
  refine WL.fy (.int .u64 (m.Index)) rfl fl32_4 rfl p23 (hb395.cell rfl) ?_
  refine WL.y (.bool (decide (m.Index = 0))) rfl (V.cmp rfl rfl rfl rfl) ?_
  refine WL.fy (.int .u64 (m.LogTerm)) rfl fl32_5 rfl p23 (hb395.cell rfl) ?_
  refine WL.y (.bool (decide (m.LogTerm = 0))) rfl (V.cmp rfl rfl rfl rfl) ?_
  refine WL.y (.bool (!((decide (m.Index = 0)) == (decide (m.LogTerm = 0))))) rfl (V.bcmpNe rfl u4 rfl rfl) ?_
  refine WL.k (a := true) rfl rfl ?_
  refine WL.nil ?_
  refine WP.condn (t := (decide (m.Index = 0)) == (decide (m.LogTerm = 0))) rfl (fun hc419 => ?_) (fun hc419 => ?_)
  · refine WP.sr ?_
    refine WL.m rfl ?_
    refine WL.nil ?_
    refine WP.ret ?_
    refine resOf.c1 rfl (v := .bool (false)) rfl ?_
    exact ⟨(bool_eq (by first | assumption | grind [refMayMsgB, hdB, tailB, eqzB, membersB])), ((hx389).done (geCons hge_b65_w (geCons hge_b17_w geNil)))⟩
  refine WP.skip ?_
  refine WP.sr ?_
  refine WL.f (v1) fl32_9 rfl p25 (hb395.cell rfl) ?_
  obtain ⟨a420, c421, hv422⟩ := hl71.shape
  refine WL.z (.int .i64 (((m.Entries).length : Int))) (V.lenSlice rfl rfl u25 (Eq.trans (b := v1) rfl hv422)) ?_
  refine WL.z (.bool (decide (((m.Entries).length : Int) ≤ 16))) (V.cmp rfl rfl rfl rfl) ?_
  refine WL.vbp (c := ((m.Entries).length : Int) ≤ 16) (Sure.none rfl) rfl (V.move rfl rfl) (fun hc423 => ?_) (fun hc423 => ?_)
  rotate_left
  · refine WL.skips [(166, some false)] [(2, some false)] (kc (some false) rfl kn) (by kernel_rfl) (fun E435 hK436 hE437 => ?_)
    refine WP.ret ?_
    refine resOf.c1 rfl (v := .bool (false)) (hK436 2 (some false) rfl) ?_
    exact ⟨(bool_eq (by first | assumption | grind [refMayMsgB, hdB, tailB, eqzB, membersB])), ((hx389).done (geCons hge_b65_w (geCons hge_b17_w geNil)))⟩
  refine WL.fy (v1) rfl fl32_9 rfl p25 (hb395.cell rfl) ?_
  refine WL.fy (.int .u64 (m.LogTerm)) rfl fl32_5 rfl p23 (hb395.cell rfl) ?_
  refine WL.fy (.int .u64 (m.Term)) rfl fl32_3 rfl p23 (hb395.cell rfl) ?_
  refine WL.c (Sure.yes rfl rfl rfl) rfl (C.call3 rfl cl39 rfl rfl rfl) (Fnc.mono (ref_entries (hl71.ext (Ext.pre hx390)) m.LogTerm m.Term (by omega)) ?_)
  rintro _ w424 ⟨rfl, hx425⟩
  have hx426 : Ext [b65, b17] w w424 := hx389.trans (Ext.any (Y := [b65, b17]) hx425)
  refine WL.k (a := true) rfl rfl ?_
  refine WL.m rfl ?_
  refine WL.nil ?_
  refine WP.ret ?_
  refine resOf.c1 rfl (v := .bool (entsB m.Entries m.LogTerm m.Term)) rfl ?_
  exact ⟨(bool_eq (by first | assumption | grind [refMayMsgB, hdB, tailB, eqzB, membersB])), ((hx426).done (geCons hge_b65_w (geCons hge_b17_w geNil)))⟩

end Go.Proofs.Ytbpamkbegggeoaa.T
