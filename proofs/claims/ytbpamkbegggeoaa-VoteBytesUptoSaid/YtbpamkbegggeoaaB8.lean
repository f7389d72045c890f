/- My texts, cut to what this claim needs and merged. -/
import Derived.Test.YtbpamkbegggeoaaB7
namespace Go.Proofs.Ytbpamkbegggeoaa.T
open W Go.RowKit
set_option maxRecDepth 100000
set_option maxHeartbeats 400000
set_option maxHeartbeats 4000000 in
theorem vote_MayMsg {w : World} {X : List Nat} {m : MsgD} {c_m : List Value} (h_m : msgR.rd X w c_m m) : Fnc Try.prog 12 #[.agg c_m.toArray] w (fun v w' => v = .int .i64 (if mayMsgB m then 0 else 2) ∧ Ext [] w w') := by
  obtain ⟨v1, v3, rfl, hl2, hl4, hk5⟩ := h_m
  obtain ⟨hin6, hin7, hin8, hin9, hin10, hin11, hin12, hin13, hin14⟩ := (show MsgD.InR m from hk5)
  have hin6 := inK_u8 hin6
  have hin7 := inK_i64 hin7
  have hin8 := inK_i64 hin8
  have hin9 := inK_u64 hin9
  have hin10 := inK_u64 hin10
  have hin11 := inK_u64 hin11
  have hin12 := inK_u64 hin12
  have hin13 := inK_u64 hin13
  have hle15 := hl2.le'
  have hle16 := hl4.le'
  refine Fnc.of_WP (n := 127) Try.func12 rfl Try.ntmps12 (by simp) ?_
  intro E hE
  have h0 : E 0 = .agg #[.int .u8 (m.Kind), .int .i64 (m.From), .int .i64 (m.To), .int .u64 (m.Term), .int .u64 (m.Index), .int .u64 (m.LogTerm), .int .u64 (m.Commit), .int .u64 (m.Round), .bool (m.Ok), v1, v3, .string (m.Snap)] := hE 0 (by simp)
  clear hE
  refine WP.sr ?_
  refine WL.box (x := .tmp 0) (cs := [.int .u8 (m.Kind), .int .i64 (m.From), .int .i64 (m.To), .int .u64 (m.Term), .int .u64 (m.Index), .int .u64 (m.LogTerm), .int .u64 (m.Commit), .int .u64 (m.Round), .bool (m.Ok), v1, v3, .string (m.Snap)]) (Sure.none rfl) rfl rfl h0 rfl (fun b17 w18 hx19 he20 hb21 => ?_)
  have hl22 := (Sl.new (b := b17) (by show (4 : Nat) ≠ 0; decide) hl2 (by omega)).ext (Ext.any hx19)
  have hl23 := (Sl.new (b := b17) (by show (1 : Nat) ≠ 0; decide) hl4 (by omega)).ext (Ext.any hx19)
  have hx24 : Ext [b17] _ _ := (Ext.refl _ _).trans (Ext.any hx19)
  have hge_b17_w : w.heap.size ≤ b17 := by have := Nat.le_refl w.heap.size; omega
  refine WL.m rfl ?_
  refine WL.nil ?_
  refine WP.sr ?_
  refine WL.z (.agg #[.int .u8 (m.Kind), .int .i64 (m.From), .int .i64 (m.To), .int .u64 (m.Term), .int .u64 (m.Index), .int .u64 (m.LogTerm), .int .u64 (m.Commit), .int .u64 (m.Round), .bool (m.Ok), v1, v3, .string (m.Snap)]) (V.loadAgg (cs := [.int .u8 (m.Kind), .int .i64 (m.From), .int .i64 (m.To), .int .u64 (m.Term), .int .u64 (m.Index), .int .u64 (m.LogTerm), .int .u64 (m.Commit), .int .u64 (m.Round), .bool (m.Ok), v1, v3, .string (m.Snap)]) rfl a32 rfl (At.box hb21) rfl) ?_
  refine WL.alloc (cs := [.int .u8 (0), .int .i64 (0), .int .i64 (0), .int .u64 (0), .int .u64 (0), .int .u64 (0), .int .u64 (0), .int .u64 (0), .bool (false), .slice none 0 0, .slice none 0 0, .string (ByteArray.mk #[])]) (Sure.none rfl) rfl rfl z32 rfl (fun b25 w26 hx27 he28 hb29 => ?_)
  have hlt_b17_b25 : b17 < b25 := by have := hb21.lt; omega
  have hb30 := hb21.ext hx27 (by simp)
  have hl31 := (Sl.new (b := b25) (by show (4 : Nat) ≠ 0; decide) hl22 (by omega)).ext (Ext.any hx27)
  have hl32 := (Sl.new (b := b25) (by show (1 : Nat) ≠ 0; decide) hl23 (by omega)).ext (Ext.any hx27)
  have hx33 : Ext [b25, b17] _ _ := (Ext.cons hx24).trans (Ext.any hx27)
  have hge_b25_w : w.heap.size ≤ b25 := by have := hx24.size; omega
  refine WL.storeAgg (vs := [.int .u8 (m.Kind), .int .i64 (m.From), .int .i64 (m.To), .int .u64 (m.Term), .int .u64 (m.Index), .int .u64 (m.LogTerm), .int .u64 (m.Commit), .int .u64 (m.Round), .bool (m.Ok), v1, v3, .string (m.Snap)]) (Sure.none rfl) rfl rfl s32 rfl rfl rfl (by intro u hu; simp only [List.mem_cons, List.not_mem_nil, or_false] at hu; rcases hu with rfl | rfl | rfl | rfl | rfl | rfl | rfl | rfl | rfl | rfl | rfl | rfl <;> first | rfl | exact Sl.one (by assumption)) hb29 (by show (0 : Nat) + 12 ≤ 12; decide) (fun w34 hs35 hb36 => ?_)
  replace hb36 : Box w34 b25 32 [.int .u8 (m.Kind), .int .i64 (m.From), .int .i64 (m.To), .int .u64 (m.Term), .int .u64 (m.Index), .int .u64 (m.LogTerm), .int .u64 (m.Commit), .int .u64 (m.Round), .bool (m.Ok), v1, v3, .string (m.Snap)] := hb36
  have hb37 := hb30.ext hs35 (by simp; omega)
  have hx38 : Ext [b25, b17] w w34 := hx33.trans (hs35.mono (by simp))
  have hx39 : Ext [b25, b17] w26 w34 := (hs35.mono (by simp))
  refine WL.nil ?_
  refine WP.sr ?_
  refine WL.z (.pointer (some ⟨b25, 0, none⟩)) (V.fieldAddr rfl fl32_0 rfl) ?_
  refine WL.store (Sure.none rfl) rfl rfl s30 rfl rfl rfl hb36 (by show (0 : Nat) < 12; decide) (fun w40 hs41 hb42 => ?_)
  replace hb42 : Box w40 b25 32 [.int .u8 (0), .int .i64 (m.From), .int .i64 (m.To), .int .u64 (m.Term), .int .u64 (m.Index), .int .u64 (m.LogTerm), .int .u64 (m.Commit), .int .u64 (m.Round), .bool (m.Ok), v1, v3, .string (m.Snap)] := hb42
  have hb43 := hb37.ext hs41 (by simp; omega)
  have hx44 : Ext [b25, b17] w w40 := hx38.trans (hs41.mono (by simp))
  have hx45 : Ext [b25, b17] w26 w40 := hx39.trans (hs41.mono (by simp))
  refine WL.z (.pointer (some ⟨b25, 1, none⟩)) (V.fieldAddr rfl fl32_1 rfl) ?_
  refine WL.store (Sure.none rfl) rfl rfl s3 rfl rfl rfl hb42 (by show (1 : Nat) < 12; decide) (fun w47 hs48 hb49 => ?_)
  replace hb49 : Box w47 b25 32 [.int .u8 (0), .int .i64 (0), .int .i64 (m.To), .int .u64 (m.Term), .int .u64 (m.Index), .int .u64 (m.LogTerm), .int .u64 (m.Commit), .int .u64 (m.Round), .bool (m.Ok), v1, v3, .string (m.Snap)] := hb49
  have hb50 := hb43.ext hs48 (by simp; omega)
  have hx51 : Ext [b25, b17] w w47 := hx44.trans (hs48.mono (by simp))
  have hx52 : Ext [b25, b17] w26 w47 := hx45.trans (hs48.mono (by simp))
  refine WL.z (.pointer (some ⟨b25, 2, none⟩)) (V.fieldAddr rfl fl32_2 rfl) ?_
  refine WL.store (Sure.none rfl) rfl rfl s3 rfl rfl rfl hb49 (by show (2 : Nat) < 12; decide) (fun w55 hs56 hb57 => ?_)
  replace hb57 : Box w55 b25 32 [.int .u8 (0), .int .i64 (0), .int .i64 (0), .int .u64 (m.Term), .int .u64 (m.Index), .int .u64 (m.LogTerm), .int .u64 (m.Commit), .int .u64 (m.Round), .bool (m.Ok), v1, v3, .string (m.Snap)] := hb57
  have hb58 := hb50.ext hs56 (by simp; omega)
  have hx59 : Ext [b25, b17] w w55 := hx51.trans (hs56.mono (by simp))
  have hx60 : Ext [b25, b17] w26 w55 := hx52.trans (hs56.mono (by simp))
  refine WL.z (.pointer (some ⟨b25, 3, none⟩)) (V.fieldAddr rfl fl32_3 rfl) ?_
  refine WL.store (Sure.none rfl) rfl rfl s23 rfl rfl rfl hb57 (by show (3 : Nat) < 12; decide) (fun w64 hs65 hb66 => ?_)
  replace hb66 : Box w64 b25 32 [.int .u8 (0), .int .i64 (0), .int .i64 (0), .int .u64 (0), .int .u64 (m.Index), .int .u64 (m.LogTerm), .int .u64 (m.Commit), .int .u64 (m.Round), .bool (m.Ok), v1, v3, .string (m.Snap)] := hb66
  have hb67 := hb58.ext hs65 (by simp; omega)
  have hx68 : Ext [b25, b17] w w64 := hx59.trans (hs65.mono (by simp))
  have hx69 : Ext [b25, b17] w26 w64 := hx60.trans (hs65.mono (by simp))
  refine WL.nil ?_
  have hsz76 : w.heap.size ≤ w64.heap.size := hx68.size
  refine WP.seq_cut (fun E74 w75 => E74 0 = .agg #[.int .u8 (m.Kind), .int .i64 (m.From), .int .i64 (m.To), .int .u64 (m.Term), .int .u64 (m.Index), .int .u64 (m.LogTerm), .int .u64 (m.Commit), .int .u64 (m.Round), .bool (m.Ok), v1, v3, .string (m.Snap)] ∧ E74 1 = .pointer (some ⟨b17, 0, none⟩) ∧ E74 3 = .pointer (some ⟨b25, 0, none⟩) ∧ E74 5 = .agg #[.int .u8 (m.Kind), .int .i64 (m.From), .int .i64 (m.To), .int .u64 (m.Term), .int .u64 (m.Index), .int .u64 (m.LogTerm), .int .u64 (m.Commit), .int .u64 (m.Round), .bool (m.Ok), v1, v3, .string (m.Snap)] ∧ E74 6 = .pointer (some ⟨b25, 0, none⟩) ∧ E74 7 = .pointer (some ⟨b25, 1, none⟩) ∧ E74 8 = .pointer (some ⟨b25, 2, none⟩) ∧ E74 9 = .pointer (some ⟨b25, 3, none⟩) ∧ E74 4 = .bool (hdB m) ∧ Ext [b25, b17] w64 w75 ∧ Box w75 b17 32 [.int .u8 (m.Kind), .int .i64 (m.From), .int .i64 (m.To), .int .u64 (m.Term), .int .u64 (m.Index), .int .u64 (m.LogTerm), .int .u64 (m.Commit), .int .u64 (m.Round), .bool (m.Ok), v1, v3, .string (m.Snap)] ∧ Box w75 b25 32 [.int .u8 (0), .int .i64 (0), .int .i64 (0), .int .u64 (0), .int .u64 (m.Index), .int .u64 (m.LogTerm), .int .u64 (m.Commit), .int .u64 (m.Round), .bool (m.Ok), v1, v3, .string (m.Snap)]) ?_ ?_
  · refine WP.region ?_
    refine WL.f (.int .i64 (m.From)) fl32_1 rfl p3 (hb67.cell rfl) ?_
    refine WL.c (Sure.none rfl) rfl (C.call1 rfl cl45 rfl) (Fnc.mono (vote_id m.From) ?_)
    rintro _ w77 ⟨rfl, hx78⟩
    have hx85 : Ext [b25, b17] w64 w77 := (Ext.any (Y := [b25, b17]) hx78)
    have hb86 := hb67.ext hx78 (by simp)
    have hb87 := hb66.ext hx78 (by simp)
    refine WL.vb (c := idB m.From) (Sure.none rfl) rfl (V.move rfl rfl) (fun hc88 => ?_) (fun hc88 => ?_)
    rotate_left
    · refine WL.skips [(13, some false)] [(4, some false)] (kc (some false) rfl kn) (by kernel_rfl) (fun E125 hK126 hE127 => ?_)
      exact ⟨((hE127 0 rfl).trans h0), (hE127 1 rfl), (hE127 3 rfl), (hE127 5 rfl), (hE127 6 rfl), (hE127 7 rfl), (hE127 8 rfl), (hE127 9 rfl), (Eq.trans (hK126 4 (some false) rfl) (bool_eq (by first | assumption | grind [hdB]))), hx85, hb86, hb87⟩
    refine WL.fy (.int .i64 (m.To)) rfl fl32_2 rfl p3 (hb86.cell rfl) ?_
    refine WL.c (Sure.yes rfl rfl rfl) rfl (C.call1 rfl cl45 rfl) (Fnc.mono (vote_id m.To) ?_)
    rintro _ w89 ⟨rfl, hx90⟩
    have hx97 : Ext [b25, b17] w64 w89 := hx85.trans (Ext.any (Y := [b25, b17]) hx90)
    have hb99 := hb86.ext hx90 (by simp)
    have hb100 := hb87.ext hx90 (by simp)
    refine WL.k (a := true) rfl rfl ?_
    refine WL.vb (c := idB m.To) (Sure.none rfl) rfl (V.move rfl rfl) (fun hc101 => ?_) (fun hc101 => ?_)
    rotate_left
    · refine WL.skips [(18, some false)] [(4, some false)] (kc (some false) rfl kn) (by kernel_rfl) (fun E122 hK123 hE124 => ?_)
      exact ⟨((hE124 0 rfl).trans h0), (hE124 1 rfl), (hE124 3 rfl), (hE124 5 rfl), (hE124 6 rfl), (hE124 7 rfl), (hE124 8 rfl), (hE124 9 rfl), (Eq.trans (hK123 4 (some false) rfl) (bool_eq (by first | assumption | grind [hdB]))), hx97, hb99, hb100⟩
    refine WL.fy (.int .i64 (m.From)) rfl fl32_1 rfl p3 (hb99.cell rfl) ?_
    refine WL.fy (.int .i64 (m.To)) rfl fl32_2 rfl p3 (hb99.cell rfl) ?_
    refine WL.y (.bool (decide (m.From ≠ m.To))) rfl (V.cmp rfl rfl rfl rfl) ?_
    refine WL.k (a := true) rfl rfl ?_
    refine WL.vbp (c := m.From ≠ m.To) (Sure.none rfl) rfl (V.move rfl rfl) (fun hc102 => ?_) (fun hc102 => ?_)
    rotate_left
    · refine WL.skips [(25, some false)] [(4, some false)] (kc (some false) rfl kn) (by kernel_rfl) (fun E119 hK120 hE121 => ?_)
      exact ⟨((hE121 0 rfl).trans h0), (hE121 1 rfl), (hE121 3 rfl), (hE121 5 rfl), (hE121 6 rfl), (hE121 7 rfl), (hE121 8 rfl), (hE121 9 rfl), (Eq.trans (hK120 4 (some false) rfl) (bool_eq (by first | assumption | grind [hdB]))), hx97, hb99, hb100⟩
    refine WL.fy (.int .u64 (m.Term)) rfl fl32_3 rfl p23 (hb99.cell rfl) ?_
    refine WL.y (.bool (decide (m.Term > 0))) rfl (V.cmp rfl rfl rfl rfl) ?_
    refine WL.k (a := true) rfl rfl ?_
    refine WL.vbp (c := m.Term > 0) (Sure.none rfl) rfl (V.move rfl rfl) (fun hc103 => ?_) (fun hc103 => ?_)
    rotate_left
    · refine WL.skips [(30, some false)] [(4, some false)] (kc (some false) rfl kn) (by kernel_rfl) (fun E116 hK117 hE118 => ?_)
      exact ⟨((hE118 0 rfl).trans h0), (hE118 1 rfl), (hE118 3 rfl), (hE118 5 rfl), (hE118 6 rfl), (hE118 7 rfl), (hE118 8 rfl), (hE118 9 rfl), (Eq.trans (hK117 4 (some false) rfl) (bool_eq (by first | assumption | grind [hdB]))), hx97, hb99, hb100⟩
    refine WL.fy (.int .u64 (m.Term)) rfl fl32_3 rfl p23 (hb99.cell rfl) ?_
    refine WL.y (.bool (decide (m.Term ≤ 4611686018427387904))) rfl (V.cmp rfl rfl rfl rfl) ?_
    refine WL.k (a := true) rfl rfl ?_
    refine WL.vbp (c := m.Term ≤ 4611686018427387904) (Sure.none rfl) rfl (V.move rfl rfl) (fun hc104 => ?_) (fun hc104 => ?_)
    rotate_left
    · refine WL.skips [(35, some false)] [(4, some false)] (kc (some false) rfl kn) (by kernel_rfl) (fun E113 hK114 hE115 => ?_)
      exact ⟨((hE115 0 rfl).trans h0), (hE115 1 rfl), (hE115 3 rfl), (hE115 5 rfl), (hE115 6 rfl), (hE115 7 rfl), (hE115 8 rfl), (hE115 9 rfl), (Eq.trans (hK114 4 (some false) rfl) (bool_eq (by first | assumption | grind [hdB]))), hx97, hb99, hb100⟩
    refine WL.fy (.int .u64 (m.Round)) rfl fl32_7 rfl p23 (hb99.cell rfl) ?_
    refine WL.y (.bool (decide (m.Round ≤ 4611686018427387904))) rfl (V.cmp rfl rfl rfl rfl) ?_
    refine WL.k (a := true) rfl rfl ?_
    refine WL.vbp (c := m.Round ≤ 4611686018427387904) (Sure.none rfl) rfl (V.move rfl rfl) (fun hc105 => ?_) (fun hc105 => ?_)
    rotate_left
    · refine WL.skips [(40, some false)] [(4, some false)] (kc (some false) rfl kn) (by kernel_rfl) (fun E110 hK111 hE112 => ?_)
      exact ⟨((hE112 0 rfl).trans h0), (hE112 1 rfl), (hE112 3 rfl), (hE112 5 rfl), (hE112 6 rfl), (hE112 7 rfl), (hE112 8 rfl), (hE112 9 rfl), (Eq.trans (hK111 4 (some false) rfl) (bool_eq (by first | assumption | grind [hdB]))), hx97, hb99, hb100⟩
    refine WL.fy (.int .u64 (m.Index)) rfl fl32_4 rfl p23 (hb99.cell rfl) ?_
    refine WL.y (.bool (decide (m.Index ≤ 4611686018427387904))) rfl (V.cmp rfl rfl rfl rfl) ?_
    refine WL.k (a := true) rfl rfl ?_
    refine WL.vbp (c := m.Index ≤ 4611686018427387904) (Sure.none rfl) rfl (V.move rfl rfl) (fun hc106 => ?_) (fun hc106 => ?_)
    rotate_left
    · refine WL.skips [(45, some false)] [(4, some false)] (kc (some false) rfl kn) (by kernel_rfl) (fun E107 hK108 hE109 => ?_)
      exact ⟨((hE109 0 rfl).trans h0), (hE109 1 rfl), (hE109 3 rfl), (hE109 5 rfl), (hE109 6 rfl), (hE109 7 rfl), (hE109 8 rfl), (hE109 9 rfl), (Eq.trans (hK108 4 (some false) rfl) (bool_eq (by first | assumption | grind [hdB]))), hx97, hb99, hb100⟩
    refine WL.fy (.int .u64 (m.LogTerm)) rfl fl32_5 rfl p23 (hb99.cell rfl) ?_
    refine WL.fy (.int .u64 (m.Term)) rfl fl32_3 rfl p23 (hb99.cell rfl) ?_
    refine WL.y (.bool (decide (m.LogTerm ≤ m.Term))) rfl (V.cmp rfl rfl rfl rfl) ?_
    refine WL.k (a := true) rfl rfl ?_
    refine WL.m rfl ?_
    refine WL.nil ?_
    exact ⟨h0, rfl, rfl, rfl, rfl, rfl, rfl, rfl, (bool_eq (by first | assumption | grind [hdB])), hx97, hb99, hb100⟩
  rintro E74 w75 ⟨h0_128, h1_128, h3_128, h5_128, h6_128, h7_128, h8_128, h9_128, h4_128, hx128, hbb17_128, hbb25_128⟩
  have hx129 : Ext [b25, b17] w w75 := hx68.trans hx128
  have hx130 : Ext [b25, b17] w26 w75 := hx69.trans hx128
  refine WP.seq ?_
  refine WP.sr ?_
  refine WL.f (x := .tmp 1) (.int .u8 (m.Kind)) fl32_0 h1_128 p30 (hbb17_128.cell rfl) ?_
  refine WL.nil ?_
  refine WP.block ?_
  refine WP.seq ?_
  refine WP.block ?_
  refine WP.seq ?_
  refine WP.block ?_
  refine WP.seq ?_
  refine WP.block ?_
  refine WP.seq ?_
  refine WP.block ?_
  refine WP.seq ?_
  refine WP.block ?_
  refine WP.seq ?_
  refine WP.block ?_
  refine WP.seq ?_
  refine WP.seq ?_
  refine WP.sr ?_
  refine WL.z (.bool (decide (m.Kind = 3))) (V.cmp rfl rfl rfl rfl) ?_
  refine WL.m rfl ?_
  refine WL.nil ?_
  refine WP.condp (t := m.Kind = 3) rfl (fun hc136 => ?_) (fun hc136 => ?_)
  · refine WP.exit ?_
    refine WP.sr ?_
    refine WL.m rfl ?_
    refine WL.vb (c := hdB m) (Sure.none rfl) rfl (V.move (x := .tmp 64) rfl h4_128) (fun hc137 => ?_) (fun hc137 => ?_)
    rotate_left
    · refine WL.skips [(65, some false)] [(4, some false)] (kc (some false) rfl kn) (by kernel_rfl) (fun E371 hK372 hE373 => ?_)
      refine WP.region ?_
      refine WL.z (.pointer (some ⟨b25, 6, none⟩)) (V.fieldAddr (x := .tmp 3) rfl fl32_6 ((hE373 3 rfl).trans h3_128)) ?_
      refine WL.store (Sure.none rfl) rfl rfl s23 rfl rfl rfl hbb25_128 (by show (6 : Nat) < 12; decide) (fun w374 hs375 hb376 => ?_)
      replace hb376 : Box w374 b25 32 [.int .u8 (0), .int .i64 (0), .int .i64 (0), .int .u64 (0), .int .u64 (m.Index), .int .u64 (m.LogTerm), .int .u64 (0), .int .u64 (m.Round), .bool (m.Ok), v1, v3, .string (m.Snap)] := hb376
      have hx378 : Ext [b25, b17] w w374 := hx129.trans (hs375.mono (by simp))
      refine WL.z (.pointer (some ⟨b25, 7, none⟩)) (V.fieldAddr (x := .tmp 3) rfl fl32_7 ((hE373 3 rfl).trans h3_128)) ?_
      refine WL.store (Sure.none rfl) rfl rfl s23 rfl rfl rfl hb376 (by show (7 : Nat) < 12; decide) (fun w386 hs387 hb388 => ?_)
      replace hb388 : Box w386 b25 32 [.int .u8 (0), .int .i64 (0), .int .i64 (0), .int .u64 (0), .int .u64 (m.Index), .int .u64 (m.LogTerm), .int .u64 (0), .int .u64 (0), .bool (m.Ok), v1, v3, .string (m.Snap)] := hb388
      have hx390 : Ext [b25, b17] w w386 := hx378.trans (hs387.mono (by simp))
      refine WL.z (.pointer (some ⟨b25, 9, none⟩)) (V.fieldAddr (x := .tmp 3) rfl fl32_9 ((hE373 3 rfl).trans h3_128)) ?_
      refine WL.store (Sure.none rfl) rfl rfl s25 rfl rfl rfl hb388 (by show (9 : Nat) < 12; decide) (fun w399 hs400 hb401 => ?_)
      replace hb401 : Box w399 b25 32 [.int .u8 (0), .int .i64 (0), .int .i64 (0), .int .u64 (0), .int .u64 (m.Index), .int .u64 (m.LogTerm), .int .u64 (0), .int .u64 (0), .bool (m.Ok), .slice none 0 0, v3, .string (m.Snap)] := hb401
      have hx403 : Ext [b25, b17] w w399 := hx390.trans (hs400.mono (by simp))
      refine WL.nil ?_
      refine WP.seq ?_
      refine WP.sr ?_
      refine WL.skips [(4, some false)] [(4, some false)] (kc (some false) (hK372 4 (some false) rfl) kn) (by kernel_rfl) (fun E413 hK414 hE415 => ?_)
      refine WP.region ?_
      refine WL.z (.pointer (some ⟨b25, 4, none⟩)) (V.fieldAddr (x := .tmp 3) rfl fl32_4 ((hE415 3 rfl).trans ((hE373 3 rfl).trans h3_128))) ?_
      refine WL.store (Sure.none rfl) rfl rfl s23 rfl rfl rfl hb401 (by show (4 : Nat) < 12; decide) (fun w416 hs417 hb418 => ?_)
      replace hb418 : Box w416 b25 32 [.int .u8 (0), .int .i64 (0), .int .i64 (0), .int .u64 (0), .int .u64 (0), .int .u64 (m.LogTerm), .int .u64 (0), .int .u64 (0), .bool (m.Ok), .slice none 0 0, v3, .string (m.Snap)] := hb418
      have hx420 : Ext [b25, b17] w w416 := hx403.trans (hs417.mono (by simp))
      refine WL.z (.pointer (some ⟨b25, 5, none⟩)) (V.fieldAddr (x := .tmp 3) rfl fl32_5 ((hE415 3 rfl).trans ((hE373 3 rfl).trans h3_128))) ?_
      refine WL.store (Sure.none rfl) rfl rfl s23 rfl rfl rfl hb418 (by show (5 : Nat) < 12; decide) (fun w431 hs432 hb433 => ?_)
      replace hb433 : Box w431 b25 32 [.int .u8 (0), .int .i64 (0), .int .i64 (0), .int .u64 (0), .int .u64 (0), .int .u64 (0), .int .u64 (0), .int .u64 (0), .bool (m.Ok), .slice none 0 0, v3, .string (m.Snap)] := hb433
      have hx435 : Ext [b25, b17] w w431 := hx420.trans (hs432.mono (by simp))
      refine WL.nil ?_
      refine WP.exit ?_
      refine WP.seq ?_
      refine WP.sr ?_
      refine WL.skips [(4, some false)] [(126, some true)] (kc (some false) (hK414 4 (some false) rfl) kn) (by kernel_rfl) (fun E447 hK448 hE449 => ?_)
      refine WP.cond_true (hK448 126 (some true) rfl) ?_
      refine WP.sr ?_
      refine WL.m rfl ?_
      refine WL.nil ?_
      refine WP.ret ?_
      refine resOf.c1 rfl (v := .int .i64 (2)) rfl ?_
      exact ⟨(int_eq (by first | (rw [show mayMsgB m = false from (by first | assumption | grind [mayMsgB, layB, askB, heardB, toldB, installB, eqzB])]; rfl) | (rw [show mayMsgB m = true from (by first | assumption | grind [mayMsgB, layB, askB, heardB, toldB, installB, eqzB])]; rfl))), ((hx435).done (geCons hge_b25_w (geCons hge_b17_w geNil)))⟩
    refine WL.fy (x := .tmp 1) (v1) rfl fl32_9 h1_128 p25 (hbb17_128.cell rfl) ?_
    obtain ⟨a138, c139, hv140⟩ := hl31.shape
    refine WL.y (.int .i64 (((m.Entries).length : Int))) rfl (V.lenSlice rfl rfl u25 (Eq.trans (b := v1) rfl hv140)) ?_
    refine WL.y (.bool (decide (((m.Entries).length : Int) ≤ 16))) rfl (V.cmp rfl rfl rfl rfl) ?_
    refine WL.k (a := true) rfl rfl ?_
    refine WL.vbp (c := ((m.Entries).length : Int) ≤ 16) (Sure.none rfl) rfl (V.move rfl rfl) (fun hc141 => ?_) (fun hc141 => ?_)
    rotate_left
    · refine WL.skips [(71, some false)] [(4, some false)] (kc (some false) rfl kn) (by kernel_rfl) (fun E292 hK293 hE294 => ?_)
      refine WP.region ?_
      refine WL.z (.pointer (some ⟨b25, 6, none⟩)) (V.fieldAddr (x := .tmp 3) rfl fl32_6 ((hE294 3 rfl).trans h3_128)) ?_
      refine WL.store (Sure.none rfl) rfl rfl s23 rfl rfl rfl hbb25_128 (by show (6 : Nat) < 12; decide) (fun w295 hs296 hb297 => ?_)
      replace hb297 : Box w295 b25 32 [.int .u8 (0), .int .i64 (0), .int .i64 (0), .int .u64 (0), .int .u64 (m.Index), .int .u64 (m.LogTerm), .int .u64 (0), .int .u64 (m.Round), .bool (m.Ok), v1, v3, .string (m.Snap)] := hb297
      have hx299 : Ext [b25, b17] w w295 := hx129.trans (hs296.mono (by simp))
      refine WL.z (.pointer (some ⟨b25, 7, none⟩)) (V.fieldAddr (x := .tmp 3) rfl fl32_7 ((hE294 3 rfl).trans h3_128)) ?_
      refine WL.store (Sure.none rfl) rfl rfl s23 rfl rfl rfl hb297 (by show (7 : Nat) < 12; decide) (fun w307 hs308 hb309 => ?_)
      replace hb309 : Box w307 b25 32 [.int .u8 (0), .int .i64 (0), .int .i64 (0), .int .u64 (0), .int .u64 (m.Index), .int .u64 (m.LogTerm), .int .u64 (0), .int .u64 (0), .bool (m.Ok), v1, v3, .string (m.Snap)] := hb309
      have hx311 : Ext [b25, b17] w w307 := hx299.trans (hs308.mono (by simp))
      refine WL.z (.pointer (some ⟨b25, 9, none⟩)) (V.fieldAddr (x := .tmp 3) rfl fl32_9 ((hE294 3 rfl).trans h3_128)) ?_
      refine WL.store (Sure.none rfl) rfl rfl s25 rfl rfl rfl hb309 (by show (9 : Nat) < 12; decide) (fun w320 hs321 hb322 => ?_)
      replace hb322 : Box w320 b25 32 [.int .u8 (0), .int .i64 (0), .int .i64 (0), .int .u64 (0), .int .u64 (m.Index), .int .u64 (m.LogTerm), .int .u64 (0), .int .u64 (0), .bool (m.Ok), .slice none 0 0, v3, .string (m.Snap)] := hb322
      have hx324 : Ext [b25, b17] w w320 := hx311.trans (hs321.mono (by simp))
      refine WL.nil ?_
      refine WP.seq ?_
      refine WP.sr ?_
      refine WL.skips [(4, some false)] [(4, some false)] (kc (some false) (hK293 4 (some false) rfl) kn) (by kernel_rfl) (fun E334 hK335 hE336 => ?_)
      refine WP.region ?_
      refine WL.z (.pointer (some ⟨b25, 4, none⟩)) (V.fieldAddr (x := .tmp 3) rfl fl32_4 ((hE336 3 rfl).trans ((hE294 3 rfl).trans h3_128))) ?_
      refine WL.store (Sure.none rfl) rfl rfl s23 rfl rfl rfl hb322 (by show (4 : Nat) < 12; decide) (fun w337 hs338 hb339 => ?_)
      replace hb339 : Box w337 b25 32 [.int .u8 (0), .int .i64 (0), .int .i64 (0), .int .u64 (0), .int .u64 (0), .int .u64 (m.LogTerm), .int .u64 (0), .int .u64 (0), .bool (m.Ok), .slice none 0 0, v3, .string (m.Snap)] := hb339
      have hx341 : Ext [b25, b17] w w337 := hx324.trans (hs338.mono (by simp))
      refine WL.z (.pointer (some ⟨b25, 5, none⟩)) (V.fieldAddr (x := .tmp 3) rfl fl32_5 ((hE336 3 rfl).trans ((hE294 3 rfl).trans h3_128))) ?_
      refine WL.store (Sure.none rfl) rfl rfl s23 rfl rfl rfl hb339 (by show (5 : Nat) < 12; decide) (fun w352 hs353 hb354 => ?_)
      replace hb354 : Box w352 b25 32 [.int .u8 (0), .int .i64 (0), .int .i64 (0), .int .u64 (0), .int .u64 (0), .int .u64 (0), .int .u64 (0), .int .u64 (0), .bool (m.Ok), .slice none 0 0, v3, .string (m.Snap)] := hb354
      have hx356 : Ext [b25, b17] w w352 := hx341.trans (hs353.mono (by simp))
      refine WL.nil ?_
      refine WP.exit ?_
      refine WP.seq ?_
      refine WP.sr ?_
      refine WL.skips [(4, some false)] [(126, some true)] (kc (some false) (hK335 4 (some false) rfl) kn) (by kernel_rfl) (fun E368 hK369 hE370 => ?_)
      refine WP.cond_true (hK369 126 (some true) rfl) ?_
      refine WP.sr ?_
      refine WL.m rfl ?_
      refine WL.nil ?_
      refine WP.ret ?_
      refine resOf.c1 rfl (v := .int .i64 (2)) rfl ?_
      exact ⟨(int_eq (by first | (rw [show mayMsgB m = false from (by first | assumption | grind [mayMsgB, layB, askB, heardB, toldB, installB, eqzB])]; rfl) | (rw [show mayMsgB m = true from (by first | assumption | grind [mayMsgB, layB, askB, heardB, toldB, installB, eqzB])]; rfl))), ((hx356).done (geCons hge_b25_w (geCons hge_b17_w geNil)))⟩
    refine WL.fy (x := .tmp 1) (v1) rfl fl32_9 h1_128 p25 (hbb17_128.cell rfl) ?_
    refine WL.fy (x := .tmp 1) (.int .u64 (m.LogTerm)) rfl fl32_5 h1_128 p23 (hbb17_128.cell rfl) ?_
    refine WL.fy (x := .tmp 1) (.int .u64 (m.Term)) rfl fl32_3 h1_128 p23 (hbb17_128.cell rfl) ?_
    refine WL.c (Sure.yes rfl rfl rfl) rfl (C.call3 rfl cl46 rfl rfl rfl) (Fnc.mono (vote_entries (hl31.ext (Ext.pre hx130)) m.LogTerm m.Term (by omega)) ?_)
    rintro _ w142 ⟨rfl, hx143⟩
    have hx144 : Ext [b25, b17] w w142 := hx129.trans (Ext.any (Y := [b25, b17]) hx143)
    have hx145 : Ext [b25, b17] w26 w142 := hx130.trans (Ext.any (Y := [b25, b17]) hx143)
    have hb152 := hbb17_128.ext hx143 (by simp)
    have hb153 := hbb25_128.ext hx143 (by simp)
    refine WL.k (a := true) rfl rfl ?_
    refine WL.m rfl ?_
    refine WL.nil ?_
    refine WP.region ?_
    refine WL.z (.pointer (some ⟨b25, 6, none⟩)) (V.fieldAddr (x := .tmp 3) rfl fl32_6 h3_128) ?_
    refine WL.store (Sure.none rfl) rfl rfl s23 rfl rfl rfl hb153 (by show (6 : Nat) < 12; decide) (fun w154 hs155 hb156 => ?_)
    replace hb156 : Box w154 b25 32 [.int .u8 (0), .int .i64 (0), .int .i64 (0), .int .u64 (0), .int .u64 (m.Index), .int .u64 (m.LogTerm), .int .u64 (0), .int .u64 (m.Round), .bool (m.Ok), v1, v3, .string (m.Snap)] := hb156
    have hb157 := hb152.ext hs155 (by simp; omega)
    have hx158 : Ext [b25, b17] w w154 := hx144.trans (hs155.mono (by simp))
    have hx159 : Ext [b25, b17] w26 w154 := hx145.trans (hs155.mono (by simp))
    refine WL.z (.pointer (some ⟨b25, 7, none⟩)) (V.fieldAddr (x := .tmp 3) rfl fl32_7 h3_128) ?_
    refine WL.store (Sure.none rfl) rfl rfl s23 rfl rfl rfl hb156 (by show (7 : Nat) < 12; decide) (fun w167 hs168 hb169 => ?_)
    replace hb169 : Box w167 b25 32 [.int .u8 (0), .int .i64 (0), .int .i64 (0), .int .u64 (0), .int .u64 (m.Index), .int .u64 (m.LogTerm), .int .u64 (0), .int .u64 (0), .bool (m.Ok), v1, v3, .string (m.Snap)] := hb169
    have hb170 := hb157.ext hs168 (by simp; omega)
    have hx171 : Ext [b25, b17] w w167 := hx158.trans (hs168.mono (by simp))
    have hx172 : Ext [b25, b17] w26 w167 := hx159.trans (hs168.mono (by simp))
    refine WL.z (.pointer (some ⟨b25, 9, none⟩)) (V.fieldAddr (x := .tmp 3) rfl fl32_9 h3_128) ?_
    refine WL.store (Sure.none rfl) rfl rfl s25 rfl rfl rfl hb169 (by show (9 : Nat) < 12; decide) (fun w181 hs182 hb183 => ?_)
    replace hb183 : Box w181 b25 32 [.int .u8 (0), .int .i64 (0), .int .i64 (0), .int .u64 (0), .int .u64 (m.Index), .int .u64 (m.LogTerm), .int .u64 (0), .int .u64 (0), .bool (m.Ok), .slice none 0 0, v3, .string (m.Snap)] := hb183
    have hb184 := hb170.ext hs182 (by simp; omega)
    have hx185 : Ext [b25, b17] w w181 := hx171.trans (hs182.mono (by simp))
    have hx186 : Ext [b25, b17] w26 w181 := hx172.trans (hs182.mono (by simp))
    refine WL.nil ?_
    refine WP.seq ?_
    refine WP.sr ?_
    refine WL.m rfl ?_
    refine WL.vb (c := entsB m.Entries m.LogTerm m.Term) (Sure.none rfl) rfl (V.move rfl rfl) (fun hc196 => ?_) (fun hc196 => ?_)
    rotate_left
    · refine WL.skips [(84, some false)] [(4, some false)] (kc (some false) rfl kn) (by kernel_rfl) (fun E253 hK254 hE255 => ?_)
      refine WP.region ?_
      refine WL.z (.pointer (some ⟨b25, 4, none⟩)) (V.fieldAddr (x := .tmp 3) rfl fl32_4 ((hE255 3 rfl).trans h3_128)) ?_
      refine WL.store (Sure.none rfl) rfl rfl s23 rfl rfl rfl hb183 (by show (4 : Nat) < 12; decide) (fun w256 hs257 hb258 => ?_)
      replace hb258 : Box w256 b25 32 [.int .u8 (0), .int .i64 (0), .int .i64 (0), .int .u64 (0), .int .u64 (0), .int .u64 (m.LogTerm), .int .u64 (0), .int .u64 (0), .bool (m.Ok), .slice none 0 0, v3, .string (m.Snap)] := hb258
      have hx260 : Ext [b25, b17] w w256 := hx185.trans (hs257.mono (by simp))
      refine WL.z (.pointer (some ⟨b25, 5, none⟩)) (V.fieldAddr (x := .tmp 3) rfl fl32_5 ((hE255 3 rfl).trans h3_128)) ?_
      refine WL.store (Sure.none rfl) rfl rfl s23 rfl rfl rfl hb258 (by show (5 : Nat) < 12; decide) (fun w272 hs273 hb274 => ?_)
      replace hb274 : Box w272 b25 32 [.int .u8 (0), .int .i64 (0), .int .i64 (0), .int .u64 (0), .int .u64 (0), .int .u64 (0), .int .u64 (0), .int .u64 (0), .bool (m.Ok), .slice none 0 0, v3, .string (m.Snap)] := hb274
      have hx276 : Ext [b25, b17] w w272 := hx260.trans (hs273.mono (by simp))
      refine WL.nil ?_
      refine WP.exit ?_
      refine WP.seq ?_
      refine WP.sr ?_
      refine WL.skips [(4, some false)] [(126, some true)] (kc (some false) (hK254 4 (some false) rfl) kn) (by kernel_rfl) (fun E289 hK290 hE291 => ?_)
      refine WP.cond_true (hK290 126 (some true) rfl) ?_
      refine WP.sr ?_
      refine WL.m rfl ?_
      refine WL.nil ?_
      refine WP.ret ?_
      refine resOf.c1 rfl (v := .int .i64 (2)) rfl ?_
      exact ⟨(int_eq (by first | (rw [show mayMsgB m = false from (by first | assumption | grind [mayMsgB, layB, askB, heardB, toldB, installB, eqzB])]; rfl) | (rw [show mayMsgB m = true from (by first | assumption | grind [mayMsgB, layB, askB, heardB, toldB, installB, eqzB])]; rfl))), ((hx276).done (geCons hge_b25_w (geCons hge_b17_w geNil)))⟩
    refine WL.fy (x := .tmp 1) (.int .u64 (m.Index)) rfl fl32_4 h1_128 p23 (hb184.cell rfl) ?_
    refine WL.y (.bool (decide (m.Index = 0))) rfl (V.cmp rfl rfl rfl rfl) ?_
    refine WL.fy (x := .tmp 1) (.int .u64 (m.LogTerm)) rfl fl32_5 h1_128 p23 (hb184.cell rfl) ?_
    refine WL.y (.bool (decide (m.LogTerm = 0))) rfl (V.cmp rfl rfl rfl rfl) ?_
    refine WL.y (.bool ((decide (m.Index = 0)) == (decide (m.LogTerm = 0)))) rfl (V.bcmpEq rfl u4 rfl rfl) ?_
    refine WL.k (a := true) rfl rfl ?_
    refine WL.m rfl ?_
    refine WL.nil ?_
    refine WP.region ?_
    refine WL.z (.pointer (some ⟨b25, 4, none⟩)) (V.fieldAddr (x := .tmp 3) rfl fl32_4 h3_128) ?_
    refine WL.store (Sure.none rfl) rfl rfl s23 rfl rfl rfl hb183 (by show (4 : Nat) < 12; decide) (fun w197 hs198 hb199 => ?_)
    replace hb199 : Box w197 b25 32 [.int .u8 (0), .int .i64 (0), .int .i64 (0), .int .u64 (0), .int .u64 (0), .int .u64 (m.LogTerm), .int .u64 (0), .int .u64 (0), .bool (m.Ok), .slice none 0 0, v3, .string (m.Snap)] := hb199
    have hx201 : Ext [b25, b17] w w197 := hx185.trans (hs198.mono (by simp))
    have hx202 : Ext [b25, b17] w26 w197 := hx186.trans (hs198.mono (by simp))
    refine WL.z (.pointer (some ⟨b25, 5, none⟩)) (V.fieldAddr (x := .tmp 3) rfl fl32_5 h3_128) ?_
    refine WL.store (Sure.none rfl) rfl rfl s23 rfl rfl rfl hb199 (by show (5 : Nat) < 12; decide) (fun w213 hs214 hb215 => ?_)
    replace hb215 : Box w213 b25 32 [.int .u8 (0), .int .i64 (0), .int .i64 (0), .int .u64 (0), .int .u64 (0), .int .u64 (0), .int .u64 (0), .int .u64 (0), .bool (m.Ok), .slice none 0 0, v3, .string (m.Snap)] := hb215
    have hx217 : Ext [b25, b17] w w213 := hx201.trans (hs214.mono (by simp))
    have hx218 : Ext [b25, b17] w26 w213 := hx202.trans (hs214.mono (by simp))
    refine WL.nil ?_
    refine WP.exit ?_
    refine WP.seq ?_
    refine WP.sr ?_
    refine WL.m rfl ?_
    refine WL.z (.bool (!((decide (m.Index = 0)) == (decide (m.LogTerm = 0))))) (V.not rfl rfl) ?_
    refine WL.vbn (c := (decide (m.Index = 0)) == (decide (m.LogTerm = 0))) (Sure.none rfl) rfl (V.move rfl rfl) (fun hc230 => ?_) (fun hc230 => ?_)
    · refine WL.skips [(121, some true)] [(126, some true)] (kc (some true) rfl kn) (by kernel_rfl) (fun E231 hK232 hE233 => ?_)
      refine WP.cond_true (hK232 126 (some true) rfl) ?_
      refine WP.sr ?_
      refine WL.m rfl ?_
      refine WL.nil ?_
      refine WP.ret ?_
      refine resOf.c1 rfl (v := .int .i64 (2)) rfl ?_
      exact ⟨(int_eq (by first | (rw [show mayMsgB m = false from (by first | assumption | grind [mayMsgB, layB, askB, heardB, toldB, installB, eqzB])]; rfl) | (rw [show mayMsgB m = true from (by first | assumption | grind [mayMsgB, layB, askB, heardB, toldB, installB, eqzB])]; rfl))), ((hx217).done (geCons hge_b25_w (geCons hge_b17_w geNil)))⟩
    refine WL.y (.agg #[.int .u8 (0), .int .i64 (0), .int .i64 (0), .int .u64 (0), .int .u64 (0), .int .u64 (0), .int .u64 (0), .int .u64 (0), .bool (m.Ok), .slice none 0 0, v3, .string (m.Snap)]) rfl (V.loadAgg (x := .tmp 3) (cs := [.int .u8 (0), .int .i64 (0), .int .i64 (0), .int .u64 (0), .int .u64 (0), .int .u64 (0), .int .u64 (0), .int .u64 (0), .bool (m.Ok), .slice none 0 0, v3, .string (m.Snap)]) rfl a32 h3_128 (At.box hb215) rfl) ?_
    refine WL.y (.agg #[.int .u8 (0), .int .i64 (0), .int .i64 (0), .int .u64 (0), .int .u64 (0), .int .u64 (0), .int .u64 (0), .int .u64 (0), .bool (false), .slice none 0 0, .slice none 0 0, .string (ByteArray.mk #[])]) rfl (V.build1 (L := []) rfl rfl bu32_d7517139) ?_
    refine WL.c (Sure.yes rfl rfl rfl) rfl (C.call2 rfl cl48 rfl rfl) (Fnc.mono (vote_sameMsg (a := ({ Kind := 0, From := 0, To := 0, Term := 0, Index := 0, LogTerm := 0, Commit := 0, Round := 0, Ok := m.Ok, Entries := [], Members := m.Members, Snap := m.Snap } : MsgD)) ⟨.slice none 0 0, v3, rfl, Sl.nil, (hl32.ext (Ext.pre hx218)), ⟨(inK_u8' (n := 0) (by omega)), (inK_i64' (n := 0) (by omega)), (inK_i64' (n := 0) (by omega)), (inK_u64' (n := 0) (by omega)), (inK_u64' (n := 0) (by omega)), (inK_u64' (n := 0) (by omega)), (inK_u64' (n := 0) (by omega)), (inK_u64' (n := 0) (by omega)), (by show (m.Snap).size ≤ maxLen; omega)⟩⟩ (b := ({ Kind := 0, From := 0, To := 0, Term := 0, Index := 0, LogTerm := 0, Commit := 0, Round := 0, Ok := false, Entries := [], Members := [], Snap := (ByteArray.mk #[]) } : MsgD)) ⟨.slice none 0 0, .slice none 0 0, rfl, Sl.nil, Sl.nil, ⟨(inK_u8' (n := 0) (by omega)), (inK_i64' (n := 0) (by omega)), (inK_i64' (n := 0) (by omega)), (inK_u64' (n := 0) (by omega)), (inK_u64' (n := 0) (by omega)), (inK_u64' (n := 0) (by omega)), (inK_u64' (n := 0) (by omega)), (inK_u64' (n := 0) (by omega)), (Nat.zero_le _)⟩⟩) ?_)
    rintro _ w234 ⟨rfl, hx235⟩
    have hx236 : Ext [b25, b17] w w234 := hx217.trans (Ext.any (Y := [b25, b17]) hx235)
    refine WL.y (.bool (!(sameMsgB ({ Kind := 0, From := 0, To := 0, Term := 0, Index := 0, LogTerm := 0, Commit := 0, Round := 0, Ok := m.Ok, Entries := [], Members := m.Members, Snap := m.Snap } : MsgD) ({ Kind := 0, From := 0, To := 0, Term := 0, Index := 0, LogTerm := 0, Commit := 0, Round := 0, Ok := false, Entries := [], Members := [], Snap := (ByteArray.mk #[]) } : MsgD)))) rfl (V.not rfl rfl) ?_
    refine WL.k (a := false) rfl rfl ?_
    refine WL.nil ?_
    refine WP.condn (t := sameMsgB ({ Kind := 0, From := 0, To := 0, Term := 0, Index := 0, LogTerm := 0, Commit := 0, Round := 0, Ok := m.Ok, Entries := [], Members := m.Members, Snap := m.Snap } : MsgD) ({ Kind := 0, From := 0, To := 0, Term := 0, Index := 0, LogTerm := 0, Commit := 0, Round := 0, Ok := false, Entries := [], Members := [], Snap := (ByteArray.mk #[]) } : MsgD)) rfl (fun hc252 => ?_) (fun hc252 => ?_)
    · refine WP.sr ?_
      refine WL.m rfl ?_
      refine WL.nil ?_
      refine WP.ret ?_
      refine resOf.c1 rfl (v := .int .i64 (2)) rfl ?_
      exact ⟨(int_eq (by first | (rw [show mayMsgB m = false from (by first | assumption | grind [mayMsgB, layB, askB, heardB, toldB, installB, eqzB])]; rfl) | (rw [show mayMsgB m = true from (by first | assumption | grind [mayMsgB, layB, askB, heardB, toldB, installB, eqzB])]; rfl))), ((hx236).done (geCons hge_b25_w (geCons hge_b17_w geNil)))⟩
    refine WP.skip ?_
    refine WP.sr ?_
    refine WL.m rfl ?_
    refine WL.nil ?_
    refine WP.ret ?_
    refine resOf.c1 rfl (v := .int .i64 (0)) rfl ?_
    exact ⟨(int_eq (by first | (rw [show mayMsgB m = false from (by first | assumption | grind [mayMsgB, layB, askB, heardB, toldB, installB, eqzB])]; rfl) | (rw [show mayMsgB m = true from (by first | assumption | grind [mayMsgB, layB, askB, heardB, toldB, installB, eqzB])]; rfl))), ((hx236).done (geCons hge_b25_w (geCons hge_b17_w geNil)))⟩
  refine WP.skip ?_
  refine WP.seq ?_
  refine WP.sr ?_
  refine WL.z (.bool (decide (m.Kind = 1))) (V.cmp rfl rfl rfl rfl) ?_
  refine WL.m rfl ?_
  refine WL.nil ?_
  refine WP.condp (t := m.Kind = 1) rfl (fun hc450 => ?_) (fun hc450 => ?_)
  · refine WP.exit ?_
    refine WP.seq ?_
    refine WP.sr ?_
    refine WL.m rfl ?_
    refine WL.vb (c := hdB m) (Sure.none rfl) rfl (V.move (x := .tmp 83) rfl h4_128) (fun hc451 => ?_) (fun hc451 => ?_)
    rotate_left
    · refine WL.skips [(84, some false)] [(4, some false)] (kc (some false) rfl kn) (by kernel_rfl) (fun E496 hK497 hE498 => ?_)
      refine WP.region ?_
      refine WL.z (.pointer (some ⟨b25, 4, none⟩)) (V.fieldAddr (x := .tmp 3) rfl fl32_4 ((hE498 3 rfl).trans h3_128)) ?_
      refine WL.store (Sure.none rfl) rfl rfl s23 rfl rfl rfl hbb25_128 (by show (4 : Nat) < 12; decide) (fun w499 hs500 hb501 => ?_)
      replace hb501 : Box w499 b25 32 [.int .u8 (0), .int .i64 (0), .int .i64 (0), .int .u64 (0), .int .u64 (0), .int .u64 (m.LogTerm), .int .u64 (m.Commit), .int .u64 (m.Round), .bool (m.Ok), v1, v3, .string (m.Snap)] := hb501
      have hx503 : Ext [b25, b17] w w499 := hx129.trans (hs500.mono (by simp))
      refine WL.z (.pointer (some ⟨b25, 5, none⟩)) (V.fieldAddr (x := .tmp 3) rfl fl32_5 ((hE498 3 rfl).trans h3_128)) ?_
      refine WL.store (Sure.none rfl) rfl rfl s23 rfl rfl rfl hb501 (by show (5 : Nat) < 12; decide) (fun w511 hs512 hb513 => ?_)
      replace hb513 : Box w511 b25 32 [.int .u8 (0), .int .i64 (0), .int .i64 (0), .int .u64 (0), .int .u64 (0), .int .u64 (0), .int .u64 (m.Commit), .int .u64 (m.Round), .bool (m.Ok), v1, v3, .string (m.Snap)] := hb513
      have hx515 : Ext [b25, b17] w w511 := hx503.trans (hs512.mono (by simp))
      refine WL.nil ?_
      refine WP.exit ?_
      refine WP.seq ?_
      refine WP.sr ?_
      refine WL.skips [(4, some false)] [(126, some true)] (kc (some false) (hK497 4 (some false) rfl) kn) (by kernel_rfl) (fun E524 hK525 hE526 => ?_)
      refine WP.cond_true (hK525 126 (some true) rfl) ?_
      refine WP.sr ?_
      refine WL.m rfl ?_
      refine WL.nil ?_
      refine WP.ret ?_
      refine resOf.c1 rfl (v := .int .i64 (2)) rfl ?_
      exact ⟨(int_eq (by first | (rw [show mayMsgB m = false from (by first | assumption | grind [mayMsgB, layB, askB, heardB, toldB, installB, eqzB])]; rfl) | (rw [show mayMsgB m = true from (by first | assumption | grind [mayMsgB, layB, askB, heardB, toldB, installB, eqzB])]; rfl))), ((hx515).done (geCons hge_b25_w (geCons hge_b17_w geNil)))⟩
    refine WL.fy (x := .tmp 1) (.int .u64 (m.Index)) rfl fl32_4 h1_128 p23 (hbb17_128.cell rfl) ?_
    refine WL.y (.bool (decide (m.Index = 0))) rfl (V.cmp rfl rfl rfl rfl) ?_
    refine WL.fy (x := .tmp 1) (.int .u64 (m.LogTerm)) rfl fl32_5 h1_128 p23 (hbb17_128.cell rfl) ?_
    refine WL.y (.bool (decide (m.LogTerm = 0))) rfl (V.cmp rfl rfl rfl rfl) ?_
    refine WL.y (.bool ((decide (m.Index = 0)) == (decide (m.LogTerm = 0)))) rfl (V.bcmpEq rfl u4 rfl rfl) ?_
    refine WL.k (a := true) rfl rfl ?_
    refine WL.m rfl ?_
    refine WL.nil ?_
    refine WP.region ?_
    refine WL.z (.pointer (some ⟨b25, 4, none⟩)) (V.fieldAddr (x := .tmp 3) rfl fl32_4 h3_128) ?_
    refine WL.store (Sure.none rfl) rfl rfl s23 rfl rfl rfl hbb25_128 (by show (4 : Nat) < 12; decide) (fun w452 hs453 hb454 => ?_)
    replace hb454 : Box w452 b25 32 [.int .u8 (0), .int .i64 (0), .int .i64 (0), .int .u64 (0), .int .u64 (0), .int .u64 (m.LogTerm), .int .u64 (m.Commit), .int .u64 (m.Round), .bool (m.Ok), v1, v3, .string (m.Snap)] := hb454
    have hx456 : Ext [b25, b17] w w452 := hx129.trans (hs453.mono (by simp))
    have hx457 : Ext [b25, b17] w26 w452 := hx130.trans (hs453.mono (by simp))
    refine WL.z (.pointer (some ⟨b25, 5, none⟩)) (V.fieldAddr (x := .tmp 3) rfl fl32_5 h3_128) ?_
    refine WL.store (Sure.none rfl) rfl rfl s23 rfl rfl rfl hb454 (by show (5 : Nat) < 12; decide) (fun w464 hs465 hb466 => ?_)
    replace hb466 : Box w464 b25 32 [.int .u8 (0), .int .i64 (0), .int .i64 (0), .int .u64 (0), .int .u64 (0), .int .u64 (0), .int .u64 (m.Commit), .int .u64 (m.Round), .bool (m.Ok), v1, v3, .string (m.Snap)] := hb466
    have hx468 : Ext [b25, b17] w w464 := hx456.trans (hs465.mono (by simp))
    have hx469 : Ext [b25, b17] w26 w464 := hx457.trans (hs465.mono (by simp))
    refine WL.nil ?_
    refine WP.exit ?_
    refine WP.seq ?_
    refine WP.sr ?_
    refine WL.m rfl ?_
    refine WL.z (.bool (!((decide (m.Index = 0)) == (decide (m.LogTerm = 0))))) (V.not rfl rfl) ?_
    refine WL.vbn (c := (decide (m.Index = 0)) == (decide (m.LogTerm = 0))) (Sure.none rfl) rfl (V.move rfl rfl) (fun hc477 => ?_) (fun hc477 => ?_)
    · refine WL.skips [(121, some true)] [(126, some true)] (kc (some true) rfl kn) (by kernel_rfl) (fun E478 hK479 hE480 => ?_)
      refine WP.cond_true (hK479 126 (some true) rfl) ?_
      refine WP.sr ?_
      refine WL.m rfl ?_
      refine WL.nil ?_
      refine WP.ret ?_
      refine resOf.c1 rfl (v := .int .i64 (2)) rfl ?_
      exact ⟨(int_eq (by first | (rw [show mayMsgB m = false from (by first | assumption | grind [mayMsgB, layB, askB, heardB, toldB, installB, eqzB])]; rfl) | (rw [show mayMsgB m = true from (by first | assumption | grind [mayMsgB, layB, askB, heardB, toldB, installB, eqzB])]; rfl))), ((hx468).done (geCons hge_b25_w (geCons hge_b17_w geNil)))⟩
    refine WL.y (.agg #[.int .u8 (0), .int .i64 (0), .int .i64 (0), .int .u64 (0), .int .u64 (0), .int .u64 (0), .int .u64 (m.Commit), .int .u64 (m.Round), .bool (m.Ok), v1, v3, .string (m.Snap)]) rfl (V.loadAgg (x := .tmp 3) (cs := [.int .u8 (0), .int .i64 (0), .int .i64 (0), .int .u64 (0), .int .u64 (0), .int .u64 (0), .int .u64 (m.Commit), .int .u64 (m.Round), .bool (m.Ok), v1, v3, .string (m.Snap)]) rfl a32 h3_128 (At.box hb466) rfl) ?_
    refine WL.y (.agg #[.int .u8 (0), .int .i64 (0), .int .i64 (0), .int .u64 (0), .int .u64 (0), .int .u64 (0), .int .u64 (0), .int .u64 (0), .bool (false), .slice none 0 0, .slice none 0 0, .string (ByteArray.mk #[])]) rfl (V.build1 (L := []) rfl rfl bu32_d7517139) ?_
    refine WL.c (Sure.yes rfl rfl rfl) rfl (C.call2 rfl cl48 rfl rfl) (Fnc.mono (vote_sameMsg (a := ({ Kind := 0, From := 0, To := 0, Term := 0, Index := 0, LogTerm := 0, Commit := m.Commit, Round := m.Round, Ok := m.Ok, Entries := m.Entries, Members := m.Members, Snap := m.Snap } : MsgD)) ⟨v1, v3, rfl, (hl31.ext (Ext.pre hx469)), (hl32.ext (Ext.pre hx469)), ⟨(inK_u8' (n := 0) (by omega)), (inK_i64' (n := 0) (by omega)), (inK_i64' (n := 0) (by omega)), (inK_u64' (n := 0) (by omega)), (inK_u64' (n := 0) (by omega)), (inK_u64' (n := 0) (by omega)), (inK_u64' (n := m.Commit) (by omega)), (inK_u64' (n := m.Round) (by omega)), (by show (m.Snap).size ≤ maxLen; omega)⟩⟩ (b := ({ Kind := 0, From := 0, To := 0, Term := 0, Index := 0, LogTerm := 0, Commit := 0, Round := 0, Ok := false, Entries := [], Members := [], Snap := (ByteArray.mk #[]) } : MsgD)) ⟨.slice none 0 0, .slice none 0 0, rfl, Sl.nil, Sl.nil, ⟨(inK_u8' (n := 0) (by omega)), (inK_i64' (n := 0) (by omega)), (inK_i64' (n := 0) (by omega)), (inK_u64' (n := 0) (by omega)), (inK_u64' (n := 0) (by omega)), (inK_u64' (n := 0) (by omega)), (inK_u64' (n := 0) (by omega)), (inK_u64' (n := 0) (by omega)), (Nat.zero_le _)⟩⟩) ?_)
    rintro _ w481 ⟨rfl, hx482⟩
    have hx483 : Ext [b25, b17] w w481 := hx468.trans (Ext.any (Y := [b25, b17]) hx482)
    refine WL.y (.bool (!(sameMsgB ({ Kind := 0, From := 0, To := 0, Term := 0, Index := 0, LogTerm := 0, Commit := m.Commit, Round := m.Round, Ok := m.Ok, Entries := m.Entries, Members := m.Members, Snap := m.Snap } : MsgD) ({ Kind := 0, From := 0, To := 0, Term := 0, Index := 0, LogTerm := 0, Commit := 0, Round := 0, Ok := false, Entries := [], Members := [], Snap := (ByteArray.mk #[]) } : MsgD)))) rfl (V.not rfl rfl) ?_
    refine WL.k (a := false) rfl rfl ?_
    refine WL.nil ?_
    refine WP.condn (t := sameMsgB ({ Kind := 0, From := 0, To := 0, Term := 0, Index := 0, LogTerm := 0, Commit := m.Commit, Round := m.Round, Ok := m.Ok, Entries := m.Entries, Members := m.Members, Snap := m.Snap } : MsgD) ({ Kind := 0, From := 0, To := 0, Term := 0, Index := 0, LogTerm := 0, Commit := 0, Round := 0, Ok := false, Entries := [], Members := [], Snap := (ByteArray.mk #[]) } : MsgD)) rfl (fun hc495 => ?_) (fun hc495 => ?_)
    · refine WP.sr ?_
      refine WL.m rfl ?_
      refine WL.nil ?_
      refine WP.ret ?_
      refine resOf.c1 rfl (v := .int .i64 (2)) rfl ?_
      exact ⟨(int_eq (by first | (rw [show mayMsgB m = false from (by first | assumption | grind [mayMsgB, layB, askB, heardB, toldB, installB, eqzB])]; rfl) | (rw [show mayMsgB m = true from (by first | assumption | grind [mayMsgB, layB, askB, heardB, toldB, installB, eqzB])]; rfl))), ((hx483).done (geCons hge_b25_w (geCons hge_b17_w geNil)))⟩
    refine WP.skip ?_
    refine WP.sr ?_
    refine WL.m rfl ?_
    refine WL.nil ?_
    refine WP.ret ?_
    refine resOf.c1 rfl (v := .int .i64 (0)) rfl ?_
    exact ⟨(int_eq (by first | (rw [show mayMsgB m = false from (by first | assumption | grind [mayMsgB, layB, askB, heardB, toldB, installB, eqzB])]; rfl) | (rw [show mayMsgB m = true from (by first | assumption | grind [mayMsgB, layB, askB, heardB, toldB, installB, eqzB])]; rfl))), ((hx483).done (geCons hge_b25_w (geCons hge_b17_w geNil)))⟩
  refine WP.skip ?_
  refine WP.seq ?_
  refine WP.sr ?_
  refine WL.z (.bool (decide (m.Kind = 4))) (V.cmp rfl rfl rfl rfl) ?_
  refine WL.m rfl ?_
  refine WL.nil ?_
  refine WP.condp (t := m.Kind = 4) rfl (fun hc527 => ?_) (fun hc527 => ?_)
  · refine WP.exit ?_
    refine WP.region ?_
    refine WL.z (.pointer (some ⟨b25, 4, none⟩)) (V.fieldAddr (x := .tmp 3) rfl fl32_4 h3_128) ?_
    refine WL.store (Sure.none rfl) rfl rfl s23 rfl rfl rfl hbb25_128 (by show (4 : Nat) < 12; decide) (fun w528 hs529 hb530 => ?_)
    replace hb530 : Box w528 b25 32 [.int .u8 (0), .int .i64 (0), .int .i64 (0), .int .u64 (0), .int .u64 (0), .int .u64 (m.LogTerm), .int .u64 (m.Commit), .int .u64 (m.Round), .bool (m.Ok), v1, v3, .string (m.Snap)] := hb530
    have hx532 : Ext [b25, b17] w w528 := hx129.trans (hs529.mono (by simp))
    have hx533 : Ext [b25, b17] w26 w528 := hx130.trans (hs529.mono (by simp))
    refine WL.z (.pointer (some ⟨b25, 7, none⟩)) (V.fieldAddr (x := .tmp 3) rfl fl32_7 h3_128) ?_
    refine WL.store (Sure.none rfl) rfl rfl s23 rfl rfl rfl hb530 (by show (7 : Nat) < 12; decide) (fun w540 hs541 hb542 => ?_)
    replace hb542 : Box w540 b25 32 [.int .u8 (0), .int .i64 (0), .int .i64 (0), .int .u64 (0), .int .u64 (0), .int .u64 (m.LogTerm), .int .u64 (m.Commit), .int .u64 (0), .bool (m.Ok), v1, v3, .string (m.Snap)] := hb542
    have hx544 : Ext [b25, b17] w w540 := hx532.trans (hs541.mono (by simp))
    have hx545 : Ext [b25, b17] w26 w540 := hx533.trans (hs541.mono (by simp))
    refine WL.nil ?_
    refine WP.sr ?_
    refine WL.z (.pointer (some ⟨b25, 8, none⟩)) (V.fieldAddr (x := .tmp 3) rfl fl32_8 h3_128) ?_
    refine WL.store (Sure.none rfl) rfl rfl s4 rfl rfl rfl hb542 (by show (8 : Nat) < 12; decide) (fun w553 hs554 hb555 => ?_)
    replace hb555 : Box w553 b25 32 [.int .u8 (0), .int .i64 (0), .int .i64 (0), .int .u64 (0), .int .u64 (0), .int .u64 (m.LogTerm), .int .u64 (m.Commit), .int .u64 (0), .bool (false), v1, v3, .string (m.Snap)] := hb555
    have hx557 : Ext [b25, b17] w w553 := hx544.trans (hs554.mono (by simp))
    have hx558 : Ext [b25, b17] w26 w553 := hx545.trans (hs554.mono (by simp))
    refine WL.nil ?_
    refine WP.exit ?_
    refine WP.seq ?_
    refine WP.sr ?_
    refine WL.m rfl ?_
    refine WL.z (.bool (!(hdB m))) (V.not (x := .tmp 119) rfl h4_128) ?_
    refine WL.vbn (c := hdB m) (Sure.none rfl) rfl (V.move rfl rfl) (fun hc567 => ?_) (fun hc567 => ?_)
    · refine WL.skips [(121, some true)] [(126, some true)] (kc (some true) rfl kn) (by kernel_rfl) (fun E568 hK569 hE570 => ?_)
      refine WP.cond_true (hK569 126 (some true) rfl) ?_
      refine WP.sr ?_
      refine WL.m rfl ?_
      refine WL.nil ?_
      refine WP.ret ?_
      refine resOf.c1 rfl (v := .int .i64 (2)) rfl ?_
      exact ⟨(int_eq (by first | (rw [show mayMsgB m = false from (by first | assumption | grind [mayMsgB, layB, askB, heardB, toldB, installB, eqzB])]; rfl) | (rw [show mayMsgB m = true from (by first | assumption | grind [mayMsgB, layB, askB, heardB, toldB, installB, eqzB])]; rfl))), ((hx557).done (geCons hge_b25_w (geCons hge_b17_w geNil)))⟩
    refine WL.y (.agg #[.int .u8 (0), .int .i64 (0), .int .i64 (0), .int .u64 (0), .int .u64 (0), .int .u64 (m.LogTerm), .int .u64 (m.Commit), .int .u64 (0), .bool (false), v1, v3, .string (m.Snap)]) rfl (V.loadAgg (x := .tmp 3) (cs := [.int .u8 (0), .int .i64 (0), .int .i64 (0), .int .u64 (0), .int .u64 (0), .int .u64 (m.LogTerm), .int .u64 (m.Commit), .int .u64 (0), .bool (false), v1, v3, .string (m.Snap)]) rfl a32 h3_128 (At.box hb555) rfl) ?_
    refine WL.y (.agg #[.int .u8 (0), .int .i64 (0), .int .i64 (0), .int .u64 (0), .int .u64 (0), .int .u64 (0), .int .u64 (0), .int .u64 (0), .bool (false), .slice none 0 0, .slice none 0 0, .string (ByteArray.mk #[])]) rfl (V.build1 (L := []) rfl rfl bu32_d7517139) ?_
    refine WL.c (Sure.yes rfl rfl rfl) rfl (C.call2 rfl cl48 rfl rfl) (Fnc.mono (vote_sameMsg (a := ({ Kind := 0, From := 0, To := 0, Term := 0, Index := 0, LogTerm := m.LogTerm, Commit := m.Commit, Round := 0, Ok := false, Entries := m.Entries, Members := m.Members, Snap := m.Snap } : MsgD)) ⟨v1, v3, rfl, (hl31.ext (Ext.pre hx558)), (hl32.ext (Ext.pre hx558)), ⟨(inK_u8' (n := 0) (by omega)), (inK_i64' (n := 0) (by omega)), (inK_i64' (n := 0) (by omega)), (inK_u64' (n := 0) (by omega)), (inK_u64' (n := 0) (by omega)), (inK_u64' (n := m.LogTerm) (by omega)), (inK_u64' (n := m.Commit) (by omega)), (inK_u64' (n := 0) (by omega)), (by show (m.Snap).size ≤ maxLen; omega)⟩⟩ (b := ({ Kind := 0, From := 0, To := 0, Term := 0, Index := 0, LogTerm := 0, Commit := 0, Round := 0, Ok := false, Entries := [], Members := [], Snap := (ByteArray.mk #[]) } : MsgD)) ⟨.slice none 0 0, .slice none 0 0, rfl, Sl.nil, Sl.nil, ⟨(inK_u8' (n := 0) (by omega)), (inK_i64' (n := 0) (by omega)), (inK_i64' (n := 0) (by omega)), (inK_u64' (n := 0) (by omega)), (inK_u64' (n := 0) (by omega)), (inK_u64' (n := 0) (by omega)), (inK_u64' (n := 0) (by omega)), (inK_u64' (n := 0) (by omega)), (Nat.zero_le _)⟩⟩) ?_)
    rintro _ w571 ⟨rfl, hx572⟩
    have hx573 : Ext [b25, b17] w w571 := hx557.trans (Ext.any (Y := [b25, b17]) hx572)
    refine WL.y (.bool (!(sameMsgB ({ Kind := 0, From := 0, To := 0, Term := 0, Index := 0, LogTerm := m.LogTerm, Commit := m.Commit, Round := 0, Ok := false, Entries := m.Entries, Members := m.Members, Snap := m.Snap } : MsgD) ({ Kind := 0, From := 0, To := 0, Term := 0, Index := 0, LogTerm := 0, Commit := 0, Round := 0, Ok := false, Entries := [], Members := [], Snap := (ByteArray.mk #[]) } : MsgD)))) rfl (V.not rfl rfl) ?_
    refine WL.k (a := false) rfl rfl ?_
    refine WL.nil ?_
    refine WP.condn (t := sameMsgB ({ Kind := 0, From := 0, To := 0, Term := 0, Index := 0, LogTerm := m.LogTerm, Commit := m.Commit, Round := 0, Ok := false, Entries := m.Entries, Members := m.Members, Snap := m.Snap } : MsgD) ({ Kind := 0, From := 0, To := 0, Term := 0, Index := 0, LogTerm := 0, Commit := 0, Round := 0, Ok := false, Entries := [], Members := [], Snap := (ByteArray.mk #[]) } : MsgD)) rfl (fun hc586 => ?_) (fun hc586 => ?_)
    · refine WP.sr ?_
      refine WL.m rfl ?_
      refine WL.nil ?_
      refine WP.ret ?_
      refine resOf.c1 rfl (v := .int .i64 (2)) rfl ?_
      exact ⟨(int_eq (by first | (rw [show mayMsgB m = false from (by first | assumption | grind [mayMsgB, layB, askB, heardB, toldB, installB, eqzB])]; rfl) | (rw [show mayMsgB m = true from (by first | assumption | grind [mayMsgB, layB, askB, heardB, toldB, installB, eqzB])]; rfl))), ((hx573).done (geCons hge_b25_w (geCons hge_b17_w geNil)))⟩
    refine WP.skip ?_
    refine WP.sr ?_
    refine WL.m rfl ?_
    refine WL.nil ?_
    refine WP.ret ?_
    refine resOf.c1 rfl (v := .int .i64 (0)) rfl ?_
    exact ⟨(int_eq (by first | (rw [show mayMsgB m = false from (by first | assumption | grind [mayMsgB, layB, askB, heardB, toldB, installB, eqzB])]; rfl) | (rw [show mayMsgB m = true from (by first | assumption | grind [mayMsgB, layB, askB, heardB, toldB, installB, eqzB])]; rfl))), ((hx573).done (geCons hge_b25_w (geCons hge_b17_w geNil)))⟩
  refine WP.skip ?_
  refine WP.seq ?_
  refine WP.sr ?_
  refine WL.z (.bool (decide (m.Kind = 2))) (V.cmp rfl rfl rfl rfl) ?_
  refine WL.m rfl ?_
  refine WL.nil ?_
  refine WP.condp (t := m.Kind = 2) rfl (fun hc587 => ?_) (fun hc587 => ?_)
  · refine WP.exit ?_
    refine WP.sr ?_
    refine WL.z (.pointer (some ⟨b25, 8, none⟩)) (V.fieldAddr (x := .tmp 3) rfl fl32_8 h3_128) ?_
    refine WL.store (Sure.none rfl) rfl rfl s4 rfl rfl rfl hbb25_128 (by show (8 : Nat) < 12; decide) (fun w588 hs589 hb590 => ?_)
    replace hb590 : Box w588 b25 32 [.int .u8 (0), .int .i64 (0), .int .i64 (0), .int .u64 (0), .int .u64 (m.Index), .int .u64 (m.LogTerm), .int .u64 (m.Commit), .int .u64 (m.Round), .bool (false), v1, v3, .string (m.Snap)] := hb590
    have hx592 : Ext [b25, b17] w w588 := hx129.trans (hs589.mono (by simp))
    have hx593 : Ext [b25, b17] w26 w588 := hx130.trans (hs589.mono (by simp))
    refine WL.nil ?_
    refine WP.exit ?_
    refine WP.seq ?_
    refine WP.sr ?_
    refine WL.m rfl ?_
    refine WL.z (.bool (!(hdB m))) (V.not (x := .tmp 119) rfl h4_128) ?_
    refine WL.vbn (c := hdB m) (Sure.none rfl) rfl (V.move rfl rfl) (fun hc600 => ?_) (fun hc600 => ?_)
    · refine WL.skips [(121, some true)] [(126, some true)] (kc (some true) rfl kn) (by kernel_rfl) (fun E601 hK602 hE603 => ?_)
      refine WP.cond_true (hK602 126 (some true) rfl) ?_
      refine WP.sr ?_
      refine WL.m rfl ?_
      refine WL.nil ?_
      refine WP.ret ?_
      refine resOf.c1 rfl (v := .int .i64 (2)) rfl ?_
      exact ⟨(int_eq (by first | (rw [show mayMsgB m = false from (by first | assumption | grind [mayMsgB, layB, askB, heardB, toldB, installB, eqzB])]; rfl) | (rw [show mayMsgB m = true from (by first | assumption | grind [mayMsgB, layB, askB, heardB, toldB, installB, eqzB])]; rfl))), ((hx592).done (geCons hge_b25_w (geCons hge_b17_w geNil)))⟩
    refine WL.y (.agg #[.int .u8 (0), .int .i64 (0), .int .i64 (0), .int .u64 (0), .int .u64 (m.Index), .int .u64 (m.LogTerm), .int .u64 (m.Commit), .int .u64 (m.Round), .bool (false), v1, v3, .string (m.Snap)]) rfl (V.loadAgg (x := .tmp 3) (cs := [.int .u8 (0), .int .i64 (0), .int .i64 (0), .int .u64 (0), .int .u64 (m.Index), .int .u64 (m.LogTerm), .int .u64 (m.Commit), .int .u64 (m.Round), .bool (false), v1, v3, .string (m.Snap)]) rfl a32 h3_128 (At.box hb590) rfl) ?_
    refine WL.y (.agg #[.int .u8 (0), .int .i64 (0), .int .i64 (0), .int .u64 (0), .int .u64 (0), .int .u64 (0), .int .u64 (0), .int .u64 (0), .bool (false), .slice none 0 0, .slice none 0 0, .string (ByteArray.mk #[])]) rfl (V.build1 (L := []) rfl rfl bu32_d7517139) ?_
    refine WL.c (Sure.yes rfl rfl rfl) rfl (C.call2 rfl cl48 rfl rfl) (Fnc.mono (vote_sameMsg (a := ({ Kind := 0, From := 0, To := 0, Term := 0, Index := m.Index, LogTerm := m.LogTerm, Commit := m.Commit, Round := m.Round, Ok := false, Entries := m.Entries, Members := m.Members, Snap := m.Snap } : MsgD)) ⟨v1, v3, rfl, (hl31.ext (Ext.pre hx593)), (hl32.ext (Ext.pre hx593)), ⟨(inK_u8' (n := 0) (by omega)), (inK_i64' (n := 0) (by omega)), (inK_i64' (n := 0) (by omega)), (inK_u64' (n := 0) (by omega)), (inK_u64' (n := m.Index) (by omega)), (inK_u64' (n := m.LogTerm) (by omega)), (inK_u64' (n := m.Commit) (by omega)), (inK_u64' (n := m.Round) (by omega)), (by show (m.Snap).size ≤ maxLen; omega)⟩⟩ (b := ({ Kind := 0, From := 0, To := 0, Term := 0, Index := 0, LogTerm := 0, Commit := 0, Round := 0, Ok := false, Entries := [], Members := [], Snap := (ByteArray.mk #[]) } : MsgD)) ⟨.slice none 0 0, .slice none 0 0, rfl, Sl.nil, Sl.nil, ⟨(inK_u8' (n := 0) (by omega)), (inK_i64' (n := 0) (by omega)), (inK_i64' (n := 0) (by omega)), (inK_u64' (n := 0) (by omega)), (inK_u64' (n := 0) (by omega)), (inK_u64' (n := 0) (by omega)), (inK_u64' (n := 0) (by omega)), (inK_u64' (n := 0) (by omega)), (Nat.zero_le _)⟩⟩) ?_)
    rintro _ w604 ⟨rfl, hx605⟩
    have hx606 : Ext [b25, b17] w w604 := hx592.trans (Ext.any (Y := [b25, b17]) hx605)
    refine WL.y (.bool (!(sameMsgB ({ Kind := 0, From := 0, To := 0, Term := 0, Index := m.Index, LogTerm := m.LogTerm, Commit := m.Commit, Round := m.Round, Ok := false, Entries := m.Entries, Members := m.Members, Snap := m.Snap } : MsgD) ({ Kind := 0, From := 0, To := 0, Term := 0, Index := 0, LogTerm := 0, Commit := 0, Round := 0, Ok := false, Entries := [], Members := [], Snap := (ByteArray.mk #[]) } : MsgD)))) rfl (V.not rfl rfl) ?_
    refine WL.k (a := false) rfl rfl ?_
    refine WL.nil ?_
    refine WP.condn (t := sameMsgB ({ Kind := 0, From := 0, To := 0, Term := 0, Index := m.Index, LogTerm := m.LogTerm, Commit := m.Commit, Round := m.Round, Ok := false, Entries := m.Entries, Members := m.Members, Snap := m.Snap } : MsgD) ({ Kind := 0, From := 0, To := 0, Term := 0, Index := 0, LogTerm := 0, Commit := 0, Round := 0, Ok := false, Entries := [], Members := [], Snap := (ByteArray.mk #[]) } : MsgD)) rfl (fun hc617 => ?_) (fun hc617 => ?_)
    · refine WP.sr ?_
      refine WL.m rfl ?_
      refine WL.nil ?_
      refine WP.ret ?_
      refine resOf.c1 rfl (v := .int .i64 (2)) rfl ?_
      exact ⟨(int_eq (by first | (rw [show mayMsgB m = false from (by first | assumption | grind [mayMsgB, layB, askB, heardB, toldB, installB, eqzB])]; rfl) | (rw [show mayMsgB m = true from (by first | assumption | grind [mayMsgB, layB, askB, heardB, toldB, installB, eqzB])]; rfl))), ((hx606).done (geCons hge_b25_w (geCons hge_b17_w geNil)))⟩
    refine WP.skip ?_
    refine WP.sr ?_
    refine WL.m rfl ?_
    refine WL.nil ?_
    refine WP.ret ?_
    refine resOf.c1 rfl (v := .int .i64 (0)) rfl ?_
    exact ⟨(int_eq (by first | (rw [show mayMsgB m = false from (by first | assumption | grind [mayMsgB, layB, askB, heardB, toldB, installB, eqzB])]; rfl) | (rw [show mayMsgB m = true from (by first | assumption | grind [mayMsgB, layB, askB, heardB, toldB, installB, eqzB])]; rfl))), ((hx606).done (geCons hge_b25_w (geCons hge_b17_w geNil)))⟩
  refine WP.skip ?_
  refine WP.sr ?_
  refine WL.z (.bool (decide (m.Kind = 5))) (V.cmp rfl rfl rfl rfl) ?_
  refine WL.m rfl ?_
  refine WL.nil ?_
  refine WP.condp (t := m.Kind = 5) rfl (fun hc618 => ?_) (fun hc618 => ?_)
  rotate_left
  · refine WP.skip ?_
    refine WP.exit ?_
    refine WP.sr ?_
    refine WL.m rfl ?_
    refine WL.nil ?_
    refine WP.exit ?_
    refine WP.seq ?_
    refine WP.sr ?_
    refine WL.skips [(4, some false)] [(126, some true)] (kc (some false) rfl kn) (by kernel_rfl) (fun E960 hK961 hE962 => ?_)
    refine WP.cond_true (hK961 126 (some true) rfl) ?_
    refine WP.sr ?_
    refine WL.m rfl ?_
    refine WL.nil ?_
    refine WP.ret ?_
    refine resOf.c1 rfl (v := .int .i64 (2)) rfl ?_
    exact ⟨(int_eq (by first | (rw [show mayMsgB m = false from (by first | assumption | grind [mayMsgB, layB, askB, heardB, toldB, installB, eqzB])]; rfl) | (rw [show mayMsgB m = true from (by first | assumption | grind [mayMsgB, layB, askB, heardB, toldB, installB, eqzB])]; rfl))), ((hx129).done (geCons hge_b25_w (geCons hge_b17_w geNil)))⟩
  refine WP.exit ?_
  refine WP.seq ?_
  refine WP.sr ?_
  refine WL.m rfl ?_
  refine WL.vb (c := hdB m) (Sure.none rfl) rfl (V.move (x := .tmp 98) rfl h4_128) (fun hc619 => ?_) (fun hc619 => ?_)
  rotate_left
  · refine WL.skips [(99, some false)] [(4, some false)] (kc (some false) rfl kn) (by kernel_rfl) (fun E884 hK885 hE886 => ?_)
    refine WP.region ?_
    refine WL.z (.pointer (some ⟨b25, 4, none⟩)) (V.fieldAddr (x := .tmp 3) rfl fl32_4 ((hE886 3 rfl).trans h3_128)) ?_
    refine WL.store (Sure.none rfl) rfl rfl s23 rfl rfl rfl hbb25_128 (by show (4 : Nat) < 12; decide) (fun w887 hs888 hb889 => ?_)
    replace hb889 : Box w887 b25 32 [.int .u8 (0), .int .i64 (0), .int .i64 (0), .int .u64 (0), .int .u64 (0), .int .u64 (m.LogTerm), .int .u64 (m.Commit), .int .u64 (m.Round), .bool (m.Ok), v1, v3, .string (m.Snap)] := hb889
    have hx891 : Ext [b25, b17] w w887 := hx129.trans (hs888.mono (by simp))
    refine WL.z (.pointer (some ⟨b25, 5, none⟩)) (V.fieldAddr (x := .tmp 3) rfl fl32_5 ((hE886 3 rfl).trans h3_128)) ?_
    refine WL.store (Sure.none rfl) rfl rfl s23 rfl rfl rfl hb889 (by show (5 : Nat) < 12; decide) (fun w899 hs900 hb901 => ?_)
    replace hb901 : Box w899 b25 32 [.int .u8 (0), .int .i64 (0), .int .i64 (0), .int .u64 (0), .int .u64 (0), .int .u64 (0), .int .u64 (m.Commit), .int .u64 (m.Round), .bool (m.Ok), v1, v3, .string (m.Snap)] := hb901
    have hx903 : Ext [b25, b17] w w899 := hx891.trans (hs900.mono (by simp))
    refine WL.z (.pointer (some ⟨b25, 7, none⟩)) (V.fieldAddr (x := .tmp 3) rfl fl32_7 ((hE886 3 rfl).trans h3_128)) ?_
    refine WL.store (Sure.none rfl) rfl rfl s23 rfl rfl rfl hb901 (by show (7 : Nat) < 12; decide) (fun w912 hs913 hb914 => ?_)
    replace hb914 : Box w912 b25 32 [.int .u8 (0), .int .i64 (0), .int .i64 (0), .int .u64 (0), .int .u64 (0), .int .u64 (0), .int .u64 (m.Commit), .int .u64 (0), .bool (m.Ok), v1, v3, .string (m.Snap)] := hb914
    have hx916 : Ext [b25, b17] w w912 := hx903.trans (hs913.mono (by simp))
    refine WL.z (.pointer (some ⟨b25, 10, none⟩)) (V.fieldAddr (x := .tmp 3) rfl fl32_10 ((hE886 3 rfl).trans h3_128)) ?_
    refine WL.store (Sure.none rfl) rfl rfl s22 rfl rfl rfl hb914 (by show (10 : Nat) < 12; decide) (fun w926 hs927 hb928 => ?_)
    replace hb928 : Box w926 b25 32 [.int .u8 (0), .int .i64 (0), .int .i64 (0), .int .u64 (0), .int .u64 (0), .int .u64 (0), .int .u64 (m.Commit), .int .u64 (0), .bool (m.Ok), v1, .slice none 0 0, .string (m.Snap)] := hb928
    have hx930 : Ext [b25, b17] w w926 := hx916.trans (hs927.mono (by simp))
    refine WL.z (.pointer (some ⟨b25, 11, none⟩)) (V.fieldAddr (x := .tmp 3) rfl fl32_11 ((hE886 3 rfl).trans h3_128)) ?_
    refine WL.store (Sure.none rfl) rfl rfl s9 rfl rfl rfl hb928 (by show (11 : Nat) < 12; decide) (fun w941 hs942 hb943 => ?_)
    replace hb943 : Box w941 b25 32 [.int .u8 (0), .int .i64 (0), .int .i64 (0), .int .u64 (0), .int .u64 (0), .int .u64 (0), .int .u64 (m.Commit), .int .u64 (0), .bool (m.Ok), v1, .slice none 0 0, .string (ByteArray.mk #[])] := hb943
    have hx945 : Ext [b25, b17] w w941 := hx930.trans (hs942.mono (by simp))
    refine WL.nil ?_
    refine WP.exit ?_
    refine WP.seq ?_
    refine WP.sr ?_
    refine WL.skips [(4, some false)] [(126, some true)] (kc (some false) (hK885 4 (some false) rfl) kn) (by kernel_rfl) (fun E957 hK958 hE959 => ?_)
    refine WP.cond_true (hK958 126 (some true) rfl) ?_
    refine WP.sr ?_
    refine WL.m rfl ?_
    refine WL.nil ?_
    refine WP.ret ?_
    refine resOf.c1 rfl (v := .int .i64 (2)) rfl ?_
    exact ⟨(int_eq (by first | (rw [show mayMsgB m = false from (by first | assumption | grind [mayMsgB, layB, askB, heardB, toldB, installB, eqzB])]; rfl) | (rw [show mayMsgB m = true from (by first | assumption | grind [mayMsgB, layB, askB, heardB, toldB, installB, eqzB])]; rfl))), ((hx945).done (geCons hge_b25_w (geCons hge_b17_w geNil)))⟩
  refine WL.fy (x := .tmp 1) (.int .u64 (m.Index)) rfl fl32_4 h1_128 p23 (hbb17_128.cell rfl) ?_
  refine WL.y (.bool (decide (m.Index > 0))) rfl (V.cmp rfl rfl rfl rfl) ?_
  refine WL.k (a := true) rfl rfl ?_
  refine WL.vbp (c := m.Index > 0) (Sure.none rfl) rfl (V.move rfl rfl) (fun hc620 => ?_) (fun hc620 => ?_)
  rotate_left
  · refine WL.skips [(104, some false)] [(4, some false)] (kc (some false) rfl kn) (by kernel_rfl) (fun E808 hK809 hE810 => ?_)
    refine WP.region ?_
    refine WL.z (.pointer (some ⟨b25, 4, none⟩)) (V.fieldAddr (x := .tmp 3) rfl fl32_4 ((hE810 3 rfl).trans h3_128)) ?_
    refine WL.store (Sure.none rfl) rfl rfl s23 rfl rfl rfl hbb25_128 (by show (4 : Nat) < 12; decide) (fun w811 hs812 hb813 => ?_)
    replace hb813 : Box w811 b25 32 [.int .u8 (0), .int .i64 (0), .int .i64 (0), .int .u64 (0), .int .u64 (0), .int .u64 (m.LogTerm), .int .u64 (m.Commit), .int .u64 (m.Round), .bool (m.Ok), v1, v3, .string (m.Snap)] := hb813
    have hx815 : Ext [b25, b17] w w811 := hx129.trans (hs812.mono (by simp))
    refine WL.z (.pointer (some ⟨b25, 5, none⟩)) (V.fieldAddr (x := .tmp 3) rfl fl32_5 ((hE810 3 rfl).trans h3_128)) ?_
    refine WL.store (Sure.none rfl) rfl rfl s23 rfl rfl rfl hb813 (by show (5 : Nat) < 12; decide) (fun w823 hs824 hb825 => ?_)
    replace hb825 : Box w823 b25 32 [.int .u8 (0), .int .i64 (0), .int .i64 (0), .int .u64 (0), .int .u64 (0), .int .u64 (0), .int .u64 (m.Commit), .int .u64 (m.Round), .bool (m.Ok), v1, v3, .string (m.Snap)] := hb825
    have hx827 : Ext [b25, b17] w w823 := hx815.trans (hs824.mono (by simp))
    refine WL.z (.pointer (some ⟨b25, 7, none⟩)) (V.fieldAddr (x := .tmp 3) rfl fl32_7 ((hE810 3 rfl).trans h3_128)) ?_
    refine WL.store (Sure.none rfl) rfl rfl s23 rfl rfl rfl hb825 (by show (7 : Nat) < 12; decide) (fun w836 hs837 hb838 => ?_)
    replace hb838 : Box w836 b25 32 [.int .u8 (0), .int .i64 (0), .int .i64 (0), .int .u64 (0), .int .u64 (0), .int .u64 (0), .int .u64 (m.Commit), .int .u64 (0), .bool (m.Ok), v1, v3, .string (m.Snap)] := hb838
    have hx840 : Ext [b25, b17] w w836 := hx827.trans (hs837.mono (by simp))
    refine WL.z (.pointer (some ⟨b25, 10, none⟩)) (V.fieldAddr (x := .tmp 3) rfl fl32_10 ((hE810 3 rfl).trans h3_128)) ?_
    refine WL.store (Sure.none rfl) rfl rfl s22 rfl rfl rfl hb838 (by show (10 : Nat) < 12; decide) (fun w850 hs851 hb852 => ?_)
    replace hb852 : Box w850 b25 32 [.int .u8 (0), .int .i64 (0), .int .i64 (0), .int .u64 (0), .int .u64 (0), .int .u64 (0), .int .u64 (m.Commit), .int .u64 (0), .bool (m.Ok), v1, .slice none 0 0, .string (m.Snap)] := hb852
    have hx854 : Ext [b25, b17] w w850 := hx840.trans (hs851.mono (by simp))
    refine WL.z (.pointer (some ⟨b25, 11, none⟩)) (V.fieldAddr (x := .tmp 3) rfl fl32_11 ((hE810 3 rfl).trans h3_128)) ?_
    refine WL.store (Sure.none rfl) rfl rfl s9 rfl rfl rfl hb852 (by show (11 : Nat) < 12; decide) (fun w865 hs866 hb867 => ?_)
    replace hb867 : Box w865 b25 32 [.int .u8 (0), .int .i64 (0), .int .i64 (0), .int .u64 (0), .int .u64 (0), .int .u64 (0), .int .u64 (m.Commit), .int .u64 (0), .bool (m.Ok), v1, .slice none 0 0, .string (ByteArray.mk #[])] := hb867
    have hx869 : Ext [b25, b17] w w865 := hx854.trans (hs866.mono (by simp))
    refine WL.nil ?_
    refine WP.exit ?_
    refine WP.seq ?_
    refine WP.sr ?_
    refine WL.skips [(4, some false)] [(126, some true)] (kc (some false) (hK809 4 (some false) rfl) kn) (by kernel_rfl) (fun E881 hK882 hE883 => ?_)
    refine WP.cond_true (hK882 126 (some true) rfl) ?_
    refine WP.sr ?_
    refine WL.m rfl ?_
    refine WL.nil ?_
    refine WP.ret ?_
    refine resOf.c1 rfl (v := .int .i64 (2)) rfl ?_
    exact ⟨(int_eq (by first | (rw [show mayMsgB m = false from (by first | assumption | grind [mayMsgB, layB, askB, heardB, toldB, installB, eqzB])]; rfl) | (rw [show mayMsgB m = true from (by first | assumption | grind [mayMsgB, layB, askB, heardB, toldB, installB, eqzB])]; rfl))), ((hx869).done (geCons hge_b25_w (geCons hge_b17_w geNil)))⟩
  refine WL.fy (x := .tmp 1) (.int .u64 (m.LogTerm)) rfl fl32_5 h1_128 p23 (hbb17_128.cell rfl) ?_
  refine WL.y (.bool (decide (m.LogTerm > 0))) rfl (V.cmp rfl rfl rfl rfl) ?_
  refine WL.k (a := true) rfl rfl ?_
  refine WL.vbp (c := m.LogTerm > 0) (Sure.none rfl) rfl (V.move rfl rfl) (fun hc621 => ?_) (fun hc621 => ?_)
  rotate_left
  · refine WL.skips [(109, some false)] [(4, some false)] (kc (some false) rfl kn) (by kernel_rfl) (fun E732 hK733 hE734 => ?_)
    refine WP.region ?_
    refine WL.z (.pointer (some ⟨b25, 4, none⟩)) (V.fieldAddr (x := .tmp 3) rfl fl32_4 ((hE734 3 rfl).trans h3_128)) ?_
    refine WL.store (Sure.none rfl) rfl rfl s23 rfl rfl rfl hbb25_128 (by show (4 : Nat) < 12; decide) (fun w735 hs736 hb737 => ?_)
    replace hb737 : Box w735 b25 32 [.int .u8 (0), .int .i64 (0), .int .i64 (0), .int .u64 (0), .int .u64 (0), .int .u64 (m.LogTerm), .int .u64 (m.Commit), .int .u64 (m.Round), .bool (m.Ok), v1, v3, .string (m.Snap)] := hb737
    have hx739 : Ext [b25, b17] w w735 := hx129.trans (hs736.mono (by simp))
    refine WL.z (.pointer (some ⟨b25, 5, none⟩)) (V.fieldAddr (x := .tmp 3) rfl fl32_5 ((hE734 3 rfl).trans h3_128)) ?_
    refine WL.store (Sure.none rfl) rfl rfl s23 rfl rfl rfl hb737 (by show (5 : Nat) < 12; decide) (fun w747 hs748 hb749 => ?_)
    replace hb749 : Box w747 b25 32 [.int .u8 (0), .int .i64 (0), .int .i64 (0), .int .u64 (0), .int .u64 (0), .int .u64 (0), .int .u64 (m.Commit), .int .u64 (m.Round), .bool (m.Ok), v1, v3, .string (m.Snap)] := hb749
    have hx751 : Ext [b25, b17] w w747 := hx739.trans (hs748.mono (by simp))
    refine WL.z (.pointer (some ⟨b25, 7, none⟩)) (V.fieldAddr (x := .tmp 3) rfl fl32_7 ((hE734 3 rfl).trans h3_128)) ?_
    refine WL.store (Sure.none rfl) rfl rfl s23 rfl rfl rfl hb749 (by show (7 : Nat) < 12; decide) (fun w760 hs761 hb762 => ?_)
    replace hb762 : Box w760 b25 32 [.int .u8 (0), .int .i64 (0), .int .i64 (0), .int .u64 (0), .int .u64 (0), .int .u64 (0), .int .u64 (m.Commit), .int .u64 (0), .bool (m.Ok), v1, v3, .string (m.Snap)] := hb762
    have hx764 : Ext [b25, b17] w w760 := hx751.trans (hs761.mono (by simp))
    refine WL.z (.pointer (some ⟨b25, 10, none⟩)) (V.fieldAddr (x := .tmp 3) rfl fl32_10 ((hE734 3 rfl).trans h3_128)) ?_
    refine WL.store (Sure.none rfl) rfl rfl s22 rfl rfl rfl hb762 (by show (10 : Nat) < 12; decide) (fun w774 hs775 hb776 => ?_)
    replace hb776 : Box w774 b25 32 [.int .u8 (0), .int .i64 (0), .int .i64 (0), .int .u64 (0), .int .u64 (0), .int .u64 (0), .int .u64 (m.Commit), .int .u64 (0), .bool (m.Ok), v1, .slice none 0 0, .string (m.Snap)] := hb776
    have hx778 : Ext [b25, b17] w w774 := hx764.trans (hs775.mono (by simp))
    refine WL.z (.pointer (some ⟨b25, 11, none⟩)) (V.fieldAddr (x := .tmp 3) rfl fl32_11 ((hE734 3 rfl).trans h3_128)) ?_
    refine WL.store (Sure.none rfl) rfl rfl s9 rfl rfl rfl hb776 (by show (11 : Nat) < 12; decide) (fun w789 hs790 hb791 => ?_)
    replace hb791 : Box w789 b25 32 [.int .u8 (0), .int .i64 (0), .int .i64 (0), .int .u64 (0), .int .u64 (0), .int .u64 (0), .int .u64 (m.Commit), .int .u64 (0), .bool (m.Ok), v1, .slice none 0 0, .string (ByteArray.mk #[])] := hb791
    have hx793 : Ext [b25, b17] w w789 := hx778.trans (hs790.mono (by simp))
    refine WL.nil ?_
    refine WP.exit ?_
    refine WP.seq ?_
    refine WP.sr ?_
    refine WL.skips [(4, some false)] [(126, some true)] (kc (some false) (hK733 4 (some false) rfl) kn) (by kernel_rfl) (fun E805 hK806 hE807 => ?_)
    refine WP.cond_true (hK806 126 (some true) rfl) ?_
    refine WP.sr ?_
    refine WL.m rfl ?_
    refine WL.nil ?_
    refine WP.ret ?_
    refine resOf.c1 rfl (v := .int .i64 (2)) rfl ?_
    exact ⟨(int_eq (by first | (rw [show mayMsgB m = false from (by first | assumption | grind [mayMsgB, layB, askB, heardB, toldB, installB, eqzB])]; rfl) | (rw [show mayMsgB m = true from (by first | assumption | grind [mayMsgB, layB, askB, heardB, toldB, installB, eqzB])]; rfl))), ((hx793).done (geCons hge_b25_w (geCons hge_b17_w geNil)))⟩
  refine WL.fy (x := .tmp 1) (v3) rfl fl32_10 h1_128 p22 (hbb17_128.cell rfl) ?_
  refine WL.c (Sure.yes rfl rfl rfl) rfl (C.call1 rfl cl47 rfl) (Fnc.mono (vote_members (hl32.ext (Ext.pre hx130))) ?_)
  rintro _ w622 ⟨rfl, hx623⟩
  have hx624 : Ext [b25, b17] w w622 := hx129.trans (Ext.any (Y := [b25, b17]) hx623)
  have hx625 : Ext [b25, b17] w26 w622 := hx130.trans (Ext.any (Y := [b25, b17]) hx623)
  have hb633 := hbb25_128.ext hx623 (by simp)
  refine WL.k (a := true) rfl rfl ?_
  refine WL.m rfl ?_
  refine WL.nil ?_
  refine WP.region ?_
  refine WL.z (.pointer (some ⟨b25, 4, none⟩)) (V.fieldAddr (x := .tmp 3) rfl fl32_4 h3_128) ?_
  refine WL.store (Sure.none rfl) rfl rfl s23 rfl rfl rfl hb633 (by show (4 : Nat) < 12; decide) (fun w634 hs635 hb636 => ?_)
  replace hb636 : Box w634 b25 32 [.int .u8 (0), .int .i64 (0), .int .i64 (0), .int .u64 (0), .int .u64 (0), .int .u64 (m.LogTerm), .int .u64 (m.Commit), .int .u64 (m.Round), .bool (m.Ok), v1, v3, .string (m.Snap)] := hb636
  have hx638 : Ext [b25, b17] w w634 := hx624.trans (hs635.mono (by simp))
  have hx639 : Ext [b25, b17] w26 w634 := hx625.trans (hs635.mono (by simp))
  refine WL.z (.pointer (some ⟨b25, 5, none⟩)) (V.fieldAddr (x := .tmp 3) rfl fl32_5 h3_128) ?_
  refine WL.store (Sure.none rfl) rfl rfl s23 rfl rfl rfl hb636 (by show (5 : Nat) < 12; decide) (fun w647 hs648 hb649 => ?_)
  replace hb649 : Box w647 b25 32 [.int .u8 (0), .int .i64 (0), .int .i64 (0), .int .u64 (0), .int .u64 (0), .int .u64 (0), .int .u64 (m.Commit), .int .u64 (m.Round), .bool (m.Ok), v1, v3, .string (m.Snap)] := hb649
  have hx651 : Ext [b25, b17] w w647 := hx638.trans (hs648.mono (by simp))
  have hx652 : Ext [b25, b17] w26 w647 := hx639.trans (hs648.mono (by simp))
  refine WL.z (.pointer (some ⟨b25, 7, none⟩)) (V.fieldAddr (x := .tmp 3) rfl fl32_7 h3_128) ?_
  refine WL.store (Sure.none rfl) rfl rfl s23 rfl rfl rfl hb649 (by show (7 : Nat) < 12; decide) (fun w661 hs662 hb663 => ?_)
  replace hb663 : Box w661 b25 32 [.int .u8 (0), .int .i64 (0), .int .i64 (0), .int .u64 (0), .int .u64 (0), .int .u64 (0), .int .u64 (m.Commit), .int .u64 (0), .bool (m.Ok), v1, v3, .string (m.Snap)] := hb663
  have hx665 : Ext [b25, b17] w w661 := hx651.trans (hs662.mono (by simp))
  have hx666 : Ext [b25, b17] w26 w661 := hx652.trans (hs662.mono (by simp))
  refine WL.z (.pointer (some ⟨b25, 10, none⟩)) (V.fieldAddr (x := .tmp 3) rfl fl32_10 h3_128) ?_
  refine WL.store (Sure.none rfl) rfl rfl s22 rfl rfl rfl hb663 (by show (10 : Nat) < 12; decide) (fun w676 hs677 hb678 => ?_)
  replace hb678 : Box w676 b25 32 [.int .u8 (0), .int .i64 (0), .int .i64 (0), .int .u64 (0), .int .u64 (0), .int .u64 (0), .int .u64 (m.Commit), .int .u64 (0), .bool (m.Ok), v1, .slice none 0 0, .string (m.Snap)] := hb678
  have hx680 : Ext [b25, b17] w w676 := hx665.trans (hs677.mono (by simp))
  have hx681 : Ext [b25, b17] w26 w676 := hx666.trans (hs677.mono (by simp))
  refine WL.z (.pointer (some ⟨b25, 11, none⟩)) (V.fieldAddr (x := .tmp 3) rfl fl32_11 h3_128) ?_
  refine WL.store (Sure.none rfl) rfl rfl s9 rfl rfl rfl hb678 (by show (11 : Nat) < 12; decide) (fun w692 hs693 hb694 => ?_)
  replace hb694 : Box w692 b25 32 [.int .u8 (0), .int .i64 (0), .int .i64 (0), .int .u64 (0), .int .u64 (0), .int .u64 (0), .int .u64 (m.Commit), .int .u64 (0), .bool (m.Ok), v1, .slice none 0 0, .string (ByteArray.mk #[])] := hb694
  have hx696 : Ext [b25, b17] w w692 := hx680.trans (hs693.mono (by simp))
  have hx697 : Ext [b25, b17] w26 w692 := hx681.trans (hs693.mono (by simp))
  refine WL.nil ?_
  refine WP.exit ?_
  refine WP.seq ?_
  refine WP.sr ?_
  refine WL.m rfl ?_
  refine WL.z (.bool (!(membersB m.Members))) (V.not rfl rfl) ?_
  refine WL.vbn (c := membersB m.Members) (Sure.none rfl) rfl (V.move rfl rfl) (fun hc709 => ?_) (fun hc709 => ?_)
  · refine WL.skips [(121, some true)] [(126, some true)] (kc (some true) rfl kn) (by kernel_rfl) (fun E710 hK711 hE712 => ?_)
    refine WP.cond_true (hK711 126 (some true) rfl) ?_
    refine WP.sr ?_
    refine WL.m rfl ?_
    refine WL.nil ?_
    refine WP.ret ?_
    refine resOf.c1 rfl (v := .int .i64 (2)) rfl ?_
    exact ⟨(int_eq (by first | (rw [show mayMsgB m = false from (by first | assumption | grind [mayMsgB, layB, askB, heardB, toldB, installB, eqzB])]; rfl) | (rw [show mayMsgB m = true from (by first | assumption | grind [mayMsgB, layB, askB, heardB, toldB, installB, eqzB])]; rfl))), ((hx696).done (geCons hge_b25_w (geCons hge_b17_w geNil)))⟩
  refine WL.y (.agg #[.int .u8 (0), .int .i64 (0), .int .i64 (0), .int .u64 (0), .int .u64 (0), .int .u64 (0), .int .u64 (m.Commit), .int .u64 (0), .bool (m.Ok), v1, .slice none 0 0, .string (ByteArray.mk #[])]) rfl (V.loadAgg (x := .tmp 3) (cs := [.int .u8 (0), .int .i64 (0), .int .i64 (0), .int .u64 (0), .int .u64 (0), .int .u64 (0), .int .u64 (m.Commit), .int .u64 (0), .bool (m.Ok), v1, .slice none 0 0, .string (ByteArray.mk #[])]) rfl a32 h3_128 (At.box hb694) rfl) ?_
  refine WL.y (.agg #[.int .u8 (0), .int .i64 (0), .int .i64 (0), .int .u64 (0), .int .u64 (0), .int .u64 (0), .int .u64 (0), .int .u64 (0), .bool (false), .slice none 0 0, .slice none 0 0, .string (ByteArray.mk #[])]) rfl (V.build1 (L := []) rfl rfl bu32_d7517139) ?_
  refine WL.c (Sure.yes rfl rfl rfl) rfl (C.call2 rfl cl48 rfl rfl) (Fnc.mono (vote_sameMsg (a := ({ Kind := 0, From := 0, To := 0, Term := 0, Index := 0, LogTerm := 0, Commit := m.Commit, Round := 0, Ok := m.Ok, Entries := m.Entries, Members := [], Snap := (ByteArray.mk #[]) } : MsgD)) ⟨v1, .slice none 0 0, rfl, (hl31.ext (Ext.pre hx697)), Sl.nil, ⟨(inK_u8' (n := 0) (by omega)), (inK_i64' (n := 0) (by omega)), (inK_i64' (n := 0) (by omega)), (inK_u64' (n := 0) (by omega)), (inK_u64' (n := 0) (by omega)), (inK_u64' (n := 0) (by omega)), (inK_u64' (n := m.Commit) (by omega)), (inK_u64' (n := 0) (by omega)), (Nat.zero_le _)⟩⟩ (b := ({ Kind := 0, From := 0, To := 0, Term := 0, Index := 0, LogTerm := 0, Commit := 0, Round := 0, Ok := false, Entries := [], Members := [], Snap := (ByteArray.mk #[]) } : MsgD)) ⟨.slice none 0 0, .slice none 0 0, rfl, Sl.nil, Sl.nil, ⟨(inK_u8' (n := 0) (by omega)), (inK_i64' (n := 0) (by omega)), (inK_i64' (n := 0) (by omega)), (inK_u64' (n := 0) (by omega)), (inK_u64' (n := 0) (by omega)), (inK_u64' (n := 0) (by omega)), (inK_u64' (n := 0) (by omega)), (inK_u64' (n := 0) (by omega)), (Nat.zero_le _)⟩⟩) ?_)
  rintro _ w713 ⟨rfl, hx714⟩
  have hx715 : Ext [b25, b17] w w713 := hx696.trans (Ext.any (Y := [b25, b17]) hx714)
  refine WL.y (.bool (!(sameMsgB ({ Kind := 0, From := 0, To := 0, Term := 0, Index := 0, LogTerm := 0, Commit := m.Commit, Round := 0, Ok := m.Ok, Entries := m.Entries, Members := [], Snap := (ByteArray.mk #[]) } : MsgD) ({ Kind := 0, From := 0, To := 0, Term := 0, Index := 0, LogTerm := 0, Commit := 0, Round := 0, Ok := false, Entries := [], Members := [], Snap := (ByteArray.mk #[]) } : MsgD)))) rfl (V.not rfl rfl) ?_
  refine WL.k (a := false) rfl rfl ?_
  refine WL.nil ?_
  refine WP.condn (t := sameMsgB ({ Kind := 0, From := 0, To := 0, Term := 0, Index := 0, LogTerm := 0, Commit := m.Commit, Round := 0, Ok := m.Ok, Entries := m.Entries, Members := [], Snap := (ByteArray.mk #[]) } : MsgD) ({ Kind := 0, From := 0, To := 0, Term := 0, Index := 0, LogTerm := 0, Commit := 0, Round := 0, Ok := false, Entries := [], Members := [], Snap := (ByteArray.mk #[]) } : MsgD)) rfl (fun hc731 => ?_) (fun hc731 => ?_)
  · refine WP.sr ?_
    refine WL.m rfl ?_
    refine WL.nil ?_
    refine WP.ret ?_
    refine resOf.c1 rfl (v := .int .i64 (2)) rfl ?_
    exact ⟨(int_eq (by first | (rw [show mayMsgB m = false from (by first | assumption | grind [mayMsgB, layB, askB, heardB, toldB, installB, eqzB])]; rfl) | (rw [show mayMsgB m = true from (by first | assumption | grind [mayMsgB, layB, askB, heardB, toldB, installB, eqzB])]; rfl))), ((hx715).done (geCons hge_b25_w (geCons hge_b17_w geNil)))⟩
  refine WP.skip ?_
  refine WP.sr ?_
  refine WL.m rfl ?_
  refine WL.nil ?_
  refine WP.ret ?_
  refine resOf.c1 rfl (v := .int .i64 (0)) rfl ?_
  exact ⟨(int_eq (by first | (rw [show mayMsgB m = false from (by first | assumption | grind [mayMsgB, layB, askB, heardB, toldB, installB, eqzB])]; rfl) | (rw [show mayMsgB m = true from (by first | assumption | grind [mayMsgB, layB, askB, heardB, toldB, installB, eqzB])]; rfl))), ((hx715).done (geCons hge_b25_w (geCons hge_b17_w geNil)))⟩
end Go.Proofs.Ytbpamkbegggeoaa.T
namespace Go.Proofs.Ytbpamkbegggeoaa.T
open W Go.RowKit
set_option maxRecDepth 100000
set_option maxHeartbeats 400000
set_option maxHeartbeats 4000000 in
theorem ref_MayMsg {w : World} {X : List Nat} {m : MsgD} {c_m : List Value} (h_m : msgR.rd X w c_m m) : Fnc Try.prog 13 #[.agg c_m.toArray] w (fun v w' => v = .bool (refMayMsgB m) ∧ Ext [] w w') := by
  obtain ⟨v1, v3, rfl, hl2, hl4, hk5⟩ := h_m
  obtain ⟨hin6, hin7, hin8, hin9, hin10, hin11, hin12, hin13, hin14⟩ := (show MsgD.InR m from hk5)
  have hin6 := inK_u8 hin6
  have hin7 := inK_i64 hin7
  have hin8 := inK_i64 hin8
  have hin9 := inK_u64 hin9
  have hin10 := inK_u64 hin10
  have hin11 := inK_u64 hin11
  have hin12 := inK_u64 hin12
  have hin13 := inK_u64 hin13
  have hle15 := hl2.le'
  have hle16 := hl4.le'
  refine Fnc.of_WP (n := 175) Try.func13 rfl Try.ntmps13 (by simp) ?_
  intro E hE
  have h0 : E 0 = .agg #[.int .u8 (m.Kind), .int .i64 (m.From), .int .i64 (m.To), .int .u64 (m.Term), .int .u64 (m.Index), .int .u64 (m.LogTerm), .int .u64 (m.Commit), .int .u64 (m.Round), .bool (m.Ok), v1, v3, .string (m.Snap)] := hE 0 (by simp)
  clear hE
  refine WP.sr ?_
  refine WL.box (x := .tmp 0) (cs := [.int .u8 (m.Kind), .int .i64 (m.From), .int .i64 (m.To), .int .u64 (m.Term), .int .u64 (m.Index), .int .u64 (m.LogTerm), .int .u64 (m.Commit), .int .u64 (m.Round), .bool (m.Ok), v1, v3, .string (m.Snap)]) (Sure.none rfl) rfl rfl h0 rfl (fun b17 w18 hx19 he20 hb21 => ?_)
  have hl22 := (Sl.new (b := b17) (by show (4 : Nat) ≠ 0; decide) hl2 (by omega)).ext (Ext.any hx19)
  have hl23 := (Sl.new (b := b17) (by show (1 : Nat) ≠ 0; decide) hl4 (by omega)).ext (Ext.any hx19)
  have hx24 : Ext [b17] _ _ := (Ext.refl _ _).trans (Ext.any hx19)
  have hge_b17_w : w.heap.size ≤ b17 := by have := Nat.le_refl w.heap.size; omega
  refine WL.m rfl ?_
  refine WL.nil ?_
  refine WP.seq ?_
  refine WP.sr ?_
  refine WL.f (.int .i64 (m.From)) fl32_1 rfl p3 (hb21.cell rfl) ?_
  refine WL.c (Sure.none rfl) rfl (C.call1 rfl cl37 rfl) (Fnc.mono (ref_id m.From) ?_)
  rintro _ w25 ⟨rfl, hx26⟩
  have hx27 : Ext [b17] w w25 := hx24.trans (Ext.any (Y := [b17]) hx26)
  have hx28 : Ext [b17] w18 w25 := (Ext.any (Y := [b17]) hx26)
  have hb29 := hb21.ext hx26 (by simp)
  refine WL.z (.bool (!(idB m.From))) (V.not rfl rfl) ?_
  refine WL.vbn (c := idB m.From) (Sure.none rfl) rfl (V.move rfl rfl) (fun hc30 => ?_) (fun hc30 => ?_)
  · refine WL.skips [(8, some true)] [(47, some true)] (kc (some true) rfl kn) (by kernel_rfl) (fun E31 hK32 hE33 => ?_)
    refine WP.cond_true (hK32 47 (some true) rfl) ?_
    refine WP.sr ?_
    refine WL.m rfl ?_
    refine WL.nil ?_
    refine WP.ret ?_
    refine resOf.c1 rfl (v := .bool (false)) rfl ?_
    exact ⟨(bool_eq (by first | assumption | grind [refMayMsgB, hdB, tailB, eqzB, membersB])), ((hx27).done (geCons hge_b17_w geNil))⟩
  refine WL.fy (.int .i64 (m.To)) rfl fl32_2 rfl p3 (hb29.cell rfl) ?_
  refine WL.c (Sure.yes rfl rfl rfl) rfl (C.call1 rfl cl37 rfl) (Fnc.mono (ref_id m.To) ?_)
  rintro _ w34 ⟨rfl, hx35⟩
  have hx36 : Ext [b17] w w34 := hx27.trans (Ext.any (Y := [b17]) hx35)
  have hx37 : Ext [b17] w18 w34 := hx28.trans (Ext.any (Y := [b17]) hx35)
  have hb39 := hb29.ext hx35 (by simp)
  refine WL.y (.bool (!(idB m.To))) rfl (V.not rfl rfl) ?_
  refine WL.k (a := false) rfl rfl ?_
  refine WL.vbn (c := idB m.To) (Sure.none rfl) rfl (V.move rfl rfl) (fun hc40 => ?_) (fun hc40 => ?_)
  · refine WL.skips [(14, some true)] [(47, some true)] (kc (some true) rfl kn) (by kernel_rfl) (fun E41 hK42 hE43 => ?_)
    refine WP.cond_true (hK42 47 (some true) rfl) ?_
    refine WP.sr ?_
    refine WL.m rfl ?_
    refine WL.nil ?_
    refine WP.ret ?_
    refine resOf.c1 rfl (v := .bool (false)) rfl ?_
    exact ⟨(bool_eq (by first | assumption | grind [refMayMsgB, hdB, tailB, eqzB, membersB])), ((hx36).done (geCons hge_b17_w geNil))⟩
  refine WL.fy (.int .i64 (m.From)) rfl fl32_1 rfl p3 (hb39.cell rfl) ?_
  refine WL.fy (.int .i64 (m.To)) rfl fl32_2 rfl p3 (hb39.cell rfl) ?_
  refine WL.y (.bool (decide (m.From = m.To))) rfl (V.cmp rfl rfl rfl rfl) ?_
  refine WL.k (a := false) rfl rfl ?_
  refine WL.vbp (c := m.From = m.To) (Sure.none rfl) rfl (V.move rfl rfl) (fun hc44 => ?_) (fun hc44 => ?_)
  · refine WL.skips [(21, some true)] [(47, some true)] (kc (some true) rfl kn) (by kernel_rfl) (fun E45 hK46 hE47 => ?_)
    refine WP.cond_true (hK46 47 (some true) rfl) ?_
    refine WP.sr ?_
    refine WL.m rfl ?_
    refine WL.nil ?_
    refine WP.ret ?_
    refine resOf.c1 rfl (v := .bool (false)) rfl ?_
    exact ⟨(bool_eq (by first | assumption | grind [refMayMsgB, hdB, tailB, eqzB, membersB])), ((hx36).done (geCons hge_b17_w geNil))⟩
  refine WL.fy (.int .u64 (m.Term)) rfl fl32_3 rfl p23 (hb39.cell rfl) ?_
  refine WL.y (.bool (decide (m.Term = 0))) rfl (V.cmp rfl rfl rfl rfl) ?_
  refine WL.k (a := false) rfl rfl ?_
  refine WL.vbp (c := m.Term = 0) (Sure.none rfl) rfl (V.move rfl rfl) (fun hc48 => ?_) (fun hc48 => ?_)
  · refine WL.skips [(26, some true)] [(47, some true)] (kc (some true) rfl kn) (by kernel_rfl) (fun E49 hK50 hE51 => ?_)
    refine WP.cond_true (hK50 47 (some true) rfl) ?_
    refine WP.sr ?_
    refine WL.m rfl ?_
    refine WL.nil ?_
    refine WP.ret ?_
    refine resOf.c1 rfl (v := .bool (false)) rfl ?_
    exact ⟨(bool_eq (by first | assumption | grind [refMayMsgB, hdB, tailB, eqzB, membersB])), ((hx36).done (geCons hge_b17_w geNil))⟩
  refine WL.fy (.int .u64 (m.Term)) rfl fl32_3 rfl p23 (hb39.cell rfl) ?_
  refine WL.y (.bool (decide (m.Term > 4611686018427387904))) rfl (V.cmp rfl rfl rfl rfl) ?_
  refine WL.k (a := false) rfl rfl ?_
  refine WL.vbp (c := m.Term > 4611686018427387904) (Sure.none rfl) rfl (V.move rfl rfl) (fun hc52 => ?_) (fun hc52 => ?_)
  · refine WL.skips [(31, some true)] [(47, some true)] (kc (some true) rfl kn) (by kernel_rfl) (fun E53 hK54 hE55 => ?_)
    refine WP.cond_true (hK54 47 (some true) rfl) ?_
    refine WP.sr ?_
    refine WL.m rfl ?_
    refine WL.nil ?_
    refine WP.ret ?_
    refine resOf.c1 rfl (v := .bool (false)) rfl ?_
    exact ⟨(bool_eq (by first | assumption | grind [refMayMsgB, hdB, tailB, eqzB, membersB])), ((hx36).done (geCons hge_b17_w geNil))⟩
  refine WL.fy (.int .u64 (m.Round)) rfl fl32_7 rfl p23 (hb39.cell rfl) ?_
  refine WL.y (.bool (decide (m.Round > 4611686018427387904))) rfl (V.cmp rfl rfl rfl rfl) ?_
  refine WL.k (a := false) rfl rfl ?_
  refine WL.vbp (c := m.Round > 4611686018427387904) (Sure.none rfl) rfl (V.move rfl rfl) (fun hc56 => ?_) (fun hc56 => ?_)
  · refine WL.skips [(36, some true)] [(47, some true)] (kc (some true) rfl kn) (by kernel_rfl) (fun E57 hK58 hE59 => ?_)
    refine WP.cond_true (hK58 47 (some true) rfl) ?_
    refine WP.sr ?_
    refine WL.m rfl ?_
    refine WL.nil ?_
    refine WP.ret ?_
    refine resOf.c1 rfl (v := .bool (false)) rfl ?_
    exact ⟨(bool_eq (by first | assumption | grind [refMayMsgB, hdB, tailB, eqzB, membersB])), ((hx36).done (geCons hge_b17_w geNil))⟩
  refine WL.fy (.int .u64 (m.Index)) rfl fl32_4 rfl p23 (hb39.cell rfl) ?_
  refine WL.y (.bool (decide (m.Index > 4611686018427387904))) rfl (V.cmp rfl rfl rfl rfl) ?_
  refine WL.k (a := false) rfl rfl ?_
  refine WL.vbp (c := m.Index > 4611686018427387904) (Sure.none rfl) rfl (V.move rfl rfl) (fun hc60 => ?_) (fun hc60 => ?_)
  · refine WL.skips [(41, some true)] [(47, some true)] (kc (some true) rfl kn) (by kernel_rfl) (fun E61 hK62 hE63 => ?_)
    refine WP.cond_true (hK62 47 (some true) rfl) ?_
    refine WP.sr ?_
    refine WL.m rfl ?_
    refine WL.nil ?_
    refine WP.ret ?_
    refine resOf.c1 rfl (v := .bool (false)) rfl ?_
    exact ⟨(bool_eq (by first | assumption | grind [refMayMsgB, hdB, tailB, eqzB, membersB])), ((hx36).done (geCons hge_b17_w geNil))⟩
  refine WL.fy (.int .u64 (m.LogTerm)) rfl fl32_5 rfl p23 (hb39.cell rfl) ?_
  refine WL.fy (.int .u64 (m.Term)) rfl fl32_3 rfl p23 (hb39.cell rfl) ?_
  refine WL.y (.bool (decide (m.LogTerm > m.Term))) rfl (V.cmp rfl rfl rfl rfl) ?_
  refine WL.k (a := false) rfl rfl ?_
  refine WL.nil ?_
  refine WP.condp (t := m.LogTerm > m.Term) rfl (fun hc64 => ?_) (fun hc64 => ?_)
  · refine WP.sr ?_
    refine WL.m rfl ?_
    refine WL.nil ?_
    refine WP.ret ?_
    refine resOf.c1 rfl (v := .bool (false)) rfl ?_
    exact ⟨(bool_eq (by first | assumption | grind [refMayMsgB, hdB, tailB, eqzB, membersB])), ((hx36).done (geCons hge_b17_w geNil))⟩
  refine WP.skip ?_
  refine WP.sr ?_
  refine WL.f (.int .u8 (m.Kind)) fl32_0 rfl p30 (hb39.cell rfl) ?_
  refine WL.f (.int .i64 (m.From)) fl32_1 rfl p3 (hb39.cell rfl) ?_
  refine WL.f (.int .i64 (m.To)) fl32_2 rfl p3 (hb39.cell rfl) ?_
  refine WL.f (.int .u64 (m.Term)) fl32_3 rfl p23 (hb39.cell rfl) ?_
  refine WL.z (.agg #[.int .u8 (m.Kind), .int .i64 (m.From), .int .i64 (m.To), .int .u64 (m.Term), .int .u64 (0), .int .u64 (0), .int .u64 (0), .int .u64 (0), .bool (false), .slice none 0 0, .slice none 0 0, .string (ByteArray.mk #[])]) (V.build1 (L := [(0, .int .u8 (m.Kind)), (1, .int .i64 (m.From)), (2, .int .i64 (m.To)), (3, .int .u64 (m.Term))]) rfl (psCons rfl (psCons rfl (psCons rfl (psCons rfl rfl)))) (bu32_03453412 m.Kind m.From m.To m.Term)) ?_
  refine WL.alloc (cs := [.int .u8 (0), .int .i64 (0), .int .i64 (0), .int .u64 (0), .int .u64 (0), .int .u64 (0), .int .u64 (0), .int .u64 (0), .bool (false), .slice none 0 0, .slice none 0 0, .string (ByteArray.mk #[])]) (Sure.none rfl) rfl rfl z32 rfl (fun b65 w66 hx67 he68 hb69 => ?_)
  have hlt_b17_b65 : b17 < b65 := by have := hb39.lt; omega
  have hb70 := hb39.ext hx67 (by simp)
  have hl71 := (Sl.new (b := b65) (by show (4 : Nat) ≠ 0; decide) (hl22.ext (Ext.pre hx37)) (by omega)).ext (Ext.any hx67)
  have hl72 := (Sl.new (b := b65) (by show (1 : Nat) ≠ 0; decide) (hl23.ext (Ext.pre hx37)) (by omega)).ext (Ext.any hx67)
  have hx73 : Ext [b65, b17] _ _ := (Ext.cons hx36).trans (Ext.any hx67)
  have hge_b65_w : w.heap.size ≤ b65 := by have := hx36.size; omega
  refine WL.storeAgg (vs := [.int .u8 (m.Kind), .int .i64 (m.From), .int .i64 (m.To), .int .u64 (m.Term), .int .u64 (0), .int .u64 (0), .int .u64 (0), .int .u64 (0), .bool (false), .slice none 0 0, .slice none 0 0, .string (ByteArray.mk #[])]) (Sure.none rfl) rfl rfl s32 rfl rfl rfl (by intro u hu; simp only [List.mem_cons, List.not_mem_nil, or_false] at hu; rcases hu with rfl | rfl | rfl | rfl | rfl | rfl | rfl | rfl | rfl | rfl | rfl | rfl <;> first | rfl | exact Sl.one (by assumption)) hb69 (by show (0 : Nat) + 12 ≤ 12; decide) (fun w74 hs75 hb76 => ?_)
  replace hb76 : Box w74 b65 32 [.int .u8 (m.Kind), .int .i64 (m.From), .int .i64 (m.To), .int .u64 (m.Term), .int .u64 (0), .int .u64 (0), .int .u64 (0), .int .u64 (0), .bool (false), .slice none 0 0, .slice none 0 0, .string (ByteArray.mk #[])] := hb76
  have hb77 := hb70.ext hs75 (by simp; omega)
  have hx78 : Ext [b65, b17] w w74 := hx73.trans (hs75.mono (by simp))
  have hx79 : Ext [b65, b17] w66 w74 := (hs75.mono (by simp))
  refine WL.nil ?_
  refine WP.seq ?_
  refine WP.sr ?_
  refine WL.f (.int .u8 (m.Kind)) fl32_0 rfl p30 (hb77.cell rfl) ?_
  refine WL.nil ?_
  refine WP.block ?_
  refine WP.sr ?_
  refine WL.z (.bool (decide (m.Kind = 1))) (V.cmp rfl rfl rfl rfl) ?_
  refine WL.m rfl ?_
  refine WL.nil ?_
  refine WP.condp (t := m.Kind = 1) rfl (fun hc80 => ?_) (fun hc80 => ?_)
  · refine WP.sr ?_
    refine WL.f (.int .u64 (m.Index)) fl32_4 rfl p23 (hb77.cell rfl) ?_
    refine WL.z (.pointer (some ⟨b65, 4, none⟩)) (V.fieldAddr rfl fl32_4 rfl) ?_
    refine WL.store (Sure.none rfl) rfl rfl s23 rfl rfl rfl hb76 (by show (4 : Nat) < 12; decide) (fun w81 hs82 hb83 => ?_)
    replace hb83 : Box w81 b65 32 [.int .u8 (m.Kind), .int .i64 (m.From), .int .i64 (m.To), .int .u64 (m.Term), .int .u64 (m.Index), .int .u64 (0), .int .u64 (0), .int .u64 (0), .bool (false), .slice none 0 0, .slice none 0 0, .string (ByteArray.mk #[])] := hb83
    have hb84 := hb77.ext hs82 (by simp; omega)
    have hx85 : Ext [b65, b17] w w81 := hx78.trans (hs82.mono (by simp))
    have hx86 : Ext [b65, b17] w66 w81 := hx79.trans (hs82.mono (by simp))
    refine WL.nil ?_
    refine WP.region ?_
    refine WL.f (.int .u64 (m.LogTerm)) fl32_5 rfl p23 (hb84.cell rfl) ?_
    refine WL.z (.pointer (some ⟨b65, 5, none⟩)) (V.fieldAddr rfl fl32_5 rfl) ?_
    refine WL.store (Sure.none rfl) rfl rfl s23 rfl rfl rfl hb83 (by show (5 : Nat) < 12; decide) (fun w88 hs89 hb90 => ?_)
    replace hb90 : Box w88 b65 32 [.int .u8 (m.Kind), .int .i64 (m.From), .int .i64 (m.To), .int .u64 (m.Term), .int .u64 (m.Index), .int .u64 (m.LogTerm), .int .u64 (0), .int .u64 (0), .bool (false), .slice none 0 0, .slice none 0 0, .string (ByteArray.mk #[])] := hb90
    have hb91 := hb84.ext hs89 (by simp; omega)
    have hx92 : Ext [b65, b17] w w88 := hx85.trans (hs89.mono (by simp))
    have hx93 : Ext [b65, b17] w66 w88 := hx86.trans (hs89.mono (by simp))
    refine WL.nil ?_
    refine WP.seq ?_
    refine WP.sr ?_
    refine WL.z (.agg #[.int .u8 (m.Kind), .int .i64 (m.From), .int .i64 (m.To), .int .u64 (m.Term), .int .u64 (m.Index), .int .u64 (m.LogTerm), .int .u64 (0), .int .u64 (0), .bool (false), .slice none 0 0, .slice none 0 0, .string (ByteArray.mk #[])]) (V.loadAgg (cs := [.int .u8 (m.Kind), .int .i64 (m.From), .int .i64 (m.To), .int .u64 (m.Term), .int .u64 (m.Index), .int .u64 (m.LogTerm), .int .u64 (0), .int .u64 (0), .bool (false), .slice none 0 0, .slice none 0 0, .string (ByteArray.mk #[])]) rfl a32 rfl (At.box hb90) rfl) ?_
    refine WL.z (.agg #[.int .u8 (m.Kind), .int .i64 (m.From), .int .i64 (m.To), .int .u64 (m.Term), .int .u64 (m.Index), .int .u64 (m.LogTerm), .int .u64 (m.Commit), .int .u64 (m.Round), .bool (m.Ok), v1, v3, .string (m.Snap)]) (V.loadAgg (cs := [.int .u8 (m.Kind), .int .i64 (m.From), .int .i64 (m.To), .int .u64 (m.Term), .int .u64 (m.Index), .int .u64 (m.LogTerm), .int .u64 (m.Commit), .int .u64 (m.Round), .bool (m.Ok), v1, v3, .string (m.Snap)]) rfl a32 rfl (At.box hb91) rfl) ?_
    refine WL.c (Sure.none rfl) rfl (C.call2 rfl cl25 rfl rfl) (Fnc.mono (ref_SameMsg (a := ({ Kind := m.Kind, From := m.From, To := m.To, Term := m.Term, Index := m.Index, LogTerm := m.LogTerm, Commit := 0, Round := 0, Ok := false, Entries := [], Members := [], Snap := (ByteArray.mk #[]) } : MsgD)) ⟨.slice none 0 0, .slice none 0 0, rfl, Sl.nil, Sl.nil, ⟨(inK_u8' (n := m.Kind) (by omega)), (inK_i64' (n := m.From) (by omega)), (inK_i64' (n := m.To) (by omega)), (inK_u64' (n := m.Term) (by omega)), (inK_u64' (n := m.Index) (by omega)), (inK_u64' (n := m.LogTerm) (by omega)), (inK_u64' (n := 0) (by omega)), (inK_u64' (n := 0) (by omega)), (Nat.zero_le _)⟩⟩ (b := m) ⟨v1, v3, rfl, (hl71.ext (Ext.pre hx93)), (hl72.ext (Ext.pre hx93)), hk5⟩) ?_)
    rintro _ w96 ⟨rfl, hx97⟩
    have hx98 : Ext [b65, b17] w w96 := hx92.trans (Ext.any (Y := [b65, b17]) hx97)
    have hx99 : Ext [b65, b17] w66 w96 := hx93.trans (Ext.any (Y := [b65, b17]) hx97)
    have hb103 := hb91.ext hx97 (by simp)
    refine WL.z (.bool (!(sameMsgB ({ Kind := m.Kind, From := m.From, To := m.To, Term := m.Term, Index := m.Index, LogTerm := m.LogTerm, Commit := 0, Round := 0, Ok := false, Entries := [], Members := [], Snap := (ByteArray.mk #[]) } : MsgD) m))) (V.not rfl rfl) ?_
    refine WL.nil ?_
    refine WP.condn (t := sameMsgB ({ Kind := m.Kind, From := m.From, To := m.To, Term := m.Term, Index := m.Index, LogTerm := m.LogTerm, Commit := 0, Round := 0, Ok := false, Entries := [], Members := [], Snap := (ByteArray.mk #[]) } : MsgD) m) rfl (fun hc105 => ?_) (fun hc105 => ?_)
    · refine WP.sr ?_
      refine WL.m rfl ?_
      refine WL.nil ?_
      refine WP.ret ?_
      refine resOf.c1 rfl (v := .bool (false)) rfl ?_
      exact ⟨(bool_eq (by first | assumption | grind [refMayMsgB, hdB, tailB, eqzB, membersB])), ((hx98).done (geCons hge_b65_w (geCons hge_b17_w geNil)))⟩
    refine WP.skip ?_
    refine WP.seq ?_
    refine WP.sr ?_
    refine WL.f (.int .u8 (m.Kind)) fl32_0 rfl p30 (hb103.cell rfl) ?_
    refine WL.z (.bool (decide (m.Kind = 1))) (V.cmp rfl rfl rfl rfl) ?_
    refine WL.vbp (c := m.Kind = 1) (Sure.none rfl) rfl (V.move rfl rfl) (fun hc106 => ?_) (fun hc106 => ?_)
    · refine WL.s (Shut.no rfl rfl rfl rfl) rfl ?_
      refine WL.s (Shut.no rfl rfl rfl rfl) rfl ?_
      refine WL.s (Shut.no rfl rfl rfl rfl) rfl ?_
      refine WL.k (a := true) rfl rfl ?_
      refine WL.m rfl ?_
      refine WL.fy (.int .u64 (m.Index)) rfl fl32_4 rfl p23 (hb103.cell rfl) ?_
      refine WL.y (.bool (decide (m.Index = 0))) rfl (V.cmp rfl rfl rfl rfl) ?_
      refine WL.fy (.int .u64 (m.LogTerm)) rfl fl32_5 rfl p23 (hb103.cell rfl) ?_
      refine WL.y (.bool (decide (m.LogTerm = 0))) rfl (V.cmp rfl rfl rfl rfl) ?_
      refine WL.y (.bool (!((decide (m.Index = 0)) == (decide (m.LogTerm = 0))))) rfl (V.bcmpNe rfl u4 rfl rfl) ?_
      refine WL.k (a := true) rfl rfl ?_
      refine WL.nil ?_
      refine WP.condn (t := (decide (m.Index = 0)) == (decide (m.LogTerm = 0))) rfl (fun hc107 => ?_) (fun hc107 => ?_)
      · refine WP.sr ?_
        refine WL.m rfl ?_
        refine WL.nil ?_
        refine WP.ret ?_
        refine resOf.c1 rfl (v := .bool (false)) rfl ?_
        exact ⟨(bool_eq (by first | assumption | grind [refMayMsgB, hdB, tailB, eqzB, membersB])), ((hx98).done (geCons hge_b65_w (geCons hge_b17_w geNil)))⟩
      refine WP.skip ?_
      refine WP.sr ?_
      refine WL.f (v1) fl32_9 rfl p25 (hb103.cell rfl) ?_
      obtain ⟨a108, c109, hv110⟩ := hl71.shape
      refine WL.z (.int .i64 (((m.Entries).length : Int))) (V.lenSlice rfl rfl u25 (Eq.trans (b := v1) rfl hv110)) ?_
      refine WL.z (.bool (decide (((m.Entries).length : Int) ≤ 16))) (V.cmp rfl rfl rfl rfl) ?_
      refine WL.vbp (c := ((m.Entries).length : Int) ≤ 16) (Sure.none rfl) rfl (V.move rfl rfl) (fun hc111 => ?_) (fun hc111 => ?_)
      rotate_left
      · refine WL.skips [(166, some false)] [(2, some false)] (kc (some false) rfl kn) (by kernel_rfl) (fun E122 hK123 hE124 => ?_)
        refine WP.ret ?_
        refine resOf.c1 rfl (v := .bool (false)) (hK123 2 (some false) rfl) ?_
        exact ⟨(bool_eq (by first | assumption | grind [refMayMsgB, hdB, tailB, eqzB, membersB])), ((hx98).done (geCons hge_b65_w (geCons hge_b17_w geNil)))⟩
      refine WL.fy (v1) rfl fl32_9 rfl p25 (hb103.cell rfl) ?_
      refine WL.fy (.int .u64 (m.LogTerm)) rfl fl32_5 rfl p23 (hb103.cell rfl) ?_
      refine WL.fy (.int .u64 (m.Term)) rfl fl32_3 rfl p23 (hb103.cell rfl) ?_
      refine WL.c (Sure.yes rfl rfl rfl) rfl (C.call3 rfl cl39 rfl rfl rfl) (Fnc.mono (ref_entries (hl71.ext (Ext.pre hx99)) m.LogTerm m.Term (by omega)) ?_)
      rintro _ w112 ⟨rfl, hx113⟩
      have hx114 : Ext [b65, b17] w w112 := hx98.trans (Ext.any (Y := [b65, b17]) hx113)
      refine WL.k (a := true) rfl rfl ?_
      refine WL.m rfl ?_
      refine WL.nil ?_
      refine WP.ret ?_
      refine resOf.c1 rfl (v := .bool (entsB m.Entries m.LogTerm m.Term)) rfl ?_
      exact ⟨(bool_eq (by first | assumption | grind [refMayMsgB, hdB, tailB, eqzB, membersB])), ((hx114).done (geCons hge_b65_w (geCons hge_b17_w geNil)))⟩
    refine WL.fy (.int .u8 (m.Kind)) rfl fl32_0 rfl p30 (hb103.cell rfl) ?_
    refine WL.y (.bool (decide (m.Kind = 3))) rfl (V.cmp rfl rfl rfl rfl) ?_
    refine WL.k (a := false) rfl rfl ?_
    refine WL.vbp (c := m.Kind = 3) (Sure.none rfl) rfl (V.move rfl rfl) (fun hc125 => ?_) (fun hc125 => ?_)
    rotate_left
    · refine WL.skips [(153, some false)] [(161, some false)] (kc (some false) rfl kn) (by kernel_rfl) (fun E144 hK145 hE146 => ?_)
      refine WP.cond_false (hK145 161 (some false) rfl) ?_
      refine WP.skip ?_
      refine WP.sr ?_
      refine WL.f (x := .tmp 1) (v1) fl32_9 (hE146 1 rfl) p25 (hb103.cell rfl) ?_
      obtain ⟨a147, c148, hv149⟩ := hl71.shape
      refine WL.z (.int .i64 (((m.Entries).length : Int))) (V.lenSlice rfl rfl u25 (Eq.trans (b := v1) rfl hv149)) ?_
      refine WL.z (.bool (decide (((m.Entries).length : Int) ≤ 16))) (V.cmp rfl rfl rfl rfl) ?_
      refine WL.vbp (c := ((m.Entries).length : Int) ≤ 16) (Sure.none rfl) rfl (V.move rfl rfl) (fun hc150 => ?_) (fun hc150 => ?_)
      rotate_left
      · refine WL.skips [(166, some false)] [(2, some false)] (kc (some false) rfl kn) (by kernel_rfl) (fun E161 hK162 hE163 => ?_)
        refine WP.ret ?_
        refine resOf.c1 rfl (v := .bool (false)) (hK162 2 (some false) rfl) ?_
        exact ⟨(bool_eq (by first | assumption | grind [refMayMsgB, hdB, tailB, eqzB, membersB])), ((hx98).done (geCons hge_b65_w (geCons hge_b17_w geNil)))⟩
      refine WL.fy (x := .tmp 1) (v1) rfl fl32_9 (hE146 1 rfl) p25 (hb103.cell rfl) ?_
      refine WL.fy (x := .tmp 1) (.int .u64 (m.LogTerm)) rfl fl32_5 (hE146 1 rfl) p23 (hb103.cell rfl) ?_
      refine WL.fy (x := .tmp 1) (.int .u64 (m.Term)) rfl fl32_3 (hE146 1 rfl) p23 (hb103.cell rfl) ?_
      refine WL.c (Sure.yes rfl rfl rfl) rfl (C.call3 rfl cl39 rfl rfl rfl) (Fnc.mono (ref_entries (hl71.ext (Ext.pre hx99)) m.LogTerm m.Term (by omega)) ?_)
      rintro _ w151 ⟨rfl, hx152⟩
      have hx153 : Ext [b65, b17] w w151 := hx98.trans (Ext.any (Y := [b65, b17]) hx152)
      refine WL.k (a := true) rfl rfl ?_
      refine WL.m rfl ?_
      refine WL.nil ?_
      refine WP.ret ?_
      refine resOf.c1 rfl (v := .bool (entsB m.Entries m.LogTerm m.Term)) rfl ?_
      exact ⟨(bool_eq (by first | assumption | grind [refMayMsgB, hdB, tailB, eqzB, membersB])), ((hx153).done (geCons hge_b65_w (geCons hge_b17_w geNil)))⟩
    refine WL.fy (.int .u64 (m.Index)) rfl fl32_4 rfl p23 (hb103.cell rfl) ?_
    refine WL.y (.bool (decide (m.Index = 0))) rfl (V.cmp rfl rfl rfl rfl) ?_
    refine WL.fy (.int .u64 (m.LogTerm)) rfl fl32_5 rfl p23 (hb103.cell rfl) ?_
    refine WL.y (.bool (decide (m.LogTerm = 0))) rfl (V.cmp rfl rfl rfl rfl) ?_
    refine WL.y (.bool (!((decide (m.Index = 0)) == (decide (m.LogTerm = 0))))) rfl (V.bcmpNe rfl u4 rfl rfl) ?_
    refine WL.k (a := true) rfl rfl ?_
    refine WL.nil ?_
    refine WP.condn (t := (decide (m.Index = 0)) == (decide (m.LogTerm = 0))) rfl (fun hc126 => ?_) (fun hc126 => ?_)
    · refine WP.sr ?_
      refine WL.m rfl ?_
      refine WL.nil ?_
      refine WP.ret ?_
      refine resOf.c1 rfl (v := .bool (false)) rfl ?_
      exact ⟨(bool_eq (by first | assumption | grind [refMayMsgB, hdB, tailB, eqzB, membersB])), ((hx98).done (geCons hge_b65_w (geCons hge_b17_w geNil)))⟩
    refine WP.skip ?_
    refine WP.sr ?_
    refine WL.f (v1) fl32_9 rfl p25 (hb103.cell rfl) ?_
    obtain ⟨a127, c128, hv129⟩ := hl71.shape
    refine WL.z (.int .i64 (((m.Entries).length : Int))) (V.lenSlice rfl rfl u25 (Eq.trans (b := v1) rfl hv129)) ?_
    refine WL.z (.bool (decide (((m.Entries).length : Int) ≤ 16))) (V.cmp rfl rfl rfl rfl) ?_
    refine WL.vbp (c := ((m.Entries).length : Int) ≤ 16) (Sure.none rfl) rfl (V.move rfl rfl) (fun hc130 => ?_) (fun hc130 => ?_)
    rotate_left
    · refine WL.skips [(166, some false)] [(2, some false)] (kc (some false) rfl kn) (by kernel_rfl) (fun E141 hK142 hE143 => ?_)
      refine WP.ret ?_
      refine resOf.c1 rfl (v := .bool (false)) (hK142 2 (some false) rfl) ?_
      exact ⟨(bool_eq (by first | assumption | grind [refMayMsgB, hdB, tailB, eqzB, membersB])), ((hx98).done (geCons hge_b65_w (geCons hge_b17_w geNil)))⟩
    refine WL.fy (v1) rfl fl32_9 rfl p25 (hb103.cell rfl) ?_
    refine WL.fy (.int .u64 (m.LogTerm)) rfl fl32_5 rfl p23 (hb103.cell rfl) ?_
    refine WL.fy (.int .u64 (m.Term)) rfl fl32_3 rfl p23 (hb103.cell rfl) ?_
    refine WL.c (Sure.yes rfl rfl rfl) rfl (C.call3 rfl cl39 rfl rfl rfl) (Fnc.mono (ref_entries (hl71.ext (Ext.pre hx99)) m.LogTerm m.Term (by omega)) ?_)
    rintro _ w131 ⟨rfl, hx132⟩
    have hx133 : Ext [b65, b17] w w131 := hx98.trans (Ext.any (Y := [b65, b17]) hx132)
    refine WL.k (a := true) rfl rfl ?_
    refine WL.m rfl ?_
    refine WL.nil ?_
    refine WP.ret ?_
    refine resOf.c1 rfl (v := .bool (entsB m.Entries m.LogTerm m.Term)) rfl ?_
    exact ⟨(bool_eq (by first | assumption | grind [refMayMsgB, hdB, tailB, eqzB, membersB])), ((hx133).done (geCons hge_b65_w (geCons hge_b17_w geNil)))⟩
  refine WP.sr ?_
  refine WL.z (.bool (decide (m.Kind = 2))) (V.cmp rfl rfl rfl rfl) ?_
  refine WL.m rfl ?_
  refine WL.nil ?_
  refine WP.condp (t := m.Kind = 2) rfl (fun hc164 => ?_) (fun hc164 => ?_)
  · refine WP.region ?_
    refine WL.f (.bool (m.Ok)) fl32_8 rfl p4 (hb77.cell rfl) ?_
    refine WL.z (.pointer (some ⟨b65, 8, none⟩)) (V.fieldAddr rfl fl32_8 rfl) ?_
    refine WL.store (Sure.none rfl) rfl rfl s4 rfl rfl rfl hb76 (by show (8 : Nat) < 12; decide) (fun w165 hs166 hb167 => ?_)
    replace hb167 : Box w165 b65 32 [.int .u8 (m.Kind), .int .i64 (m.From), .int .i64 (m.To), .int .u64 (m.Term), .int .u64 (0), .int .u64 (0), .int .u64 (0), .int .u64 (0), .bool (m.Ok), .slice none 0 0, .slice none 0 0, .string (ByteArray.mk #[])] := hb167
    have hb168 := hb77.ext hs166 (by simp; omega)
    have hx169 : Ext [b65, b17] w w165 := hx78.trans (hs166.mono (by simp))
    have hx170 : Ext [b65, b17] w66 w165 := hx79.trans (hs166.mono (by simp))
    refine WL.nil ?_
    refine WP.seq ?_
    refine WP.sr ?_
    refine WL.z (.agg #[.int .u8 (m.Kind), .int .i64 (m.From), .int .i64 (m.To), .int .u64 (m.Term), .int .u64 (0), .int .u64 (0), .int .u64 (0), .int .u64 (0), .bool (m.Ok), .slice none 0 0, .slice none 0 0, .string (ByteArray.mk #[])]) (V.loadAgg (cs := [.int .u8 (m.Kind), .int .i64 (m.From), .int .i64 (m.To), .int .u64 (m.Term), .int .u64 (0), .int .u64 (0), .int .u64 (0), .int .u64 (0), .bool (m.Ok), .slice none 0 0, .slice none 0 0, .string (ByteArray.mk #[])]) rfl a32 rfl (At.box hb167) rfl) ?_
    refine WL.z (.agg #[.int .u8 (m.Kind), .int .i64 (m.From), .int .i64 (m.To), .int .u64 (m.Term), .int .u64 (m.Index), .int .u64 (m.LogTerm), .int .u64 (m.Commit), .int .u64 (m.Round), .bool (m.Ok), v1, v3, .string (m.Snap)]) (V.loadAgg (cs := [.int .u8 (m.Kind), .int .i64 (m.From), .int .i64 (m.To), .int .u64 (m.Term), .int .u64 (m.Index), .int .u64 (m.LogTerm), .int .u64 (m.Commit), .int .u64 (m.Round), .bool (m.Ok), v1, v3, .string (m.Snap)]) rfl a32 rfl (At.box hb168) rfl) ?_
    refine WL.c (Sure.none rfl) rfl (C.call2 rfl cl25 rfl rfl) (Fnc.mono (ref_SameMsg (a := ({ Kind := m.Kind, From := m.From, To := m.To, Term := m.Term, Index := 0, LogTerm := 0, Commit := 0, Round := 0, Ok := m.Ok, Entries := [], Members := [], Snap := (ByteArray.mk #[]) } : MsgD)) ⟨.slice none 0 0, .slice none 0 0, rfl, Sl.nil, Sl.nil, ⟨(inK_u8' (n := m.Kind) (by omega)), (inK_i64' (n := m.From) (by omega)), (inK_i64' (n := m.To) (by omega)), (inK_u64' (n := m.Term) (by omega)), (inK_u64' (n := 0) (by omega)), (inK_u64' (n := 0) (by omega)), (inK_u64' (n := 0) (by omega)), (inK_u64' (n := 0) (by omega)), (Nat.zero_le _)⟩⟩ (b := m) ⟨v1, v3, rfl, (hl71.ext (Ext.pre hx170)), (hl72.ext (Ext.pre hx170)), hk5⟩) ?_)
    rintro _ w172 ⟨rfl, hx173⟩
    have hx174 : Ext [b65, b17] w w172 := hx169.trans (Ext.any (Y := [b65, b17]) hx173)
    have hx175 : Ext [b65, b17] w66 w172 := hx170.trans (Ext.any (Y := [b65, b17]) hx173)
    have hb178 := hb168.ext hx173 (by simp)
    refine WL.z (.bool (!(sameMsgB ({ Kind := m.Kind, From := m.From, To := m.To, Term := m.Term, Index := 0, LogTerm := 0, Commit := 0, Round := 0, Ok := m.Ok, Entries := [], Members := [], Snap := (ByteArray.mk #[]) } : MsgD) m))) (V.not rfl rfl) ?_
    refine WL.nil ?_
    refine WP.condn (t := sameMsgB ({ Kind := m.Kind, From := m.From, To := m.To, Term := m.Term, Index := 0, LogTerm := 0, Commit := 0, Round := 0, Ok := m.Ok, Entries := [], Members := [], Snap := (ByteArray.mk #[]) } : MsgD) m) rfl (fun hc180 => ?_) (fun hc180 => ?_)
    · refine WP.sr ?_
      refine WL.m rfl ?_
      refine WL.nil ?_
      refine WP.ret ?_
      refine resOf.c1 rfl (v := .bool (false)) rfl ?_
      exact ⟨(bool_eq (by first | assumption | grind [refMayMsgB, hdB, tailB, eqzB, membersB])), ((hx174).done (geCons hge_b65_w (geCons hge_b17_w geNil)))⟩
    refine WP.skip ?_
    refine WP.seq ?_
    refine WP.sr ?_
    refine WL.f (.int .u8 (m.Kind)) fl32_0 rfl p30 (hb178.cell rfl) ?_
    refine WL.z (.bool (decide (m.Kind = 1))) (V.cmp rfl rfl rfl rfl) ?_
    refine WL.vbp (c := m.Kind = 1) (Sure.none rfl) rfl (V.move rfl rfl) (fun hc181 => ?_) (fun hc181 => ?_)
    · refine WL.s (Shut.no rfl rfl rfl rfl) rfl ?_
      refine WL.s (Shut.no rfl rfl rfl rfl) rfl ?_
      refine WL.s (Shut.no rfl rfl rfl rfl) rfl ?_
      refine WL.k (a := true) rfl rfl ?_
      refine WL.m rfl ?_
      refine WL.fy (.int .u64 (m.Index)) rfl fl32_4 rfl p23 (hb178.cell rfl) ?_
      refine WL.y (.bool (decide (m.Index = 0))) rfl (V.cmp rfl rfl rfl rfl) ?_
      refine WL.fy (.int .u64 (m.LogTerm)) rfl fl32_5 rfl p23 (hb178.cell rfl) ?_
      refine WL.y (.bool (decide (m.LogTerm = 0))) rfl (V.cmp rfl rfl rfl rfl) ?_
      refine WL.y (.bool (!((decide (m.Index = 0)) == (decide (m.LogTerm = 0))))) rfl (V.bcmpNe rfl u4 rfl rfl) ?_
      refine WL.k (a := true) rfl rfl ?_
      refine WL.nil ?_
      refine WP.condn (t := (decide (m.Index = 0)) == (decide (m.LogTerm = 0))) rfl (fun hc182 => ?_) (fun hc182 => ?_)
      · refine WP.sr ?_
        refine WL.m rfl ?_
        refine WL.nil ?_
        refine WP.ret ?_
        refine resOf.c1 rfl (v := .bool (false)) rfl ?_
        exact ⟨(bool_eq (by first | assumption | grind [refMayMsgB, hdB, tailB, eqzB, membersB])), ((hx174).done (geCons hge_b65_w (geCons hge_b17_w geNil)))⟩
      refine WP.skip ?_
      refine WP.sr ?_
      refine WL.f (v1) fl32_9 rfl p25 (hb178.cell rfl) ?_
      obtain ⟨a183, c184, hv185⟩ := hl71.shape
      refine WL.z (.int .i64 (((m.Entries).length : Int))) (V.lenSlice rfl rfl u25 (Eq.trans (b := v1) rfl hv185)) ?_
      refine WL.z (.bool (decide (((m.Entries).length : Int) ≤ 16))) (V.cmp rfl rfl rfl rfl) ?_
      refine WL.vbp (c := ((m.Entries).length : Int) ≤ 16) (Sure.none rfl) rfl (V.move rfl rfl) (fun hc186 => ?_) (fun hc186 => ?_)
      rotate_left
      · refine WL.skips [(166, some false)] [(2, some false)] (kc (some false) rfl kn) (by kernel_rfl) (fun E196 hK197 hE198 => ?_)
        refine WP.ret ?_
        refine resOf.c1 rfl (v := .bool (false)) (hK197 2 (some false) rfl) ?_
        exact ⟨(bool_eq (by first | assumption | grind [refMayMsgB, hdB, tailB, eqzB, membersB])), ((hx174).done (geCons hge_b65_w (geCons hge_b17_w geNil)))⟩
      refine WL.fy (v1) rfl fl32_9 rfl p25 (hb178.cell rfl) ?_
      refine WL.fy (.int .u64 (m.LogTerm)) rfl fl32_5 rfl p23 (hb178.cell rfl) ?_
      refine WL.fy (.int .u64 (m.Term)) rfl fl32_3 rfl p23 (hb178.cell rfl) ?_
      refine WL.c (Sure.yes rfl rfl rfl) rfl (C.call3 rfl cl39 rfl rfl rfl) (Fnc.mono (ref_entries (hl71.ext (Ext.pre hx175)) m.LogTerm m.Term (by omega)) ?_)
      rintro _ w187 ⟨rfl, hx188⟩
      have hx189 : Ext [b65, b17] w w187 := hx174.trans (Ext.any (Y := [b65, b17]) hx188)
      refine WL.k (a := true) rfl rfl ?_
      refine WL.m rfl ?_
      refine WL.nil ?_
      refine WP.ret ?_
      refine resOf.c1 rfl (v := .bool (entsB m.Entries m.LogTerm m.Term)) rfl ?_
      exact ⟨(bool_eq (by first | assumption | grind [refMayMsgB, hdB, tailB, eqzB, membersB])), ((hx189).done (geCons hge_b65_w (geCons hge_b17_w geNil)))⟩
    refine WL.fy (.int .u8 (m.Kind)) rfl fl32_0 rfl p30 (hb178.cell rfl) ?_
    refine WL.y (.bool (decide (m.Kind = 3))) rfl (V.cmp rfl rfl rfl rfl) ?_
    refine WL.k (a := false) rfl rfl ?_
    refine WL.vbp (c := m.Kind = 3) (Sure.none rfl) rfl (V.move rfl rfl) (fun hc199 => ?_) (fun hc199 => ?_)
    rotate_left
    · refine WL.skips [(153, some false)] [(161, some false)] (kc (some false) rfl kn) (by kernel_rfl) (fun E217 hK218 hE219 => ?_)
      refine WP.cond_false (hK218 161 (some false) rfl) ?_
      refine WP.skip ?_
      refine WP.sr ?_
      refine WL.f (x := .tmp 1) (v1) fl32_9 (hE219 1 rfl) p25 (hb178.cell rfl) ?_
      obtain ⟨a220, c221, hv222⟩ := hl71.shape
      refine WL.z (.int .i64 (((m.Entries).length : Int))) (V.lenSlice rfl rfl u25 (Eq.trans (b := v1) rfl hv222)) ?_
      refine WL.z (.bool (decide (((m.Entries).length : Int) ≤ 16))) (V.cmp rfl rfl rfl rfl) ?_
      refine WL.vbp (c := ((m.Entries).length : Int) ≤ 16) (Sure.none rfl) rfl (V.move rfl rfl) (fun hc223 => ?_) (fun hc223 => ?_)
      rotate_left
      · refine WL.skips [(166, some false)] [(2, some false)] (kc (some false) rfl kn) (by kernel_rfl) (fun E233 hK234 hE235 => ?_)
        refine WP.ret ?_
        refine resOf.c1 rfl (v := .bool (false)) (hK234 2 (some false) rfl) ?_
        exact ⟨(bool_eq (by first | assumption | grind [refMayMsgB, hdB, tailB, eqzB, membersB])), ((hx174).done (geCons hge_b65_w (geCons hge_b17_w geNil)))⟩
      refine WL.fy (x := .tmp 1) (v1) rfl fl32_9 (hE219 1 rfl) p25 (hb178.cell rfl) ?_
      refine WL.fy (x := .tmp 1) (.int .u64 (m.LogTerm)) rfl fl32_5 (hE219 1 rfl) p23 (hb178.cell rfl) ?_
      refine WL.fy (x := .tmp 1) (.int .u64 (m.Term)) rfl fl32_3 (hE219 1 rfl) p23 (hb178.cell rfl) ?_
      refine WL.c (Sure.yes rfl rfl rfl) rfl (C.call3 rfl cl39 rfl rfl rfl) (Fnc.mono (ref_entries (hl71.ext (Ext.pre hx175)) m.LogTerm m.Term (by omega)) ?_)
      rintro _ w224 ⟨rfl, hx225⟩
      have hx226 : Ext [b65, b17] w w224 := hx174.trans (Ext.any (Y := [b65, b17]) hx225)
      refine WL.k (a := true) rfl rfl ?_
      refine WL.m rfl ?_
      refine WL.nil ?_
      refine WP.ret ?_
      refine resOf.c1 rfl (v := .bool (entsB m.Entries m.LogTerm m.Term)) rfl ?_
      exact ⟨(bool_eq (by first | assumption | grind [refMayMsgB, hdB, tailB, eqzB, membersB])), ((hx226).done (geCons hge_b65_w (geCons hge_b17_w geNil)))⟩
    refine WL.fy (.int .u64 (m.Index)) rfl fl32_4 rfl p23 (hb178.cell rfl) ?_
    refine WL.y (.bool (decide (m.Index = 0))) rfl (V.cmp rfl rfl rfl rfl) ?_
    refine WL.fy (.int .u64 (m.LogTerm)) rfl fl32_5 rfl p23 (hb178.cell rfl) ?_
    refine WL.y (.bool (decide (m.LogTerm = 0))) rfl (V.cmp rfl rfl rfl rfl) ?_
    refine WL.y (.bool (!((decide (m.Index = 0)) == (decide (m.LogTerm = 0))))) rfl (V.bcmpNe rfl u4 rfl rfl) ?_
    refine WL.k (a := true) rfl rfl ?_
    refine WL.nil ?_
    refine WP.condn (t := (decide (m.Index = 0)) == (decide (m.LogTerm = 0))) rfl (fun hc200 => ?_) (fun hc200 => ?_)
    · refine WP.sr ?_
      refine WL.m rfl ?_
      refine WL.nil ?_
      refine WP.ret ?_
      refine resOf.c1 rfl (v := .bool (false)) rfl ?_
      exact ⟨(bool_eq (by first | assumption | grind [refMayMsgB, hdB, tailB, eqzB, membersB])), ((hx174).done (geCons hge_b65_w (geCons hge_b17_w geNil)))⟩
    refine WP.skip ?_
    refine WP.sr ?_
    refine WL.f (v1) fl32_9 rfl p25 (hb178.cell rfl) ?_
    obtain ⟨a201, c202, hv203⟩ := hl71.shape
    refine WL.z (.int .i64 (((m.Entries).length : Int))) (V.lenSlice rfl rfl u25 (Eq.trans (b := v1) rfl hv203)) ?_
    refine WL.z (.bool (decide (((m.Entries).length : Int) ≤ 16))) (V.cmp rfl rfl rfl rfl) ?_
    refine WL.vbp (c := ((m.Entries).length : Int) ≤ 16) (Sure.none rfl) rfl (V.move rfl rfl) (fun hc204 => ?_) (fun hc204 => ?_)
    rotate_left
    · refine WL.skips [(166, some false)] [(2, some false)] (kc (some false) rfl kn) (by kernel_rfl) (fun E214 hK215 hE216 => ?_)
      refine WP.ret ?_
      refine resOf.c1 rfl (v := .bool (false)) (hK215 2 (some false) rfl) ?_
      exact ⟨(bool_eq (by first | assumption | grind [refMayMsgB, hdB, tailB, eqzB, membersB])), ((hx174).done (geCons hge_b65_w (geCons hge_b17_w geNil)))⟩
    refine WL.fy (v1) rfl fl32_9 rfl p25 (hb178.cell rfl) ?_
    refine WL.fy (.int .u64 (m.LogTerm)) rfl fl32_5 rfl p23 (hb178.cell rfl) ?_
    refine WL.fy (.int .u64 (m.Term)) rfl fl32_3 rfl p23 (hb178.cell rfl) ?_
    refine WL.c (Sure.yes rfl rfl rfl) rfl (C.call3 rfl cl39 rfl rfl rfl) (Fnc.mono (ref_entries (hl71.ext (Ext.pre hx175)) m.LogTerm m.Term (by omega)) ?_)
    rintro _ w205 ⟨rfl, hx206⟩
    have hx207 : Ext [b65, b17] w w205 := hx174.trans (Ext.any (Y := [b65, b17]) hx206)
    refine WL.k (a := true) rfl rfl ?_
    refine WL.m rfl ?_
    refine WL.nil ?_
    refine WP.ret ?_
    refine resOf.c1 rfl (v := .bool (entsB m.Entries m.LogTerm m.Term)) rfl ?_
    exact ⟨(bool_eq (by first | assumption | grind [refMayMsgB, hdB, tailB, eqzB, membersB])), ((hx207).done (geCons hge_b65_w (geCons hge_b17_w geNil)))⟩
  refine WP.sr ?_
  refine WL.z (.bool (decide (m.Kind = 3))) (V.cmp rfl rfl rfl rfl) ?_
  refine WL.m rfl ?_
  refine WL.nil ?_
  refine WP.condp (t := m.Kind = 3) rfl (fun hc236 => ?_) (fun hc236 => ?_)
  · refine WP.sr ?_
    refine WL.f (.int .u64 (m.Index)) fl32_4 rfl p23 (hb77.cell rfl) ?_
    refine WL.z (.pointer (some ⟨b65, 4, none⟩)) (V.fieldAddr rfl fl32_4 rfl) ?_
    refine WL.store (Sure.none rfl) rfl rfl s23 rfl rfl rfl hb76 (by show (4 : Nat) < 12; decide) (fun w237 hs238 hb239 => ?_)
    replace hb239 : Box w237 b65 32 [.int .u8 (m.Kind), .int .i64 (m.From), .int .i64 (m.To), .int .u64 (m.Term), .int .u64 (m.Index), .int .u64 (0), .int .u64 (0), .int .u64 (0), .bool (false), .slice none 0 0, .slice none 0 0, .string (ByteArray.mk #[])] := hb239
    have hb240 := hb77.ext hs238 (by simp; omega)
    have hx241 : Ext [b65, b17] w w237 := hx78.trans (hs238.mono (by simp))
    have hx242 : Ext [b65, b17] w66 w237 := hx79.trans (hs238.mono (by simp))
    refine WL.nil ?_
    refine WP.sr ?_
    refine WL.f (.int .u64 (m.LogTerm)) fl32_5 rfl p23 (hb240.cell rfl) ?_
    refine WL.z (.pointer (some ⟨b65, 5, none⟩)) (V.fieldAddr rfl fl32_5 rfl) ?_
    refine WL.store (Sure.none rfl) rfl rfl s23 rfl rfl rfl hb239 (by show (5 : Nat) < 12; decide) (fun w244 hs245 hb246 => ?_)
    replace hb246 : Box w244 b65 32 [.int .u8 (m.Kind), .int .i64 (m.From), .int .i64 (m.To), .int .u64 (m.Term), .int .u64 (m.Index), .int .u64 (m.LogTerm), .int .u64 (0), .int .u64 (0), .bool (false), .slice none 0 0, .slice none 0 0, .string (ByteArray.mk #[])] := hb246
    have hb247 := hb240.ext hs245 (by simp; omega)
    have hx248 : Ext [b65, b17] w w244 := hx241.trans (hs245.mono (by simp))
    have hx249 : Ext [b65, b17] w66 w244 := hx242.trans (hs245.mono (by simp))
    refine WL.nil ?_
    refine WP.sr ?_
    refine WL.f (.int .u64 (m.Commit)) fl32_6 rfl p23 (hb247.cell rfl) ?_
    refine WL.z (.pointer (some ⟨b65, 6, none⟩)) (V.fieldAddr rfl fl32_6 rfl) ?_
    refine WL.store (Sure.none rfl) rfl rfl s23 rfl rfl rfl hb246 (by show (6 : Nat) < 12; decide) (fun w252 hs253 hb254 => ?_)
    replace hb254 : Box w252 b65 32 [.int .u8 (m.Kind), .int .i64 (m.From), .int .i64 (m.To), .int .u64 (m.Term), .int .u64 (m.Index), .int .u64 (m.LogTerm), .int .u64 (m.Commit), .int .u64 (0), .bool (false), .slice none 0 0, .slice none 0 0, .string (ByteArray.mk #[])] := hb254
    have hb255 := hb247.ext hs253 (by simp; omega)
    have hx256 : Ext [b65, b17] w w252 := hx248.trans (hs253.mono (by simp))
    have hx257 : Ext [b65, b17] w66 w252 := hx249.trans (hs253.mono (by simp))
    refine WL.nil ?_
    refine WP.sr ?_
    refine WL.f (.int .u64 (m.Round)) fl32_7 rfl p23 (hb255.cell rfl) ?_
    refine WL.z (.pointer (some ⟨b65, 7, none⟩)) (V.fieldAddr rfl fl32_7 rfl) ?_
    refine WL.store (Sure.none rfl) rfl rfl s23 rfl rfl rfl hb254 (by show (7 : Nat) < 12; decide) (fun w261 hs262 hb263 => ?_)
    replace hb263 : Box w261 b65 32 [.int .u8 (m.Kind), .int .i64 (m.From), .int .i64 (m.To), .int .u64 (m.Term), .int .u64 (m.Index), .int .u64 (m.LogTerm), .int .u64 (m.Commit), .int .u64 (m.Round), .bool (false), .slice none 0 0, .slice none 0 0, .string (ByteArray.mk #[])] := hb263
    have hb264 := hb255.ext hs262 (by simp; omega)
    have hx265 : Ext [b65, b17] w w261 := hx256.trans (hs262.mono (by simp))
    have hx266 : Ext [b65, b17] w66 w261 := hx257.trans (hs262.mono (by simp))
    refine WL.nil ?_
    refine WP.region ?_
    refine WL.f (v1) fl32_9 rfl p25 (hb264.cell rfl) ?_
    refine WL.z (.pointer (some ⟨b65, 9, none⟩)) (V.fieldAddr rfl fl32_9 rfl) ?_
    refine WL.store (Sure.none rfl) rfl rfl s25 rfl rfl hl71.one hb263 (by show (9 : Nat) < 12; decide) (fun w271 hs272 hb273 => ?_)
    replace hb273 : Box w271 b65 32 [.int .u8 (m.Kind), .int .i64 (m.From), .int .i64 (m.To), .int .u64 (m.Term), .int .u64 (m.Index), .int .u64 (m.LogTerm), .int .u64 (m.Commit), .int .u64 (m.Round), .bool (false), v1, .slice none 0 0, .string (ByteArray.mk #[])] := hb273
    have hb274 := hb264.ext hs272 (by simp; omega)
    have hx275 : Ext [b65, b17] w w271 := hx265.trans (hs272.mono (by simp))
    have hx276 : Ext [b65, b17] w66 w271 := hx266.trans (hs272.mono (by simp))
    refine WL.nil ?_
    refine WP.seq ?_
    refine WP.sr ?_
    refine WL.z (.agg #[.int .u8 (m.Kind), .int .i64 (m.From), .int .i64 (m.To), .int .u64 (m.Term), .int .u64 (m.Index), .int .u64 (m.LogTerm), .int .u64 (m.Commit), .int .u64 (m.Round), .bool (false), v1, .slice none 0 0, .string (ByteArray.mk #[])]) (V.loadAgg (cs := [.int .u8 (m.Kind), .int .i64 (m.From), .int .i64 (m.To), .int .u64 (m.Term), .int .u64 (m.Index), .int .u64 (m.LogTerm), .int .u64 (m.Commit), .int .u64 (m.Round), .bool (false), v1, .slice none 0 0, .string (ByteArray.mk #[])]) rfl a32 rfl (At.box hb273) rfl) ?_
    refine WL.z (.agg #[.int .u8 (m.Kind), .int .i64 (m.From), .int .i64 (m.To), .int .u64 (m.Term), .int .u64 (m.Index), .int .u64 (m.LogTerm), .int .u64 (m.Commit), .int .u64 (m.Round), .bool (m.Ok), v1, v3, .string (m.Snap)]) (V.loadAgg (cs := [.int .u8 (m.Kind), .int .i64 (m.From), .int .i64 (m.To), .int .u64 (m.Term), .int .u64 (m.Index), .int .u64 (m.LogTerm), .int .u64 (m.Commit), .int .u64 (m.Round), .bool (m.Ok), v1, v3, .string (m.Snap)]) rfl a32 rfl (At.box hb274) rfl) ?_
    refine WL.c (Sure.none rfl) rfl (C.call2 rfl cl25 rfl rfl) (Fnc.mono (ref_SameMsg (a := ({ Kind := m.Kind, From := m.From, To := m.To, Term := m.Term, Index := m.Index, LogTerm := m.LogTerm, Commit := m.Commit, Round := m.Round, Ok := false, Entries := m.Entries, Members := [], Snap := (ByteArray.mk #[]) } : MsgD)) ⟨v1, .slice none 0 0, rfl, (hl71.ext (Ext.pre hx276)), Sl.nil, ⟨(inK_u8' (n := m.Kind) (by omega)), (inK_i64' (n := m.From) (by omega)), (inK_i64' (n := m.To) (by omega)), (inK_u64' (n := m.Term) (by omega)), (inK_u64' (n := m.Index) (by omega)), (inK_u64' (n := m.LogTerm) (by omega)), (inK_u64' (n := m.Commit) (by omega)), (inK_u64' (n := m.Round) (by omega)), (Nat.zero_le _)⟩⟩ (b := m) ⟨v1, v3, rfl, (hl71.ext (Ext.pre hx276)), (hl72.ext (Ext.pre hx276)), hk5⟩) ?_)
    rintro _ w282 ⟨rfl, hx283⟩
    have hx284 : Ext [b65, b17] w w282 := hx275.trans (Ext.any (Y := [b65, b17]) hx283)
    have hx285 : Ext [b65, b17] w66 w282 := hx276.trans (Ext.any (Y := [b65, b17]) hx283)
    have hb292 := hb274.ext hx283 (by simp)
    refine WL.z (.bool (!(sameMsgB ({ Kind := m.Kind, From := m.From, To := m.To, Term := m.Term, Index := m.Index, LogTerm := m.LogTerm, Commit := m.Commit, Round := m.Round, Ok := false, Entries := m.Entries, Members := [], Snap := (ByteArray.mk #[]) } : MsgD) m))) (V.not rfl rfl) ?_
    refine WL.nil ?_
    refine WP.condn (t := sameMsgB ({ Kind := m.Kind, From := m.From, To := m.To, Term := m.Term, Index := m.Index, LogTerm := m.LogTerm, Commit := m.Commit, Round := m.Round, Ok := false, Entries := m.Entries, Members := [], Snap := (ByteArray.mk #[]) } : MsgD) m) rfl (fun hc294 => ?_) (fun hc294 => ?_)
    · refine WP.sr ?_
      refine WL.m rfl ?_
      refine WL.nil ?_
      refine WP.ret ?_
      refine resOf.c1 rfl (v := .bool (false)) rfl ?_
      exact ⟨(bool_eq (by first | assumption | grind [refMayMsgB, hdB, tailB, eqzB, membersB])), ((hx284).done (geCons hge_b65_w (geCons hge_b17_w geNil)))⟩
    refine WP.skip ?_
    refine WP.seq ?_
    refine WP.sr ?_
    refine WL.f (.int .u8 (m.Kind)) fl32_0 rfl p30 (hb292.cell rfl) ?_
    refine WL.z (.bool (decide (m.Kind = 1))) (V.cmp rfl rfl rfl rfl) ?_
    refine WL.vbp (c := m.Kind = 1) (Sure.none rfl) rfl (V.move rfl rfl) (fun hc295 => ?_) (fun hc295 => ?_)
    · refine WL.s (Shut.no rfl rfl rfl rfl) rfl ?_
      refine WL.s (Shut.no rfl rfl rfl rfl) rfl ?_
      refine WL.s (Shut.no rfl rfl rfl rfl) rfl ?_
      refine WL.k (a := true) rfl rfl ?_
      refine WL.m rfl ?_
      refine WL.fy (.int .u64 (m.Index)) rfl fl32_4 rfl p23 (hb292.cell rfl) ?_
      refine WL.y (.bool (decide (m.Index = 0))) rfl (V.cmp rfl rfl rfl rfl) ?_
      refine WL.fy (.int .u64 (m.LogTerm)) rfl fl32_5 rfl p23 (hb292.cell rfl) ?_
      refine WL.y (.bool (decide (m.LogTerm = 0))) rfl (V.cmp rfl rfl rfl rfl) ?_
      refine WL.y (.bool (!((decide (m.Index = 0)) == (decide (m.LogTerm = 0))))) rfl (V.bcmpNe rfl u4 rfl rfl) ?_
      refine WL.k (a := true) rfl rfl ?_
      refine WL.nil ?_
      refine WP.condn (t := (decide (m.Index = 0)) == (decide (m.LogTerm = 0))) rfl (fun hc296 => ?_) (fun hc296 => ?_)
      · refine WP.sr ?_
        refine WL.m rfl ?_
        refine WL.nil ?_
        refine WP.ret ?_
        refine resOf.c1 rfl (v := .bool (false)) rfl ?_
        exact ⟨(bool_eq (by first | assumption | grind [refMayMsgB, hdB, tailB, eqzB, membersB])), ((hx284).done (geCons hge_b65_w (geCons hge_b17_w geNil)))⟩
      refine WP.skip ?_
      refine WP.sr ?_
      refine WL.f (v1) fl32_9 rfl p25 (hb292.cell rfl) ?_
      obtain ⟨a297, c298, hv299⟩ := hl71.shape
      refine WL.z (.int .i64 (((m.Entries).length : Int))) (V.lenSlice rfl rfl u25 (Eq.trans (b := v1) rfl hv299)) ?_
      refine WL.z (.bool (decide (((m.Entries).length : Int) ≤ 16))) (V.cmp rfl rfl rfl rfl) ?_
      refine WL.vbp (c := ((m.Entries).length : Int) ≤ 16) (Sure.none rfl) rfl (V.move rfl rfl) (fun hc300 => ?_) (fun hc300 => ?_)
      rotate_left
      · refine WL.skips [(166, some false)] [(2, some false)] (kc (some false) rfl kn) (by kernel_rfl) (fun E314 hK315 hE316 => ?_)
        refine WP.ret ?_
        refine resOf.c1 rfl (v := .bool (false)) (hK315 2 (some false) rfl) ?_
        exact ⟨(bool_eq (by first | assumption | grind [refMayMsgB, hdB, tailB, eqzB, membersB])), ((hx284).done (geCons hge_b65_w (geCons hge_b17_w geNil)))⟩
      refine WL.fy (v1) rfl fl32_9 rfl p25 (hb292.cell rfl) ?_
      refine WL.fy (.int .u64 (m.LogTerm)) rfl fl32_5 rfl p23 (hb292.cell rfl) ?_
      refine WL.fy (.int .u64 (m.Term)) rfl fl32_3 rfl p23 (hb292.cell rfl) ?_
      refine WL.c (Sure.yes rfl rfl rfl) rfl (C.call3 rfl cl39 rfl rfl rfl) (Fnc.mono (ref_entries (hl71.ext (Ext.pre hx285)) m.LogTerm m.Term (by omega)) ?_)
      rintro _ w301 ⟨rfl, hx302⟩
      have hx303 : Ext [b65, b17] w w301 := hx284.trans (Ext.any (Y := [b65, b17]) hx302)
      refine WL.k (a := true) rfl rfl ?_
      refine WL.m rfl ?_
      refine WL.nil ?_
      refine WP.ret ?_
      refine resOf.c1 rfl (v := .bool (entsB m.Entries m.LogTerm m.Term)) rfl ?_
      exact ⟨(bool_eq (by first | assumption | grind [refMayMsgB, hdB, tailB, eqzB, membersB])), ((hx303).done (geCons hge_b65_w (geCons hge_b17_w geNil)))⟩
    refine WL.fy (.int .u8 (m.Kind)) rfl fl32_0 rfl p30 (hb292.cell rfl) ?_
    refine WL.y (.bool (decide (m.Kind = 3))) rfl (V.cmp rfl rfl rfl rfl) ?_
    refine WL.k (a := false) rfl rfl ?_
    refine WL.vbp (c := m.Kind = 3) (Sure.none rfl) rfl (V.move rfl rfl) (fun hc317 => ?_) (fun hc317 => ?_)
    rotate_left
    · refine WL.skips [(153, some false)] [(161, some false)] (kc (some false) rfl kn) (by kernel_rfl) (fun E339 hK340 hE341 => ?_)
      refine WP.cond_false (hK340 161 (some false) rfl) ?_
      refine WP.skip ?_
      refine WP.sr ?_
      refine WL.f (x := .tmp 1) (v1) fl32_9 (hE341 1 rfl) p25 (hb292.cell rfl) ?_
      obtain ⟨a342, c343, hv344⟩ := hl71.shape
      refine WL.z (.int .i64 (((m.Entries).length : Int))) (V.lenSlice rfl rfl u25 (Eq.trans (b := v1) rfl hv344)) ?_
      refine WL.z (.bool (decide (((m.Entries).length : Int) ≤ 16))) (V.cmp rfl rfl rfl rfl) ?_
      refine WL.vbp (c := ((m.Entries).length : Int) ≤ 16) (Sure.none rfl) rfl (V.move rfl rfl) (fun hc345 => ?_) (fun hc345 => ?_)
      rotate_left
      · refine WL.skips [(166, some false)] [(2, some false)] (kc (some false) rfl kn) (by kernel_rfl) (fun E359 hK360 hE361 => ?_)
        refine WP.ret ?_
        refine resOf.c1 rfl (v := .bool (false)) (hK360 2 (some false) rfl) ?_
        exact ⟨(bool_eq (by first | assumption | grind [refMayMsgB, hdB, tailB, eqzB, membersB])), ((hx284).done (geCons hge_b65_w (geCons hge_b17_w geNil)))⟩
      refine WL.fy (x := .tmp 1) (v1) rfl fl32_9 (hE341 1 rfl) p25 (hb292.cell rfl) ?_
      refine WL.fy (x := .tmp 1) (.int .u64 (m.LogTerm)) rfl fl32_5 (hE341 1 rfl) p23 (hb292.cell rfl) ?_
      refine WL.fy (x := .tmp 1) (.int .u64 (m.Term)) rfl fl32_3 (hE341 1 rfl) p23 (hb292.cell rfl) ?_
      refine WL.c (Sure.yes rfl rfl rfl) rfl (C.call3 rfl cl39 rfl rfl rfl) (Fnc.mono (ref_entries (hl71.ext (Ext.pre hx285)) m.LogTerm m.Term (by omega)) ?_)
      rintro _ w346 ⟨rfl, hx347⟩
      have hx348 : Ext [b65, b17] w w346 := hx284.trans (Ext.any (Y := [b65, b17]) hx347)
      refine WL.k (a := true) rfl rfl ?_
      refine WL.m rfl ?_
      refine WL.nil ?_
      refine WP.ret ?_
      refine resOf.c1 rfl (v := .bool (entsB m.Entries m.LogTerm m.Term)) rfl ?_
      exact ⟨(bool_eq (by first | assumption | grind [refMayMsgB, hdB, tailB, eqzB, membersB])), ((hx348).done (geCons hge_b65_w (geCons hge_b17_w geNil)))⟩
    refine WL.fy (.int .u64 (m.Index)) rfl fl32_4 rfl p23 (hb292.cell rfl) ?_
    refine WL.y (.bool (decide (m.Index = 0))) rfl (V.cmp rfl rfl rfl rfl) ?_
    refine WL.fy (.int .u64 (m.LogTerm)) rfl fl32_5 rfl p23 (hb292.cell rfl) ?_
    refine WL.y (.bool (decide (m.LogTerm = 0))) rfl (V.cmp rfl rfl rfl rfl) ?_
    refine WL.y (.bool (!((decide (m.Index = 0)) == (decide (m.LogTerm = 0))))) rfl (V.bcmpNe rfl u4 rfl rfl) ?_
    refine WL.k (a := true) rfl rfl ?_
    refine WL.nil ?_
    refine WP.condn (t := (decide (m.Index = 0)) == (decide (m.LogTerm = 0))) rfl (fun hc318 => ?_) (fun hc318 => ?_)
    · refine WP.sr ?_
      refine WL.m rfl ?_
      refine WL.nil ?_
      refine WP.ret ?_
      refine resOf.c1 rfl (v := .bool (false)) rfl ?_
      exact ⟨(bool_eq (by first | assumption | grind [refMayMsgB, hdB, tailB, eqzB, membersB])), ((hx284).done (geCons hge_b65_w (geCons hge_b17_w geNil)))⟩
    refine WP.skip ?_
    refine WP.sr ?_
    refine WL.f (v1) fl32_9 rfl p25 (hb292.cell rfl) ?_
    obtain ⟨a319, c320, hv321⟩ := hl71.shape
    refine WL.z (.int .i64 (((m.Entries).length : Int))) (V.lenSlice rfl rfl u25 (Eq.trans (b := v1) rfl hv321)) ?_
    refine WL.z (.bool (decide (((m.Entries).length : Int) ≤ 16))) (V.cmp rfl rfl rfl rfl) ?_
    refine WL.vbp (c := ((m.Entries).length : Int) ≤ 16) (Sure.none rfl) rfl (V.move rfl rfl) (fun hc322 => ?_) (fun hc322 => ?_)
    rotate_left
    · refine WL.skips [(166, some false)] [(2, some false)] (kc (some false) rfl kn) (by kernel_rfl) (fun E336 hK337 hE338 => ?_)
      refine WP.ret ?_
      refine resOf.c1 rfl (v := .bool (false)) (hK337 2 (some false) rfl) ?_
      exact ⟨(bool_eq (by first | assumption | grind [refMayMsgB, hdB, tailB, eqzB, membersB])), ((hx284).done (geCons hge_b65_w (geCons hge_b17_w geNil)))⟩
    refine WL.fy (v1) rfl fl32_9 rfl p25 (hb292.cell rfl) ?_
    refine WL.fy (.int .u64 (m.LogTerm)) rfl fl32_5 rfl p23 (hb292.cell rfl) ?_
    refine WL.fy (.int .u64 (m.Term)) rfl fl32_3 rfl p23 (hb292.cell rfl) ?_
    refine WL.c (Sure.yes rfl rfl rfl) rfl (C.call3 rfl cl39 rfl rfl rfl) (Fnc.mono (ref_entries (hl71.ext (Ext.pre hx285)) m.LogTerm m.Term (by omega)) ?_)
    rintro _ w323 ⟨rfl, hx324⟩
    have hx325 : Ext [b65, b17] w w323 := hx284.trans (Ext.any (Y := [b65, b17]) hx324)
    refine WL.k (a := true) rfl rfl ?_
    refine WL.m rfl ?_
    refine WL.nil ?_
    refine WP.ret ?_
    refine resOf.c1 rfl (v := .bool (entsB m.Entries m.LogTerm m.Term)) rfl ?_
    exact ⟨(bool_eq (by first | assumption | grind [refMayMsgB, hdB, tailB, eqzB, membersB])), ((hx325).done (geCons hge_b65_w (geCons hge_b17_w geNil)))⟩
  refine WP.sr ?_
  refine WL.z (.bool (decide (m.Kind = 4))) (V.cmp rfl rfl rfl rfl) ?_
  refine WL.m rfl ?_
  refine WL.nil ?_
  refine WP.condp (t := m.Kind = 4) rfl (fun hc362 => ?_) (fun hc362 => ?_)
  rotate_left
  · refine WP.sr ?_
    refine WL.z (.bool (decide (m.Kind = 5))) (V.cmp rfl rfl rfl rfl) ?_
    refine WL.m rfl ?_
    refine WL.nil ?_
    refine WP.condp (t := m.Kind = 5) rfl (fun hc459 => ?_) (fun hc459 => ?_)
    rotate_left
    · refine WP.sr ?_
      refine WL.m rfl ?_
      refine WL.nil ?_
      refine WP.ret ?_
      refine resOf.c1 rfl (v := .bool (false)) rfl ?_
      exact ⟨(bool_eq (by first | assumption | grind [refMayMsgB, hdB, tailB, eqzB, membersB])), ((hx78).done (geCons hge_b65_w (geCons hge_b17_w geNil)))⟩
    refine WP.sr ?_
    refine WL.f (.int .u64 (m.Index)) fl32_4 rfl p23 (hb77.cell rfl) ?_
    refine WL.z (.pointer (some ⟨b65, 4, none⟩)) (V.fieldAddr rfl fl32_4 rfl) ?_
    refine WL.store (Sure.none rfl) rfl rfl s23 rfl rfl rfl hb76 (by show (4 : Nat) < 12; decide) (fun w460 hs461 hb462 => ?_)
    replace hb462 : Box w460 b65 32 [.int .u8 (m.Kind), .int .i64 (m.From), .int .i64 (m.To), .int .u64 (m.Term), .int .u64 (m.Index), .int .u64 (0), .int .u64 (0), .int .u64 (0), .bool (false), .slice none 0 0, .slice none 0 0, .string (ByteArray.mk #[])] := hb462
    have hb463 := hb77.ext hs461 (by simp; omega)
    have hx464 : Ext [b65, b17] w w460 := hx78.trans (hs461.mono (by simp))
    have hx465 : Ext [b65, b17] w66 w460 := hx79.trans (hs461.mono (by simp))
    refine WL.nil ?_
    refine WP.sr ?_
    refine WL.f (.int .u64 (m.LogTerm)) fl32_5 rfl p23 (hb463.cell rfl) ?_
    refine WL.z (.pointer (some ⟨b65, 5, none⟩)) (V.fieldAddr rfl fl32_5 rfl) ?_
    refine WL.store (Sure.none rfl) rfl rfl s23 rfl rfl rfl hb462 (by show (5 : Nat) < 12; decide) (fun w467 hs468 hb469 => ?_)
    replace hb469 : Box w467 b65 32 [.int .u8 (m.Kind), .int .i64 (m.From), .int .i64 (m.To), .int .u64 (m.Term), .int .u64 (m.Index), .int .u64 (m.LogTerm), .int .u64 (0), .int .u64 (0), .bool (false), .slice none 0 0, .slice none 0 0, .string (ByteArray.mk #[])] := hb469
    have hb470 := hb463.ext hs468 (by simp; omega)
    have hx471 : Ext [b65, b17] w w467 := hx464.trans (hs468.mono (by simp))
    have hx472 : Ext [b65, b17] w66 w467 := hx465.trans (hs468.mono (by simp))
    refine WL.nil ?_
    refine WP.sr ?_
    refine WL.f (.int .u64 (m.Round)) fl32_7 rfl p23 (hb470.cell rfl) ?_
    refine WL.z (.pointer (some ⟨b65, 7, none⟩)) (V.fieldAddr rfl fl32_7 rfl) ?_
    refine WL.store (Sure.none rfl) rfl rfl s23 rfl rfl rfl hb469 (by show (7 : Nat) < 12; decide) (fun w475 hs476 hb477 => ?_)
    replace hb477 : Box w475 b65 32 [.int .u8 (m.Kind), .int .i64 (m.From), .int .i64 (m.To), .int .u64 (m.Term), .int .u64 (m.Index), .int .u64 (m.LogTerm), .int .u64 (0), .int .u64 (m.Round), .bool (false), .slice none 0 0, .slice none 0 0, .string (ByteArray.mk #[])] := hb477
    have hb478 := hb470.ext hs476 (by simp; omega)
    have hx479 : Ext [b65, b17] w w475 := hx471.trans (hs476.mono (by simp))
    have hx480 : Ext [b65, b17] w66 w475 := hx472.trans (hs476.mono (by simp))
    refine WL.nil ?_
    refine WP.sr ?_
    refine WL.f (v3) fl32_10 rfl p22 (hb478.cell rfl) ?_
    refine WL.z (.pointer (some ⟨b65, 10, none⟩)) (V.fieldAddr rfl fl32_10 rfl) ?_
    refine WL.store (Sure.none rfl) rfl rfl s22 rfl rfl hl72.one hb477 (by show (10 : Nat) < 12; decide) (fun w484 hs485 hb486 => ?_)
    replace hb486 : Box w484 b65 32 [.int .u8 (m.Kind), .int .i64 (m.From), .int .i64 (m.To), .int .u64 (m.Term), .int .u64 (m.Index), .int .u64 (m.LogTerm), .int .u64 (0), .int .u64 (m.Round), .bool (false), .slice none 0 0, v3, .string (ByteArray.mk #[])] := hb486
    have hb487 := hb478.ext hs485 (by simp; omega)
    have hx488 : Ext [b65, b17] w w484 := hx479.trans (hs485.mono (by simp))
    have hx489 : Ext [b65, b17] w66 w484 := hx480.trans (hs485.mono (by simp))
    refine WL.nil ?_
    refine WP.sr ?_
    refine WL.f (.string (m.Snap)) fl32_11 rfl p9 (hb487.cell rfl) ?_
    refine WL.z (.pointer (some ⟨b65, 11, none⟩)) (V.fieldAddr rfl fl32_11 rfl) ?_
    refine WL.store (Sure.none rfl) rfl rfl s9 rfl rfl rfl hb486 (by show (11 : Nat) < 12; decide) (fun w494 hs495 hb496 => ?_)
    replace hb496 : Box w494 b65 32 [.int .u8 (m.Kind), .int .i64 (m.From), .int .i64 (m.To), .int .u64 (m.Term), .int .u64 (m.Index), .int .u64 (m.LogTerm), .int .u64 (0), .int .u64 (m.Round), .bool (false), .slice none 0 0, v3, .string (m.Snap)] := hb496
    have hb497 := hb487.ext hs495 (by simp; omega)
    have hx498 : Ext [b65, b17] w w494 := hx488.trans (hs495.mono (by simp))
    have hx499 : Ext [b65, b17] w66 w494 := hx489.trans (hs495.mono (by simp))
    refine WL.nil ?_
    refine WP.sr ?_
    refine WL.z (.agg #[.int .u8 (m.Kind), .int .i64 (m.From), .int .i64 (m.To), .int .u64 (m.Term), .int .u64 (m.Index), .int .u64 (m.LogTerm), .int .u64 (0), .int .u64 (m.Round), .bool (false), .slice none 0 0, v3, .string (m.Snap)]) (V.loadAgg (cs := [.int .u8 (m.Kind), .int .i64 (m.From), .int .i64 (m.To), .int .u64 (m.Term), .int .u64 (m.Index), .int .u64 (m.LogTerm), .int .u64 (0), .int .u64 (m.Round), .bool (false), .slice none 0 0, v3, .string (m.Snap)]) rfl a32 rfl (At.box hb496) rfl) ?_
    refine WL.z (.agg #[.int .u8 (m.Kind), .int .i64 (m.From), .int .i64 (m.To), .int .u64 (m.Term), .int .u64 (m.Index), .int .u64 (m.LogTerm), .int .u64 (m.Commit), .int .u64 (m.Round), .bool (m.Ok), v1, v3, .string (m.Snap)]) (V.loadAgg (cs := [.int .u8 (m.Kind), .int .i64 (m.From), .int .i64 (m.To), .int .u64 (m.Term), .int .u64 (m.Index), .int .u64 (m.LogTerm), .int .u64 (m.Commit), .int .u64 (m.Round), .bool (m.Ok), v1, v3, .string (m.Snap)]) rfl a32 rfl (At.box hb497) rfl) ?_
    refine WL.c (Sure.none rfl) rfl (C.call2 rfl cl25 rfl rfl) (Fnc.mono (ref_SameMsg (a := ({ Kind := m.Kind, From := m.From, To := m.To, Term := m.Term, Index := m.Index, LogTerm := m.LogTerm, Commit := 0, Round := m.Round, Ok := false, Entries := [], Members := m.Members, Snap := m.Snap } : MsgD)) ⟨.slice none 0 0, v3, rfl, Sl.nil, (hl72.ext (Ext.pre hx499)), ⟨(inK_u8' (n := m.Kind) (by omega)), (inK_i64' (n := m.From) (by omega)), (inK_i64' (n := m.To) (by omega)), (inK_u64' (n := m.Term) (by omega)), (inK_u64' (n := m.Index) (by omega)), (inK_u64' (n := m.LogTerm) (by omega)), (inK_u64' (n := 0) (by omega)), (inK_u64' (n := m.Round) (by omega)), (by show (m.Snap).size ≤ maxLen; omega)⟩⟩ (b := m) ⟨v1, v3, rfl, (hl71.ext (Ext.pre hx499)), (hl72.ext (Ext.pre hx499)), hk5⟩) ?_)
    rintro _ w505 ⟨rfl, hx506⟩
    have hx507 : Ext [b65, b17] w w505 := hx498.trans (Ext.any (Y := [b65, b17]) hx506)
    have hx508 : Ext [b65, b17] w66 w505 := hx499.trans (Ext.any (Y := [b65, b17]) hx506)
    have hb515 := hb497.ext hx506 (by simp)
    refine WL.vb (c := sameMsgB ({ Kind := m.Kind, From := m.From, To := m.To, Term := m.Term, Index := m.Index, LogTerm := m.LogTerm, Commit := 0, Round := m.Round, Ok := false, Entries := [], Members := m.Members, Snap := m.Snap } : MsgD) m) (Sure.none rfl) rfl (V.move rfl rfl) (fun hc517 => ?_) (fun hc517 => ?_)
    rotate_left
    · refine WL.skips [(120, some false)] [(2, some false)] (kc (some false) rfl kn) (by kernel_rfl) (fun E546 hK547 hE548 => ?_)
      refine WP.ret ?_
      refine resOf.c1 rfl (v := .bool (false)) (hK547 2 (some false) rfl) ?_
      exact ⟨(bool_eq (by first | assumption | grind [refMayMsgB, hdB, tailB, eqzB, membersB])), ((hx507).done (geCons hge_b65_w (geCons hge_b17_w geNil)))⟩
    refine WL.fy (.int .u64 (m.Index)) rfl fl32_4 rfl p23 (hb515.cell rfl) ?_
    refine WL.y (.bool (decide (m.Index > 0))) rfl (V.cmp rfl rfl rfl rfl) ?_
    refine WL.k (a := true) rfl rfl ?_
    refine WL.vbp (c := m.Index > 0) (Sure.none rfl) rfl (V.move rfl rfl) (fun hc518 => ?_) (fun hc518 => ?_)
    rotate_left
    · refine WL.skips [(125, some false)] [(2, some false)] (kc (some false) rfl kn) (by kernel_rfl) (fun E543 hK544 hE545 => ?_)
      refine WP.ret ?_
      refine resOf.c1 rfl (v := .bool (false)) (hK544 2 (some false) rfl) ?_
      exact ⟨(bool_eq (by first | assumption | grind [refMayMsgB, hdB, tailB, eqzB, membersB])), ((hx507).done (geCons hge_b65_w (geCons hge_b17_w geNil)))⟩
    refine WL.fy (.int .u64 (m.LogTerm)) rfl fl32_5 rfl p23 (hb515.cell rfl) ?_
    refine WL.y (.bool (decide (m.LogTerm > 0))) rfl (V.cmp rfl rfl rfl rfl) ?_
    refine WL.k (a := true) rfl rfl ?_
    refine WL.vbp (c := m.LogTerm > 0) (Sure.none rfl) rfl (V.move rfl rfl) (fun hc519 => ?_) (fun hc519 => ?_)
    rotate_left
    · refine WL.skips [(130, some false)] [(2, some false)] (kc (some false) rfl kn) (by kernel_rfl) (fun E540 hK541 hE542 => ?_)
      refine WP.ret ?_
      refine resOf.c1 rfl (v := .bool (false)) (hK541 2 (some false) rfl) ?_
      exact ⟨(bool_eq (by first | assumption | grind [refMayMsgB, hdB, tailB, eqzB, membersB])), ((hx507).done (geCons hge_b65_w (geCons hge_b17_w geNil)))⟩
    refine WL.fy (v3) rfl fl32_10 rfl p22 (hb515.cell rfl) ?_
    obtain ⟨a520, c521, hv522⟩ := hl72.shape
    refine WL.y (.int .i64 (((m.Members).length : Int))) rfl (V.lenSlice rfl rfl u22 (Eq.trans (b := v3) rfl hv522)) ?_
    refine WL.y (.bool (decide (((m.Members).length : Int) > 0))) rfl (V.cmp rfl rfl rfl rfl) ?_
    refine WL.k (a := true) rfl rfl ?_
    refine WL.vbp (c := ((m.Members).length : Int) > 0) (Sure.none rfl) rfl (V.move rfl rfl) (fun hc523 => ?_) (fun hc523 => ?_)
    rotate_left
    · refine WL.skips [(136, some false)] [(2, some false)] (kc (some false) rfl kn) (by kernel_rfl) (fun E537 hK538 hE539 => ?_)
      refine WP.ret ?_
      refine resOf.c1 rfl (v := .bool (false)) (hK538 2 (some false) rfl) ?_
      exact ⟨(bool_eq (by first | assumption | grind [refMayMsgB, hdB, tailB, eqzB, membersB])), ((hx507).done (geCons hge_b65_w (geCons hge_b17_w geNil)))⟩
    refine WL.fy (v3) rfl fl32_10 rfl p22 (hb515.cell rfl) ?_
    refine WL.c (Sure.yes rfl rfl rfl) rfl (C.call1 rfl cl38 rfl) (Fnc.mono (ref_ids (hl72.ext (Ext.pre hx508))) ?_)
    rintro _ w524 ⟨rfl, hx525⟩
    have hx526 : Ext [b65, b17] w w524 := hx507.trans (Ext.any (Y := [b65, b17]) hx525)
    refine WL.k (a := true) rfl rfl ?_
    refine WL.m rfl ?_
    refine WL.nil ?_
    refine WP.ret ?_
    refine resOf.c1 rfl (v := .bool (idsB m.Members)) rfl ?_
    exact ⟨(bool_eq (by first | assumption | grind [refMayMsgB, hdB, tailB, eqzB, membersB])), ((hx526).done (geCons hge_b65_w (geCons hge_b17_w geNil)))⟩
  refine WP.sr ?_
  refine WL.f (.bool (m.Ok)) fl32_8 rfl p4 (hb77.cell rfl) ?_
  refine WL.z (.pointer (some ⟨b65, 8, none⟩)) (V.fieldAddr rfl fl32_8 rfl) ?_
  refine WL.store (Sure.none rfl) rfl rfl s4 rfl rfl rfl hb76 (by show (8 : Nat) < 12; decide) (fun w363 hs364 hb365 => ?_)
  replace hb365 : Box w363 b65 32 [.int .u8 (m.Kind), .int .i64 (m.From), .int .i64 (m.To), .int .u64 (m.Term), .int .u64 (0), .int .u64 (0), .int .u64 (0), .int .u64 (0), .bool (m.Ok), .slice none 0 0, .slice none 0 0, .string (ByteArray.mk #[])] := hb365
  have hb366 := hb77.ext hs364 (by simp; omega)
  have hx367 : Ext [b65, b17] w w363 := hx78.trans (hs364.mono (by simp))
  have hx368 : Ext [b65, b17] w66 w363 := hx79.trans (hs364.mono (by simp))
  refine WL.nil ?_
  refine WP.sr ?_
  refine WL.f (.int .u64 (m.Index)) fl32_4 rfl p23 (hb366.cell rfl) ?_
  refine WL.z (.pointer (some ⟨b65, 4, none⟩)) (V.fieldAddr rfl fl32_4 rfl) ?_
  refine WL.store (Sure.none rfl) rfl rfl s23 rfl rfl rfl hb365 (by show (4 : Nat) < 12; decide) (fun w370 hs371 hb372 => ?_)
  replace hb372 : Box w370 b65 32 [.int .u8 (m.Kind), .int .i64 (m.From), .int .i64 (m.To), .int .u64 (m.Term), .int .u64 (m.Index), .int .u64 (0), .int .u64 (0), .int .u64 (0), .bool (m.Ok), .slice none 0 0, .slice none 0 0, .string (ByteArray.mk #[])] := hb372
  have hb373 := hb366.ext hs371 (by simp; omega)
  have hx374 : Ext [b65, b17] w w370 := hx367.trans (hs371.mono (by simp))
  have hx375 : Ext [b65, b17] w66 w370 := hx368.trans (hs371.mono (by simp))
  refine WL.nil ?_
  refine WP.region ?_
  refine WL.f (.int .u64 (m.Round)) fl32_7 rfl p23 (hb373.cell rfl) ?_
  refine WL.z (.pointer (some ⟨b65, 7, none⟩)) (V.fieldAddr rfl fl32_7 rfl) ?_
  refine WL.store (Sure.none rfl) rfl rfl s23 rfl rfl rfl hb372 (by show (7 : Nat) < 12; decide) (fun w378 hs379 hb380 => ?_)
  replace hb380 : Box w378 b65 32 [.int .u8 (m.Kind), .int .i64 (m.From), .int .i64 (m.To), .int .u64 (m.Term), .int .u64 (m.Index), .int .u64 (0), .int .u64 (0), .int .u64 (m.Round), .bool (m.Ok), .slice none 0 0, .slice none 0 0, .string (ByteArray.mk #[])] := hb380
  have hb381 := hb373.ext hs379 (by simp; omega)
  have hx382 : Ext [b65, b17] w w378 := hx374.trans (hs379.mono (by simp))
  have hx383 : Ext [b65, b17] w66 w378 := hx375.trans (hs379.mono (by simp))
  refine WL.nil ?_
  refine WP.seq ?_
  refine WP.sr ?_
  refine WL.z (.agg #[.int .u8 (m.Kind), .int .i64 (m.From), .int .i64 (m.To), .int .u64 (m.Term), .int .u64 (m.Index), .int .u64 (0), .int .u64 (0), .int .u64 (m.Round), .bool (m.Ok), .slice none 0 0, .slice none 0 0, .string (ByteArray.mk #[])]) (V.loadAgg (cs := [.int .u8 (m.Kind), .int .i64 (m.From), .int .i64 (m.To), .int .u64 (m.Term), .int .u64 (m.Index), .int .u64 (0), .int .u64 (0), .int .u64 (m.Round), .bool (m.Ok), .slice none 0 0, .slice none 0 0, .string (ByteArray.mk #[])]) rfl a32 rfl (At.box hb380) rfl) ?_
  refine WL.z (.agg #[.int .u8 (m.Kind), .int .i64 (m.From), .int .i64 (m.To), .int .u64 (m.Term), .int .u64 (m.Index), .int .u64 (m.LogTerm), .int .u64 (m.Commit), .int .u64 (m.Round), .bool (m.Ok), v1, v3, .string (m.Snap)]) (V.loadAgg (cs := [.int .u8 (m.Kind), .int .i64 (m.From), .int .i64 (m.To), .int .u64 (m.Term), .int .u64 (m.Index), .int .u64 (m.LogTerm), .int .u64 (m.Commit), .int .u64 (m.Round), .bool (m.Ok), v1, v3, .string (m.Snap)]) rfl a32 rfl (At.box hb381) rfl) ?_
  refine WL.c (Sure.none rfl) rfl (C.call2 rfl cl25 rfl rfl) (Fnc.mono (ref_SameMsg (a := ({ Kind := m.Kind, From := m.From, To := m.To, Term := m.Term, Index := m.Index, LogTerm := 0, Commit := 0, Round := m.Round, Ok := m.Ok, Entries := [], Members := [], Snap := (ByteArray.mk #[]) } : MsgD)) ⟨.slice none 0 0, .slice none 0 0, rfl, Sl.nil, Sl.nil, ⟨(inK_u8' (n := m.Kind) (by omega)), (inK_i64' (n := m.From) (by omega)), (inK_i64' (n := m.To) (by omega)), (inK_u64' (n := m.Term) (by omega)), (inK_u64' (n := m.Index) (by omega)), (inK_u64' (n := 0) (by omega)), (inK_u64' (n := 0) (by omega)), (inK_u64' (n := m.Round) (by omega)), (Nat.zero_le _)⟩⟩ (b := m) ⟨v1, v3, rfl, (hl71.ext (Ext.pre hx383)), (hl72.ext (Ext.pre hx383)), hk5⟩) ?_)
  rintro _ w387 ⟨rfl, hx388⟩
  have hx389 : Ext [b65, b17] w w387 := hx382.trans (Ext.any (Y := [b65, b17]) hx388)
  have hx390 : Ext [b65, b17] w66 w387 := hx383.trans (Ext.any (Y := [b65, b17]) hx388)
  have hb395 := hb381.ext hx388 (by simp)
  refine WL.z (.bool (!(sameMsgB ({ Kind := m.Kind, From := m.From, To := m.To, Term := m.Term, Index := m.Index, LogTerm := 0, Commit := 0, Round := m.Round, Ok := m.Ok, Entries := [], Members := [], Snap := (ByteArray.mk #[]) } : MsgD) m))) (V.not rfl rfl) ?_
  refine WL.nil ?_
  refine WP.condn (t := sameMsgB ({ Kind := m.Kind, From := m.From, To := m.To, Term := m.Term, Index := m.Index, LogTerm := 0, Commit := 0, Round := m.Round, Ok := m.Ok, Entries := [], Members := [], Snap := (ByteArray.mk #[]) } : MsgD) m) rfl (fun hc397 => ?_) (fun hc397 => ?_)
  · refine WP.sr ?_
    refine WL.m rfl ?_
    refine WL.nil ?_
    refine WP.ret ?_
    refine resOf.c1 rfl (v := .bool (false)) rfl ?_
    exact ⟨(bool_eq (by first | assumption | grind [refMayMsgB, hdB, tailB, eqzB, membersB])), ((hx389).done (geCons hge_b65_w (geCons hge_b17_w geNil)))⟩
  refine WP.skip ?_
  refine WP.seq ?_
  refine WP.sr ?_
  refine WL.f (.int .u8 (m.Kind)) fl32_0 rfl p30 (hb395.cell rfl) ?_
  refine WL.z (.bool (decide (m.Kind = 1))) (V.cmp rfl rfl rfl rfl) ?_
  refine WL.vbp (c := m.Kind = 1) (Sure.none rfl) rfl (V.move rfl rfl) (fun hc398 => ?_) (fun hc398 => ?_)
  · refine WL.s (Shut.no rfl rfl rfl rfl) rfl ?_
    refine WL.s (Shut.no rfl rfl rfl rfl) rfl ?_
    refine WL.s (Shut.no rfl rfl rfl rfl) rfl ?_
    refine WL.k (a := true) rfl rfl ?_
    refine WL.m rfl ?_
    refine WL.fy (.int .u64 (m.Index)) rfl fl32_4 rfl p23 (hb395.cell rfl) ?_
    refine WL.y (.bool (decide (m.Index = 0))) rfl (V.cmp rfl rfl rfl rfl) ?_
    refine WL.fy (.int .u64 (m.LogTerm)) rfl fl32_5 rfl p23 (hb395.cell rfl) ?_
    refine WL.y (.bool (decide (m.LogTerm = 0))) rfl (V.cmp rfl rfl rfl rfl) ?_
    refine WL.y (.bool (!((decide (m.Index = 0)) == (decide (m.LogTerm = 0))))) rfl (V.bcmpNe rfl u4 rfl rfl) ?_
    refine WL.k (a := true) rfl rfl ?_
    refine WL.nil ?_
    refine WP.condn (t := (decide (m.Index = 0)) == (decide (m.LogTerm = 0))) rfl (fun hc399 => ?_) (fun hc399 => ?_)
    · refine WP.sr ?_
      refine WL.m rfl ?_
      refine WL.nil ?_
      refine WP.ret ?_
      refine resOf.c1 rfl (v := .bool (false)) rfl ?_
      exact ⟨(bool_eq (by first | assumption | grind [refMayMsgB, hdB, tailB, eqzB, membersB])), ((hx389).done (geCons hge_b65_w (geCons hge_b17_w geNil)))⟩
    refine WP.skip ?_
    refine WP.sr ?_
    refine WL.f (v1) fl32_9 rfl p25 (hb395.cell rfl) ?_
    obtain ⟨a400, c401, hv402⟩ := hl71.shape
    refine WL.z (.int .i64 (((m.Entries).length : Int))) (V.lenSlice rfl rfl u25 (Eq.trans (b := v1) rfl hv402)) ?_
    refine WL.z (.bool (decide (((m.Entries).length : Int) ≤ 16))) (V.cmp rfl rfl rfl rfl) ?_
    refine WL.vbp (c := ((m.Entries).length : Int) ≤ 16) (Sure.none rfl) rfl (V.move rfl rfl) (fun hc403 => ?_) (fun hc403 => ?_)
    rotate_left
    · refine WL.skips [(166, some false)] [(2, some false)] (kc (some false) rfl kn) (by kernel_rfl) (fun E415 hK416 hE417 => ?_)
      refine WP.ret ?_
      refine resOf.c1 rfl (v := .bool (false)) (hK416 2 (some false) rfl) ?_
      exact ⟨(bool_eq (by first | assumption | grind [refMayMsgB, hdB, tailB, eqzB, membersB])), ((hx389).done (geCons hge_b65_w (geCons hge_b17_w geNil)))⟩
    refine WL.fy (v1) rfl fl32_9 rfl p25 (hb395.cell rfl) ?_
    refine WL.fy (.int .u64 (m.LogTerm)) rfl fl32_5 rfl p23 (hb395.cell rfl) ?_
    refine WL.fy (.int .u64 (m.Term)) rfl fl32_3 rfl p23 (hb395.cell rfl) ?_
    refine WL.c (Sure.yes rfl rfl rfl) rfl (C.call3 rfl cl39 rfl rfl rfl) (Fnc.mono (ref_entries (hl71.ext (Ext.pre hx390)) m.LogTerm m.Term (by omega)) ?_)
    rintro _ w404 ⟨rfl, hx405⟩
    have hx406 : Ext [b65, b17] w w404 := hx389.trans (Ext.any (Y := [b65, b17]) hx405)
    refine WL.k (a := true) rfl rfl ?_
    refine WL.m rfl ?_
    refine WL.nil ?_
    refine WP.ret ?_
    refine resOf.c1 rfl (v := .bool (entsB m.Entries m.LogTerm m.Term)) rfl ?_
    exact ⟨(bool_eq (by first | assumption | grind [refMayMsgB, hdB, tailB, eqzB, membersB])), ((hx406).done (geCons hge_b65_w (geCons hge_b17_w geNil)))⟩
  refine WL.fy (.int .u8 (m.Kind)) rfl fl32_0 rfl p30 (hb395.cell rfl) ?_
  refine WL.y (.bool (decide (m.Kind = 3))) rfl (V.cmp rfl rfl rfl rfl) ?_
  refine WL.k (a := false) rfl rfl ?_
  refine WL.vbp (c := m.Kind = 3) (Sure.none rfl) rfl (V.move rfl rfl) (fun hc418 => ?_) (fun hc418 => ?_)
  rotate_left
  · refine WL.skips [(153, some false)] [(161, some false)] (kc (some false) rfl kn) (by kernel_rfl) (fun E438 hK439 hE440 => ?_)
    refine WP.cond_false (hK439 161 (some false) rfl) ?_
    refine WP.skip ?_
    refine WP.sr ?_
    refine WL.f (x := .tmp 1) (v1) fl32_9 (hE440 1 rfl) p25 (hb395.cell rfl) ?_
    obtain ⟨a441, c442, hv443⟩ := hl71.shape
    refine WL.z (.int .i64 (((m.Entries).length : Int))) (V.lenSlice rfl rfl u25 (Eq.trans (b := v1) rfl hv443)) ?_
    refine WL.z (.bool (decide (((m.Entries).length : Int) ≤ 16))) (V.cmp rfl rfl rfl rfl) ?_
    refine WL.vbp (c := ((m.Entries).length : Int) ≤ 16) (Sure.none rfl) rfl (V.move rfl rfl) (fun hc444 => ?_) (fun hc444 => ?_)
    rotate_left
    · refine WL.skips [(166, some false)] [(2, some false)] (kc (some false) rfl kn) (by kernel_rfl) (fun E456 hK457 hE458 => ?_)
      refine WP.ret ?_
      refine resOf.c1 rfl (v := .bool (false)) (hK457 2 (some false) rfl) ?_
      exact ⟨(bool_eq (by first | assumption | grind [refMayMsgB, hdB, tailB, eqzB, membersB])), ((hx389).done (geCons hge_b65_w (geCons hge_b17_w geNil)))⟩
    refine WL.fy (x := .tmp 1) (v1) rfl fl32_9 (hE440 1 rfl) p25 (hb395.cell rfl) ?_
    refine WL.fy (x := .tmp 1) (.int .u64 (m.LogTerm)) rfl fl32_5 (hE440 1 rfl) p23 (hb395.cell rfl) ?_
    refine WL.fy (x := .tmp 1) (.int .u64 (m.Term)) rfl fl32_3 (hE440 1 rfl) p23 (hb395.cell rfl) ?_
    refine WL.c (Sure.yes rfl rfl rfl) rfl (C.call3 rfl cl39 rfl rfl rfl) (Fnc.mono (ref_entries (hl71.ext (Ext.pre hx390)) m.LogTerm m.Term (by omega)) ?_)
    rintro _ w445 ⟨rfl, hx446⟩
    have hx447 : Ext [b65, b17] w w445 := hx389.trans (Ext.any (Y := [b65, b17]) hx446)
    refine WL.k (a := true) rfl rfl ?_
    refine WL.m rfl ?_
    refine WL.nil ?_
    refine WP.ret ?_
    refine resOf.c1 rfl (v := .bool (entsB m.Entries m.LogTerm m.Term)) rfl ?_
    exact ⟨(bool_eq (by first | assumption | grind [refMayMsgB, hdB, tailB, eqzB, membersB])), ((hx447).done (geCons hge_b65_w (geCons hge_b17_w geNil)))⟩
  refine WL.fy (.int .u64 (m.Index)) rfl fl32_4 rfl p23 (hb395.cell rfl) ?_
  refine WL.y (.bool (decide (m.Index = 0))) rfl (V.cmp rfl rfl rfl rfl) ?_
  refine WL.fy (.int .u64 (m.LogTerm)) rfl fl32_5 rfl p23 (hb395.cell rfl) ?_
  refine WL.y (.bool (decide (m.LogTerm = 0))) rfl (V.cmp rfl rfl rfl rfl) ?_
  refine WL.y (.bool (!((decide (m.Index = 0)) == (decide (m.LogTerm = 0))))) rfl (V.bcmpNe rfl u4 rfl rfl) ?_
  refine WL.k (a := true) rfl rfl ?_
  refine WL.nil ?_
  refine WP.condn (t := (decide (m.Index = 0)) == (decide (m.LogTerm = 0))) rfl (fun hc419 => ?_) (fun hc419 => ?_)
  · refine WP.sr ?_
    refine WL.m rfl ?_
    refine WL.nil ?_
    refine WP.ret ?_
    refine resOf.c1 rfl (v := .bool (false)) rfl ?_
    exact ⟨(bool_eq (by first | assumption | grind [refMayMsgB, hdB, tailB, eqzB, membersB])), ((hx389).done (geCons hge_b65_w (geCons hge_b17_w geNil)))⟩
  refine WP.skip ?_
  refine WP.sr ?_
  refine WL.f (v1) fl32_9 rfl p25 (hb395.cell rfl) ?_
  obtain ⟨a420, c421, hv422⟩ := hl71.shape
  refine WL.z (.int .i64 (((m.Entries).length : Int))) (V.lenSlice rfl rfl u25 (Eq.trans (b := v1) rfl hv422)) ?_
  refine WL.z (.bool (decide (((m.Entries).length : Int) ≤ 16))) (V.cmp rfl rfl rfl rfl) ?_
  refine WL.vbp (c := ((m.Entries).length : Int) ≤ 16) (Sure.none rfl) rfl (V.move rfl rfl) (fun hc423 => ?_) (fun hc423 => ?_)
  rotate_left
  · refine WL.skips [(166, some false)] [(2, some false)] (kc (some false) rfl kn) (by kernel_rfl) (fun E435 hK436 hE437 => ?_)
    refine WP.ret ?_
    refine resOf.c1 rfl (v := .bool (false)) (hK436 2 (some false) rfl) ?_
    exact ⟨(bool_eq (by first | assumption | grind [refMayMsgB, hdB, tailB, eqzB, membersB])), ((hx389).done (geCons hge_b65_w (geCons hge_b17_w geNil)))⟩
  refine WL.fy (v1) rfl fl32_9 rfl p25 (hb395.cell rfl) ?_
  refine WL.fy (.int .u64 (m.LogTerm)) rfl fl32_5 rfl p23 (hb395.cell rfl) ?_
  refine WL.fy (.int .u64 (m.Term)) rfl fl32_3 rfl p23 (hb395.cell rfl) ?_
  refine WL.c (Sure.yes rfl rfl rfl) rfl (C.call3 rfl cl39 rfl rfl rfl) (Fnc.mono (ref_entries (hl71.ext (Ext.pre hx390)) m.LogTerm m.Term (by omega)) ?_)
  rintro _ w424 ⟨rfl, hx425⟩
  have hx426 : Ext [b65, b17] w w424 := hx389.trans (Ext.any (Y := [b65, b17]) hx425)
  refine WL.k (a := true) rfl rfl ?_
  refine WL.m rfl ?_
  refine WL.nil ?_
  refine WP.ret ?_
  refine resOf.c1 rfl (v := .bool (entsB m.Entries m.LogTerm m.Term)) rfl ?_
  exact ⟨(bool_eq (by first | assumption | grind [refMayMsgB, hdB, tailB, eqzB, membersB])), ((hx426).done (geCons hge_b65_w (geCons hge_b17_w geNil)))⟩
end Go.Proofs.Ytbpamkbegggeoaa.T
