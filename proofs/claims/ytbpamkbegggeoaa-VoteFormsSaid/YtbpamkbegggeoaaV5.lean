import Derived.Test.YtbpamkbegggeoaaV4
namespace Go.Proofs.Ytbpamkbegggeoaa.T
open W Go.RowKit
set_option maxRecDepth 100000
set_option maxHeartbeats 400000

theorem vote_sameMsg {w : World} {X : List Nat} {a : MsgD} {c_a : List Value} (h_a : msgR.rd X w c_a a) {b : MsgD} {c_b : List Value} (h_b : msgR.rd X w c_b b) : Fnc Try.prog 48 #[.agg c_a.toArray, .agg c_b.toArray] w (fun v w' => v = .bool (sameMsgB a b) ∧ Ext [] w w') := by
  obtain ⟨v1, v3, rfl, hl2, hl4, hk5⟩ := h_a
  obtain ⟨hin6, hin7, hin8, hin9, hin10, hin11, hin12, hin13, hin14⟩ := (show MsgD.InR a from hk5)
  have hin6 := inK_u8 hin6
  have hin7 := inK_i64 hin7
  have hin8 := inK_i64 hin8
  have hin9 := inK_u64 hin9
  have hin10 := inK_u64 hin10
  have hin11 := inK_u64 hin11
  have hin12 := inK_u64 hin12
  have hin13 := inK_u64 hin13
  have hle15 := hl2.le'
  have hle16 := hl4.le'
  obtain ⟨v17, v19, rfl, hl18, hl20, hk21⟩ := h_b
  obtain ⟨hin22, hin23, hin24, hin25, hin26, hin27, hin28, hin29, hin30⟩ := (show MsgD.InR b from hk21)
  have hin22 := inK_u8 hin22
  have hin23 := inK_i64 hin23
  have hin24 := inK_i64 hin24
  have hin25 := inK_u64 hin25
  have hin26 := inK_u64 hin26
  have hin27 := inK_u64 hin27
  have hin28 := inK_u64 hin28
  have hin29 := inK_u64 hin29
  have hle31 := hl18.le'
  have hle32 := hl20.le'
  refine Fnc.of_WP (n := 87) Try.func48 rfl Try.ntmps48 (by simp) ?_
  intro E hE
  have h0 : E 0 = .agg #[.int .u8 (a.Kind), .int .i64 (a.From), .int .i64 (a.To), .int .u64 (a.Term), .int .u64 (a.Index), .int .u64 (a.LogTerm), .int .u64 (a.Commit), .int .u64 (a.Round), .bool (a.Ok), v1, v3, .string (a.Snap)] := hE 0 (by simp)
  have h1 : E 1 = .agg #[.int .u8 (b.Kind), .int .i64 (b.From), .int .i64 (b.To), .int .u64 (b.Term), .int .u64 (b.Index), .int .u64 (b.LogTerm), .int .u64 (b.Commit), .int .u64 (b.Round), .bool (b.Ok), v17, v19, .string (b.Snap)] := hE 1 (by simp)
  clear hE
  refine WP.sr ?_
  refine WL.box (x := .tmp 0) (cs := [.int .u8 (a.Kind), .int .i64 (a.From), .int .i64 (a.To), .int .u64 (a.Term), .int .u64 (a.Index), .int .u64 (a.LogTerm), .int .u64 (a.Commit), .int .u64 (a.Round), .bool (a.Ok), v1, v3, .string (a.Snap)]) (Sure.none rfl) rfl rfl h0 rfl (fun b33 w34 hx35 he36 hb37 => ?_)
  have hl38 := (Sl.new (b := b33) (by show (4 : Nat) ≠ 0; decide) hl2 (by omega)).ext (Ext.any hx35)
  have hl39 := (Sl.new (b := b33) (by show (1 : Nat) ≠ 0; decide) hl4 (by omega)).ext (Ext.any hx35)
  have hl40 := (Sl.new (b := b33) (by show (4 : Nat) ≠ 0; decide) hl18 (by omega)).ext (Ext.any hx35)
  have hl41 := (Sl.new (b := b33) (by show (1 : Nat) ≠ 0; decide) hl20 (by omega)).ext (Ext.any hx35)
  have hx42 : Ext [b33] _ _ := (Ext.refl _ _).trans (Ext.any hx35)
  have hge_b33_w : w.heap.size ≤ b33 := by have := Nat.le_refl w.heap.size; omega
  refine WL.box (x := .tmp 1) (cs := [.int .u8 (b.Kind), .int .i64 (b.From), .int .i64 (b.To), .int .u64 (b.Term), .int .u64 (b.Index), .int .u64 (b.LogTerm), .int .u64 (b.Commit), .int .u64 (b.Round), .bool (b.Ok), v17, v19, .string (b.Snap)]) (Sure.none rfl) rfl rfl h1 rfl (fun b43 w44 hx45 he46 hb47 => ?_)
  have hlt_b33_b43 : b33 < b43 := by have := hb37.lt; omega
  have hb48 := hb37.ext hx45 (by simp)
  have hl49 := (Sl.new (b := b43) (by show (4 : Nat) ≠ 0; decide) hl38 (by omega)).ext (Ext.any hx45)
  have hl50 := (Sl.new (b := b43) (by show (1 : Nat) ≠ 0; decide) hl39 (by omega)).ext (Ext.any hx45)
  have hl51 := (Sl.new (b := b43) (by show (4 : Nat) ≠ 0; decide) hl40 (by omega)).ext (Ext.any hx45)
  have hl52 := (Sl.new (b := b43) (by show (1 : Nat) ≠ 0; decide) hl41 (by omega)).ext (Ext.any hx45)
  have hx53 : Ext [b43, b33] _ _ := (Ext.cons hx42).trans (Ext.any hx45)
  have hge_b43_w : w.heap.size ≤ b43 := by have := hx42.size; omega
  refine WL.m rfl ?_
  refine WL.nil ?_
  refine WP.sr ?_
  refine WL.f (.int .u8 (a.Kind)) fl32_0 rfl p30 (hb48.cell rfl) ?_
  refine WL.f (.int .u8 (b.Kind)) fl32_0 rfl p30 (hb47.cell rfl) ?_
  refine WL.z (.bool (decide (a.Kind = b.Kind))) (V.cmp rfl rfl rfl rfl) ?_
  refine WL.vbp (c := a.Kind = b.Kind) (Sure.none rfl) rfl (V.move rfl rfl) (fun hc54 => ?_) (fun hc54 => ?_)
  rotate_left
  · refine WL.skips [(10, some false)] [(4, some false)] (kc (some false) rfl kn) (by kernel_rfl) (fun E108 hK109 hE110 => ?_)
    refine WP.ret ?_
    refine resOf.c1 rfl (v := .bool (false)) (hK109 4 (some false) rfl) ?_
    exact ⟨(bool_eq (by first | assumption | grind [sameMsgB])), ((hx53).done (geCons hge_b43_w (geCons hge_b33_w geNil)))⟩
  refine WL.fy (.int .i64 (a.From)) rfl fl32_1 rfl p3 (hb48.cell rfl) ?_
  refine WL.fy (.int .i64 (b.From)) rfl fl32_1 rfl p3 (hb47.cell rfl) ?_
  refine WL.y (.bool (decide (a.From = b.From))) rfl (V.cmp rfl rfl rfl rfl) ?_
  refine WL.k (a := true) rfl rfl ?_
  refine WL.vbp (c := a.From = b.From) (Sure.none rfl) rfl (V.move rfl rfl) (fun hc55 => ?_) (fun hc55 => ?_)
  rotate_left
  · refine WL.skips [(17, some false)] [(4, some false)] (kc (some false) rfl kn) (by kernel_rfl) (fun E105 hK106 hE107 => ?_)
    refine WP.ret ?_
    refine resOf.c1 rfl (v := .bool (false)) (hK106 4 (some false) rfl) ?_
    exact ⟨(bool_eq (by first | assumption | grind [sameMsgB])), ((hx53).done (geCons hge_b43_w (geCons hge_b33_w geNil)))⟩
  refine WL.fy (.int .i64 (a.To)) rfl fl32_2 rfl p3 (hb48.cell rfl) ?_
  refine WL.fy (.int .i64 (b.To)) rfl fl32_2 rfl p3 (hb47.cell rfl) ?_
  refine WL.y (.bool (decide (a.To = b.To))) rfl (V.cmp rfl rfl rfl rfl) ?_
  refine WL.k (a := true) rfl rfl ?_
  refine WL.vbp (c := a.To = b.To) (Sure.none rfl) rfl (V.move rfl rfl) (fun hc56 => ?_) (fun hc56 => ?_)
  rotate_left
  · refine WL.skips [(24, some false)] [(4, some false)] (kc (some false) rfl kn) (by kernel_rfl) (fun E102 hK103 hE104 => ?_)
    refine WP.ret ?_
    refine resOf.c1 rfl (v := .bool (false)) (hK103 4 (some false) rfl) ?_
    exact ⟨(bool_eq (by first | assumption | grind [sameMsgB])), ((hx53).done (geCons hge_b43_w (geCons hge_b33_w geNil)))⟩
  refine WL.fy (.int .u64 (a.Term)) rfl fl32_3 rfl p23 (hb48.cell rfl) ?_
  refine WL.fy (.int .u64 (b.Term)) rfl fl32_3 rfl p23 (hb47.cell rfl) ?_
  refine WL.y (.bool (decide (a.Term = b.Term))) rfl (V.cmp rfl rfl rfl rfl) ?_
  refine WL.k (a := true) rfl rfl ?_
  refine WL.vbp (c := a.Term = b.Term) (Sure.none rfl) rfl (V.move rfl rfl) (fun hc57 => ?_) (fun hc57 => ?_)
  rotate_left
  · refine WL.skips [(31, some false)] [(4, some false)] (kc (some false) rfl kn) (by kernel_rfl) (fun E99 hK100 hE101 => ?_)
    refine WP.ret ?_
    refine resOf.c1 rfl (v := .bool (false)) (hK100 4 (some false) rfl) ?_
    exact ⟨(bool_eq (by first | assumption | grind [sameMsgB])), ((hx53).done (geCons hge_b43_w (geCons hge_b33_w geNil)))⟩
  refine WL.fy (.int .u64 (a.Index)) rfl fl32_4 rfl p23 (hb48.cell rfl) ?_
  refine WL.fy (.int .u64 (b.Index)) rfl fl32_4 rfl p23 (hb47.cell rfl) ?_
  refine WL.y (.bool (decide (a.Index = b.Index))) rfl (V.cmp rfl rfl rfl rfl) ?_
  refine WL.k (a := true) rfl rfl ?_
  refine WL.vbp (c := a.Index = b.Index) (Sure.none rfl) rfl (V.move rfl rfl) (fun hc58 => ?_) (fun hc58 => ?_)
  rotate_left
  · refine WL.skips [(38, some false)] [(4, some false)] (kc (some false) rfl kn) (by kernel_rfl) (fun E96 hK97 hE98 => ?_)
    refine WP.ret ?_
    refine resOf.c1 rfl (v := .bool (false)) (hK97 4 (some false) rfl) ?_
    exact ⟨(bool_eq (by first | assumption | grind [sameMsgB])), ((hx53).done (geCons hge_b43_w (geCons hge_b33_w geNil)))⟩
  refine WL.fy (.int .u64 (a.LogTerm)) rfl fl32_5 rfl p23 (hb48.cell rfl) ?_
  refine WL.fy (.int .u64 (b.LogTerm)) rfl fl32_5 rfl p23 (hb47.cell rfl) ?_
  refine WL.y (.bool (decide (a.LogTerm = b.LogTerm))) rfl (V.cmp rfl rfl rfl rfl) ?_
  refine WL.k (a := true) rfl rfl ?_
  refine WL.vbp (c := a.LogTerm = b.LogTerm) (Sure.none rfl) rfl (V.move rfl rfl) (fun hc59 => ?_) (fun hc59 => ?_)
  rotate_left
  · refine WL.skips [(45, some false)] [(4, some false)] (kc (some false) rfl kn) (by kernel_rfl) (fun E93 hK94 hE95 => ?_)
    refine WP.ret ?_
    refine resOf.c1 rfl (v := .bool (false)) (hK94 4 (some false) rfl) ?_
    exact ⟨(bool_eq (by first | assumption | grind [sameMsgB])), ((hx53).done (geCons hge_b43_w (geCons hge_b33_w geNil)))⟩
  refine WL.fy (.int .u64 (a.Commit)) rfl fl32_6 rfl p23 (hb48.cell rfl) ?_
  refine WL.fy (.int .u64 (b.Commit)) rfl fl32_6 rfl p23 (hb47.cell rfl) ?_
  refine WL.y (.bool (decide (a.Commit = b.Commit))) rfl (V.cmp rfl rfl rfl rfl) ?_
  refine WL.k (a := true) rfl rfl ?_
  refine WL.vbp (c := a.Commit = b.Commit) (Sure.none rfl) rfl (V.move rfl rfl) (fun hc60 => ?_) (fun hc60 => ?_)
  rotate_left
  · refine WL.skips [(52, some false)] [(4, some false)] (kc (some false) rfl kn) (by kernel_rfl) (fun E90 hK91 hE92 => ?_)
    refine WP.ret ?_
    refine resOf.c1 rfl (v := .bool (false)) (hK91 4 (some false) rfl) ?_
    exact ⟨(bool_eq (by first | assumption | grind [sameMsgB])), ((hx53).done (geCons hge_b43_w (geCons hge_b33_w geNil)))⟩
  refine WL.fy (.int .u64 (a.Round)) rfl fl32_7 rfl p23 (hb48.cell rfl) ?_
  refine WL.fy (.int .u64 (b.Round)) rfl fl32_7 rfl p23 (hb47.cell rfl) ?_
  refine WL.y (.bool (decide (a.Round = b.Round))) rfl (V.cmp rfl rfl rfl rfl) ?_
  refine WL.k (a := true) rfl rfl ?_
  refine WL.vbp (c := a.Round = b.Round) (Sure.none rfl) rfl (V.move rfl rfl) (fun hc61 => ?_) (fun hc61 => ?_)
  rotate_left
  · refine WL.skips [(59, some false)] [(4, some false)] (kc (some false) rfl kn) (by kernel_rfl) (fun E87 hK88 hE89 => ?_)
    refine WP.ret ?_
    refine resOf.c1 rfl (v := .bool (false)) (hK88 4 (some false) rfl) ?_
    exact ⟨(bool_eq (by first | assumption | grind [sameMsgB])), ((hx53).done (geCons hge_b43_w (geCons hge_b33_w geNil)))⟩
  refine WL.fy (.bool (a.Ok)) rfl fl32_8 rfl p4 (hb48.cell rfl) ?_
  refine WL.fy (.bool (b.Ok)) rfl fl32_8 rfl p4 (hb47.cell rfl) ?_
  refine WL.y (.bool (a.Ok == b.Ok)) rfl (V.bcmpEq rfl u4 rfl rfl) ?_
  refine WL.k (a := true) rfl rfl ?_
  refine WL.vb (c := a.Ok == b.Ok) (Sure.none rfl) rfl (V.move rfl rfl) (fun hc62 => ?_) (fun hc62 => ?_)
  rotate_left
  · refine WL.skips [(66, some false)] [(4, some false)] (kc (some false) rfl kn) (by kernel_rfl) (fun E84 hK85 hE86 => ?_)
    refine WP.ret ?_
    refine resOf.c1 rfl (v := .bool (false)) (hK85 4 (some false) rfl) ?_
    exact ⟨(bool_eq (by first | assumption | grind [sameMsgB])), ((hx53).done (geCons hge_b43_w (geCons hge_b33_w geNil)))⟩
  refine WL.fy (v1) rfl fl32_9 rfl p25 (hb48.cell rfl) ?_
  refine WL.fy (v17) rfl fl32_9 rfl p25 (hb47.cell rfl) ?_
  refine WL.c (Sure.yes rfl rfl rfl) rfl (C.call3 rfl cl52 rfl rfl rfl) (Fnc.mono (sl_equalFunc_entry hl49 hl51) ?_)
  rintro _ w63 ⟨rfl, hx64⟩
  have hx65 : Ext [b43, b33] w w63 := hx53.trans (Ext.any (Y := [b43, b33]) hx64)
  have hx66 : Ext [b43, b33] w44 w63 := (Ext.any (Y := [b43, b33]) hx64)
  have hb67 := hb48.ext hx64 (by simp)
  have hb68 := hb47.ext hx64 (by simp)
  refine WL.k (a := true) rfl rfl ?_
  refine WL.vb (c := eqB sameEntB a.Entries b.Entries) (Sure.none rfl) rfl (V.move rfl rfl) (fun hc69 => ?_) (fun hc69 => ?_)
  rotate_left
  · refine WL.skips [(73, some false)] [(4, some false)] (kc (some false) rfl kn) (by kernel_rfl) (fun E81 hK82 hE83 => ?_)
    refine WP.ret ?_
    refine resOf.c1 rfl (v := .bool (false)) (hK82 4 (some false) rfl) ?_
    exact ⟨(bool_eq (by first | assumption | grind [sameMsgB])), ((hx65).done (geCons hge_b43_w (geCons hge_b33_w geNil)))⟩
  refine WL.fy (v3) rfl fl32_10 rfl p22 (hb67.cell rfl) ?_
  refine WL.fy (v19) rfl fl32_10 rfl p22 (hb68.cell rfl) ?_
  refine WL.c (Sure.yes rfl rfl rfl) rfl (C.call2 rfl cl51 rfl rfl) (Fnc.mono (sl_equal_int (hl50.ext (Ext.pre hx66)) (hl52.ext (Ext.pre hx66))) ?_)
  rintro _ w70 ⟨rfl, hx71⟩
  have hx72 : Ext [b43, b33] w w70 := hx65.trans (Ext.any (Y := [b43, b33]) hx71)
  have hb75 := hb67.ext hx71 (by simp)
  have hb76 := hb68.ext hx71 (by simp)
  refine WL.k (a := true) rfl rfl ?_
  refine WL.vb (c := eqB ieq a.Members b.Members) (Sure.none rfl) rfl (V.move rfl rfl) (fun hc77 => ?_) (fun hc77 => ?_)
  rotate_left
  · refine WL.skips [(80, some false)] [(4, some false)] (kc (some false) rfl kn) (by kernel_rfl) (fun E78 hK79 hE80 => ?_)
    refine WP.ret ?_
    refine resOf.c1 rfl (v := .bool (false)) (hK79 4 (some false) rfl) ?_
    exact ⟨(bool_eq (by first | assumption | grind [sameMsgB])), ((hx72).done (geCons hge_b43_w (geCons hge_b33_w geNil)))⟩
  refine WL.fy (.string (a.Snap)) rfl fl32_11 rfl p9 (hb75.cell rfl) ?_
  refine WL.fy (.string (b.Snap)) rfl fl32_11 rfl p9 (hb76.cell rfl) ?_
  refine WL.y (.bool (seqB a.Snap b.Snap)) rfl (V.scmp rfl rfl rfl rfl) ?_
  refine WL.k (a := true) rfl rfl ?_
  refine WL.m rfl ?_
  refine WL.nil ?_
  refine WP.ret ?_
  refine resOf.c1 rfl (v := .bool (seqB a.Snap b.Snap)) rfl ?_
  exact ⟨(bool_eq (by first | assumption | grind [sameMsgB])), ((hx72).done (geCons hge_b43_w (geCons hge_b33_w geNil)))⟩

end Go.Proofs.Ytbpamkbegggeoaa.T
