import Derived.Test.YtbpamkbegggeoaaV5
namespace Go.Proofs.Ytbpamkbegggeoaa.T
open W Go.RowKit
set_option maxRecDepth 100000
set_option maxHeartbeats 400000

theorem vote_Same {w : World} {X : List Nat} {a : PeerD} {c_a : List Value} (h_a : peerR.rd X w c_a a) {b : PeerD} {c_b : List Value} (h_b : peerR.rd X w c_b b) : Fnc Try.prog 15 #[.agg c_a.toArray, .agg c_b.toArray] w (fun v w' => v = .bool (samePeerB a b) ∧ Ext [] w w') := by
  obtain ⟨v1, v3, v5, v7, v9, v11, rfl, hl2, hl4, hl6, hl8, hl10, hl12, hk13⟩ := h_a
  obtain ⟨hin14, hin15, hin16, hin17, hin18, hin19, hin20, hin21, hin22, hin23, hin24, hin25⟩ := (show PeerD.InR a from hk13)
  have hin14 := inK_i64 hin14
  have hin15 := inK_u64 hin15
  have hin16 := inK_i64 hin16
  have hin17 := inK_u8 hin17
  have hin18 := inK_i64 hin18
  have hin19 := inK_u64 hin19
  have hin20 := inK_u64 hin20
  have hin22 := inK_u64 hin22
  have hin23 := inK_i64 hin23
  have hin24 := inK_i64 hin24
  have hin25 := inK_u64 hin25
  have hle26 := hl2.le'
  have hle27 := hl4.le'
  have hle28 := hl6.le'
  have hle29 := hl8.le'
  have hle30 := hl10.le'
  have hle31 := hl12.le'
  obtain ⟨v32, v34, v36, v38, v40, v42, rfl, hl33, hl35, hl37, hl39, hl41, hl43, hk44⟩ := h_b
  obtain ⟨hin45, hin46, hin47, hin48, hin49, hin50, hin51, hin52, hin53, hin54, hin55, hin56⟩ := (show PeerD.InR b from hk44)
  have hin45 := inK_i64 hin45
  have hin46 := inK_u64 hin46
  have hin47 := inK_i64 hin47
  have hin48 := inK_u8 hin48
  have hin49 := inK_i64 hin49
  have hin50 := inK_u64 hin50
  have hin51 := inK_u64 hin51
  have hin53 := inK_u64 hin53
  have hin54 := inK_i64 hin54
  have hin55 := inK_i64 hin55
  have hin56 := inK_u64 hin56
  have hle57 := hl33.le'
  have hle58 := hl35.le'
  have hle59 := hl37.le'
  have hle60 := hl39.le'
  have hle61 := hl41.le'
  have hle62 := hl43.le'
  refine Fnc.of_WP (n := 129) Try.func15 rfl Try.ntmps15 (by simp) ?_
  intro E hE
  have h0 : E 0 = .agg #[.int .i64 (a.Id), v1, .int .u64 (a.Term), .int .i64 (a.Vote), .int .u8 (a.Role), .int .i64 (a.Lead), .int .u64 (a.Base), .int .u64 (a.BaseTerm), v3, .string (a.Snap), v5, .int .u64 (a.Commit), .int .i64 (a.Idle), .int .i64 (a.Wait), v7, v9, .int .u64 (a.Round), v11] := hE 0 (by simp)
  have h1 : E 1 = .agg #[.int .i64 (b.Id), v32, .int .u64 (b.Term), .int .i64 (b.Vote), .int .u8 (b.Role), .int .i64 (b.Lead), .int .u64 (b.Base), .int .u64 (b.BaseTerm), v34, .string (b.Snap), v36, .int .u64 (b.Commit), .int .i64 (b.Idle), .int .i64 (b.Wait), v38, v40, .int .u64 (b.Round), v42] := hE 1 (by simp)
  clear hE
  refine WP.sr ?_
  refine WL.box (x := .tmp 0) (cs := [.int .i64 (a.Id), v1, .int .u64 (a.Term), .int .i64 (a.Vote), .int .u8 (a.Role), .int .i64 (a.Lead), .int .u64 (a.Base), .int .u64 (a.BaseTerm), v3, .string (a.Snap), v5, .int .u64 (a.Commit), .int .i64 (a.Idle), .int .i64 (a.Wait), v7, v9, .int .u64 (a.Round), v11]) (Sure.none rfl) rfl rfl h0 rfl (fun b63 w64 hx65 he66 hb67 => ?_)
  have hl68 := (Sl.new (b := b63) (by show (1 : Nat) ≠ 0; decide) hl2 (by omega)).ext (Ext.any hx65)
  have hl69 := (Sl.new (b := b63) (by show (1 : Nat) ≠ 0; decide) hl4 (by omega)).ext (Ext.any hx65)
  have hl70 := (Sl.new (b := b63) (by show (4 : Nat) ≠ 0; decide) hl6 (by omega)).ext (Ext.any hx65)
  have hl71 := (Sl.new (b := b63) (by show (1 : Nat) ≠ 0; decide) hl8 (by omega)).ext (Ext.any hx65)
  have hl72 := (Sl.new (b := b63) (by show (3 : Nat) ≠ 0; decide) hl10 (by omega)).ext (Ext.any hx65)
  have hl73 := (Sl.new (b := b63) (by show (3 : Nat) ≠ 0; decide) hl12 (by omega)).ext (Ext.any hx65)
  have hl74 := (Sl.new (b := b63) (by show (1 : Nat) ≠ 0; decide) hl33 (by omega)).ext (Ext.any hx65)
  have hl75 := (Sl.new (b := b63) (by show (1 : Nat) ≠ 0; decide) hl35 (by omega)).ext (Ext.any hx65)
  have hl76 := (Sl.new (b := b63) (by show (4 : Nat) ≠ 0; decide) hl37 (by omega)).ext (Ext.any hx65)
  have hl77 := (Sl.new (b := b63) (by show (1 : Nat) ≠ 0; decide) hl39 (by omega)).ext (Ext.any hx65)
  have hl78 := (Sl.new (b := b63) (by show (3 : Nat) ≠ 0; decide) hl41 (by omega)).ext (Ext.any hx65)
  have hl79 := (Sl.new (b := b63) (by show (3 : Nat) ≠ 0; decide) hl43 (by omega)).ext (Ext.any hx65)
  have hx80 : Ext [b63] _ _ := (Ext.refl _ _).trans (Ext.any hx65)
  have hge_b63_w : w.heap.size ≤ b63 := by have := Nat.le_refl w.heap.size; omega
  refine WL.box (x := .tmp 1) (cs := [.int .i64 (b.Id), v32, .int .u64 (b.Term), .int .i64 (b.Vote), .int .u8 (b.Role), .int .i64 (b.Lead), .int .u64 (b.Base), .int .u64 (b.BaseTerm), v34, .string (b.Snap), v36, .int .u64 (b.Commit), .int .i64 (b.Idle), .int .i64 (b.Wait), v38, v40, .int .u64 (b.Round), v42]) (Sure.none rfl) rfl rfl h1 rfl (fun b81 w82 hx83 he84 hb85 => ?_)
  have hlt_b63_b81 : b63 < b81 := by have := hb67.lt; omega
  have hb86 := hb67.ext hx83 (by simp)
  have hl87 := (Sl.new (b := b81) (by show (1 : Nat) ≠ 0; decide) hl68 (by omega)).ext (Ext.any hx83)
  have hl88 := (Sl.new (b := b81) (by show (1 : Nat) ≠ 0; decide) hl69 (by omega)).ext (Ext.any hx83)
  have hl89 := (Sl.new (b := b81) (by show (4 : Nat) ≠ 0; decide) hl70 (by omega)).ext (Ext.any hx83)
  have hl90 := (Sl.new (b := b81) (by show (1 : Nat) ≠ 0; decide) hl71 (by omega)).ext (Ext.any hx83)
  have hl91 := (Sl.new (b := b81) (by show (3 : Nat) ≠ 0; decide) hl72 (by omega)).ext (Ext.any hx83)
  have hl92 := (Sl.new (b := b81) (by show (3 : Nat) ≠ 0; decide) hl73 (by omega)).ext (Ext.any hx83)
  have hl93 := (Sl.new (b := b81) (by show (1 : Nat) ≠ 0; decide) hl74 (by omega)).ext (Ext.any hx83)
  have hl94 := (Sl.new (b := b81) (by show (1 : Nat) ≠ 0; decide) hl75 (by omega)).ext (Ext.any hx83)
  have hl95 := (Sl.new (b := b81) (by show (4 : Nat) ≠ 0; decide) hl76 (by omega)).ext (Ext.any hx83)
  have hl96 := (Sl.new (b := b81) (by show (1 : Nat) ≠ 0; decide) hl77 (by omega)).ext (Ext.any hx83)
  have hl97 := (Sl.new (b := b81) (by show (3 : Nat) ≠ 0; decide) hl78 (by omega)).ext (Ext.any hx83)
  have hl98 := (Sl.new (b := b81) (by show (3 : Nat) ≠ 0; decide) hl79 (by omega)).ext (Ext.any hx83)
  have hx99 : Ext [b81, b63] _ _ := (Ext.cons hx80).trans (Ext.any hx83)
  have hge_b81_w : w.heap.size ≤ b81 := by have := hx80.size; omega
  refine WL.m rfl ?_
  refine WL.nil ?_
  refine WP.sr ?_
  refine WL.f (.int .i64 (a.Id)) fl29_0 rfl p3 (hb86.cell rfl) ?_
  refine WL.f (.int .i64 (b.Id)) fl29_0 rfl p3 (hb85.cell rfl) ?_
  refine WL.z (.bool (decide (a.Id = b.Id))) (V.cmp rfl rfl rfl rfl) ?_
  refine WL.vbp (c := a.Id = b.Id) (Sure.none rfl) rfl (V.move rfl rfl) (fun hc100 => ?_) (fun hc100 => ?_)
  rotate_left
  · refine WL.skips [(10, some false)] [(4, some false)] (kc (some false) rfl kn) (by kernel_rfl) (fun E216 hK217 hE218 => ?_)
    refine WP.ret ?_
    refine resOf.c1 rfl (v := .bool (false)) (hK217 4 (some false) rfl) ?_
    exact ⟨(bool_eq (by first | assumption | grind [samePeerB])), ((hx99).done (geCons hge_b81_w (geCons hge_b63_w geNil)))⟩
  refine WL.fy (v1) rfl fl29_1 rfl p22 (hb86.cell rfl) ?_
  refine WL.fy (v32) rfl fl29_1 rfl p22 (hb85.cell rfl) ?_
  refine WL.c (Sure.yes rfl rfl rfl) rfl (C.call2 rfl cl51 rfl rfl) (Fnc.mono (sl_equal_int hl87 hl93) ?_)
  rintro _ w101 ⟨rfl, hx102⟩
  have hx103 : Ext [b81, b63] w w101 := hx99.trans (Ext.any (Y := [b81, b63]) hx102)
  have hx104 : Ext [b81, b63] w82 w101 := (Ext.any (Y := [b81, b63]) hx102)
  have hb105 := hb86.ext hx102 (by simp)
  have hb106 := hb85.ext hx102 (by simp)
  refine WL.k (a := true) rfl rfl ?_
  refine WL.vb (c := eqB ieq a.Members b.Members) (Sure.none rfl) rfl (V.move rfl rfl) (fun hc107 => ?_) (fun hc107 => ?_)
  rotate_left
  · refine WL.skips [(17, some false)] [(4, some false)] (kc (some false) rfl kn) (by kernel_rfl) (fun E213 hK214 hE215 => ?_)
    refine WP.ret ?_
    refine resOf.c1 rfl (v := .bool (false)) (hK214 4 (some false) rfl) ?_
    exact ⟨(bool_eq (by first | assumption | grind [samePeerB])), ((hx103).done (geCons hge_b81_w (geCons hge_b63_w geNil)))⟩
  refine WL.fy (.int .u64 (a.Term)) rfl fl29_2 rfl p23 (hb105.cell rfl) ?_
  refine WL.fy (.int .u64 (b.Term)) rfl fl29_2 rfl p23 (hb106.cell rfl) ?_
  refine WL.y (.bool (decide (a.Term = b.Term))) rfl (V.cmp rfl rfl rfl rfl) ?_
  refine WL.k (a := true) rfl rfl ?_
  refine WL.vbp (c := a.Term = b.Term) (Sure.none rfl) rfl (V.move rfl rfl) (fun hc108 => ?_) (fun hc108 => ?_)
  rotate_left
  · refine WL.skips [(24, some false)] [(4, some false)] (kc (some false) rfl kn) (by kernel_rfl) (fun E210 hK211 hE212 => ?_)
    refine WP.ret ?_
    refine resOf.c1 rfl (v := .bool (false)) (hK211 4 (some false) rfl) ?_
    exact ⟨(bool_eq (by first | assumption | grind [samePeerB])), ((hx103).done (geCons hge_b81_w (geCons hge_b63_w geNil)))⟩
  refine WL.fy (.int .i64 (a.Vote)) rfl fl29_3 rfl p3 (hb105.cell rfl) ?_
  refine WL.fy (.int .i64 (b.Vote)) rfl fl29_3 rfl p3 (hb106.cell rfl) ?_
  refine WL.y (.bool (decide (a.Vote = b.Vote))) rfl (V.cmp rfl rfl rfl rfl) ?_
  refine WL.k (a := true) rfl rfl ?_
  refine WL.vbp (c := a.Vote = b.Vote) (Sure.none rfl) rfl (V.move rfl rfl) (fun hc109 => ?_) (fun hc109 => ?_)
  rotate_left
  · refine WL.skips [(31, some false)] [(4, some false)] (kc (some false) rfl kn) (by kernel_rfl) (fun E207 hK208 hE209 => ?_)
    refine WP.ret ?_
    refine resOf.c1 rfl (v := .bool (false)) (hK208 4 (some false) rfl) ?_
    exact ⟨(bool_eq (by first | assumption | grind [samePeerB])), ((hx103).done (geCons hge_b81_w (geCons hge_b63_w geNil)))⟩
  refine WL.fy (.int .u8 (a.Role)) rfl fl29_4 rfl p24 (hb105.cell rfl) ?_
  refine WL.fy (.int .u8 (b.Role)) rfl fl29_4 rfl p24 (hb106.cell rfl) ?_
  refine WL.y (.bool (decide (a.Role = b.Role))) rfl (V.cmp rfl rfl rfl rfl) ?_
  refine WL.k (a := true) rfl rfl ?_
  refine WL.vbp (c := a.Role = b.Role) (Sure.none rfl) rfl (V.move rfl rfl) (fun hc110 => ?_) (fun hc110 => ?_)
  rotate_left
  · refine WL.skips [(38, some false)] [(4, some false)] (kc (some false) rfl kn) (by kernel_rfl) (fun E204 hK205 hE206 => ?_)
    refine WP.ret ?_
    refine resOf.c1 rfl (v := .bool (false)) (hK205 4 (some false) rfl) ?_
    exact ⟨(bool_eq (by first | assumption | grind [samePeerB])), ((hx103).done (geCons hge_b81_w (geCons hge_b63_w geNil)))⟩
  refine WL.fy (.int .i64 (a.Lead)) rfl fl29_5 rfl p3 (hb105.cell rfl) ?_
  refine WL.fy (.int .i64 (b.Lead)) rfl fl29_5 rfl p3 (hb106.cell rfl) ?_
  refine WL.y (.bool (decide (a.Lead = b.Lead))) rfl (V.cmp rfl rfl rfl rfl) ?_
  refine WL.k (a := true) rfl rfl ?_
  refine WL.vbp (c := a.Lead = b.Lead) (Sure.none rfl) rfl (V.move rfl rfl) (fun hc111 => ?_) (fun hc111 => ?_)
  rotate_left
  · refine WL.skips [(45, some false)] [(4, some false)] (kc (some false) rfl kn) (by kernel_rfl) (fun E201 hK202 hE203 => ?_)
    refine WP.ret ?_
    refine resOf.c1 rfl (v := .bool (false)) (hK202 4 (some false) rfl) ?_
    exact ⟨(bool_eq (by first | assumption | grind [samePeerB])), ((hx103).done (geCons hge_b81_w (geCons hge_b63_w geNil)))⟩
  refine WL.fy (.int .u64 (a.Base)) rfl fl29_6 rfl p23 (hb105.cell rfl) ?_
  refine WL.fy (.int .u64 (b.Base)) rfl fl29_6 rfl p23 (hb106.cell rfl) ?_
  refine WL.y (.bool (decide (a.Base = b.Base))) rfl (V.cmp rfl rfl rfl rfl) ?_
  refine WL.k (a := true) rfl rfl ?_
  refine WL.vbp (c := a.Base = b.Base) (Sure.none rfl) rfl (V.move rfl rfl) (fun hc112 => ?_) (fun hc112 => ?_)
  rotate_left
  · refine WL.skips [(52, some false)] [(4, some false)] (kc (some false) rfl kn) (by kernel_rfl) (fun E198 hK199 hE200 => ?_)
    refine WP.ret ?_
    refine resOf.c1 rfl (v := .bool (false)) (hK199 4 (some false) rfl) ?_
    exact ⟨(bool_eq (by first | assumption | grind [samePeerB])), ((hx103).done (geCons hge_b81_w (geCons hge_b63_w geNil)))⟩
  refine WL.fy (.int .u64 (a.BaseTerm)) rfl fl29_7 rfl p23 (hb105.cell rfl) ?_
  refine WL.fy (.int .u64 (b.BaseTerm)) rfl fl29_7 rfl p23 (hb106.cell rfl) ?_
  refine WL.y (.bool (decide (a.BaseTerm = b.BaseTerm))) rfl (V.cmp rfl rfl rfl rfl) ?_
  refine WL.k (a := true) rfl rfl ?_
  refine WL.vbp (c := a.BaseTerm = b.BaseTerm) (Sure.none rfl) rfl (V.move rfl rfl) (fun hc113 => ?_) (fun hc113 => ?_)
  rotate_left
  · refine WL.skips [(59, some false)] [(4, some false)] (kc (some false) rfl kn) (by kernel_rfl) (fun E195 hK196 hE197 => ?_)
    refine WP.ret ?_
    refine resOf.c1 rfl (v := .bool (false)) (hK196 4 (some false) rfl) ?_
    exact ⟨(bool_eq (by first | assumption | grind [samePeerB])), ((hx103).done (geCons hge_b81_w (geCons hge_b63_w geNil)))⟩
  refine WL.fy (v3) rfl fl29_8 rfl p22 (hb105.cell rfl) ?_
  refine WL.fy (v34) rfl fl29_8 rfl p22 (hb106.cell rfl) ?_
  refine WL.c (Sure.yes rfl rfl rfl) rfl (C.call2 rfl cl51 rfl rfl) (Fnc.mono (sl_equal_int (hl88.ext (Ext.pre hx104)) (hl94.ext (Ext.pre hx104))) ?_)
  rintro _ w114 ⟨rfl, hx115⟩
  have hx116 : Ext [b81, b63] w w114 := hx103.trans (Ext.any (Y := [b81, b63]) hx115)
  have hx117 : Ext [b81, b63] w82 w114 := hx104.trans (Ext.any (Y := [b81, b63]) hx115)
  have hb119 := hb105.ext hx115 (by simp)
  have hb120 := hb106.ext hx115 (by simp)
  refine WL.k (a := true) rfl rfl ?_
  refine WL.vb (c := eqB ieq a.BaseMembers b.BaseMembers) (Sure.none rfl) rfl (V.move rfl rfl) (fun hc121 => ?_) (fun hc121 => ?_)
  rotate_left
  · refine WL.skips [(66, some false)] [(4, some false)] (kc (some false) rfl kn) (by kernel_rfl) (fun E192 hK193 hE194 => ?_)
    refine WP.ret ?_
    refine resOf.c1 rfl (v := .bool (false)) (hK193 4 (some false) rfl) ?_
    exact ⟨(bool_eq (by first | assumption | grind [samePeerB])), ((hx116).done (geCons hge_b81_w (geCons hge_b63_w geNil)))⟩
  refine WL.fy (.string (a.Snap)) rfl fl29_9 rfl p9 (hb119.cell rfl) ?_
  refine WL.fy (.string (b.Snap)) rfl fl29_9 rfl p9 (hb120.cell rfl) ?_
  refine WL.y (.bool (seqB a.Snap b.Snap)) rfl (V.scmp rfl rfl rfl rfl) ?_
  refine WL.k (a := true) rfl rfl ?_
  refine WL.vb (c := seqB a.Snap b.Snap) (Sure.none rfl) rfl (V.move rfl rfl) (fun hc122 => ?_) (fun hc122 => ?_)
  rotate_left
  · refine WL.skips [(73, some false)] [(4, some false)] (kc (some false) rfl kn) (by kernel_rfl) (fun E189 hK190 hE191 => ?_)
    refine WP.ret ?_
    refine resOf.c1 rfl (v := .bool (false)) (hK190 4 (some false) rfl) ?_
    exact ⟨(bool_eq (by first | assumption | grind [samePeerB])), ((hx116).done (geCons hge_b81_w (geCons hge_b63_w geNil)))⟩
  refine WL.fy (v5) rfl fl29_10 rfl p25 (hb119.cell rfl) ?_
  refine WL.fy (v36) rfl fl29_10 rfl p25 (hb120.cell rfl) ?_
  refine WL.c (Sure.yes rfl rfl rfl) rfl (C.call3 rfl cl52 rfl rfl rfl) (Fnc.mono (sl_equalFunc_entry (hl89.ext (Ext.pre hx117)) (hl95.ext (Ext.pre hx117))) ?_)
  rintro _ w123 ⟨rfl, hx124⟩
  have hx125 : Ext [b81, b63] w w123 := hx116.trans (Ext.any (Y := [b81, b63]) hx124)
  have hx126 : Ext [b81, b63] w82 w123 := hx117.trans (Ext.any (Y := [b81, b63]) hx124)
  have hb129 := hb119.ext hx124 (by simp)
  have hb130 := hb120.ext hx124 (by simp)
  refine WL.k (a := true) rfl rfl ?_
  refine WL.vb (c := eqB sameEntB a.Log b.Log) (Sure.none rfl) rfl (V.move rfl rfl) (fun hc131 => ?_) (fun hc131 => ?_)
  rotate_left
  · refine WL.skips [(80, some false)] [(4, some false)] (kc (some false) rfl kn) (by kernel_rfl) (fun E186 hK187 hE188 => ?_)
    refine WP.ret ?_
    refine resOf.c1 rfl (v := .bool (false)) (hK187 4 (some false) rfl) ?_
    exact ⟨(bool_eq (by first | assumption | grind [samePeerB])), ((hx125).done (geCons hge_b81_w (geCons hge_b63_w geNil)))⟩
  refine WL.fy (.int .u64 (a.Commit)) rfl fl29_11 rfl p23 (hb129.cell rfl) ?_
  refine WL.fy (.int .u64 (b.Commit)) rfl fl29_11 rfl p23 (hb130.cell rfl) ?_
  refine WL.y (.bool (decide (a.Commit = b.Commit))) rfl (V.cmp rfl rfl rfl rfl) ?_
  refine WL.k (a := true) rfl rfl ?_
  refine WL.vbp (c := a.Commit = b.Commit) (Sure.none rfl) rfl (V.move rfl rfl) (fun hc132 => ?_) (fun hc132 => ?_)
  rotate_left
  · refine WL.skips [(87, some false)] [(4, some false)] (kc (some false) rfl kn) (by kernel_rfl) (fun E183 hK184 hE185 => ?_)
    refine WP.ret ?_
    refine resOf.c1 rfl (v := .bool (false)) (hK184 4 (some false) rfl) ?_
    exact ⟨(bool_eq (by first | assumption | grind [samePeerB])), ((hx125).done (geCons hge_b81_w (geCons hge_b63_w geNil)))⟩
  refine WL.fy (.int .i64 (a.Idle)) rfl fl29_12 rfl p3 (hb129.cell rfl) ?_
  refine WL.fy (.int .i64 (b.Idle)) rfl fl29_12 rfl p3 (hb130.cell rfl) ?_
  refine WL.y (.bool (decide (a.Idle = b.Idle))) rfl (V.cmp rfl rfl rfl rfl) ?_
  refine WL.k (a := true) rfl rfl ?_
  refine WL.vbp (c := a.Idle = b.Idle) (Sure.none rfl) rfl (V.move rfl rfl) (fun hc133 => ?_) (fun hc133 => ?_)
  rotate_left
  · refine WL.skips [(94, some false)] [(4, some false)] (kc (some false) rfl kn) (by kernel_rfl) (fun E180 hK181 hE182 => ?_)
    refine WP.ret ?_
    refine resOf.c1 rfl (v := .bool (false)) (hK181 4 (some false) rfl) ?_
    exact ⟨(bool_eq (by first | assumption | grind [samePeerB])), ((hx125).done (geCons hge_b81_w (geCons hge_b63_w geNil)))⟩
  refine WL.fy (.int .i64 (a.Wait)) rfl fl29_13 rfl p3 (hb129.cell rfl) ?_
  refine WL.fy (.int .i64 (b.Wait)) rfl fl29_13 rfl p3 (hb130.cell rfl) ?_
  refine WL.y (.bool (decide (a.Wait = b.Wait))) rfl (V.cmp rfl rfl rfl rfl) ?_
  refine WL.k (a := true) rfl rfl ?_
  refine WL.vbp (c := a.Wait = b.Wait) (Sure.none rfl) rfl (V.move rfl rfl) (fun hc134 => ?_) (fun hc134 => ?_)
  rotate_left
  · refine WL.skips [(101, some false)] [(4, some false)] (kc (some false) rfl kn) (by kernel_rfl) (fun E177 hK178 hE179 => ?_)
    refine WP.ret ?_
    refine resOf.c1 rfl (v := .bool (false)) (hK178 4 (some false) rfl) ?_
    exact ⟨(bool_eq (by first | assumption | grind [samePeerB])), ((hx125).done (geCons hge_b81_w (geCons hge_b63_w geNil)))⟩
  refine WL.fy (v7) rfl fl29_14 rfl p22 (hb129.cell rfl) ?_
  refine WL.fy (v38) rfl fl29_14 rfl p22 (hb130.cell rfl) ?_
  refine WL.c (Sure.yes rfl rfl rfl) rfl (C.call2 rfl cl51 rfl rfl) (Fnc.mono (sl_equal_int (hl90.ext (Ext.pre hx126)) (hl96.ext (Ext.pre hx126))) ?_)
  rintro _ w135 ⟨rfl, hx136⟩
  have hx137 : Ext [b81, b63] w w135 := hx125.trans (Ext.any (Y := [b81, b63]) hx136)
  have hx138 : Ext [b81, b63] w82 w135 := hx126.trans (Ext.any (Y := [b81, b63]) hx136)
  have hb142 := hb129.ext hx136 (by simp)
  have hb143 := hb130.ext hx136 (by simp)
  refine WL.k (a := true) rfl rfl ?_
  refine WL.vb (c := eqB ieq a.Votes b.Votes) (Sure.none rfl) rfl (V.move rfl rfl) (fun hc144 => ?_) (fun hc144 => ?_)
  rotate_left
  · refine WL.skips [(108, some false)] [(4, some false)] (kc (some false) rfl kn) (by kernel_rfl) (fun E174 hK175 hE176 => ?_)
    refine WP.ret ?_
    refine resOf.c1 rfl (v := .bool (false)) (hK175 4 (some false) rfl) ?_
    exact ⟨(bool_eq (by first | assumption | grind [samePeerB])), ((hx137).done (geCons hge_b81_w (geCons hge_b63_w geNil)))⟩
  refine WL.fy (v9) rfl fl29_15 rfl p26 (hb142.cell rfl) ?_
  refine WL.fy (v40) rfl fl29_15 rfl p26 (hb143.cell rfl) ?_
  refine WL.c (Sure.yes rfl rfl rfl) rfl (C.call2 rfl cl54 rfl rfl) (Fnc.mono (sl_equal_follow (hl91.ext (Ext.pre hx138)) (hl97.ext (Ext.pre hx138))) ?_)
  rintro _ w145 ⟨rfl, hx146⟩
  have hx147 : Ext [b81, b63] w w145 := hx137.trans (Ext.any (Y := [b81, b63]) hx146)
  have hx148 : Ext [b81, b63] w82 w145 := hx138.trans (Ext.any (Y := [b81, b63]) hx146)
  have hb153 := hb142.ext hx146 (by simp)
  have hb154 := hb143.ext hx146 (by simp)
  refine WL.k (a := true) rfl rfl ?_
  refine WL.vb (c := eqB sameFolB a.Follows b.Follows) (Sure.none rfl) rfl (V.move rfl rfl) (fun hc155 => ?_) (fun hc155 => ?_)
  rotate_left
  · refine WL.skips [(115, some false)] [(4, some false)] (kc (some false) rfl kn) (by kernel_rfl) (fun E171 hK172 hE173 => ?_)
    refine WP.ret ?_
    refine resOf.c1 rfl (v := .bool (false)) (hK172 4 (some false) rfl) ?_
    exact ⟨(bool_eq (by first | assumption | grind [samePeerB])), ((hx147).done (geCons hge_b81_w (geCons hge_b63_w geNil)))⟩
  refine WL.fy (.int .u64 (a.Round)) rfl fl29_16 rfl p23 (hb153.cell rfl) ?_
  refine WL.fy (.int .u64 (b.Round)) rfl fl29_16 rfl p23 (hb154.cell rfl) ?_
  refine WL.y (.bool (decide (a.Round = b.Round))) rfl (V.cmp rfl rfl rfl rfl) ?_
  refine WL.k (a := true) rfl rfl ?_
  refine WL.vbp (c := a.Round = b.Round) (Sure.none rfl) rfl (V.move rfl rfl) (fun hc156 => ?_) (fun hc156 => ?_)
  rotate_left
  · refine WL.skips [(122, some false)] [(4, some false)] (kc (some false) rfl kn) (by kernel_rfl) (fun E168 hK169 hE170 => ?_)
    refine WP.ret ?_
    refine resOf.c1 rfl (v := .bool (false)) (hK169 4 (some false) rfl) ?_
    exact ⟨(bool_eq (by first | assumption | grind [samePeerB])), ((hx147).done (geCons hge_b81_w (geCons hge_b63_w geNil)))⟩
  refine WL.fy (v11) rfl fl29_17 rfl p27 (hb153.cell rfl) ?_
  refine WL.fy (v42) rfl fl29_17 rfl p27 (hb154.cell rfl) ?_
  refine WL.c (Sure.yes rfl rfl rfl) rfl (C.call3 rfl cl55 rfl rfl rfl) (Fnc.mono (sl_equalFunc_read (hl92.ext (Ext.pre hx148)) (hl98.ext (Ext.pre hx148))) ?_)
  rintro _ w157 ⟨rfl, hx158⟩
  have hx159 : Ext [b81, b63] w w157 := hx147.trans (Ext.any (Y := [b81, b63]) hx158)
  refine WL.k (a := true) rfl rfl ?_
  refine WL.m rfl ?_
  refine WL.nil ?_
  refine WP.ret ?_
  refine resOf.c1 rfl (v := .bool (eqB sameReadB a.Reads b.Reads)) rfl ?_
  exact ⟨(bool_eq (by first | assumption | grind [samePeerB])), ((hx159).done (geCons hge_b81_w (geCons hge_b63_w geNil)))⟩

end Go.Proofs.Ytbpamkbegggeoaa.T
