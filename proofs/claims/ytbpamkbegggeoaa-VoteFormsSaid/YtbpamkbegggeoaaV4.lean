import Derived.Test.YtbpamkbegggeoaaV3
namespace Go.Proofs.Ytbpamkbegggeoaa.T
open W Go.RowKit
set_option maxRecDepth 100000
set_option maxHeartbeats 400000

theorem vote_sameEntry {w : World} {X : List Nat} {a : EntryD} {c_a : List Value} (h_a : entryR.rd X w c_a a) {b : EntryD} {c_b : List Value} (h_b : entryR.rd X w c_b b) : Fnc Try.prog 53 #[.agg c_a.toArray, .agg c_b.toArray] w (fun v w' => v = .bool (sameEntB a b) ∧ Ext [] w w') := by
  obtain ⟨v1, rfl, hl2, hk3⟩ := h_a
  obtain ⟨hin4, hin5, hin6⟩ := (show EntryD.InR a from hk3)
  have hin4 := inK_u64 hin4
  have hin5 := inK_u8 hin5
  have hle7 := hl2.le'
  obtain ⟨v8, rfl, hl9, hk10⟩ := h_b
  obtain ⟨hin11, hin12, hin13⟩ := (show EntryD.InR b from hk10)
  have hin11 := inK_u64 hin11
  have hin12 := inK_u8 hin12
  have hle14 := hl9.le'
  refine Fnc.of_WP (n := 31) Try.func53 rfl Try.ntmps53 (by simp) ?_
  intro E hE
  have h0 : E 0 = .agg #[.int .u64 (a.Term), .int .u8 (a.Kind), .string (a.Data), v1] := hE 0 (by simp)
  have h1 : E 1 = .agg #[.int .u64 (b.Term), .int .u8 (b.Kind), .string (b.Data), v8] := hE 1 (by simp)
  clear hE
  refine WP.sr ?_
  refine WL.box (x := .tmp 0) (cs := [.int .u64 (a.Term), .int .u8 (a.Kind), .string (a.Data), v1]) (Sure.none rfl) rfl rfl h0 rfl (fun b15 w16 hx17 he18 hb19 => ?_)
  have hl20 := (Sl.new (b := b15) (by show (1 : Nat) ≠ 0; decide) hl2 (by omega)).ext (Ext.any hx17)
  have hl21 := (Sl.new (b := b15) (by show (1 : Nat) ≠ 0; decide) hl9 (by omega)).ext (Ext.any hx17)
  have hx22 : Ext [b15] _ _ := (Ext.refl _ _).trans (Ext.any hx17)
  have hge_b15_w : w.heap.size ≤ b15 := by have := Nat.le_refl w.heap.size; omega
  refine WL.box (x := .tmp 1) (cs := [.int .u64 (b.Term), .int .u8 (b.Kind), .string (b.Data), v8]) (Sure.none rfl) rfl rfl h1 rfl (fun b23 w24 hx25 he26 hb27 => ?_)
  have hlt_b15_b23 : b15 < b23 := by have := hb19.lt; omega
  have hb28 := hb19.ext hx25 (by simp)
  have hl29 := (Sl.new (b := b23) (by show (1 : Nat) ≠ 0; decide) hl20 (by omega)).ext (Ext.any hx25)
  have hl30 := (Sl.new (b := b23) (by show (1 : Nat) ≠ 0; decide) hl21 (by omega)).ext (Ext.any hx25)
  have hx31 : Ext [b23, b15] _ _ := (Ext.cons hx22).trans (Ext.any hx25)
  have hge_b23_w : w.heap.size ≤ b23 := by have := hx22.size; omega
  refine WL.m rfl ?_
  refine WL.nil ?_
  refine WP.sr ?_
  refine WL.f (.int .u64 (a.Term)) fl90_0 rfl p23 (hb28.cell rfl) ?_
  refine WL.f (.int .u64 (b.Term)) fl90_0 rfl p23 (hb27.cell rfl) ?_
  refine WL.z (.bool (decide (a.Term = b.Term))) (V.cmp rfl rfl rfl rfl) ?_
  refine WL.vbp (c := a.Term = b.Term) (Sure.none rfl) rfl (V.move rfl rfl) (fun hc32 => ?_) (fun hc32 => ?_)
  rotate_left
  · refine WL.skips [(10, some false)] [(4, some false)] (kc (some false) rfl kn) (by kernel_rfl) (fun E47 hK48 hE49 => ?_)
    refine WP.ret ?_
    refine resOf.c1 rfl (v := .bool (false)) (hK48 4 (some false) rfl) ?_
    exact ⟨(bool_eq (by first | assumption | grind [sameEntB])), ((hx31).done (geCons hge_b23_w (geCons hge_b15_w geNil)))⟩
  refine WL.fy (.int .u8 (a.Kind)) rfl fl90_1 rfl p88 (hb28.cell rfl) ?_
  refine WL.fy (.int .u8 (b.Kind)) rfl fl90_1 rfl p88 (hb27.cell rfl) ?_
  refine WL.y (.bool (decide (a.Kind = b.Kind))) rfl (V.cmp rfl rfl rfl rfl) ?_
  refine WL.k (a := true) rfl rfl ?_
  refine WL.vbp (c := a.Kind = b.Kind) (Sure.none rfl) rfl (V.move rfl rfl) (fun hc33 => ?_) (fun hc33 => ?_)
  rotate_left
  · refine WL.skips [(17, some false)] [(4, some false)] (kc (some false) rfl kn) (by kernel_rfl) (fun E44 hK45 hE46 => ?_)
    refine WP.ret ?_
    refine resOf.c1 rfl (v := .bool (false)) (hK45 4 (some false) rfl) ?_
    exact ⟨(bool_eq (by first | assumption | grind [sameEntB])), ((hx31).done (geCons hge_b23_w (geCons hge_b15_w geNil)))⟩
  refine WL.fy (.string (a.Data)) rfl fl90_2 rfl p9 (hb28.cell rfl) ?_
  refine WL.fy (.string (b.Data)) rfl fl90_2 rfl p9 (hb27.cell rfl) ?_
  refine WL.y (.bool (seqB a.Data b.Data)) rfl (V.scmp rfl rfl rfl rfl) ?_
  refine WL.k (a := true) rfl rfl ?_
  refine WL.vb (c := seqB a.Data b.Data) (Sure.none rfl) rfl (V.move rfl rfl) (fun hc34 => ?_) (fun hc34 => ?_)
  rotate_left
  · refine WL.skips [(24, some false)] [(4, some false)] (kc (some false) rfl kn) (by kernel_rfl) (fun E41 hK42 hE43 => ?_)
    refine WP.ret ?_
    refine resOf.c1 rfl (v := .bool (false)) (hK42 4 (some false) rfl) ?_
    exact ⟨(bool_eq (by first | assumption | grind [sameEntB])), ((hx31).done (geCons hge_b23_w (geCons hge_b15_w geNil)))⟩
  refine WL.fy (v1) rfl fl90_3 rfl p22 (hb28.cell rfl) ?_
  refine WL.fy (v8) rfl fl90_3 rfl p22 (hb27.cell rfl) ?_
  refine WL.c (Sure.yes rfl rfl rfl) rfl (C.call2 rfl cl51 rfl rfl) (Fnc.mono (sl_equal_int hl29 hl30) ?_)
  rintro _ w35 ⟨rfl, hx36⟩
  have hx37 : Ext [b23, b15] w w35 := hx31.trans (Ext.any (Y := [b23, b15]) hx36)
  refine WL.k (a := true) rfl rfl ?_
  refine WL.m rfl ?_
  refine WL.nil ?_
  refine WP.ret ?_
  refine resOf.c1 rfl (v := .bool (eqB ieq a.Members b.Members)) rfl ?_
  exact ⟨(bool_eq (by first | assumption | grind [sameEntB])), ((hx37).done (geCons hge_b23_w (geCons hge_b15_w geNil)))⟩

theorem vote_sameRead {w : World} {X : List Nat} {a : ReadD} {c_a : List Value} (h_a : readR.rd X w c_a a) {b : ReadD} {c_b : List Value} (h_b : readR.rd X w c_b b) : Fnc Try.prog 56 #[.agg c_a.toArray, .agg c_b.toArray] w (fun v w' => v = .bool (sameReadB a b) ∧ Ext [] w w') := by
  obtain ⟨v1, rfl, hl2, hk3⟩ := h_a
  obtain ⟨hin4, hin5⟩ := (show ReadD.InR a from hk3)
  have hin4 := inK_u64 hin4
  have hin5 := inK_u64 hin5
  have hle6 := hl2.le'
  obtain ⟨v7, rfl, hl8, hk9⟩ := h_b
  obtain ⟨hin10, hin11⟩ := (show ReadD.InR b from hk9)
  have hin10 := inK_u64 hin10
  have hin11 := inK_u64 hin11
  have hle12 := hl8.le'
  refine Fnc.of_WP (n := 24) Try.func56 rfl Try.ntmps56 (by simp) ?_
  intro E hE
  have h0 : E 0 = .agg #[.int .u64 (a.Round), .int .u64 (a.Index), v1] := hE 0 (by simp)
  have h1 : E 1 = .agg #[.int .u64 (b.Round), .int .u64 (b.Index), v7] := hE 1 (by simp)
  clear hE
  refine WP.sr ?_
  refine WL.box (x := .tmp 0) (cs := [.int .u64 (a.Round), .int .u64 (a.Index), v1]) (Sure.none rfl) rfl rfl h0 rfl (fun b13 w14 hx15 he16 hb17 => ?_)
  have hl18 := (Sl.new (b := b13) (by show (1 : Nat) ≠ 0; decide) hl2 (by omega)).ext (Ext.any hx15)
  have hl19 := (Sl.new (b := b13) (by show (1 : Nat) ≠ 0; decide) hl8 (by omega)).ext (Ext.any hx15)
  have hx20 : Ext [b13] _ _ := (Ext.refl _ _).trans (Ext.any hx15)
  have hge_b13_w : w.heap.size ≤ b13 := by have := Nat.le_refl w.heap.size; omega
  refine WL.box (x := .tmp 1) (cs := [.int .u64 (b.Round), .int .u64 (b.Index), v7]) (Sure.none rfl) rfl rfl h1 rfl (fun b21 w22 hx23 he24 hb25 => ?_)
  have hlt_b13_b21 : b13 < b21 := by have := hb17.lt; omega
  have hb26 := hb17.ext hx23 (by simp)
  have hl27 := (Sl.new (b := b21) (by show (1 : Nat) ≠ 0; decide) hl18 (by omega)).ext (Ext.any hx23)
  have hl28 := (Sl.new (b := b21) (by show (1 : Nat) ≠ 0; decide) hl19 (by omega)).ext (Ext.any hx23)
  have hx29 : Ext [b21, b13] _ _ := (Ext.cons hx20).trans (Ext.any hx23)
  have hge_b21_w : w.heap.size ≤ b21 := by have := hx20.size; omega
  refine WL.m rfl ?_
  refine WL.nil ?_
  refine WP.sr ?_
  refine WL.f (.int .u64 (a.Round)) fl95_0 rfl p23 (hb26.cell rfl) ?_
  refine WL.f (.int .u64 (b.Round)) fl95_0 rfl p23 (hb25.cell rfl) ?_
  refine WL.z (.bool (decide (a.Round = b.Round))) (V.cmp rfl rfl rfl rfl) ?_
  refine WL.vbp (c := a.Round = b.Round) (Sure.none rfl) rfl (V.move rfl rfl) (fun hc30 => ?_) (fun hc30 => ?_)
  rotate_left
  · refine WL.skips [(10, some false)] [(4, some false)] (kc (some false) rfl kn) (by kernel_rfl) (fun E41 hK42 hE43 => ?_)
    refine WP.ret ?_
    refine resOf.c1 rfl (v := .bool (false)) (hK42 4 (some false) rfl) ?_
    exact ⟨(bool_eq (by first | assumption | grind [sameReadB])), ((hx29).done (geCons hge_b21_w (geCons hge_b13_w geNil)))⟩
  refine WL.fy (.int .u64 (a.Index)) rfl fl95_1 rfl p23 (hb26.cell rfl) ?_
  refine WL.fy (.int .u64 (b.Index)) rfl fl95_1 rfl p23 (hb25.cell rfl) ?_
  refine WL.y (.bool (decide (a.Index = b.Index))) rfl (V.cmp rfl rfl rfl rfl) ?_
  refine WL.k (a := true) rfl rfl ?_
  refine WL.vbp (c := a.Index = b.Index) (Sure.none rfl) rfl (V.move rfl rfl) (fun hc31 => ?_) (fun hc31 => ?_)
  rotate_left
  · refine WL.skips [(17, some false)] [(4, some false)] (kc (some false) rfl kn) (by kernel_rfl) (fun E38 hK39 hE40 => ?_)
    refine WP.ret ?_
    refine resOf.c1 rfl (v := .bool (false)) (hK39 4 (some false) rfl) ?_
    exact ⟨(bool_eq (by first | assumption | grind [sameReadB])), ((hx29).done (geCons hge_b21_w (geCons hge_b13_w geNil)))⟩
  refine WL.fy (v1) rfl fl95_2 rfl p22 (hb26.cell rfl) ?_
  refine WL.fy (v7) rfl fl95_2 rfl p22 (hb25.cell rfl) ?_
  refine WL.c (Sure.yes rfl rfl rfl) rfl (C.call2 rfl cl51 rfl rfl) (Fnc.mono (sl_equal_int hl27 hl28) ?_)
  rintro _ w32 ⟨rfl, hx33⟩
  have hx34 : Ext [b21, b13] w w32 := hx29.trans (Ext.any (Y := [b21, b13]) hx33)
  refine WL.k (a := true) rfl rfl ?_
  refine WL.m rfl ?_
  refine WL.nil ?_
  refine WP.ret ?_
  refine resOf.c1 rfl (v := .bool (eqB ieq a.Acks b.Acks)) rfl ?_
  exact ⟨(bool_eq (by first | assumption | grind [sameReadB])), ((hx34).done (geCons hge_b21_w (geCons hge_b13_w geNil)))⟩

theorem sl_equal_follow {w : World} {X : List Nat} {v_xs : Value} {xs : List FollowD} (h_xs : Sl followR X w v_xs xs) {v_ys : Value} {ys : List FollowD} (h_ys : Sl followR X w v_ys ys) : Fnc Try.prog 54 #[v_xs, v_ys] w (fun v w' => v = .bool (eqB sameFolB xs ys) ∧ Ext [] w w') := by
  have hle_xs := h_xs.le'
  have hle_ys := h_ys.le'
  refine Fnc.of_WP (n := 26) Try.func54 rfl Try.ntmps54 (by simp) ?_
  intro E hE
  have h0 : E 0 = v_xs := hE 0 (by simp)
  have h1 : E 1 = v_ys := hE 1 (by simp)
  clear hE
  refine WP.sr ?_
  refine WL.m rfl ?_
  refine WL.nil ?_
  refine WP.seq ?_
  refine WP.sr ?_
  refine WL.m rfl ?_
  obtain ⟨a1, c2, hv3⟩ := h_xs.shape
  refine WL.z (.int .i64 (((xs).length : Int))) (V.lenSlice (x := .tmp 6) rfl rfl u26 (Eq.trans (b := v_xs) h0 hv3)) ?_
  refine WL.m rfl ?_
  obtain ⟨a4, c5, hv6⟩ := h_ys.shape
  refine WL.z (.int .i64 (((ys).length : Int))) (V.lenSlice (x := .tmp 8) rfl rfl u26 (Eq.trans (b := v_ys) h1 hv6)) ?_
  refine WL.z (.bool (decide (((xs).length : Int) ≠ ((ys).length : Int)))) (V.cmp rfl rfl rfl rfl) ?_
  refine WL.nil ?_
  refine WP.condp (t := ((xs).length : Int) ≠ ((ys).length : Int)) rfl (fun hc7 => ?_) (fun hc7 => ?_)
  · refine WP.sr ?_
    refine WL.m rfl ?_
    refine WL.nil ?_
    refine WP.ret ?_
    refine resOf.c1 rfl (v := .bool (false)) rfl ?_
    exact ⟨(bool_eq (by first | (exact (eqB_len (by omega)).symm) | (exact (eqB_true (by omega) (by assumption) (by omega)).symm) | (exact (eqB_false (by omega) (by omega) (by first | assumption | grind [sameFolB])).symm))), Ext.refl _ _⟩
  refine WP.skip ?_
  refine WP.seq ?_
  refine WP.sr ?_
  refine WL.m rfl ?_
  refine WL.z (.int .i64 (((xs).length : Int))) (V.lenSlice (x := .tmp 11) rfl rfl u26 (Eq.trans (b := v_xs) h0 hv3)) ?_
  refine WL.m rfl ?_
  refine WL.nil ?_
  refine WP.block ?_
  refine WP.loop (σ := Nat) (fun k E8 w9 => E8 0 = v_xs ∧ E8 1 = v_ys ∧ E8 6 = v_xs ∧ E8 7 = .int .i64 (((xs).length : Int)) ∧ E8 8 = v_ys ∧ E8 9 = .int .i64 (((ys).length : Int)) ∧ E8 10 = .bool (decide (((xs).length : Int) ≠ ((ys).length : Int))) ∧ E8 11 = v_xs ∧ E8 12 = .int .i64 (((xs).length : Int)) ∧ E8 13 = .int .i64 ((k : Int)) ∧ Ext [] w w9 ∧ k ≤ xs.length ∧ ∀ j, j < k → (fun i => sameFolB (xs.getD i default) (ys.getD i default)) j = true) (fun k => xs.length - k) (0) ?_ ?_
  · exact ⟨h0, h1, h0, rfl, h1, rfl, rfl, h0, rfl, (int_eq (by omega)), Ext.refl _ _, (by omega), (all_zero _)⟩
  rintro k E8 w9 ⟨h0_10, h1_10, h6_10, h7_10, h8_10, h9_10, h10_10, h11_10, h12_10, h13_10, hx10, hi0_10, hi1_10⟩
  have hx11 : Ext [] w w9 := hx10
  refine WP.sr ?_
  refine WL.z (.bool (decide ((k : Int) < ((xs).length : Int)))) (V.cmp (x := .tmp 13) (y := .tmp 12) rfl h13_10 h12_10 rfl) ?_
  refine WL.nil ?_
  refine WP.seq ?_
  refine WP.condp (t := (k : Int) < ((xs).length : Int)) rfl (fun hc12 => ?_) (fun hc12 => ?_)
  rotate_left
  · refine WP.exit ?_
    refine WP.sr ?_
    refine WL.m rfl ?_
    refine WL.nil ?_
    refine WP.ret ?_
    refine resOf.c1 rfl (v := .bool (true)) rfl ?_
    exact ⟨(bool_eq (by first | (exact (eqB_len (by omega)).symm) | (exact (eqB_true (by omega) (by assumption) (by omega)).symm) | (exact (eqB_false (by omega) (by omega) (by first | assumption | grind [sameFolB])).symm))), hx11⟩
  refine WP.skip ?_
  refine WP.seq ?_
  refine WP.block ?_
  refine WP.sr ?_
  refine WL.m rfl ?_
  refine WL.m rfl ?_
  refine WL.nil ?_
  refine WP.seq ?_
  refine WP.quiet mo (by kernel_rfl) ?_
  refine WQ.m rfl ?_
  refine WQ.m rfl ?_
  have hlt21 : k < (xs).length := by first | omega | (simp at *; omega)
  obtain ⟨b13, k14, c15, cs16, hv17, hnb18, hr19, hat20⟩ := (h_xs.ext (Ext.pre hx11)).get (i := k) (x := (xs.getD k default)) (getD_some hlt21 _)
  obtain ⟨rfl, hk22⟩ := hr19
  obtain ⟨hin23, hin24, hin25⟩ := (show FollowD.InR (xs.getD k default) from hk22)
  have hin23 := inK_i64 hin23
  have hin24 := inK_u64 hin24
  have hin25 := inK_u64 hin25
  refine WQ.z (.pointer (some ⟨b13, k14 + k * 3, none⟩)) (fun w' hw => V.indexAddr (x := .tmp 16) (i := .tmp 17) (m := k) (j := (k : Int)) rfl u26 s85 (Eq.trans (b := v_xs) h0_10 hv17) h13_10 rfl hlt21) ?_
  refine WQ.z (.agg #[.int .i64 ((xs.getD k default).Id), .int .u64 ((xs.getD k default).Next), .int .u64 ((xs.getD k default).Match)]) (fun w' hw => V.loadAgg (cs := [.int .i64 ((xs.getD k default).Id), .int .u64 ((xs.getD k default).Next), .int .u64 ((xs.getD k default).Match)]) rfl a85 rfl (hat20.ext hw (by simp)) rfl) ?_
  refine WQ.m rfl ?_
  refine WQ.m rfl ?_
  have hlt34 : k < (ys).length := by first | omega | (simp at *; omega)
  obtain ⟨b26, k27, c28, cs29, hv30, hnb31, hr32, hat33⟩ := (h_ys.ext (Ext.pre hx11)).get (i := k) (x := (ys.getD k default)) (getD_some hlt34 _)
  obtain ⟨rfl, hk35⟩ := hr32
  obtain ⟨hin36, hin37, hin38⟩ := (show FollowD.InR (ys.getD k default) from hk35)
  have hin36 := inK_i64 hin36
  have hin37 := inK_u64 hin37
  have hin38 := inK_u64 hin38
  refine WQ.z (.pointer (some ⟨b26, k27 + k * 3, none⟩)) (fun w' hw => V.indexAddr (x := .tmp 20) (i := .tmp 21) (m := k) (j := (k : Int)) rfl u26 s85 (Eq.trans (b := v_ys) h1_10 hv30) h13_10 rfl hlt34) ?_
  refine WQ.z (.agg #[.int .i64 ((ys.getD k default).Id), .int .u64 ((ys.getD k default).Next), .int .u64 ((ys.getD k default).Match)]) (fun w' hw => V.loadAgg (cs := [.int .i64 ((ys.getD k default).Id), .int .u64 ((ys.getD k default).Next), .int .u64 ((ys.getD k default).Match)]) rfl a85 rfl (hat33.ext hw (by simp)) rfl) ?_
  refine WQ.z (.bool (!(decide (((xs.getD k default).Id) = ((ys.getD k default).Id)) && (decide (((xs.getD k default).Next) = ((ys.getD k default).Next)) && (decide (((xs.getD k default).Match) = ((ys.getD k default).Match)) && true))))) (fun w' hw => V.aeq [(.i64, ((xs.getD k default).Id), ((ys.getD k default).Id)), (.u64, ((xs.getD k default).Next), ((ys.getD k default).Next)), (.u64, ((xs.getD k default).Match), ((ys.getD k default).Match))] rfl (.inr ⟨rfl, rfl⟩) eg85 sh85 us85 fs85 rfl rfl ⟨rfl, u3, rfl, rfl, ⟨rfl, u23, rfl, rfl, ⟨rfl, u23, rfl, rfl, trivial⟩⟩⟩) ?_
  refine WQ.nil (fun w39 hq40 => ?_)
  have hx41 : Ext [] w w39 := hx11.trans hq40
  refine WP.condn (t := (decide (((xs.getD k default).Id) = ((ys.getD k default).Id)) && (decide (((xs.getD k default).Next) = ((ys.getD k default).Next)) && (decide (((xs.getD k default).Match) = ((ys.getD k default).Match)) && true)))) rfl (fun hc43 => ?_) (fun hc43 => ?_)
  · refine WP.sr ?_
    refine WL.m rfl ?_
    refine WL.nil ?_
    refine WP.ret ?_
    refine resOf.c1 rfl (v := .bool (false)) rfl ?_
    exact ⟨(bool_eq (by first | (exact (eqB_len (by omega)).symm) | (exact (eqB_true (by omega) (by assumption) (by omega)).symm) | (exact (eqB_false (by omega) (by omega) (by first | assumption | grind [sameFolB])).symm))), hx41⟩
  refine WP.skip ?_
  refine WP.region ?_
  refine WL.z (.int .i64 ((k : Int) + 1)) (V.arith (x := .tmp 13) rfl h13_10 rfl rfl (wrap_i64 (by omega) (by omega))) ?_
  refine WL.m rfl ?_
  refine WL.nil ?_
  exact ⟨k + 1, ⟨h0_10, h1_10, h6_10, h7_10, h8_10, h9_10, h10_10, h11_10, h12_10, (int_eq (by omega)), hx41, (by omega), (all_step (by assumption) (by first | assumption | grind [sameFolB]))⟩, (by omega)⟩

theorem sl_equalFunc_entry {w : World} {X : List Nat} {v_xs : Value} {xs : List EntryD} (h_xs : Sl entryR X w v_xs xs) {v_ys : Value} {ys : List EntryD} (h_ys : Sl entryR X w v_ys ys) : Fnc Try.prog 52 #[v_xs, v_ys, .func (.func 53) #[] #[]] w (fun v w' => v = .bool (eqB sameEntB xs ys) ∧ Ext [] w w') := by
  have hle_xs := h_xs.le'
  have hle_ys := h_ys.le'
  refine Fnc.of_WP (n := 32) Try.func52 rfl Try.ntmps52 (by simp) ?_
  intro E hE
  have h0 : E 0 = v_xs := hE 0 (by simp)
  have h1 : E 1 = v_ys := hE 1 (by simp)
  have h2 : E 2 = .func (.func 53) #[] #[] := hE 2 (by simp)
  clear hE
  refine WP.sr ?_
  refine WL.m rfl ?_
  refine WL.nil ?_
  refine WP.seq ?_
  refine WP.sr ?_
  refine WL.m rfl ?_
  obtain ⟨a1, c2, hv3⟩ := h_xs.shape
  refine WL.z (.int .i64 (((xs).length : Int))) (V.lenSlice (x := .tmp 10) rfl rfl u25 (Eq.trans (b := v_xs) h0 hv3)) ?_
  refine WL.m rfl ?_
  obtain ⟨a4, c5, hv6⟩ := h_ys.shape
  refine WL.z (.int .i64 (((ys).length : Int))) (V.lenSlice (x := .tmp 12) rfl rfl u25 (Eq.trans (b := v_ys) h1 hv6)) ?_
  refine WL.z (.bool (decide (((xs).length : Int) ≠ ((ys).length : Int)))) (V.cmp rfl rfl rfl rfl) ?_
  refine WL.nil ?_
  refine WP.condp (t := ((xs).length : Int) ≠ ((ys).length : Int)) rfl (fun hc7 => ?_) (fun hc7 => ?_)
  · refine WP.sr ?_
    refine WL.m rfl ?_
    refine WL.nil ?_
    refine WP.ret ?_
    refine resOf.c1 rfl (v := .bool (false)) rfl ?_
    exact ⟨(bool_eq (by first | (exact (eqB_len (by omega)).symm) | (exact (eqB_true (by omega) (by assumption) (by omega)).symm) | (exact (eqB_false (by omega) (by omega) (by assumption)).symm))), Ext.refl _ _⟩
  refine WP.skip ?_
  refine WP.seq ?_
  refine WP.sr ?_
  refine WL.m rfl ?_
  refine WL.z (.int .i64 (((xs).length : Int))) (V.lenSlice (x := .tmp 15) rfl rfl u25 (Eq.trans (b := v_xs) h0 hv3)) ?_
  refine WL.m rfl ?_
  refine WL.nil ?_
  refine WP.block ?_
  refine WP.loop (σ := Nat) (fun k E8 w9 => E8 0 = v_xs ∧ E8 1 = v_ys ∧ E8 2 = .func (.func 53) #[] #[] ∧ E8 10 = v_xs ∧ E8 11 = .int .i64 (((xs).length : Int)) ∧ E8 12 = v_ys ∧ E8 13 = .int .i64 (((ys).length : Int)) ∧ E8 14 = .bool (decide (((xs).length : Int) ≠ ((ys).length : Int))) ∧ E8 15 = v_xs ∧ E8 16 = .int .i64 (((xs).length : Int)) ∧ E8 17 = .int .i64 ((k : Int)) ∧ Ext [] w w9 ∧ k ≤ xs.length ∧ ∀ j, j < k → (fun i => sameEntB (xs.getD i default) (ys.getD i default)) j = true) (fun k => xs.length - k) (0) ?_ ?_
  · exact ⟨h0, h1, h2, h0, rfl, h1, rfl, rfl, h0, rfl, (int_eq (by omega)), Ext.refl _ _, (by omega), (all_zero _)⟩
  rintro k E8 w9 ⟨h0_10, h1_10, h2_10, h10_10, h11_10, h12_10, h13_10, h14_10, h15_10, h16_10, h17_10, hx10, hi0_10, hi1_10⟩
  have hx11 : Ext [] w w9 := hx10
  refine WP.sr ?_
  refine WL.z (.bool (decide ((k : Int) < ((xs).length : Int)))) (V.cmp (x := .tmp 17) (y := .tmp 16) rfl h17_10 h16_10 rfl) ?_
  refine WL.nil ?_
  refine WP.seq ?_
  refine WP.condp (t := (k : Int) < ((xs).length : Int)) rfl (fun hc12 => ?_) (fun hc12 => ?_)
  rotate_left
  · refine WP.exit ?_
    refine WP.sr ?_
    refine WL.m rfl ?_
    refine WL.nil ?_
    refine WP.ret ?_
    refine resOf.c1 rfl (v := .bool (true)) rfl ?_
    exact ⟨(bool_eq (by first | (exact (eqB_len (by omega)).symm) | (exact (eqB_true (by omega) (by assumption) (by omega)).symm) | (exact (eqB_false (by omega) (by omega) (by assumption)).symm))), hx11⟩
  refine WP.skip ?_
  refine WP.seq ?_
  refine WP.block ?_
  refine WP.sr ?_
  refine WL.m rfl ?_
  have hlt21 : k < (xs).length := by first | omega | (simp at *; omega)
  obtain ⟨b13, k14, c15, cs16, hv17, hnb18, hr19, hat20⟩ := (h_xs.ext (Ext.pre hx11)).get (i := k) (x := (xs.getD k default)) (getD_some hlt21 _)
  obtain ⟨v22, rfl, hl23, hk24⟩ := hr19
  obtain ⟨hin25, hin26, hin27⟩ := (show EntryD.InR (xs.getD k default) from hk24)
  have hin25 := inK_u64 hin25
  have hin26 := inK_u8 hin26
  have hle28 := hl23.le'
  refine WL.z (.pointer (some ⟨b13, k14 + k * 4, none⟩)) (V.indexAddr (x := .tmp 15) (i := .tmp 17) (m := k) (j := (k : Int)) rfl u25 s90 (Eq.trans (b := v_xs) h15_10 hv17) h17_10 rfl hlt21) ?_
  refine WL.z (.agg #[.int .u64 ((xs.getD k default).Term), .int .u8 ((xs.getD k default).Kind), .string ((xs.getD k default).Data), v22]) (V.loadAgg (cs := [.int .u64 ((xs.getD k default).Term), .int .u8 ((xs.getD k default).Kind), .string ((xs.getD k default).Data), v22]) rfl a90 rfl hat20 rfl) ?_
  refine WL.alloc (cs := [.int .u64 (0), .int .u8 (0), .string (ByteArray.mk #[]), .slice none 0 0]) (Sure.none rfl) rfl rfl z90 rfl (fun b29 w30 hx31 he32 hb33 => ?_)
  have hl35 := (Sl.new (b := b29) (by show (4 : Nat) ≠ 0; decide) (h_ys.ext (Ext.pre hx11)) (by omega)).ext (Ext.any hx31)
  have hl36 := (Sl.new (b := b29) (by show (1 : Nat) ≠ 0; decide) hl23 (by omega)).ext (Ext.any hx31)
  have hx37 : Ext [b29] _ _ := (Ext.cons hx11).trans (Ext.any hx31)
  have hge_b29_w : w.heap.size ≤ b29 := by have := hx11.size; omega
  refine WL.m rfl ?_
  refine WL.storeAgg (vs := [.int .u64 ((xs.getD k default).Term), .int .u8 ((xs.getD k default).Kind), .string ((xs.getD k default).Data), v22]) (Sure.none rfl) rfl rfl s90 rfl rfl rfl (by intro u hu; simp only [List.mem_cons, List.not_mem_nil, or_false] at hu; rcases hu with rfl | rfl | rfl | rfl <;> first | rfl | exact Sl.one (by assumption)) hb33 (by show (0 : Nat) + 4 ≤ 4; decide) (fun w38 hs39 hb40 => ?_)
  replace hb40 : Box w38 b29 90 [.int .u64 ((xs.getD k default).Term), .int .u8 ((xs.getD k default).Kind), .string ((xs.getD k default).Data), v22] := hb40
  have hx41 : Ext [b29] w w38 := hx37.trans (hs39.mono (by simp))
  have hx42 : Ext [b29] w30 w38 := (hs39.mono (by simp))
  refine WL.nil ?_
  refine WP.sr ?_
  refine WL.m rfl ?_
  refine WL.m rfl ?_
  have hlt51 : k < (ys).length := by first | omega | (simp at *; omega)
  obtain ⟨b43, k44, c45, cs46, hv47, hnb48, hr49, hat50⟩ := (hl35.ext (Ext.pre hx42)).get (i := k) (x := (ys.getD k default)) (getD_some hlt51 _)
  obtain ⟨v52, rfl, hl53, hk54⟩ := hr49
  obtain ⟨hin55, hin56, hin57⟩ := (show EntryD.InR (ys.getD k default) from hk54)
  have hin55 := inK_u64 hin55
  have hin56 := inK_u8 hin56
  have hle58 := hl53.le'
  refine WL.z (.pointer (some ⟨b43, k44 + k * 4, none⟩)) (V.indexAddr (x := .tmp 22) (i := .tmp 23) (m := k) (j := (k : Int)) rfl u25 s90 (Eq.trans (b := v_ys) h1_10 hv47) h17_10 rfl hlt51) ?_
  refine WL.z (.agg #[.int .u64 ((ys.getD k default).Term), .int .u8 ((ys.getD k default).Kind), .string ((ys.getD k default).Data), v52]) (V.loadAgg (cs := [.int .u64 ((ys.getD k default).Term), .int .u8 ((ys.getD k default).Kind), .string ((ys.getD k default).Data), v52]) rfl a90 rfl hat50 rfl) ?_
  refine WL.alloc (cs := [.int .u64 (0), .int .u8 (0), .string (ByteArray.mk #[]), .slice none 0 0]) (Sure.none rfl) rfl rfl z90 rfl (fun b59 w60 hx61 he62 hb63 => ?_)
  have hlt_b29_b59 : b29 < b59 := by have := hb40.lt; omega
  have hb64 := hb40.ext hx61 (by simp)
  have hl67 := (Sl.new (b := b59) (by show (1 : Nat) ≠ 0; decide) (hl36.ext (Ext.pre hx42)) (by omega)).ext (Ext.any hx61)
  have hl68 := (Sl.new (b := b59) (by show (1 : Nat) ≠ 0; decide) hl53 (by omega)).ext (Ext.any hx61)
  have hx69 : Ext [b59, b29] _ _ := (Ext.cons hx41).trans (Ext.any hx61)
  have hge_b59_w : w.heap.size ≤ b59 := by have := hx41.size; omega
  refine WL.storeAgg (vs := [.int .u64 ((ys.getD k default).Term), .int .u8 ((ys.getD k default).Kind), .string ((ys.getD k default).Data), v52]) (Sure.none rfl) rfl rfl s90 rfl rfl rfl (by intro u hu; simp only [List.mem_cons, List.not_mem_nil, or_false] at hu; rcases hu with rfl | rfl | rfl | rfl <;> first | rfl | exact Sl.one (by assumption)) hb63 (by show (0 : Nat) + 4 ≤ 4; decide) (fun w70 hs71 hb72 => ?_)
  replace hb72 : Box w70 b59 90 [.int .u64 ((ys.getD k default).Term), .int .u8 ((ys.getD k default).Kind), .string ((ys.getD k default).Data), v52] := hb72
  have hb73 := hb64.ext hs71 (by simp; omega)
  have hx74 : Ext [b59, b29] w w70 := hx69.trans (hs71.mono (by simp))
  have hx75 : Ext [b59, b29] w60 w70 := (hs71.mono (by simp))
  refine WL.nil ?_
  refine WP.sr ?_
  refine WL.m rfl ?_
  refine WL.z (.agg #[.int .u64 ((xs.getD k default).Term), .int .u8 ((xs.getD k default).Kind), .string ((xs.getD k default).Data), v22]) (V.loadAgg (cs := [.int .u64 ((xs.getD k default).Term), .int .u8 ((xs.getD k default).Kind), .string ((xs.getD k default).Data), v22]) rfl a90 rfl (At.box hb73) rfl) ?_
  refine WL.z (.agg #[.int .u64 ((ys.getD k default).Term), .int .u8 ((ys.getD k default).Kind), .string ((ys.getD k default).Data), v52]) (V.loadAgg (cs := [.int .u64 ((ys.getD k default).Term), .int .u8 ((ys.getD k default).Kind), .string ((ys.getD k default).Data), v52]) rfl a90 rfl (At.box hb72) rfl) ?_
  refine WL.c (Sure.none rfl) rfl (C.callv2 (g := .tmp 26) rfl h2_10 (by intro f' e; cases e) cl53 rfl rfl rfl) (Fnc.mono (vote_sameEntry (a := (xs.getD k default)) ⟨v22, rfl, (hl67.ext (Ext.pre hx75)), hk24⟩ (b := (ys.getD k default)) ⟨v52, rfl, (hl68.ext (Ext.pre hx75)), hk54⟩) ?_)
  rintro _ w76 ⟨rfl, hx77⟩
  have hx78 : Ext [b59, b29] w w76 := hx74.trans (Ext.any (Y := [b59, b29]) hx77)
  refine WL.z (.bool (!(sameEntB (xs.getD k default) (ys.getD k default)))) (V.not rfl rfl) ?_
  refine WL.nil ?_
  refine WP.condn (t := sameEntB (xs.getD k default) (ys.getD k default)) rfl (fun hc83 => ?_) (fun hc83 => ?_)
  · refine WP.sr ?_
    refine WL.m rfl ?_
    refine WL.nil ?_
    refine WP.ret ?_
    refine resOf.c1 rfl (v := .bool (false)) rfl ?_
    exact ⟨(bool_eq (by first | (exact (eqB_len (by omega)).symm) | (exact (eqB_true (by omega) (by assumption) (by omega)).symm) | (exact (eqB_false (by omega) (by omega) (by assumption)).symm))), ((hx78).done (geCons hge_b59_w (geCons hge_b29_w geNil)))⟩
  refine WP.skip ?_
  refine WP.region ?_
  refine WL.z (.int .i64 ((k : Int) + 1)) (V.arith (x := .tmp 17) rfl h17_10 rfl rfl (wrap_i64 (by omega) (by omega))) ?_
  refine WL.m rfl ?_
  refine WL.nil ?_
  exact ⟨k + 1, ⟨h0_10, h1_10, h2_10, h10_10, h11_10, h12_10, h13_10, h14_10, h15_10, h16_10, (int_eq (by omega)), (Ext.drop (Ext.drop hx78 hge_b59_w) hge_b29_w), (by omega), (all_step (by assumption) (by assumption))⟩, (by omega)⟩

theorem sl_equalFunc_read {w : World} {X : List Nat} {v_xs : Value} {xs : List ReadD} (h_xs : Sl readR X w v_xs xs) {v_ys : Value} {ys : List ReadD} (h_ys : Sl readR X w v_ys ys) : Fnc Try.prog 55 #[v_xs, v_ys, .func (.func 56) #[] #[]] w (fun v w' => v = .bool (eqB sameReadB xs ys) ∧ Ext [] w w') := by
  have hle_xs := h_xs.le'
  have hle_ys := h_ys.le'
  refine Fnc.of_WP (n := 32) Try.func55 rfl Try.ntmps55 (by simp) ?_
  intro E hE
  have h0 : E 0 = v_xs := hE 0 (by simp)
  have h1 : E 1 = v_ys := hE 1 (by simp)
  have h2 : E 2 = .func (.func 56) #[] #[] := hE 2 (by simp)
  clear hE
  refine WP.sr ?_
  refine WL.m rfl ?_
  refine WL.nil ?_
  refine WP.seq ?_
  refine WP.sr ?_
  refine WL.m rfl ?_
  obtain ⟨a1, c2, hv3⟩ := h_xs.shape
  refine WL.z (.int .i64 (((xs).length : Int))) (V.lenSlice (x := .tmp 10) rfl rfl u27 (Eq.trans (b := v_xs) h0 hv3)) ?_
  refine WL.m rfl ?_
  obtain ⟨a4, c5, hv6⟩ := h_ys.shape
  refine WL.z (.int .i64 (((ys).length : Int))) (V.lenSlice (x := .tmp 12) rfl rfl u27 (Eq.trans (b := v_ys) h1 hv6)) ?_
  refine WL.z (.bool (decide (((xs).length : Int) ≠ ((ys).length : Int)))) (V.cmp rfl rfl rfl rfl) ?_
  refine WL.nil ?_
  refine WP.condp (t := ((xs).length : Int) ≠ ((ys).length : Int)) rfl (fun hc7 => ?_) (fun hc7 => ?_)
  · refine WP.sr ?_
    refine WL.m rfl ?_
    refine WL.nil ?_
    refine WP.ret ?_
    refine resOf.c1 rfl (v := .bool (false)) rfl ?_
    exact ⟨(bool_eq (by first | (exact (eqB_len (by omega)).symm) | (exact (eqB_true (by omega) (by assumption) (by omega)).symm) | (exact (eqB_false (by omega) (by omega) (by assumption)).symm))), Ext.refl _ _⟩
  refine WP.skip ?_
  refine WP.seq ?_
  refine WP.sr ?_
  refine WL.m rfl ?_
  refine WL.z (.int .i64 (((xs).length : Int))) (V.lenSlice (x := .tmp 15) rfl rfl u27 (Eq.trans (b := v_xs) h0 hv3)) ?_
  refine WL.m rfl ?_
  refine WL.nil ?_
  refine WP.block ?_
  refine WP.loop (σ := Nat) (fun k E8 w9 => E8 0 = v_xs ∧ E8 1 = v_ys ∧ E8 2 = .func (.func 56) #[] #[] ∧ E8 10 = v_xs ∧ E8 11 = .int .i64 (((xs).length : Int)) ∧ E8 12 = v_ys ∧ E8 13 = .int .i64 (((ys).length : Int)) ∧ E8 14 = .bool (decide (((xs).length : Int) ≠ ((ys).length : Int))) ∧ E8 15 = v_xs ∧ E8 16 = .int .i64 (((xs).length : Int)) ∧ E8 17 = .int .i64 ((k : Int)) ∧ Ext [] w w9 ∧ k ≤ xs.length ∧ ∀ j, j < k → (fun i => sameReadB (xs.getD i default) (ys.getD i default)) j = true) (fun k => xs.length - k) (0) ?_ ?_
  · exact ⟨h0, h1, h2, h0, rfl, h1, rfl, rfl, h0, rfl, (int_eq (by omega)), Ext.refl _ _, (by omega), (all_zero _)⟩
  rintro k E8 w9 ⟨h0_10, h1_10, h2_10, h10_10, h11_10, h12_10, h13_10, h14_10, h15_10, h16_10, h17_10, hx10, hi0_10, hi1_10⟩
  have hx11 : Ext [] w w9 := hx10
  refine WP.sr ?_
  refine WL.z (.bool (decide ((k : Int) < ((xs).length : Int)))) (V.cmp (x := .tmp 17) (y := .tmp 16) rfl h17_10 h16_10 rfl) ?_
  refine WL.nil ?_
  refine WP.seq ?_
  refine WP.condp (t := (k : Int) < ((xs).length : Int)) rfl (fun hc12 => ?_) (fun hc12 => ?_)
  rotate_left
  · refine WP.exit ?_
    refine WP.sr ?_
    refine WL.m rfl ?_
    refine WL.nil ?_
    refine WP.ret ?_
    refine resOf.c1 rfl (v := .bool (true)) rfl ?_
    exact ⟨(bool_eq (by first | (exact (eqB_len (by omega)).symm) | (exact (eqB_true (by omega) (by assumption) (by omega)).symm) | (exact (eqB_false (by omega) (by omega) (by assumption)).symm))), hx11⟩
  refine WP.skip ?_
  refine WP.seq ?_
  refine WP.block ?_
  refine WP.sr ?_
  refine WL.m rfl ?_
  have hlt21 : k < (xs).length := by first | omega | (simp at *; omega)
  obtain ⟨b13, k14, c15, cs16, hv17, hnb18, hr19, hat20⟩ := (h_xs.ext (Ext.pre hx11)).get (i := k) (x := (xs.getD k default)) (getD_some hlt21 _)
  obtain ⟨v22, rfl, hl23, hk24⟩ := hr19
  obtain ⟨hin25, hin26⟩ := (show ReadD.InR (xs.getD k default) from hk24)
  have hin25 := inK_u64 hin25
  have hin26 := inK_u64 hin26
  have hle27 := hl23.le'
  refine WL.z (.pointer (some ⟨b13, k14 + k * 3, none⟩)) (V.indexAddr (x := .tmp 15) (i := .tmp 17) (m := k) (j := (k : Int)) rfl u27 s95 (Eq.trans (b := v_xs) h15_10 hv17) h17_10 rfl hlt21) ?_
  refine WL.z (.agg #[.int .u64 ((xs.getD k default).Round), .int .u64 ((xs.getD k default).Index), v22]) (V.loadAgg (cs := [.int .u64 ((xs.getD k default).Round), .int .u64 ((xs.getD k default).Index), v22]) rfl a95 rfl hat20 rfl) ?_
  refine WL.alloc (cs := [.int .u64 (0), .int .u64 (0), .slice none 0 0]) (Sure.none rfl) rfl rfl z95 rfl (fun b28 w29 hx30 he31 hb32 => ?_)
  have hl34 := (Sl.new (b := b28) (by show (3 : Nat) ≠ 0; decide) (h_ys.ext (Ext.pre hx11)) (by omega)).ext (Ext.any hx30)
  have hl35 := (Sl.new (b := b28) (by show (1 : Nat) ≠ 0; decide) hl23 (by omega)).ext (Ext.any hx30)
  have hx36 : Ext [b28] _ _ := (Ext.cons hx11).trans (Ext.any hx30)
  have hge_b28_w : w.heap.size ≤ b28 := by have := hx11.size; omega
  refine WL.m rfl ?_
  refine WL.storeAgg (vs := [.int .u64 ((xs.getD k default).Round), .int .u64 ((xs.getD k default).Index), v22]) (Sure.none rfl) rfl rfl s95 rfl rfl rfl (by intro u hu; simp only [List.mem_cons, List.not_mem_nil, or_false] at hu; rcases hu with rfl | rfl | rfl <;> first | rfl | exact Sl.one (by assumption)) hb32 (by show (0 : Nat) + 3 ≤ 3; decide) (fun w37 hs38 hb39 => ?_)
  replace hb39 : Box w37 b28 95 [.int .u64 ((xs.getD k default).Round), .int .u64 ((xs.getD k default).Index), v22] := hb39
  have hx40 : Ext [b28] w w37 := hx36.trans (hs38.mono (by simp))
  have hx41 : Ext [b28] w29 w37 := (hs38.mono (by simp))
  refine WL.nil ?_
  refine WP.sr ?_
  refine WL.m rfl ?_
  refine WL.m rfl ?_
  have hlt50 : k < (ys).length := by first | omega | (simp at *; omega)
  obtain ⟨b42, k43, c44, cs45, hv46, hnb47, hr48, hat49⟩ := (hl34.ext (Ext.pre hx41)).get (i := k) (x := (ys.getD k default)) (getD_some hlt50 _)
  obtain ⟨v51, rfl, hl52, hk53⟩ := hr48
  obtain ⟨hin54, hin55⟩ := (show ReadD.InR (ys.getD k default) from hk53)
  have hin54 := inK_u64 hin54
  have hin55 := inK_u64 hin55
  have hle56 := hl52.le'
  refine WL.z (.pointer (some ⟨b42, k43 + k * 3, none⟩)) (V.indexAddr (x := .tmp 22) (i := .tmp 23) (m := k) (j := (k : Int)) rfl u27 s95 (Eq.trans (b := v_ys) h1_10 hv46) h17_10 rfl hlt50) ?_
  refine WL.z (.agg #[.int .u64 ((ys.getD k default).Round), .int .u64 ((ys.getD k default).Index), v51]) (V.loadAgg (cs := [.int .u64 ((ys.getD k default).Round), .int .u64 ((ys.getD k default).Index), v51]) rfl a95 rfl hat49 rfl) ?_
  refine WL.alloc (cs := [.int .u64 (0), .int .u64 (0), .slice none 0 0]) (Sure.none rfl) rfl rfl z95 rfl (fun b57 w58 hx59 he60 hb61 => ?_)
  have hlt_b28_b57 : b28 < b57 := by have := hb39.lt; omega
  have hb62 := hb39.ext hx59 (by simp)
  have hl65 := (Sl.new (b := b57) (by show (1 : Nat) ≠ 0; decide) (hl35.ext (Ext.pre hx41)) (by omega)).ext (Ext.any hx59)
  have hl66 := (Sl.new (b := b57) (by show (1 : Nat) ≠ 0; decide) hl52 (by omega)).ext (Ext.any hx59)
  have hx67 : Ext [b57, b28] _ _ := (Ext.cons hx40).trans (Ext.any hx59)
  have hge_b57_w : w.heap.size ≤ b57 := by have := hx40.size; omega
  refine WL.storeAgg (vs := [.int .u64 ((ys.getD k default).Round), .int .u64 ((ys.getD k default).Index), v51]) (Sure.none rfl) rfl rfl s95 rfl rfl rfl (by intro u hu; simp only [List.mem_cons, List.not_mem_nil, or_false] at hu; rcases hu with rfl | rfl | rfl <;> first | rfl | exact Sl.one (by assumption)) hb61 (by show (0 : Nat) + 3 ≤ 3; decide) (fun w68 hs69 hb70 => ?_)
  replace hb70 : Box w68 b57 95 [.int .u64 ((ys.getD k default).Round), .int .u64 ((ys.getD k default).Index), v51] := hb70
  have hb71 := hb62.ext hs69 (by simp; omega)
  have hx72 : Ext [b57, b28] w w68 := hx67.trans (hs69.mono (by simp))
  have hx73 : Ext [b57, b28] w58 w68 := (hs69.mono (by simp))
  refine WL.nil ?_
  refine WP.sr ?_
  refine WL.m rfl ?_
  refine WL.z (.agg #[.int .u64 ((xs.getD k default).Round), .int .u64 ((xs.getD k default).Index), v22]) (V.loadAgg (cs := [.int .u64 ((xs.getD k default).Round), .int .u64 ((xs.getD k default).Index), v22]) rfl a95 rfl (At.box hb71) rfl) ?_
  refine WL.z (.agg #[.int .u64 ((ys.getD k default).Round), .int .u64 ((ys.getD k default).Index), v51]) (V.loadAgg (cs := [.int .u64 ((ys.getD k default).Round), .int .u64 ((ys.getD k default).Index), v51]) rfl a95 rfl (At.box hb70) rfl) ?_
  refine WL.c (Sure.none rfl) rfl (C.callv2 (g := .tmp 26) rfl h2_10 (by intro f' e; cases e) cl56 rfl rfl rfl) (Fnc.mono (vote_sameRead (a := (xs.getD k default)) ⟨v22, rfl, (hl65.ext (Ext.pre hx73)), hk24⟩ (b := (ys.getD k default)) ⟨v51, rfl, (hl66.ext (Ext.pre hx73)), hk53⟩) ?_)
  rintro _ w74 ⟨rfl, hx75⟩
  have hx76 : Ext [b57, b28] w w74 := hx72.trans (Ext.any (Y := [b57, b28]) hx75)
  refine WL.z (.bool (!(sameReadB (xs.getD k default) (ys.getD k default)))) (V.not rfl rfl) ?_
  refine WL.nil ?_
  refine WP.condn (t := sameReadB (xs.getD k default) (ys.getD k default)) rfl (fun hc81 => ?_) (fun hc81 => ?_)
  · refine WP.sr ?_
    refine WL.m rfl ?_
    refine WL.nil ?_
    refine WP.ret ?_
    refine resOf.c1 rfl (v := .bool (false)) rfl ?_
    exact ⟨(bool_eq (by first | (exact (eqB_len (by omega)).symm) | (exact (eqB_true (by omega) (by assumption) (by omega)).symm) | (exact (eqB_false (by omega) (by omega) (by assumption)).symm))), ((hx76).done (geCons hge_b57_w (geCons hge_b28_w geNil)))⟩
  refine WP.skip ?_
  refine WP.region ?_
  refine WL.z (.int .i64 ((k : Int) + 1)) (V.arith (x := .tmp 17) rfl h17_10 rfl rfl (wrap_i64 (by omega) (by omega))) ?_
  refine WL.m rfl ?_
  refine WL.nil ?_
  exact ⟨k + 1, ⟨h0_10, h1_10, h2_10, h10_10, h11_10, h12_10, h13_10, h14_10, h15_10, h16_10, (int_eq (by omega)), (Ext.drop (Ext.drop hx76 hge_b57_w) hge_b28_w), (by omega), (all_step (by assumption) (by assumption))⟩, (by omega)⟩

end Go.Proofs.Ytbpamkbegggeoaa.T
