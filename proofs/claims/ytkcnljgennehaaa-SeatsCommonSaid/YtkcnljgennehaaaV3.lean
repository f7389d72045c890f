import Derived.Test.YtkcnljgennehaaaV2
namespace Go.Proofs.Ytkcnljgennehaaa.T
open W Go.RowKit
set_option maxRecDepth 100000
set_option maxHeartbeats 400000

theorem vote_reads {w : World} {X : List Nat} {p : PeerD} {c_p : List Value} (h_p : peerR.rd X w c_p p) : Fnc Try.prog 37 #[.agg c_p.toArray] w (fun v w' => v = .bool (readsB p) ∧ Ext [] w w') := by
  obtain ⟨v1, v3, v5, v7, v9, v11, rfl, hl2, hl4, hl6, hl8, hl10, hl12, hk13⟩ := h_p
  obtain ⟨hin14, hin15, hin16, hin17, hin18, hin19, hin20, hin21, hin22, hin23, hin24, hin25⟩ := (show PeerD.InR p from hk13)
  have hin14 := inK_i64 hin14
  have hin15 := inK_u64 hin15
  have hin16 := inK_i64 hin16
  have hin17 := inK_u8 hin17
  have hin18 := inK_i64 hin18
  have hin19 := inK_u64 hin19
  have hin20 := inK_u64 hin20
  have hin22 := inK_u64 hin22
  have hin23 := inK_i64 hin23
  have hin24 := inK_i64 hin24
  have hin25 := inK_u64 hin25
  have hle26 := hl2.le'
  have hle27 := hl4.le'
  have hle28 := hl6.le'
  have hle29 := hl8.le'
  have hle30 := hl10.le'
  have hle31 := hl12.le'
  refine Fnc.of_WP (n := 48) Try.func37 rfl Try.ntmps37 (by simp) ?_
  intro E hE
  have h0 : E 0 = .agg #[.int .i64 (p.Id), v1, .int .u64 (p.Term), .int .i64 (p.Vote), .int .u8 (p.Role), .int .i64 (p.Lead), .int .u64 (p.Base), .int .u64 (p.BaseTerm), v3, .string (p.Snap), v5, .int .u64 (p.Commit), .int .i64 (p.Idle), .int .i64 (p.Wait), v7, v9, .int .u64 (p.Round), v11] := hE 0 (by simp)
  clear hE
  refine WP.sr ?_
  refine WL.box (x := .tmp 0) (cs := [.int .i64 (p.Id), v1, .int .u64 (p.Term), .int .i64 (p.Vote), .int .u8 (p.Role), .int .i64 (p.Lead), .int .u64 (p.Base), .int .u64 (p.BaseTerm), v3, .string (p.Snap), v5, .int .u64 (p.Commit), .int .i64 (p.Idle), .int .i64 (p.Wait), v7, v9, .int .u64 (p.Round), v11]) (Sure.none rfl) rfl rfl h0 rfl (fun b32 w33 hx34 he35 hb36 => ?_)
  have hl42 := (Sl.new (b := b32) (by show (3 : Nat) ≠ 0; decide) hl12 (by omega)).ext (Ext.any hx34)
  have hx43 : Ext [b32] _ _ := (Ext.refl _ _).trans (Ext.any hx34)
  have hge_b32_w : w.heap.size ≤ b32 := by have := Nat.le_refl w.heap.size; omega
  refine WL.m rfl ?_
  refine WL.nil ?_
  refine WP.seq ?_
  refine WP.sr ?_
  refine WL.f (v11) fl30_17 rfl p28 (hb36.cell rfl) ?_
  obtain ⟨a44, c45, hv46⟩ := hl42.shape
  refine WL.z (.int .i64 (((p.Reads).length : Int))) (V.lenSlice rfl rfl u28 (Eq.trans (b := v11) rfl hv46)) ?_
  refine WL.m rfl ?_
  refine WL.nil ?_
  refine WP.block ?_
  have hsz49 : w.heap.size ≤ w33.heap.size := hx43.size
  refine WP.loop (σ := Nat) (fun k E47 w48 => E47 0 = .agg #[.int .i64 (p.Id), v1, .int .u64 (p.Term), .int .i64 (p.Vote), .int .u8 (p.Role), .int .i64 (p.Lead), .int .u64 (p.Base), .int .u64 (p.BaseTerm), v3, .string (p.Snap), v5, .int .u64 (p.Commit), .int .i64 (p.Idle), .int .i64 (p.Wait), v7, v9, .int .u64 (p.Round), v11] ∧ E47 1 = .pointer (some ⟨b32, 0, none⟩) ∧ E47 5 = .pointer (some ⟨b32, 17, none⟩) ∧ E47 6 = v11 ∧ E47 7 = .int .i64 (((p.Reads).length : Int)) ∧ E47 8 = .int .i64 ((k : Int)) ∧ Ext [b32] w33 w48 ∧ Box w48 b32 30 [.int .i64 (p.Id), v1, .int .u64 (p.Term), .int .i64 (p.Vote), .int .u8 (p.Role), .int .i64 (p.Lead), .int .u64 (p.Base), .int .u64 (p.BaseTerm), v3, .string (p.Snap), v5, .int .u64 (p.Commit), .int .i64 (p.Idle), .int .i64 (p.Wait), v7, v9, .int .u64 (p.Round), v11] ∧ k ≤ p.Reads.length ∧ ∀ j, j < k → (readOk p) j = true) (fun k => p.Reads.length - k) (0) ?_ ?_
  · exact ⟨h0, rfl, rfl, rfl, rfl, (int_eq (by omega)), Ext.refl _ _, hb36, (by omega), (all_zero _)⟩
  rintro k E47 w48 ⟨h0_50, h1_50, h5_50, h6_50, h7_50, h8_50, hx50, hbb32_50, hi0_50, hi1_50⟩
  have hx51 : Ext [b32] w w48 := hx43.trans hx50
  have hx52 : Ext [b32] w33 w48 := hx50
  refine WP.sr ?_
  refine WL.z (.bool (decide ((k : Int) < ((p.Reads).length : Int)))) (V.cmp (x := .tmp 8) (y := .tmp 7) rfl h8_50 h7_50 rfl) ?_
  refine WL.nil ?_
  refine WP.seq ?_
  refine WP.condp (t := (k : Int) < ((p.Reads).length : Int)) rfl (fun hc53 => ?_) (fun hc53 => ?_)
  rotate_left
  · refine WP.exit ?_
    refine WP.sr ?_
    refine WL.m rfl ?_
    refine WL.nil ?_
    refine WP.ret ?_
    refine resOf.c1 rfl (v := .bool (true)) rfl ?_
    exact ⟨(bool_eq (by first | (exact (allB_true (by assumption) (by omega)).symm) | (exact (allB_false (k := k) (by omega) (by first | assumption | grind [readOk])).symm))), ((hx51).done (geCons hge_b32_w geNil))⟩
  refine WP.skip ?_
  refine WP.seq ?_
  refine WP.block ?_
  refine WP.sr ?_
  refine WL.m rfl ?_
  have hlt62 : k < (p.Reads).length := by first | omega | (simp at *; omega)
  obtain ⟨b54, k55, c56, cs57, hv58, hnb59, hr60, hat61⟩ := (hl42.ext (Ext.pre hx52)).get (i := k) (x := (p.Reads.getD k default)) (getD_some hlt62 _)
  obtain ⟨v63, rfl, hl64, hk65⟩ := hr60
  obtain ⟨hin66, hin67⟩ := (show ReadD.InR (p.Reads.getD k default) from hk65)
  have hin66 := inK_u64 hin66
  have hin67 := inK_u64 hin67
  have hle68 := hl64.le'
  refine WL.z (.pointer (some ⟨b54, k55 + k * 3, none⟩)) (V.indexAddr (x := .tmp 6) (i := .tmp 8) (m := k) (j := (k : Int)) rfl u28 s80 (Eq.trans (b := v11) h6_50 hv58) h8_50 rfl hlt62) ?_
  refine WL.z (.agg #[.int .u64 ((p.Reads.getD k default).Round), .int .u64 ((p.Reads.getD k default).Index), v63]) (V.loadAgg (cs := [.int .u64 ((p.Reads.getD k default).Round), .int .u64 ((p.Reads.getD k default).Index), v63]) rfl a80 rfl hat61 rfl) ?_
  refine WL.alloc (cs := [.int .u64 (0), .int .u64 (0), .slice none 0 0]) (Sure.none rfl) rfl rfl z80 rfl (fun b69 w70 hx71 he72 hb73 => ?_)
  have hlt_b32_b69 : b32 < b69 := by have := hbb32_50.lt; omega
  have hb74 := hbb32_50.ext hx71 (by simp)
  have hl80 := (Sl.new (b := b69) (by show (3 : Nat) ≠ 0; decide) (hl42.ext (Ext.pre hx52)) (by omega)).ext (Ext.any hx71)
  have hl81 := (Sl.new (b := b69) (by show (1 : Nat) ≠ 0; decide) hl64 (by omega)).ext (Ext.any hx71)
  have hx82 : Ext [b69, b32] _ _ := (Ext.cons hx51).trans (Ext.any hx71)
  have hx83 : Ext [b69, b32] _ _ := (Ext.cons hx52).trans (Ext.any hx71)
  have hge_b69_w : w.heap.size ≤ b69 := by have := hx51.size; omega
  have hge_b69_w33 : w33.heap.size ≤ b69 := by have := hx52.size; omega
  refine WL.m rfl ?_
  refine WL.storeAgg (vs := [.int .u64 ((p.Reads.getD k default).Round), .int .u64 ((p.Reads.getD k default).Index), v63]) (Sure.none rfl) rfl rfl s80 rfl rfl rfl (by intro u hu; simp only [List.mem_cons, List.not_mem_nil, or_false] at hu; rcases hu with rfl | rfl | rfl <;> first | rfl | exact Sl.one (by assumption)) hb73 (by show (0 : Nat) + 3 ≤ 3; decide) (fun w84 hs85 hb86 => ?_)
  replace hb86 : Box w84 b69 80 [.int .u64 ((p.Reads.getD k default).Round), .int .u64 ((p.Reads.getD k default).Index), v63] := hb86
  have hb87 := hb74.ext hs85 (by simp; omega)
  have hx88 : Ext [b69, b32] w w84 := hx82.trans (hs85.mono (by simp))
  have hx89 : Ext [b69, b32] w33 w84 := hx83.trans (hs85.mono (by simp))
  have hx90 : Ext [b69, b32] w70 w84 := (hs85.mono (by simp))
  refine WL.nil ?_
  refine WP.seq ?_
  refine WP.quiet mo (by kernel_rfl) ?_
  refine WQ.f (.int .u64 ((p.Reads.getD k default).Round)) fl80_0 rfl p24 (fun w' hw => (hb86.ext hw (by simp)).cell rfl) ?_
  refine WQ.f (x := .tmp 1) (.int .u64 (p.Round)) fl30_16 h1_50 p24 (fun w' hw => (hb87.ext hw (by simp)).cell rfl) ?_
  refine WQ.z (.bool (decide (((p.Reads.getD k default).Round) > p.Round))) (fun w' hw => V.cmp rfl rfl rfl rfl) ?_
  refine WQ.vbp (c := ((p.Reads.getD k default).Round) > p.Round) (Sure.none rfl) rfl (fun w' hw => V.move rfl rfl) (fun hc91 => ?_) (fun hc91 => ?_)
  · refine WQ.skips [(18, some true)] [(46, some true)] (kc (some true) rfl kn) (by kernel_rfl) (fun E92 hK93 hE94 w95 hq96 => ?_)
    have hx97 : Ext [b69, b32] w w95 := hx88.trans (Ext.any (Y := [b69, b32]) hq96)
    refine WP.cond_true (hK93 46 (some true) rfl) ?_
    refine WP.sr ?_
    refine WL.m rfl ?_
    refine WL.nil ?_
    refine WP.ret ?_
    refine resOf.c1 rfl (v := .bool (false)) rfl ?_
    exact ⟨(bool_eq (by first | (exact (allB_true (by assumption) (by omega)).symm) | (exact (allB_false (k := k) (by omega) (by first | assumption | grind [readOk])).symm))), ((hx97).done (geCons hge_b69_w (geCons hge_b32_w geNil)))⟩
  refine WQ.fy (.int .u64 ((p.Reads.getD k default).Index)) rfl fl80_1 rfl p24 (fun w' hw => (hb86.ext hw (by simp)).cell rfl) ?_
  refine WQ.fy (x := .tmp 1) (.int .u64 (p.Commit)) rfl fl30_11 h1_50 p24 (fun w' hw => (hb87.ext hw (by simp)).cell rfl) ?_
  refine WQ.y (.bool (decide (((p.Reads.getD k default).Index) > p.Commit))) rfl (fun w' hw => V.cmp rfl rfl rfl rfl) ?_
  refine WQ.k (a := false) rfl rfl ?_
  refine WQ.vbp (c := ((p.Reads.getD k default).Index) > p.Commit) (Sure.none rfl) rfl (fun w' hw => V.move rfl rfl) (fun hc103 => ?_) (fun hc103 => ?_)
  · refine WQ.skips [(25, some true)] [(46, some true)] (kc (some true) rfl kn) (by kernel_rfl) (fun E104 hK105 hE106 w107 hq108 => ?_)
    have hx109 : Ext [b69, b32] w w107 := hx88.trans (Ext.any (Y := [b69, b32]) hq108)
    refine WP.cond_true (hK105 46 (some true) rfl) ?_
    refine WP.sr ?_
    refine WL.m rfl ?_
    refine WL.nil ?_
    refine WP.ret ?_
    refine resOf.c1 rfl (v := .bool (false)) rfl ?_
    exact ⟨(bool_eq (by first | (exact (allB_true (by assumption) (by omega)).symm) | (exact (allB_false (k := k) (by omega) (by first | assumption | grind [readOk])).symm))), ((hx109).done (geCons hge_b69_w (geCons hge_b32_w geNil)))⟩
  refine WQ.fy (v63) rfl fl80_2 rfl p22 (fun w' hw => (hb86.ext hw (by simp)).cell rfl) ?_
  refine WQ.c (u := .bool (idsB ((p.Reads.getD k default).Acks))) (Sure.yes rfl rfl rfl) rfl (fun w' hw => C.call1 rfl cl35 rfl) (fun w' hw => (vote_rising ((hl81.ext (Ext.pre hx90)).ext (Ext.any hw)))) ?_
  refine WQ.y (.bool (!(idsB ((p.Reads.getD k default).Acks)))) rfl (fun w' hw => V.not rfl rfl) ?_
  refine WQ.k (a := false) rfl rfl ?_
  refine WQ.vbn (c := idsB ((p.Reads.getD k default).Acks)) (Sure.none rfl) rfl (fun w' hw => V.move rfl rfl) (fun hc115 => ?_) (fun hc115 => ?_)
  · refine WQ.skips [(31, some true)] [(46, some true)] (kc (some true) rfl kn) (by kernel_rfl) (fun E116 hK117 hE118 w119 hq120 => ?_)
    have hx121 : Ext [b69, b32] w w119 := hx88.trans (Ext.any (Y := [b69, b32]) hq120)
    refine WP.cond_true (hK117 46 (some true) rfl) ?_
    refine WP.sr ?_
    refine WL.m rfl ?_
    refine WL.nil ?_
    refine WP.ret ?_
    refine resOf.c1 rfl (v := .bool (false)) rfl ?_
    exact ⟨(bool_eq (by first | (exact (allB_true (by assumption) (by omega)).symm) | (exact (allB_false (k := k) (by omega) (by first | assumption | grind [readOk])).symm))), ((hx121).done (geCons hge_b69_w (geCons hge_b32_w geNil)))⟩
  refine WQ.my rfl rfl ?_
  refine WQ.y (.bool (decide ((k : Int) > 0))) rfl (fun w' hw => V.cmp (x := .tmp 32) rfl h8_50 rfl rfl) ?_
  refine WQ.vbp (c := (k : Int) > 0) (Sure.yes rfl rfl rfl) rfl (fun w' hw => V.move rfl rfl) (fun hc127 => ?_) (fun hc127 => ?_)
  rotate_left
  · refine WQ.skips [(34, some false), (31, some false)] [(46, some false)] (kc (some false) rfl (kc (some false) rfl kn)) (by kernel_rfl) (fun E152 hK153 hE154 w155 hq156 => ?_)
    have hx158 : Ext [b69, b32] w33 w155 := hx89.trans (Ext.any (Y := [b69, b32]) hq156)
    have hb161 := hb87.ext hq156 (by simp)
    refine WP.cond_false (hK153 46 (some false) rfl) ?_
    refine WP.skip ?_
    refine WP.region ?_
    refine WL.z (.int .i64 ((k : Int) + 1)) (V.arith (x := .tmp 8) rfl ((hE154 8 rfl).trans h8_50) rfl rfl (wrap_i64 (by omega) (by omega))) ?_
    refine WL.m rfl ?_
    refine WL.nil ?_
    exact ⟨k + 1, ⟨((hE154 0 rfl).trans h0_50), ((hE154 1 rfl).trans h1_50), ((hE154 5 rfl).trans h5_50), ((hE154 6 rfl).trans h6_50), ((hE154 7 rfl).trans h7_50), (int_eq (by omega)), (Ext.drop hx158 hge_b69_w33), hb161, (by omega), (all_step (by assumption) (by first | assumption | grind [readOk]))⟩, (by omega)⟩
  refine WQ.fy (x := .tmp 1) (v11) rfl fl30_17 h1_50 p28 (fun w' hw => (hb87.ext hw (by simp)).cell rfl) ?_
  refine WQ.my rfl rfl ?_
  refine WQ.y (.int .i64 ((k : Int) - 1)) rfl (fun w' hw => V.arith (x := .tmp 37) rfl h8_50 rfl rfl (wrap_i64 (by omega) (by omega))) ?_
  have hlt136 : k - 1 < (p.Reads).length := by first | omega | (simp at *; omega)
  obtain ⟨b128, k129, c130, cs131, hv132, hnb133, hr134, hat135⟩ := (hl80.ext (Ext.pre hx90)).get (i := k - 1) (x := (p.Reads.getD (k - 1) default)) (getD_some hlt136 _)
  obtain ⟨v137, rfl, hl138, hk139⟩ := hr134
  obtain ⟨hin140, hin141⟩ := (show ReadD.InR (p.Reads.getD (k - 1) default) from hk139)
  have hin140 := inK_u64 hin140
  have hin141 := inK_u64 hin141
  have hle142 := hl138.le'
  refine WQ.y (.pointer (some ⟨b128, k129 + (k - 1) * 3, none⟩)) rfl (fun w' hw => V.indexAddr (m := k - 1) (j := (k : Int) - 1) rfl u28 s80 (Eq.trans (b := v11) rfl hv132) rfl (by omega) hlt136) ?_
  refine WQ.y (.pointer (some ⟨b128, k129 + (k - 1) * 3 + 0, none⟩)) rfl (fun w' hw => V.fieldAddr rfl fl80_0 rfl) ?_
  refine WQ.y (.int .u64 ((p.Reads.getD (k - 1) default).Round)) rfl (fun w' hw => V.load rfl p24 rfl ((hat135.ext hw (by simp)).cell (j := 0) rfl)) ?_
  refine WQ.fy (.int .u64 ((p.Reads.getD k default).Round)) rfl fl80_0 rfl p24 (fun w' hw => (hb86.ext hw (by simp)).cell rfl) ?_
  refine WQ.y (.bool (decide (((p.Reads.getD (k - 1) default).Round) ≥ ((p.Reads.getD k default).Round)))) rfl (fun w' hw => V.cmp rfl rfl rfl rfl) ?_
  refine WQ.ky (a := true) rfl rfl rfl ?_
  refine WQ.k (a := false) rfl rfl ?_
  refine WQ.nil (fun w143 hq144 => ?_)
  have hx145 : Ext [b69, b32] w w143 := hx88.trans (Ext.any (Y := [b69, b32]) hq144)
  have hx146 : Ext [b69, b32] w33 w143 := hx89.trans (Ext.any (Y := [b69, b32]) hq144)
  have hb149 := hb87.ext hq144 (by simp)
  refine WP.condp (t := ((p.Reads.getD (k - 1) default).Round) ≥ ((p.Reads.getD k default).Round)) rfl (fun hc151 => ?_) (fun hc151 => ?_)
  · refine WP.sr ?_
    refine WL.m rfl ?_
    refine WL.nil ?_
    refine WP.ret ?_
    refine resOf.c1 rfl (v := .bool (false)) rfl ?_
    exact ⟨(bool_eq (by first | (exact (allB_true (by assumption) (by omega)).symm) | (exact (allB_false (k := k) (by omega) (by first | assumption | grind [readOk])).symm))), ((hx145).done (geCons hge_b69_w (geCons hge_b32_w geNil)))⟩
  refine WP.skip ?_
  refine WP.region ?_
  refine WL.z (.int .i64 ((k : Int) + 1)) (V.arith (x := .tmp 8) rfl h8_50 rfl rfl (wrap_i64 (by omega) (by omega))) ?_
  refine WL.m rfl ?_
  refine WL.nil ?_
  exact ⟨k + 1, ⟨h0_50, h1_50, h5_50, h6_50, h7_50, (int_eq (by omega)), (Ext.drop hx146 hge_b69_w33), hb149, (by omega), (all_step (by assumption) (by first | assumption | grind [readOk]))⟩, (by omega)⟩

end Go.Proofs.Ytkcnljgennehaaa.T
