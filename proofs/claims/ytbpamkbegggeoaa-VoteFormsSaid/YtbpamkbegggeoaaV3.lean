import Derived.Test.YtbpamkbegggeoaaV2
namespace Go.Proofs.Ytbpamkbegggeoaa.T
open W Go.RowKit
set_option maxRecDepth 100000
set_option maxHeartbeats 400000

theorem ref_reads {w : World} {X : List Nat} {p : PeerD} {c_p : List Value} (h_p : peerR.rd X w c_p p) : Fnc Try.prog 43 #[.agg c_p.toArray] w (fun v w' => v = .bool (readsB p) ∧ Ext [] w w') := by
  obtain ⟨v1, v3, v5, v7, v9, v11, rfl, hl2, hl4, hl6, hl8, hl10, hl12, hk13⟩ := h_p
  obtain ⟨hin14, hin15, hin16, hin17, hin18, hin19, hin20, hin21, hin22, hin23, hin24, hin25⟩ := (show PeerD.InR p from hk13)
  have hin14 := inK_i64 hin14
  have hin15 := inK_u64 hin15
  have hin16 := inK_i64 hin16
  have hin17 := inK_u8 hin17
  have hin18 := inK_i64 hin18
  have hin19 := inK_u64 hin19
  have hin20 := inK_u64 hin20
  have hin22 := inK_u64 hin22
  have hin23 := inK_i64 hin23
  have hin24 := inK_i64 hin24
  have hin25 := inK_u64 hin25
  have hle26 := hl2.le'
  have hle27 := hl4.le'
  have hle28 := hl6.le'
  have hle29 := hl8.le'
  have hle30 := hl10.le'
  have hle31 := hl12.le'
  refine Fnc.of_WP (n := 51) Try.func43 rfl Try.ntmps43 (by simp) ?_
  intro E hE
  have h0 : E 0 = .agg #[.int .i64 (p.Id), v1, .int .u64 (p.Term), .int .i64 (p.Vote), .int .u8 (p.Role), .int .i64 (p.Lead), .int .u64 (p.Base), .int .u64 (p.BaseTerm), v3, .string (p.Snap), v5, .int .u64 (p.Commit), .int .i64 (p.Idle), .int .i64 (p.Wait), v7, v9, .int .u64 (p.Round), v11] := hE 0 (by simp)
  clear hE
  refine WP.sr ?_
  refine WL.box (x := .tmp 0) (cs := [.int .i64 (p.Id), v1, .int .u64 (p.Term), .int .i64 (p.Vote), .int .u8 (p.Role), .int .i64 (p.Lead), .int .u64 (p.Base), .int .u64 (p.BaseTerm), v3, .string (p.Snap), v5, .int .u64 (p.Commit), .int .i64 (p.Idle), .int .i64 (p.Wait), v7, v9, .int .u64 (p.Round), v11]) (Sure.none rfl) rfl rfl h0 rfl (fun b32 w33 hx34 he35 hb36 => ?_)
  have hl42 := (Sl.new (b := b32) (by show (3 : Nat) ≠ 0; decide) hl12 (by omega)).ext (Ext.any hx34)
  have hx43 : Ext [b32] _ _ := (Ext.refl _ _).trans (Ext.any hx34)
  have hge_b32_w : w.heap.size ≤ b32 := by have := Nat.le_refl w.heap.size; omega
  refine WL.m rfl ?_
  refine WL.nil ?_
  refine WP.seq ?_
  refine WP.sr ?_
  refine WL.m rfl ?_
  refine WL.nil ?_
  refine WP.block ?_
  have hsz46 : w.heap.size ≤ w33.heap.size := hx43.size
  refine WP.loop (σ := Nat) (fun k E44 w45 => E44 0 = .agg #[.int .i64 (p.Id), v1, .int .u64 (p.Term), .int .i64 (p.Vote), .int .u8 (p.Role), .int .i64 (p.Lead), .int .u64 (p.Base), .int .u64 (p.BaseTerm), v3, .string (p.Snap), v5, .int .u64 (p.Commit), .int .i64 (p.Idle), .int .i64 (p.Wait), v7, v9, .int .u64 (p.Round), v11] ∧ E44 1 = .pointer (some ⟨b32, 0, none⟩) ∧ E44 3 = .int .i64 ((k : Int)) ∧ Ext [b32] w33 w45 ∧ Box w45 b32 29 [.int .i64 (p.Id), v1, .int .u64 (p.Term), .int .i64 (p.Vote), .int .u8 (p.Role), .int .i64 (p.Lead), .int .u64 (p.Base), .int .u64 (p.BaseTerm), v3, .string (p.Snap), v5, .int .u64 (p.Commit), .int .i64 (p.Idle), .int .i64 (p.Wait), v7, v9, .int .u64 (p.Round), v11] ∧ k ≤ p.Reads.length ∧ ∀ j, j < k → (readOk p) j = true) (fun k => p.Reads.length - k) (0) ?_ ?_
  · exact ⟨h0, rfl, (int_eq (by omega)), Ext.refl _ _, hb36, (by omega), (all_zero _)⟩
  rintro k E44 w45 ⟨h0_47, h1_47, h3_47, hx47, hbb32_47, hi0_47, hi1_47⟩
  have hx48 : Ext [b32] w w45 := hx43.trans hx47
  have hx49 : Ext [b32] w33 w45 := hx47
  refine WP.seq ?_
  refine WP.sr ?_
  refine WL.m rfl ?_
  refine WL.f (x := .tmp 1) (v11) fl29_17 h1_47 p27 (hbb32_47.cell rfl) ?_
  obtain ⟨a50, c51, hv52⟩ := hl42.shape
  refine WL.z (.int .i64 (((p.Reads).length : Int))) (V.lenSlice rfl rfl u27 (Eq.trans (b := v11) rfl hv52)) ?_
  refine WL.z (.bool (decide ((k : Int) < ((p.Reads).length : Int)))) (V.cmp (x := .tmp 5) rfl h3_47 rfl rfl) ?_
  refine WL.nil ?_
  refine WP.condp (t := (k : Int) < ((p.Reads).length : Int)) rfl (fun hc53 => ?_) (fun hc53 => ?_)
  rotate_left
  · refine WP.exit ?_
    refine WP.sr ?_
    refine WL.m rfl ?_
    refine WL.nil ?_
    refine WP.ret ?_
    refine resOf.c1 rfl (v := .bool (true)) rfl ?_
    exact ⟨(bool_eq (by first | (exact (allB_true (by assumption) (by omega)).symm) | (exact (allB_false (k := k) (by omega) (by first | assumption | grind [readOk])).symm))), ((hx48).done (geCons hge_b32_w geNil))⟩
  refine WP.skip ?_
  refine WP.seq ?_
  refine WP.block ?_
  refine WP.sr ?_
  refine WL.f (x := .tmp 1) (v11) fl29_17 h1_47 p27 (hbb32_47.cell rfl) ?_
  refine WL.m rfl ?_
  have hlt62 : k < (p.Reads).length := by first | omega | (simp at *; omega)
  obtain ⟨b54, k55, c56, cs57, hv58, hnb59, hr60, hat61⟩ := (hl42.ext (Ext.pre hx49)).get (i := k) (x := (p.Reads.getD k default)) (getD_some hlt62 _)
  obtain ⟨v63, rfl, hl64, hk65⟩ := hr60
  obtain ⟨hin66, hin67⟩ := (show ReadD.InR (p.Reads.getD k default) from hk65)
  have hin66 := inK_u64 hin66
  have hin67 := inK_u64 hin67
  have hle68 := hl64.le'
  refine WL.z (.pointer (some ⟨b54, k55 + k * 3, none⟩)) (V.indexAddr (i := .tmp 14) (m := k) (j := (k : Int)) rfl u27 s95 (Eq.trans (b := v11) rfl hv58) h3_47 rfl hlt62) ?_
  refine WL.z (.agg #[.int .u64 ((p.Reads.getD k default).Round), .int .u64 ((p.Reads.getD k default).Index), v63]) (V.loadAgg (cs := [.int .u64 ((p.Reads.getD k default).Round), .int .u64 ((p.Reads.getD k default).Index), v63]) rfl a95 rfl hat61 rfl) ?_
  refine WL.alloc (cs := [.int .u64 (0), .int .u64 (0), .slice none 0 0]) (Sure.none rfl) rfl rfl z95 rfl (fun b69 w70 hx71 he72 hb73 => ?_)
  have hlt_b32_b69 : b32 < b69 := by have := hbb32_47.lt; omega
  have hb74 := hbb32_47.ext hx71 (by simp)
  have hl80 := (Sl.new (b := b69) (by show (3 : Nat) ≠ 0; decide) (hl42.ext (Ext.pre hx49)) (by omega)).ext (Ext.any hx71)
  have hl81 := (Sl.new (b := b69) (by show (1 : Nat) ≠ 0; decide) hl64 (by omega)).ext (Ext.any hx71)
  have hx82 : Ext [b69, b32] _ _ := (Ext.cons hx48).trans (Ext.any hx71)
  have hx83 : Ext [b69, b32] _ _ := (Ext.cons hx49).trans (Ext.any hx71)
  have hge_b69_w : w.heap.size ≤ b69 := by have := hx48.size; omega
  have hge_b69_w33 : w33.heap.size ≤ b69 := by have := hx49.size; omega
  refine WL.storeAgg (vs := [.int .u64 ((p.Reads.getD k default).Round), .int .u64 ((p.Reads.getD k default).Index), v63]) (Sure.none rfl) rfl rfl s95 rfl rfl rfl (by intro u hu; simp only [List.mem_cons, List.not_mem_nil, or_false] at hu; rcases hu with rfl | rfl | rfl <;> first | rfl | exact Sl.one (by assumption)) hb73 (by show (0 : Nat) + 3 ≤ 3; decide) (fun w84 hs85 hb86 => ?_)
  replace hb86 : Box w84 b69 95 [.int .u64 ((p.Reads.getD k default).Round), .int .u64 ((p.Reads.getD k default).Index), v63] := hb86
  have hb87 := hb74.ext hs85 (by simp; omega)
  have hx88 : Ext [b69, b32] w w84 := hx82.trans (hs85.mono (by simp))
  have hx89 : Ext [b69, b32] w33 w84 := hx83.trans (hs85.mono (by simp))
  have hx90 : Ext [b69, b32] w70 w84 := (hs85.mono (by simp))
  refine WL.nil ?_
  refine WP.seq ?_
  refine WP.quiet mo (by kernel_rfl) ?_
  refine WQ.f (.int .u64 ((p.Reads.getD k default).Round)) fl95_0 rfl p23 (fun w' hw => (hb86.ext hw (by simp)).cell rfl) ?_
  refine WQ.f (x := .tmp 1) (.int .u64 (p.Round)) fl29_16 h1_47 p23 (fun w' hw => (hb87.ext hw (by simp)).cell rfl) ?_
  refine WQ.z (.bool (decide (((p.Reads.getD k default).Round) > p.Round))) (fun w' hw => V.cmp rfl rfl rfl rfl) ?_
  refine WQ.vbp (c := ((p.Reads.getD k default).Round) > p.Round) (Sure.none rfl) rfl (fun w' hw => V.move rfl rfl) (fun hc91 => ?_) (fun hc91 => ?_)
  · refine WQ.skips [(22, some true)] [(50, some true)] (kc (some true) rfl kn) (by kernel_rfl) (fun E92 hK93 hE94 w95 hq96 => ?_)
    have hx97 : Ext [b69, b32] w w95 := hx88.trans (Ext.any (Y := [b69, b32]) hq96)
    refine WP.cond_true (hK93 50 (some true) rfl) ?_
    refine WP.sr ?_
    refine WL.m rfl ?_
    refine WL.nil ?_
    refine WP.ret ?_
    refine resOf.c1 rfl (v := .bool (false)) rfl ?_
    exact ⟨(bool_eq (by first | (exact (allB_true (by assumption) (by omega)).symm) | (exact (allB_false (k := k) (by omega) (by first | assumption | grind [readOk])).symm))), ((hx97).done (geCons hge_b69_w (geCons hge_b32_w geNil)))⟩
  refine WQ.fy (.int .u64 ((p.Reads.getD k default).Index)) rfl fl95_1 rfl p23 (fun w' hw => (hb86.ext hw (by simp)).cell rfl) ?_
  refine WQ.fy (x := .tmp 1) (.int .u64 (p.Commit)) rfl fl29_11 h1_47 p23 (fun w' hw => (hb87.ext hw (by simp)).cell rfl) ?_
  refine WQ.y (.bool (decide (((p.Reads.getD k default).Index) > p.Commit))) rfl (fun w' hw => V.cmp rfl rfl rfl rfl) ?_
  refine WQ.k (a := false) rfl rfl ?_
  refine WQ.vbp (c := ((p.Reads.getD k default).Index) > p.Commit) (Sure.none rfl) rfl (fun w' hw => V.move rfl rfl) (fun hc103 => ?_) (fun hc103 => ?_)
  · refine WQ.skips [(29, some true)] [(50, some true)] (kc (some true) rfl kn) (by kernel_rfl) (fun E104 hK105 hE106 w107 hq108 => ?_)
    have hx109 : Ext [b69, b32] w w107 := hx88.trans (Ext.any (Y := [b69, b32]) hq108)
    refine WP.cond_true (hK105 50 (some true) rfl) ?_
    refine WP.sr ?_
    refine WL.m rfl ?_
    refine WL.nil ?_
    refine WP.ret ?_
    refine resOf.c1 rfl (v := .bool (false)) rfl ?_
    exact ⟨(bool_eq (by first | (exact (allB_true (by assumption) (by omega)).symm) | (exact (allB_false (k := k) (by omega) (by first | assumption | grind [readOk])).symm))), ((hx109).done (geCons hge_b69_w (geCons hge_b32_w geNil)))⟩
  refine WQ.fy (v63) rfl fl95_2 rfl p22 (fun w' hw => (hb86.ext hw (by simp)).cell rfl) ?_
  refine WQ.c (u := .bool (idsB ((p.Reads.getD k default).Acks))) (Sure.yes rfl rfl rfl) rfl (fun w' hw => C.call1 rfl cl38 rfl) (fun w' hw => (ref_ids ((hl81.ext (Ext.pre hx90)).ext (Ext.any hw)))) ?_
  refine WQ.y (.bool (!(idsB ((p.Reads.getD k default).Acks)))) rfl (fun w' hw => V.not rfl rfl) ?_
  refine WQ.k (a := false) rfl rfl ?_
  refine WQ.vbn (c := idsB ((p.Reads.getD k default).Acks)) (Sure.none rfl) rfl (fun w' hw => V.move rfl rfl) (fun hc115 => ?_) (fun hc115 => ?_)
  · refine WQ.skips [(35, some true)] [(50, some true)] (kc (some true) rfl kn) (by kernel_rfl) (fun E116 hK117 hE118 w119 hq120 => ?_)
    have hx121 : Ext [b69, b32] w w119 := hx88.trans (Ext.any (Y := [b69, b32]) hq120)
    refine WP.cond_true (hK117 50 (some true) rfl) ?_
    refine WP.sr ?_
    refine WL.m rfl ?_
    refine WL.nil ?_
    refine WP.ret ?_
    refine resOf.c1 rfl (v := .bool (false)) rfl ?_
    exact ⟨(bool_eq (by first | (exact (allB_true (by assumption) (by omega)).symm) | (exact (allB_false (k := k) (by omega) (by first | assumption | grind [readOk])).symm))), ((hx121).done (geCons hge_b69_w (geCons hge_b32_w geNil)))⟩
  refine WQ.my rfl rfl ?_
  refine WQ.y (.bool (decide ((k : Int) > 0))) rfl (fun w' hw => V.cmp (x := .tmp 36) rfl h3_47 rfl rfl) ?_
  refine WQ.vbp (c := (k : Int) > 0) (Sure.yes rfl rfl rfl) rfl (fun w' hw => V.move rfl rfl) (fun hc127 => ?_) (fun hc127 => ?_)
  rotate_left
  · refine WQ.skips [(38, some false), (35, some false)] [(50, some false)] (kc (some false) rfl (kc (some false) rfl kn)) (by kernel_rfl) (fun E152 hK153 hE154 w155 hq156 => ?_)
    have hx158 : Ext [b69, b32] w33 w155 := hx89.trans (Ext.any (Y := [b69, b32]) hq156)
    have hb161 := hb87.ext hq156 (by simp)
    refine WP.cond_false (hK153 50 (some false) rfl) ?_
    refine WP.skip ?_
    refine WP.region ?_
    refine WL.m rfl ?_
    refine WL.z (.int .i64 ((k : Int) + 1)) (V.arith (x := .tmp 10) rfl ((hE154 3 rfl).trans h3_47) rfl rfl (wrap_i64 (by omega) (by omega))) ?_
    refine WL.m rfl ?_
    refine WL.nil ?_
    exact ⟨k + 1, ⟨((hE154 0 rfl).trans h0_47), ((hE154 1 rfl).trans h1_47), (int_eq (by omega)), (Ext.drop hx158 hge_b69_w33), hb161, (by omega), (all_step (by assumption) (by first | assumption | grind [readOk]))⟩, (by omega)⟩
  refine WQ.fy (x := .tmp 1) (v11) rfl fl29_17 h1_47 p27 (fun w' hw => (hb87.ext hw (by simp)).cell rfl) ?_
  refine WQ.my rfl rfl ?_
  refine WQ.y (.int .i64 ((k : Int) - 1)) rfl (fun w' hw => V.arith (x := .tmp 41) rfl h3_47 rfl rfl (wrap_i64 (by omega) (by omega))) ?_
  have hlt136 : k - 1 < (p.Reads).length := by first | omega | (simp at *; omega)
  obtain ⟨b128, k129, c130, cs131, hv132, hnb133, hr134, hat135⟩ := (hl80.ext (Ext.pre hx90)).get (i := k - 1) (x := (p.Reads.getD (k - 1) default)) (getD_some hlt136 _)
  obtain ⟨v137, rfl, hl138, hk139⟩ := hr134
  obtain ⟨hin140, hin141⟩ := (show ReadD.InR (p.Reads.getD (k - 1) default) from hk139)
  have hin140 := inK_u64 hin140
  have hin141 := inK_u64 hin141
  have hle142 := hl138.le'
  refine WQ.y (.pointer (some ⟨b128, k129 + (k - 1) * 3, none⟩)) rfl (fun w' hw => V.indexAddr (m := k - 1) (j := (k : Int) - 1) rfl u27 s95 (Eq.trans (b := v11) rfl hv132) rfl (by omega) hlt136) ?_
  refine WQ.y (.pointer (some ⟨b128, k129 + (k - 1) * 3 + 0, none⟩)) rfl (fun w' hw => V.fieldAddr rfl fl95_0 rfl) ?_
  refine WQ.y (.int .u64 ((p.Reads.getD (k - 1) default).Round)) rfl (fun w' hw => V.load rfl p23 rfl ((hat135.ext hw (by simp)).cell (j := 0) rfl)) ?_
  refine WQ.fy (.int .u64 ((p.Reads.getD k default).Round)) rfl fl95_0 rfl p23 (fun w' hw => (hb86.ext hw (by simp)).cell rfl) ?_
  refine WQ.y (.bool (decide (((p.Reads.getD (k - 1) default).Round) ≥ ((p.Reads.getD k default).Round)))) rfl (fun w' hw => V.cmp rfl rfl rfl rfl) ?_
  refine WQ.ky (a := true) rfl rfl rfl ?_
  refine WQ.k (a := false) rfl rfl ?_
  refine WQ.nil (fun w143 hq144 => ?_)
  have hx145 : Ext [b69, b32] w w143 := hx88.trans (Ext.any (Y := [b69, b32]) hq144)
  have hx146 : Ext [b69, b32] w33 w143 := hx89.trans (Ext.any (Y := [b69, b32]) hq144)
  have hb149 := hb87.ext hq144 (by simp)
  refine WP.condp (t := ((p.Reads.getD (k - 1) default).Round) ≥ ((p.Reads.getD k default).Round)) rfl (fun hc151 => ?_) (fun hc151 => ?_)
  · refine WP.sr ?_
    refine WL.m rfl ?_
    refine WL.nil ?_
    refine WP.ret ?_
    refine resOf.c1 rfl (v := .bool (false)) rfl ?_
    exact ⟨(bool_eq (by first | (exact (allB_true (by assumption) (by omega)).symm) | (exact (allB_false (k := k) (by omega) (by first | assumption | grind [readOk])).symm))), ((hx145).done (geCons hge_b69_w (geCons hge_b32_w geNil)))⟩
  refine WP.skip ?_
  refine WP.region ?_
  refine WL.m rfl ?_
  refine WL.z (.int .i64 ((k : Int) + 1)) (V.arith (x := .tmp 10) rfl h3_47 rfl rfl (wrap_i64 (by omega) (by omega))) ?_
  refine WL.m rfl ?_
  refine WL.nil ?_
  exact ⟨k + 1, ⟨h0_47, h1_47, (int_eq (by omega)), (Ext.drop hx146 hge_b69_w33), hb149, (by omega), (all_step (by assumption) (by first | assumption | grind [readOk]))⟩, (by omega)⟩

theorem vote_reads {w : World} {X : List Nat} {p : PeerD} {c_p : List Value} (h_p : peerR.rd X w c_p p) : Fnc Try.prog 94 #[.agg c_p.toArray] w (fun v w' => v = .bool (readsB p) ∧ Ext [] w w') := by
  obtain ⟨v1, v3, v5, v7, v9, v11, rfl, hl2, hl4, hl6, hl8, hl10, hl12, hk13⟩ := h_p
  obtain ⟨hin14, hin15, hin16, hin17, hin18, hin19, hin20, hin21, hin22, hin23, hin24, hin25⟩ := (show PeerD.InR p from hk13)
  have hin14 := inK_i64 hin14
  have hin15 := inK_u64 hin15
  have hin16 := inK_i64 hin16
  have hin17 := inK_u8 hin17
  have hin18 := inK_i64 hin18
  have hin19 := inK_u64 hin19
  have hin20 := inK_u64 hin20
  have hin22 := inK_u64 hin22
  have hin23 := inK_i64 hin23
  have hin24 := inK_i64 hin24
  have hin25 := inK_u64 hin25
  have hle26 := hl2.le'
  have hle27 := hl4.le'
  have hle28 := hl6.le'
  have hle29 := hl8.le'
  have hle30 := hl10.le'
  have hle31 := hl12.le'
  refine Fnc.of_WP (n := 48) Try.func94 rfl Try.ntmps94 (by simp) ?_
  intro E hE
  have h0 : E 0 = .agg #[.int .i64 (p.Id), v1, .int .u64 (p.Term), .int .i64 (p.Vote), .int .u8 (p.Role), .int .i64 (p.Lead), .int .u64 (p.Base), .int .u64 (p.BaseTerm), v3, .string (p.Snap), v5, .int .u64 (p.Commit), .int .i64 (p.Idle), .int .i64 (p.Wait), v7, v9, .int .u64 (p.Round), v11] := hE 0 (by simp)
  clear hE
  refine WP.sr ?_
  refine WL.box (x := .tmp 0) (cs := [.int .i64 (p.Id), v1, .int .u64 (p.Term), .int .i64 (p.Vote), .int .u8 (p.Role), .int .i64 (p.Lead), .int .u64 (p.Base), .int .u64 (p.BaseTerm), v3, .string (p.Snap), v5, .int .u64 (p.Commit), .int .i64 (p.Idle), .int .i64 (p.Wait), v7, v9, .int .u64 (p.Round), v11]) (Sure.none rfl) rfl rfl h0 rfl (fun b32 w33 hx34 he35 hb36 => ?_)
  have hl42 := (Sl.new (b := b32) (by show (3 : Nat) ≠ 0; decide) hl12 (by omega)).ext (Ext.any hx34)
  have hx43 : Ext [b32] _ _ := (Ext.refl _ _).trans (Ext.any hx34)
  have hge_b32_w : w.heap.size ≤ b32 := by have := Nat.le_refl w.heap.size; omega
  refine WL.m rfl ?_
  refine WL.nil ?_
  refine WP.seq ?_
  refine WP.sr ?_
  refine WL.f (v11) fl29_17 rfl p27 (hb36.cell rfl) ?_
  obtain ⟨a44, c45, hv46⟩ := hl42.shape
  refine WL.z (.int .i64 (((p.Reads).length : Int))) (V.lenSlice rfl rfl u27 (Eq.trans (b := v11) rfl hv46)) ?_
  refine WL.m rfl ?_
  refine WL.nil ?_
  refine WP.block ?_
  have hsz49 : w.heap.size ≤ w33.heap.size := hx43.size
  refine WP.loop (σ := Nat) (fun k E47 w48 => E47 0 = .agg #[.int .i64 (p.Id), v1, .int .u64 (p.Term), .int .i64 (p.Vote), .int .u8 (p.Role), .int .i64 (p.Lead), .int .u64 (p.Base), .int .u64 (p.BaseTerm), v3, .string (p.Snap), v5, .int .u64 (p.Commit), .int .i64 (p.Idle), .int .i64 (p.Wait), v7, v9, .int .u64 (p.Round), v11] ∧ E47 1 = .pointer (some ⟨b32, 0, none⟩) ∧ E47 5 = .pointer (some ⟨b32, 17, none⟩) ∧ E47 6 = v11 ∧ E47 7 = .int .i64 (((p.Reads).length : Int)) ∧ E47 8 = .int .i64 ((k : Int)) ∧ Ext [b32] w33 w48 ∧ Box w48 b32 29 [.int .i64 (p.Id), v1, .int .u64 (p.Term), .int .i64 (p.Vote), .int .u8 (p.Role), .int .i64 (p.Lead), .int .u64 (p.Base), .int .u64 (p.BaseTerm), v3, .string (p.Snap), v5, .int .u64 (p.Commit), .int .i64 (p.Idle), .int .i64 (p.Wait), v7, v9, .int .u64 (p.Round), v11] ∧ k ≤ p.Reads.length ∧ ∀ j, j < k → (readOk p) j = true) (fun k => p.Reads.length - k) (0) ?_ ?_
  · exact ⟨h0, rfl, rfl, rfl, rfl, (int_eq (by omega)), Ext.refl _ _, hb36, (by omega), (all_zero _)⟩
  rintro k E47 w48 ⟨h0_50, h1_50, h5_50, h6_50, h7_50, h8_50, hx50, hbb32_50, hi0_50, hi1_50⟩
  have hx51 : Ext [b32] w w48 := hx43.trans hx50
  have hx52 : Ext [b32] w33 w48 := hx50
  refine WP.sr ?_
  refine WL.z (.bool (decide ((k : Int) < ((p.Reads).length : Int)))) (V.cmp (x := .tmp 8) (y := .tmp 7) rfl h8_50 h7_50 rfl) ?_
  refine WL.nil ?_
  refine WP.seq ?_
  refine WP.condp (t := (k : Int) < ((p.Reads).length : Int)) rfl (fun hc53 => ?_) (fun hc53 => ?_)
  rotate_left
  · refine WP.exit ?_
    refine WP.sr ?_
    refine WL.m rfl ?_
    refine WL.nil ?_
    refine WP.ret ?_
    refine resOf.c1 rfl (v := .bool (true)) rfl ?_
    exact ⟨(bool_eq (by first | (exact (allB_true (by assumption) (by omega)).symm) | (exact (allB_false (k := k) (by omega) (by first | assumption | grind [readOk])).symm))), ((hx51).done (geCons hge_b32_w geNil))⟩
  refine WP.skip ?_
  refine WP.seq ?_
  refine WP.block ?_
  refine WP.sr ?_
  refine WL.m rfl ?_
  have hlt62 : k < (p.Reads).length := by first | omega | (simp at *; omega)
  obtain ⟨b54, k55, c56, cs57, hv58, hnb59, hr60, hat61⟩ := (hl42.ext (Ext.pre hx52)).get (i := k) (x := (p.Reads.getD k default)) (getD_some hlt62 _)
  obtain ⟨v63, rfl, hl64, hk65⟩ := hr60
  obtain ⟨hin66, hin67⟩ := (show ReadD.InR (p.Reads.getD k default) from hk65)
  have hin66 := inK_u64 hin66
  have hin67 := inK_u64 hin67
  have hle68 := hl64.le'
  refine WL.z (.pointer (some ⟨b54, k55 + k * 3, none⟩)) (V.indexAddr (x := .tmp 6) (i := .tmp 8) (m := k) (j := (k : Int)) rfl u27 s95 (Eq.trans (b := v11) h6_50 hv58) h8_50 rfl hlt62) ?_
  refine WL.z (.agg #[.int .u64 ((p.Reads.getD k default).Round), .int .u64 ((p.Reads.getD k default).Index), v63]) (V.loadAgg (cs := [.int .u64 ((p.Reads.getD k default).Round), .int .u64 ((p.Reads.getD k default).Index), v63]) rfl a95 rfl hat61 rfl) ?_
  refine WL.alloc (cs := [.int .u64 (0), .int .u64 (0), .slice none 0 0]) (Sure.none rfl) rfl rfl z95 rfl (fun b69 w70 hx71 he72 hb73 => ?_)
  have hlt_b32_b69 : b32 < b69 := by have := hbb32_50.lt; omega
  have hb74 := hbb32_50.ext hx71 (by simp)
  have hl80 := (Sl.new (b := b69) (by show (3 : Nat) ≠ 0; decide) (hl42.ext (Ext.pre hx52)) (by omega)).ext (Ext.any hx71)
  have hl81 := (Sl.new (b := b69) (by show (1 : Nat) ≠ 0; decide) hl64 (by omega)).ext (Ext.any hx71)
  have hx82 : Ext [b69, b32] _ _ := (Ext.cons hx51).trans (Ext.any hx71)
  have hx83 : Ext [b69, b32] _ _ := (Ext.cons hx52).trans (Ext.any hx71)
  have hge_b69_w : w.heap.size ≤ b69 := by have := hx51.size; omega
  have hge_b69_w33 : w33.heap.size ≤ b69 := by have := hx52.size; omega
  refine WL.m rfl ?_
  refine WL.storeAgg (vs := [.int .u64 ((p.Reads.getD k default).Round), .int .u64 ((p.Reads.getD k default).Index), v63]) (Sure.none rfl) rfl rfl s95 rfl rfl rfl (by intro u hu; simp only [List.mem_cons, List.not_mem_nil, or_false] at hu; rcases hu with rfl | rfl | rfl <;> first | rfl | exact Sl.one (by assumption)) hb73 (by show (0 : Nat) + 3 ≤ 3; decide) (fun w84 hs85 hb86 => ?_)
  replace hb86 : Box w84 b69 95 [.int .u64 ((p.Reads.getD k default).Round), .int .u64 ((p.Reads.getD k default).Index), v63] := hb86
  have hb87 := hb74.ext hs85 (by simp; omega)
  have hx88 : Ext [b69, b32] w w84 := hx82.trans (hs85.mono (by simp))
  have hx89 : Ext [b69, b32] w33 w84 := hx83.trans (hs85.mono (by simp))
  have hx90 : Ext [b69, b32] w70 w84 := (hs85.mono (by simp))
  refine WL.nil ?_
  refine WP.seq ?_
  refine WP.quiet mo (by kernel_rfl) ?_
  refine WQ.f (.int .u64 ((p.Reads.getD k default).Round)) fl95_0 rfl p23 (fun w' hw => (hb86.ext hw (by simp)).cell rfl) ?_
  refine WQ.f (x := .tmp 1) (.int .u64 (p.Round)) fl29_16 h1_50 p23 (fun w' hw => (hb87.ext hw (by simp)).cell rfl) ?_
  refine WQ.z (.bool (decide (((p.Reads.getD k default).Round) > p.Round))) (fun w' hw => V.cmp rfl rfl rfl rfl) ?_
  refine WQ.vbp (c := ((p.Reads.getD k default).Round) > p.Round) (Sure.none rfl) rfl (fun w' hw => V.move rfl rfl) (fun hc91 => ?_) (fun hc91 => ?_)
  · refine WQ.skips [(18, some true)] [(46, some true)] (kc (some true) rfl kn) (by kernel_rfl) (fun E92 hK93 hE94 w95 hq96 => ?_)
    have hx97 : Ext [b69, b32] w w95 := hx88.trans (Ext.any (Y := [b69, b32]) hq96)
    refine WP.cond_true (hK93 46 (some true) rfl) ?_
    refine WP.sr ?_
    refine WL.m rfl ?_
    refine WL.nil ?_
    refine WP.ret ?_
    refine resOf.c1 rfl (v := .bool (false)) rfl ?_
    exact ⟨(bool_eq (by first | (exact (allB_true (by assumption) (by omega)).symm) | (exact (allB_false (k := k) (by omega) (by first | assumption | grind [readOk])).symm))), ((hx97).done (geCons hge_b69_w (geCons hge_b32_w geNil)))⟩
  refine WQ.fy (.int .u64 ((p.Reads.getD k default).Index)) rfl fl95_1 rfl p23 (fun w' hw => (hb86.ext hw (by simp)).cell rfl) ?_
  refine WQ.fy (x := .tmp 1) (.int .u64 (p.Commit)) rfl fl29_11 h1_50 p23 (fun w' hw => (hb87.ext hw (by simp)).cell rfl) ?_
  refine WQ.y (.bool (decide (((p.Reads.getD k default).Index) > p.Commit))) rfl (fun w' hw => V.cmp rfl rfl rfl rfl) ?_
  refine WQ.k (a := false) rfl rfl ?_
  refine WQ.vbp (c := ((p.Reads.getD k default).Index) > p.Commit) (Sure.none rfl) rfl (fun w' hw => V.move rfl rfl) (fun hc103 => ?_) (fun hc103 => ?_)
  · refine WQ.skips [(25, some true)] [(46, some true)] (kc (some true) rfl kn) (by kernel_rfl) (fun E104 hK105 hE106 w107 hq108 => ?_)
    have hx109 : Ext [b69, b32] w w107 := hx88.trans (Ext.any (Y := [b69, b32]) hq108)
    refine WP.cond_true (hK105 46 (some true) rfl) ?_
    refine WP.sr ?_
    refine WL.m rfl ?_
    refine WL.nil ?_
    refine WP.ret ?_
    refine resOf.c1 rfl (v := .bool (false)) rfl ?_
    exact ⟨(bool_eq (by first | (exact (allB_true (by assumption) (by omega)).symm) | (exact (allB_false (k := k) (by omega) (by first | assumption | grind [readOk])).symm))), ((hx109).done (geCons hge_b69_w (geCons hge_b32_w geNil)))⟩
  refine WQ.fy (v63) rfl fl95_2 rfl p22 (fun w' hw => (hb86.ext hw (by simp)).cell rfl) ?_
  refine WQ.c (u := .bool (idsB ((p.Reads.getD k default).Acks))) (Sure.yes rfl rfl rfl) rfl (fun w' hw => C.call1 rfl cl92 rfl) (fun w' hw => (vote_rising ((hl81.ext (Ext.pre hx90)).ext (Ext.any hw)))) ?_
  refine WQ.y (.bool (!(idsB ((p.Reads.getD k default).Acks)))) rfl (fun w' hw => V.not rfl rfl) ?_
  refine WQ.k (a := false) rfl rfl ?_
  refine WQ.vbn (c := idsB ((p.Reads.getD k default).Acks)) (Sure.none rfl) rfl (fun w' hw => V.move rfl rfl) (fun hc115 => ?_) (fun hc115 => ?_)
  · refine WQ.skips [(31, some true)] [(46, some true)] (kc (some true) rfl kn) (by kernel_rfl) (fun E116 hK117 hE118 w119 hq120 => ?_)
    have hx121 : Ext [b69, b32] w w119 := hx88.trans (Ext.any (Y := [b69, b32]) hq120)
    refine WP.cond_true (hK117 46 (some true) rfl) ?_
    refine WP.sr ?_
    refine WL.m rfl ?_
    refine WL.nil ?_
    refine WP.ret ?_
    refine resOf.c1 rfl (v := .bool (false)) rfl ?_
    exact ⟨(bool_eq (by first | (exact (allB_true (by assumption) (by omega)).symm) | (exact (allB_false (k := k) (by omega) (by first | assumption | grind [readOk])).symm))), ((hx121).done (geCons hge_b69_w (geCons hge_b32_w geNil)))⟩
  refine WQ.my rfl rfl ?_
  refine WQ.y (.bool (decide ((k : Int) > 0))) rfl (fun w' hw => V.cmp (x := .tmp 32) rfl h8_50 rfl rfl) ?_
  refine WQ.vbp (c := (k : Int) > 0) (Sure.yes rfl rfl rfl) rfl (fun w' hw => V.move rfl rfl) (fun hc127 => ?_) (fun hc127 => ?_)
  rotate_left
  · refine WQ.skips [(34, some false), (31, some false)] [(46, some false)] (kc (some false) rfl (kc (some false) rfl kn)) (by kernel_rfl) (fun E152 hK153 hE154 w155 hq156 => ?_)
    have hx158 : Ext [b69, b32] w33 w155 := hx89.trans (Ext.any (Y := [b69, b32]) hq156)
    have hb161 := hb87.ext hq156 (by simp)
    refine WP.cond_false (hK153 46 (some false) rfl) ?_
    refine WP.skip ?_
    refine WP.region ?_
    refine WL.z (.int .i64 ((k : Int) + 1)) (V.arith (x := .tmp 8) rfl ((hE154 8 rfl).trans h8_50) rfl rfl (wrap_i64 (by omega) (by omega))) ?_
    refine WL.m rfl ?_
    refine WL.nil ?_
    exact ⟨k + 1, ⟨((hE154 0 rfl).trans h0_50), ((hE154 1 rfl).trans h1_50), ((hE154 5 rfl).trans h5_50), ((hE154 6 rfl).trans h6_50), ((hE154 7 rfl).trans h7_50), (int_eq (by omega)), (Ext.drop hx158 hge_b69_w33), hb161, (by omega), (all_step (by assumption) (by first | assumption | grind [readOk]))⟩, (by omega)⟩
  refine WQ.fy (x := .tmp 1) (v11) rfl fl29_17 h1_50 p27 (fun w' hw => (hb87.ext hw (by simp)).cell rfl) ?_
  refine WQ.my rfl rfl ?_
  refine WQ.y (.int .i64 ((k : Int) - 1)) rfl (fun w' hw => V.arith (x := .tmp 37) rfl h8_50 rfl rfl (wrap_i64 (by omega) (by omega))) ?_
  have hlt136 : k - 1 < (p.Reads).length := by first | omega | (simp at *; omega)
  obtain ⟨b128, k129, c130, cs131, hv132, hnb133, hr134, hat135⟩ := (hl80.ext (Ext.pre hx90)).get (i := k - 1) (x := (p.Reads.getD (k - 1) default)) (getD_some hlt136 _)
  obtain ⟨v137, rfl, hl138, hk139⟩ := hr134
  obtain ⟨hin140, hin141⟩ := (show ReadD.InR (p.Reads.getD (k - 1) default) from hk139)
  have hin140 := inK_u64 hin140
  have hin141 := inK_u64 hin141
  have hle142 := hl138.le'
  refine WQ.y (.pointer (some ⟨b128, k129 + (k - 1) * 3, none⟩)) rfl (fun w' hw => V.indexAddr (m := k - 1) (j := (k : Int) - 1) rfl u27 s95 (Eq.trans (b := v11) rfl hv132) rfl (by omega) hlt136) ?_
  refine WQ.y (.pointer (some ⟨b128, k129 + (k - 1) * 3 + 0, none⟩)) rfl (fun w' hw => V.fieldAddr rfl fl95_0 rfl) ?_
  refine WQ.y (.int .u64 ((p.Reads.getD (k - 1) default).Round)) rfl (fun w' hw => V.load rfl p23 rfl ((hat135.ext hw (by simp)).cell (j := 0) rfl)) ?_
  refine WQ.fy (.int .u64 ((p.Reads.getD k default).Round)) rfl fl95_0 rfl p23 (fun w' hw => (hb86.ext hw (by simp)).cell rfl) ?_
  refine WQ.y (.bool (decide (((p.Reads.getD (k - 1) default).Round) ≥ ((p.Reads.getD k default).Round)))) rfl (fun w' hw => V.cmp rfl rfl rfl rfl) ?_
  refine WQ.ky (a := true) rfl rfl rfl ?_
  refine WQ.k (a := false) rfl rfl ?_
  refine WQ.nil (fun w143 hq144 => ?_)
  have hx145 : Ext [b69, b32] w w143 := hx88.trans (Ext.any (Y := [b69, b32]) hq144)
  have hx146 : Ext [b69, b32] w33 w143 := hx89.trans (Ext.any (Y := [b69, b32]) hq144)
  have hb149 := hb87.ext hq144 (by simp)
  refine WP.condp (t := ((p.Reads.getD (k - 1) default).Round) ≥ ((p.Reads.getD k default).Round)) rfl (fun hc151 => ?_) (fun hc151 => ?_)
  · refine WP.sr ?_
    refine WL.m rfl ?_
    refine WL.nil ?_
    refine WP.ret ?_
    refine resOf.c1 rfl (v := .bool (false)) rfl ?_
    exact ⟨(bool_eq (by first | (exact (allB_true (by assumption) (by omega)).symm) | (exact (allB_false (k := k) (by omega) (by first | assumption | grind [readOk])).symm))), ((hx145).done (geCons hge_b69_w (geCons hge_b32_w geNil)))⟩
  refine WP.skip ?_
  refine WP.region ?_
  refine WL.z (.int .i64 ((k : Int) + 1)) (V.arith (x := .tmp 8) rfl h8_50 rfl rfl (wrap_i64 (by omega) (by omega))) ?_
  refine WL.m rfl ?_
  refine WL.nil ?_
  exact ⟨k + 1, ⟨h0_50, h1_50, h5_50, h6_50, h7_50, (int_eq (by omega)), (Ext.drop hx146 hge_b69_w33), hb149, (by omega), (all_step (by assumption) (by first | assumption | grind [readOk]))⟩, (by omega)⟩

theorem ref_follows {w : World} {X : List Nat} {p : PeerD} {c_p : List Value} (h_p : peerR.rd X w c_p p) (last : Int) (hlast : 0 ≤ last ∧ last < 18446744073709551615) : Fnc Try.prog 42 #[.agg c_p.toArray, .int .u64 (last)] w (fun v w' => v = .bool (followsB p last) ∧ Ext [] w w') := by
  obtain ⟨v1, v3, v5, v7, v9, v11, rfl, hl2, hl4, hl6, hl8, hl10, hl12, hk13⟩ := h_p
  obtain ⟨hin14, hin15, hin16, hin17, hin18, hin19, hin20, hin21, hin22, hin23, hin24, hin25⟩ := (show PeerD.InR p from hk13)
  have hin14 := inK_i64 hin14
  have hin15 := inK_u64 hin15
  have hin16 := inK_i64 hin16
  have hin17 := inK_u8 hin17
  have hin18 := inK_i64 hin18
  have hin19 := inK_u64 hin19
  have hin20 := inK_u64 hin20
  have hin22 := inK_u64 hin22
  have hin23 := inK_i64 hin23
  have hin24 := inK_i64 hin24
  have hin25 := inK_u64 hin25
  have hle26 := hl2.le'
  have hle27 := hl4.le'
  have hle28 := hl6.le'
  have hle29 := hl8.le'
  have hle30 := hl10.le'
  have hle31 := hl12.le'
  refine Fnc.of_WP (n := 67) Try.func42 rfl Try.ntmps42 (by simp) ?_
  intro E hE
  have h0 : E 0 = .agg #[.int .i64 (p.Id), v1, .int .u64 (p.Term), .int .i64 (p.Vote), .int .u8 (p.Role), .int .i64 (p.Lead), .int .u64 (p.Base), .int .u64 (p.BaseTerm), v3, .string (p.Snap), v5, .int .u64 (p.Commit), .int .i64 (p.Idle), .int .i64 (p.Wait), v7, v9, .int .u64 (p.Round), v11] := hE 0 (by simp)
  have h1 : E 1 = .int .u64 (last) := hE 1 (by simp)
  clear hE
  refine WP.sr ?_
  refine WL.box (x := .tmp 0) (cs := [.int .i64 (p.Id), v1, .int .u64 (p.Term), .int .i64 (p.Vote), .int .u8 (p.Role), .int .i64 (p.Lead), .int .u64 (p.Base), .int .u64 (p.BaseTerm), v3, .string (p.Snap), v5, .int .u64 (p.Commit), .int .i64 (p.Idle), .int .i64 (p.Wait), v7, v9, .int .u64 (p.Round), v11]) (Sure.none rfl) rfl rfl h0 rfl (fun b32 w33 hx34 he35 hb36 => ?_)
  have hl37 := (Sl.new (b := b32) (by show (1 : Nat) ≠ 0; decide) hl2 (by omega)).ext (Ext.any hx34)
  have hl41 := (Sl.new (b := b32) (by show (3 : Nat) ≠ 0; decide) hl10 (by omega)).ext (Ext.any hx34)
  have hx43 : Ext [b32] _ _ := (Ext.refl _ _).trans (Ext.any hx34)
  have hge_b32_w : w.heap.size ≤ b32 := by have := Nat.le_refl w.heap.size; omega
  refine WL.m rfl ?_
  refine WL.nil ?_
  refine WP.sr ?_
  refine WL.m rfl ?_
  refine WL.nil ?_
  refine WP.seq ?_
  refine WP.sr ?_
  refine WL.m rfl ?_
  refine WL.nil ?_
  refine WP.block ?_
  have hsz46 : w.heap.size ≤ w33.heap.size := hx43.size
  refine WP.loop (σ := Nat) (fun k E44 w45 => E44 0 = .agg #[.int .i64 (p.Id), v1, .int .u64 (p.Term), .int .i64 (p.Vote), .int .u8 (p.Role), .int .i64 (p.Lead), .int .u64 (p.Base), .int .u64 (p.BaseTerm), v3, .string (p.Snap), v5, .int .u64 (p.Commit), .int .i64 (p.Idle), .int .i64 (p.Wait), v7, v9, .int .u64 (p.Round), v11] ∧ E44 1 = .int .u64 (last) ∧ E44 2 = .pointer (some ⟨b32, 0, none⟩) ∧ E44 5 = .int .i64 ((cnt p k : Int)) ∧ E44 6 = .int .i64 ((k : Int)) ∧ Ext [b32] w33 w45 ∧ Box w45 b32 29 [.int .i64 (p.Id), v1, .int .u64 (p.Term), .int .i64 (p.Vote), .int .u8 (p.Role), .int .i64 (p.Lead), .int .u64 (p.Base), .int .u64 (p.BaseTerm), v3, .string (p.Snap), v5, .int .u64 (p.Commit), .int .i64 (p.Idle), .int .i64 (p.Wait), v7, v9, .int .u64 (p.Round), v11] ∧ k ≤ p.Members.length ∧ cnt p k ≤ p.Follows.length ∧ ∀ j, j < cnt p k → fOkAt p last j = true) (fun k => p.Members.length - k) (0) ?_ ?_
  · exact ⟨h0, h1, rfl, (int_eq (by show (0 : Int) = ((0 : Nat) : Int); rfl)), (int_eq (by omega)), Ext.refl _ _, hb36, (by omega), (by show (0 : Nat) ≤ _; omega), (fun j hj => absurd hj (by show ¬ j < 0; omega))⟩
  rintro k E44 w45 ⟨h0_47, h1_47, h2_47, h5_47, h6_47, hx47, hbb32_47, hi0_47, hi1_47, hi2_47⟩
  have hx48 : Ext [b32] w w45 := hx43.trans hx47
  have hx49 : Ext [b32] w33 w45 := hx47
  refine WP.seq ?_
  refine WP.sr ?_
  refine WL.m rfl ?_
  refine WL.f (x := .tmp 2) (v1) fl29_1 h2_47 p22 (hbb32_47.cell rfl) ?_
  obtain ⟨a50, c51, hv52⟩ := hl37.shape
  refine WL.z (.int .i64 (((p.Members).length : Int))) (V.lenSlice rfl rfl u22 (Eq.trans (b := v1) rfl hv52)) ?_
  refine WL.z (.bool (decide ((k : Int) < ((p.Members).length : Int)))) (V.cmp (x := .tmp 8) rfl h6_47 rfl rfl) ?_
  refine WL.nil ?_
  refine WP.condp (t := (k : Int) < ((p.Members).length : Int)) rfl (fun hc53 => ?_) (fun hc53 => ?_)
  rotate_left
  · refine WP.exit ?_
    refine WP.sr ?_
    refine WL.m rfl ?_
    refine WL.f (x := .tmp 2) (v9) fl29_15 h2_47 p26 (hbb32_47.cell rfl) ?_
    obtain ⟨a164, c165, hv166⟩ := hl41.shape
    refine WL.z (.int .i64 (((p.Follows).length : Int))) (V.lenSlice rfl rfl u26 (Eq.trans (b := v9) rfl hv166)) ?_
    refine WL.z (.bool (decide ((cnt p k : Int) = ((p.Follows).length : Int)))) (V.cmp (x := .tmp 62) rfl h5_47 rfl rfl) ?_
    refine WL.m rfl ?_
    refine WL.nil ?_
    refine WP.ret ?_
    refine resOf.c1 rfl (v := .bool (decide ((cnt p k : Int) = ((p.Follows).length : Int)))) rfl ?_
    exact ⟨(bool_eq (by first | exact (followsB_end (by omega) (by assumption) (by omega)).symm | exact (followsB_short (k := k) (by omega) (by omega) (by omega)).symm | exact (followsB_bad (j := cnt p k) (by omega) (fOkAt_go (by omega) (by omega) (by first | assumption | grind [fOk, ieq]))).symm)), ((hx48).done (geCons hge_b32_w geNil))⟩
  refine WP.skip ?_
  refine WP.seq ?_
  refine WP.block ?_
  refine WP.seq ?_
  refine WP.seq ?_
  refine WP.quiet mo (by kernel_rfl) ?_
  refine WQ.f (x := .tmp 2) (v1) fl29_1 h2_47 p22 (fun w' hw => (hbb32_47.ext hw (by simp)).cell rfl) ?_
  refine WQ.m rfl ?_
  have hlt62 : k < (p.Members).length := by first | omega | (simp at *; omega)
  obtain ⟨b54, k55, c56, cs57, hv58, hnb59, hr60, hat61⟩ := (hl37.ext (Ext.pre hx49)).get (i := k) (x := (p.Members.getD k 0)) (getD_some hlt62 _)
  obtain ⟨rfl, hin63⟩ := hr60
  have hin63 := inK_i64 hin63
  refine WQ.z (.pointer (some ⟨b54, k55 + k * 1, none⟩)) (fun w' hw => V.indexAddr (i := .tmp 17) (m := k) (j := (k : Int)) rfl u22 s3 (Eq.trans (b := v1) rfl hv58) h6_47 rfl hlt62) ?_
  refine WQ.z (.int .i64 ((p.Members.getD k 0))) (fun w' hw => V.load rfl p3 rfl ((hat61.ext hw (by simp)).cell (j := 0) rfl)) ?_
  refine WQ.f (x := .tmp 2) (.int .i64 (p.Id)) fl29_0 h2_47 p3 (fun w' hw => (hbb32_47.ext hw (by simp)).cell rfl) ?_
  refine WQ.z (.bool (decide ((p.Members.getD k 0) = p.Id))) (fun w' hw => V.cmp rfl rfl rfl rfl) ?_
  refine WQ.nil (fun w64 hq65 => ?_)
  have hx66 : Ext [b32] w w64 := hx48.trans (Ext.any (Y := [b32]) hq65)
  have hx67 : Ext [b32] w33 w64 := hx49.trans (Ext.any (Y := [b32]) hq65)
  have hb69 := hbb32_47.ext hq65 (by simp)
  refine WP.condp (t := (p.Members.getD k 0) = p.Id) rfl (fun hc70 => ?_) (fun hc70 => ?_)
  · refine WP.exit ?_
    refine WP.region ?_
    refine WL.m rfl ?_
    refine WL.z (.int .i64 ((k : Int) + 1)) (V.arith (x := .tmp 13) rfl h6_47 rfl rfl (wrap_i64 (by omega) (by omega))) ?_
    refine WL.m rfl ?_
    refine WL.nil ?_
    exact ⟨k + 1, ⟨h0_47, h1_47, h2_47, (Eq.trans h5_47 (int_eq (by first | (rw [cnt_skip (by omega) (by omega)]; done) | (rw [cnt_go (by omega) (by omega)]; omega)))), (int_eq (by omega)), hx67, hb69, (by omega), (by first | (rw [cnt_skip (by omega) (by omega)]; omega) | (rw [cnt_go (by omega) (by omega)]; omega)), (by first | (rw [cnt_skip (by omega) (by omega)]; assumption) | exact upto_succ (by assumption) (cnt_go (by omega) (by omega)) (fOkAt_go (by omega) (by omega) (by first | assumption | grind [fOk, ieq])))⟩, (by omega)⟩
  refine WP.skip ?_
  refine WP.seq ?_
  refine WP.sr ?_
  refine WL.m rfl ?_
  refine WL.f (x := .tmp 2) (v9) fl29_15 h2_47 p26 (hb69.cell rfl) ?_
  obtain ⟨a71, c72, hv73⟩ := hl41.shape
  refine WL.z (.int .i64 (((p.Follows).length : Int))) (V.lenSlice rfl rfl u26 (Eq.trans (b := v9) rfl hv73)) ?_
  refine WL.z (.bool (decide ((cnt p k : Int) ≥ ((p.Follows).length : Int)))) (V.cmp (x := .tmp 23) rfl h5_47 rfl rfl) ?_
  refine WL.nil ?_
  refine WP.condp (t := (cnt p k : Int) ≥ ((p.Follows).length : Int)) rfl (fun hc74 => ?_) (fun hc74 => ?_)
  · refine WP.sr ?_
    refine WL.m rfl ?_
    refine WL.nil ?_
    refine WP.ret ?_
    refine resOf.c1 rfl (v := .bool (false)) rfl ?_
    exact ⟨(bool_eq (by first | exact (followsB_end (by omega) (by assumption) (by omega)).symm | exact (followsB_short (k := k) (by omega) (by omega) (by omega)).symm | exact (followsB_bad (j := cnt p k) (by omega) (fOkAt_go (by omega) (by omega) (by first | assumption | grind [fOk, ieq]))).symm)), ((hx66).done (geCons hge_b32_w geNil))⟩
  refine WP.skip ?_
  refine WP.sr ?_
  refine WL.f (x := .tmp 2) (v9) fl29_15 h2_47 p26 (hb69.cell rfl) ?_
  refine WL.m rfl ?_
  have hlt83 : cnt p k < (p.Follows).length := by first | omega | (simp at *; omega)
  obtain ⟨b75, k76, c77, cs78, hv79, hnb80, hr81, hat82⟩ := (hl41.ext (Ext.pre hx67)).get (i := cnt p k) (x := (p.Follows.getD (cnt p k) default)) (getD_some hlt83 _)
  obtain ⟨rfl, hk84⟩ := hr81
  obtain ⟨hin85, hin86, hin87⟩ := (show FollowD.InR (p.Follows.getD (cnt p k) default) from hk84)
  have hin85 := inK_i64 hin85
  have hin86 := inK_u64 hin86
  have hin87 := inK_u64 hin87
  refine WL.z (.pointer (some ⟨b75, k76 + (cnt p k) * 3, none⟩)) (V.indexAddr (i := .tmp 30) (m := cnt p k) (j := (cnt p k : Int)) rfl u26 s85 (Eq.trans (b := v9) rfl hv79) h5_47 (by omega) hlt83) ?_
  refine WL.z (.agg #[.int .i64 ((p.Follows.getD (cnt p k) default).Id), .int .u64 ((p.Follows.getD (cnt p k) default).Next), .int .u64 ((p.Follows.getD (cnt p k) default).Match)]) (V.loadAgg (cs := [.int .i64 ((p.Follows.getD (cnt p k) default).Id), .int .u64 ((p.Follows.getD (cnt p k) default).Next), .int .u64 ((p.Follows.getD (cnt p k) default).Match)]) rfl a85 rfl hat82 rfl) ?_
  refine WL.alloc (cs := [.int .i64 (0), .int .u64 (0), .int .u64 (0)]) (Sure.none rfl) rfl rfl z85 rfl (fun b88 w89 hx90 he91 hb92 => ?_)
  have hlt_b32_b88 : b32 < b88 := by have := hb69.lt; omega
  have hb93 := hb69.ext hx90 (by simp)
  have hl94 := (Sl.new (b := b88) (by show (1 : Nat) ≠ 0; decide) (hl37.ext (Ext.pre hx67)) (by omega)).ext (Ext.any hx90)
  have hx100 : Ext [b88, b32] _ _ := (Ext.cons hx66).trans (Ext.any hx90)
  have hx101 : Ext [b88, b32] _ _ := (Ext.cons hx67).trans (Ext.any hx90)
  have hge_b88_w : w.heap.size ≤ b88 := by have := hx66.size; omega
  have hge_b88_w33 : w33.heap.size ≤ b88 := by have := hx67.size; omega
  refine WL.storeAgg (vs := [.int .i64 ((p.Follows.getD (cnt p k) default).Id), .int .u64 ((p.Follows.getD (cnt p k) default).Next), .int .u64 ((p.Follows.getD (cnt p k) default).Match)]) (Sure.none rfl) rfl rfl s85 rfl rfl rfl (by intro u hu; simp only [List.mem_cons, List.not_mem_nil, or_false] at hu; rcases hu with rfl | rfl | rfl <;> first | rfl | exact Sl.one (by assumption)) hb92 (by show (0 : Nat) + 3 ≤ 3; decide) (fun w102 hs103 hb104 => ?_)
  replace hb104 : Box w102 b88 85 [.int .i64 ((p.Follows.getD (cnt p k) default).Id), .int .u64 ((p.Follows.getD (cnt p k) default).Next), .int .u64 ((p.Follows.getD (cnt p k) default).Match)] := hb104
  have hb105 := hb93.ext hs103 (by simp; omega)
  have hx106 : Ext [b88, b32] w w102 := hx100.trans (hs103.mono (by simp))
  have hx107 : Ext [b88, b32] w33 w102 := hx101.trans (hs103.mono (by simp))
  have hx108 : Ext [b88, b32] w89 w102 := (hs103.mono (by simp))
  refine WL.nil ?_
  refine WP.seq ?_
  refine WP.seq ?_
  refine WP.quiet mo (by kernel_rfl) ?_
  refine WQ.f (.int .i64 ((p.Follows.getD (cnt p k) default).Id)) fl85_0 rfl p3 (fun w' hw => (hb104.ext hw (by simp)).cell rfl) ?_
  refine WQ.f (x := .tmp 2) (v1) fl29_1 h2_47 p22 (fun w' hw => (hb105.ext hw (by simp)).cell rfl) ?_
  refine WQ.m rfl ?_
  have hlt117 : k < (p.Members).length := by first | omega | (simp at *; omega)
  obtain ⟨b109, k110, c111, cs112, hv113, hnb114, hr115, hat116⟩ := (hl94.ext (Ext.pre hx108)).get (i := k) (x := (p.Members.getD k 0)) (getD_some hlt117 _)
  obtain ⟨rfl, hin118⟩ := hr115
  have hin118 := inK_i64 hin118
  refine WQ.z (.pointer (some ⟨b109, k110 + k * 1, none⟩)) (fun w' hw => V.indexAddr (i := .tmp 37) (m := k) (j := (k : Int)) rfl u22 s3 (Eq.trans (b := v1) rfl hv113) h6_47 rfl hlt117) ?_
  refine WQ.z (.int .i64 ((p.Members.getD k 0))) (fun w' hw => V.load rfl p3 rfl ((hat116.ext hw (by simp)).cell (j := 0) rfl)) ?_
  refine WQ.z (.bool (decide (((p.Follows.getD (cnt p k) default).Id) ≠ (p.Members.getD k 0)))) (fun w' hw => V.cmp rfl rfl rfl rfl) ?_
  refine WQ.vbp (c := ((p.Follows.getD (cnt p k) default).Id) ≠ (p.Members.getD k 0)) (Sure.none rfl) rfl (fun w' hw => V.move rfl rfl) (fun hc119 => ?_) (fun hc119 => ?_)
  · refine WQ.skips [(41, some true)] [(59, some true)] (kc (some true) rfl kn) (by kernel_rfl) (fun E120 hK121 hE122 w123 hq124 => ?_)
    have hx125 : Ext [b88, b32] w w123 := hx106.trans (Ext.any (Y := [b88, b32]) hq124)
    refine WP.cond_true (hK121 59 (some true) rfl) ?_
    refine WP.sr ?_
    refine WL.m rfl ?_
    refine WL.nil ?_
    refine WP.ret ?_
    refine resOf.c1 rfl (v := .bool (false)) rfl ?_
    exact ⟨(bool_eq (by first | exact (followsB_end (by omega) (by assumption) (by omega)).symm | exact (followsB_short (k := k) (by omega) (by omega) (by omega)).symm | exact (followsB_bad (j := cnt p k) (by omega) (fOkAt_go (by omega) (by omega) (by first | assumption | grind [fOk, ieq]))).symm)), ((hx125).done (geCons hge_b88_w (geCons hge_b32_w geNil)))⟩
  refine WQ.fy (.int .u64 ((p.Follows.getD (cnt p k) default).Next)) rfl fl85_1 rfl p23 (fun w' hw => (hb104.ext hw (by simp)).cell rfl) ?_
  refine WQ.y (.bool (decide (((p.Follows.getD (cnt p k) default).Next) < 1))) rfl (fun w' hw => V.cmp rfl rfl rfl rfl) ?_
  refine WQ.k (a := false) rfl rfl ?_
  refine WQ.vbp (c := ((p.Follows.getD (cnt p k) default).Next) < 1) (Sure.none rfl) rfl (fun w' hw => V.move rfl rfl) (fun hc131 => ?_) (fun hc131 => ?_)
  · refine WQ.skips [(46, some true)] [(59, some true)] (kc (some true) rfl kn) (by kernel_rfl) (fun E132 hK133 hE134 w135 hq136 => ?_)
    have hx137 : Ext [b88, b32] w w135 := hx106.trans (Ext.any (Y := [b88, b32]) hq136)
    refine WP.cond_true (hK133 59 (some true) rfl) ?_
    refine WP.sr ?_
    refine WL.m rfl ?_
    refine WL.nil ?_
    refine WP.ret ?_
    refine resOf.c1 rfl (v := .bool (false)) rfl ?_
    exact ⟨(bool_eq (by first | exact (followsB_end (by omega) (by assumption) (by omega)).symm | exact (followsB_short (k := k) (by omega) (by omega) (by omega)).symm | exact (followsB_bad (j := cnt p k) (by omega) (fOkAt_go (by omega) (by omega) (by first | assumption | grind [fOk, ieq]))).symm)), ((hx137).done (geCons hge_b88_w (geCons hge_b32_w geNil)))⟩
  refine WQ.fy (.int .u64 ((p.Follows.getD (cnt p k) default).Next)) rfl fl85_1 rfl p23 (fun w' hw => (hb104.ext hw (by simp)).cell rfl) ?_
  refine WQ.my rfl rfl ?_
  refine WQ.y (.int .u64 (last + 1)) rfl (fun w' hw => V.arith (x := .tmp 49) rfl h1_47 rfl rfl (wrap_u64 (by omega) (by omega))) ?_
  refine WQ.y (.bool (decide (((p.Follows.getD (cnt p k) default).Next) > (last + 1)))) rfl (fun w' hw => V.cmp rfl rfl rfl rfl) ?_
  refine WQ.k (a := false) rfl rfl ?_
  refine WQ.vbp (c := ((p.Follows.getD (cnt p k) default).Next) > (last + 1)) (Sure.none rfl) rfl (fun w' hw => V.move rfl rfl) (fun hc143 => ?_) (fun hc143 => ?_)
  · refine WQ.skips [(53, some true)] [(59, some true)] (kc (some true) rfl kn) (by kernel_rfl) (fun E144 hK145 hE146 w147 hq148 => ?_)
    have hx149 : Ext [b88, b32] w w147 := hx106.trans (Ext.any (Y := [b88, b32]) hq148)
    refine WP.cond_true (hK145 59 (some true) rfl) ?_
    refine WP.sr ?_
    refine WL.m rfl ?_
    refine WL.nil ?_
    refine WP.ret ?_
    refine resOf.c1 rfl (v := .bool (false)) rfl ?_
    exact ⟨(bool_eq (by first | exact (followsB_end (by omega) (by assumption) (by omega)).symm | exact (followsB_short (k := k) (by omega) (by omega) (by omega)).symm | exact (followsB_bad (j := cnt p k) (by omega) (fOkAt_go (by omega) (by omega) (by first | assumption | grind [fOk, ieq]))).symm)), ((hx149).done (geCons hge_b88_w (geCons hge_b32_w geNil)))⟩
  refine WQ.fy (.int .u64 ((p.Follows.getD (cnt p k) default).Match)) rfl fl85_2 rfl p23 (fun w' hw => (hb104.ext hw (by simp)).cell rfl) ?_
  refine WQ.fy (.int .u64 ((p.Follows.getD (cnt p k) default).Next)) rfl fl85_1 rfl p23 (fun w' hw => (hb104.ext hw (by simp)).cell rfl) ?_
  refine WQ.y (.bool (decide (((p.Follows.getD (cnt p k) default).Match) ≥ ((p.Follows.getD (cnt p k) default).Next)))) rfl (fun w' hw => V.cmp rfl rfl rfl rfl) ?_
  refine WQ.k (a := false) rfl rfl ?_
  refine WQ.nil (fun w155 hq156 => ?_)
  have hx157 : Ext [b88, b32] w w155 := hx106.trans (Ext.any (Y := [b88, b32]) hq156)
  have hx158 : Ext [b88, b32] w33 w155 := hx107.trans (Ext.any (Y := [b88, b32]) hq156)
  have hb161 := hb105.ext hq156 (by simp)
  refine WP.condp (t := ((p.Follows.getD (cnt p k) default).Match) ≥ ((p.Follows.getD (cnt p k) default).Next)) rfl (fun hc163 => ?_) (fun hc163 => ?_)
  · refine WP.sr ?_
    refine WL.m rfl ?_
    refine WL.nil ?_
    refine WP.ret ?_
    refine resOf.c1 rfl (v := .bool (false)) rfl ?_
    exact ⟨(bool_eq (by first | exact (followsB_end (by omega) (by assumption) (by omega)).symm | exact (followsB_short (k := k) (by omega) (by omega) (by omega)).symm | exact (followsB_bad (j := cnt p k) (by omega) (fOkAt_go (by omega) (by omega) (by first | assumption | grind [fOk, ieq]))).symm)), ((hx157).done (geCons hge_b88_w (geCons hge_b32_w geNil)))⟩
  refine WP.skip ?_
  refine WP.region ?_
  refine WL.m rfl ?_
  refine WL.z (.int .i64 ((cnt p k : Int) + 1)) (V.arith (x := .tmp 60) rfl h5_47 rfl rfl (wrap_i64 (by omega) (by omega))) ?_
  refine WL.m rfl ?_
  refine WL.nil ?_
  refine WP.region ?_
  refine WL.m rfl ?_
  refine WL.z (.int .i64 ((k : Int) + 1)) (V.arith (x := .tmp 13) rfl h6_47 rfl rfl (wrap_i64 (by omega) (by omega))) ?_
  refine WL.m rfl ?_
  refine WL.nil ?_
  exact ⟨k + 1, ⟨h0_47, h1_47, h2_47, (int_eq (by first | (rw [cnt_skip (by omega) (by omega)]; done) | (rw [cnt_go (by omega) (by omega)]; omega))), (int_eq (by omega)), (Ext.drop hx158 hge_b88_w33), hb161, (by omega), (by first | (rw [cnt_skip (by omega) (by omega)]; omega) | (rw [cnt_go (by omega) (by omega)]; omega)), (by first | (rw [cnt_skip (by omega) (by omega)]; assumption) | exact upto_succ (by assumption) (cnt_go (by omega) (by omega)) (fOkAt_go (by omega) (by omega) (by first | assumption | grind [fOk, ieq])))⟩, (by omega)⟩

theorem ref_SameReads {w : World} {X : List Nat} {v_xs : Value} {xs : List ReadD} (h_xs : Sl readR X w v_xs xs) {v_ys : Value} {ys : List ReadD} (h_ys : Sl readR X w v_ys ys) : Fnc Try.prog 49 #[v_xs, v_ys] w (fun v w' => v = .bool (eqB sameReadB xs ys) ∧ Ext [] w w') := by
  have hle_xs := h_xs.le'
  have hle_ys := h_ys.le'
  refine Fnc.of_WP (n := 55) Try.func49 rfl Try.ntmps49 (by simp) ?_
  intro E hE
  have h0 : E 0 = v_xs := hE 0 (by simp)
  have h1 : E 1 = v_ys := hE 1 (by simp)
  clear hE
  refine WP.sr ?_
  refine WL.m rfl ?_
  refine WL.nil ?_
  refine WP.seq ?_
  refine WP.sr ?_
  refine WL.m rfl ?_
  obtain ⟨a1, c2, hv3⟩ := h_xs.shape
  refine WL.z (.int .i64 (((xs).length : Int))) (V.lenSlice (x := .tmp 6) rfl rfl u27 (Eq.trans (b := v_xs) h0 hv3)) ?_
  refine WL.m rfl ?_
  obtain ⟨a4, c5, hv6⟩ := h_ys.shape
  refine WL.z (.int .i64 (((ys).length : Int))) (V.lenSlice (x := .tmp 8) rfl rfl u27 (Eq.trans (b := v_ys) h1 hv6)) ?_
  refine WL.z (.bool (decide (((xs).length : Int) ≠ ((ys).length : Int)))) (V.cmp rfl rfl rfl rfl) ?_
  refine WL.nil ?_
  refine WP.condp (t := ((xs).length : Int) ≠ ((ys).length : Int)) rfl (fun hc7 => ?_) (fun hc7 => ?_)
  · refine WP.sr ?_
    refine WL.m rfl ?_
    refine WL.nil ?_
    refine WP.ret ?_
    refine resOf.c1 rfl (v := .bool (false)) rfl ?_
    exact ⟨(bool_eq (by first | (exact (eqB_len (by omega)).symm) | (exact (eqB_true (by omega) (by assumption) (by omega)).symm) | (exact (eqB_false (by omega) (by omega) (by first | assumption | grind [sameReadB])).symm))), Ext.refl _ _⟩
  refine WP.skip ?_
  refine WP.seq ?_
  refine WP.sr ?_
  refine WL.m rfl ?_
  refine WL.nil ?_
  refine WP.block ?_
  refine WP.loop (σ := Nat) (fun k E8 w9 => E8 0 = v_xs ∧ E8 1 = v_ys ∧ E8 5 = .int .i64 ((k : Int)) ∧ E8 6 = v_xs ∧ E8 7 = .int .i64 (((xs).length : Int)) ∧ E8 8 = v_ys ∧ E8 9 = .int .i64 (((ys).length : Int)) ∧ E8 10 = .bool (decide (((xs).length : Int) ≠ ((ys).length : Int))) ∧ Ext [] w w9 ∧ k ≤ xs.length ∧ ∀ j, j < k → (fun i => sameReadB (xs.getD i default) (ys.getD i default)) j = true) (fun k => xs.length - k) (0) ?_ ?_
  · exact ⟨h0, h1, (int_eq (by omega)), h0, rfl, h1, rfl, rfl, Ext.refl _ _, (by omega), (all_zero _)⟩
  rintro k E8 w9 ⟨h0_10, h1_10, h5_10, h6_10, h7_10, h8_10, h9_10, h10_10, hx10, hi0_10, hi1_10⟩
  have hx11 : Ext [] w w9 := hx10
  refine WP.seq ?_
  refine WP.sr ?_
  refine WL.m rfl ?_
  refine WL.m rfl ?_
  refine WL.z (.int .i64 (((xs).length : Int))) (V.lenSlice (x := .tmp 12) rfl rfl u27 (Eq.trans (b := v_xs) h0_10 hv3)) ?_
  refine WL.z (.bool (decide ((k : Int) < ((xs).length : Int)))) (V.cmp (x := .tmp 11) rfl h5_10 rfl rfl) ?_
  refine WL.nil ?_
  refine WP.condp (t := (k : Int) < ((xs).length : Int)) rfl (fun hc12 => ?_) (fun hc12 => ?_)
  rotate_left
  · refine WP.exit ?_
    refine WP.sr ?_
    refine WL.m rfl ?_
    refine WL.nil ?_
    refine WP.ret ?_
    refine resOf.c1 rfl (v := .bool (true)) rfl ?_
    exact ⟨(bool_eq (by first | (exact (eqB_len (by omega)).symm) | (exact (eqB_true (by omega) (by assumption) (by omega)).symm) | (exact (eqB_false (by omega) (by omega) (by first | assumption | grind [sameReadB])).symm))), hx11⟩
  refine WP.skip ?_
  refine WP.seq ?_
  refine WP.block ?_
  refine WP.seq ?_
  refine WP.quiet mo (by kernel_rfl) ?_
  refine WQ.m rfl ?_
  refine WQ.m rfl ?_
  have hlt21 : k < (xs).length := by first | omega | (simp at *; omega)
  obtain ⟨b13, k14, c15, cs16, hv17, hnb18, hr19, hat20⟩ := (h_xs.ext (Ext.pre hx11)).get (i := k) (x := (xs.getD k default)) (getD_some hlt21 _)
  obtain ⟨v22, rfl, hl23, hk24⟩ := hr19
  obtain ⟨hin25, hin26⟩ := (show ReadD.InR (xs.getD k default) from hk24)
  have hin25 := inK_u64 hin25
  have hin26 := inK_u64 hin26
  have hle27 := hl23.le'
  refine WQ.z (.pointer (some ⟨b13, k14 + k * 3, none⟩)) (fun w' hw => V.indexAddr (x := .tmp 17) (i := .tmp 18) (m := k) (j := (k : Int)) rfl u27 s95 (Eq.trans (b := v_xs) h0_10 hv17) h5_10 rfl hlt21) ?_
  refine WQ.z (.pointer (some ⟨b13, k14 + k * 3 + 0, none⟩)) (fun w' hw => V.fieldAddr rfl fl95_0 rfl) ?_
  refine WQ.z (.int .u64 ((xs.getD k default).Round)) (fun w' hw => V.load rfl p23 rfl ((hat20.ext hw (by simp)).cell (j := 0) rfl)) ?_
  refine WQ.m rfl ?_
  refine WQ.m rfl ?_
  have hlt36 : k < (ys).length := by first | omega | (simp at *; omega)
  obtain ⟨b28, k29, c30, cs31, hv32, hnb33, hr34, hat35⟩ := (h_ys.ext (Ext.pre hx11)).get (i := k) (x := (ys.getD k default)) (getD_some hlt36 _)
  obtain ⟨v37, rfl, hl38, hk39⟩ := hr34
  obtain ⟨hin40, hin41⟩ := (show ReadD.InR (ys.getD k default) from hk39)
  have hin40 := inK_u64 hin40
  have hin41 := inK_u64 hin41
  have hle42 := hl38.le'
  refine WQ.z (.pointer (some ⟨b28, k29 + k * 3, none⟩)) (fun w' hw => V.indexAddr (x := .tmp 22) (i := .tmp 23) (m := k) (j := (k : Int)) rfl u27 s95 (Eq.trans (b := v_ys) h1_10 hv32) h5_10 rfl hlt36) ?_
  refine WQ.z (.pointer (some ⟨b28, k29 + k * 3 + 0, none⟩)) (fun w' hw => V.fieldAddr rfl fl95_0 rfl) ?_
  refine WQ.z (.int .u64 ((ys.getD k default).Round)) (fun w' hw => V.load rfl p23 rfl ((hat35.ext hw (by simp)).cell (j := 0) rfl)) ?_
  refine WQ.z (.bool (decide (((xs.getD k default).Round) ≠ ((ys.getD k default).Round)))) (fun w' hw => V.cmp rfl rfl rfl rfl) ?_
  refine WQ.vbp (c := ((xs.getD k default).Round) ≠ ((ys.getD k default).Round)) (Sure.none rfl) rfl (fun w' hw => V.move rfl rfl) (fun hc43 => ?_) (fun hc43 => ?_)
  · refine WQ.skips [(28, some true)] [(54, some true)] (kc (some true) rfl kn) (by kernel_rfl) (fun E44 hK45 hE46 w47 hq48 => ?_)
    have hx49 : Ext [] w w47 := hx11.trans hq48
    refine WP.cond_true (hK45 54 (some true) rfl) ?_
    refine WP.sr ?_
    refine WL.m rfl ?_
    refine WL.nil ?_
    refine WP.ret ?_
    refine resOf.c1 rfl (v := .bool (false)) rfl ?_
    exact ⟨(bool_eq (by first | (exact (eqB_len (by omega)).symm) | (exact (eqB_true (by omega) (by assumption) (by omega)).symm) | (exact (eqB_false (by omega) (by omega) (by first | assumption | grind [sameReadB])).symm))), hx49⟩
  refine WQ.my rfl rfl ?_
  refine WQ.my rfl rfl ?_
  refine WQ.y (.pointer (some ⟨b13, k14 + k * 3, none⟩)) rfl (fun w' hw => V.indexAddr (x := .tmp 29) (i := .tmp 30) (m := k) (j := (k : Int)) rfl u27 s95 (Eq.trans (b := v_xs) h0_10 hv17) h5_10 rfl hlt21) ?_
  refine WQ.y (.pointer (some ⟨b13, k14 + k * 3 + 1, none⟩)) rfl (fun w' hw => V.fieldAddr rfl fl95_1 rfl) ?_
  refine WQ.y (.int .u64 ((xs.getD k default).Index)) rfl (fun w' hw => V.load rfl p23 rfl ((hat20.ext hw (by simp)).cell (j := 1) rfl)) ?_
  refine WQ.my rfl rfl ?_
  refine WQ.my rfl rfl ?_
  refine WQ.y (.pointer (some ⟨b28, k29 + k * 3, none⟩)) rfl (fun w' hw => V.indexAddr (x := .tmp 34) (i := .tmp 35) (m := k) (j := (k : Int)) rfl u27 s95 (Eq.trans (b := v_ys) h1_10 hv32) h5_10 rfl hlt36) ?_
  refine WQ.y (.pointer (some ⟨b28, k29 + k * 3 + 1, none⟩)) rfl (fun w' hw => V.fieldAddr rfl fl95_1 rfl) ?_
  refine WQ.y (.int .u64 ((ys.getD k default).Index)) rfl (fun w' hw => V.load rfl p23 rfl ((hat35.ext hw (by simp)).cell (j := 1) rfl)) ?_
  refine WQ.y (.bool (decide (((xs.getD k default).Index) ≠ ((ys.getD k default).Index)))) rfl (fun w' hw => V.cmp rfl rfl rfl rfl) ?_
  refine WQ.k (a := false) rfl rfl ?_
  refine WQ.vbp (c := ((xs.getD k default).Index) ≠ ((ys.getD k default).Index)) (Sure.none rfl) rfl (fun w' hw => V.move rfl rfl) (fun hc51 => ?_) (fun hc51 => ?_)
  · refine WQ.skips [(41, some true)] [(54, some true)] (kc (some true) rfl kn) (by kernel_rfl) (fun E52 hK53 hE54 w55 hq56 => ?_)
    have hx57 : Ext [] w w55 := hx11.trans hq56
    refine WP.cond_true (hK53 54 (some true) rfl) ?_
    refine WP.sr ?_
    refine WL.m rfl ?_
    refine WL.nil ?_
    refine WP.ret ?_
    refine resOf.c1 rfl (v := .bool (false)) rfl ?_
    exact ⟨(bool_eq (by first | (exact (eqB_len (by omega)).symm) | (exact (eqB_true (by omega) (by assumption) (by omega)).symm) | (exact (eqB_false (by omega) (by omega) (by first | assumption | grind [sameReadB])).symm))), hx57⟩
  refine WQ.my rfl rfl ?_
  refine WQ.my rfl rfl ?_
  refine WQ.y (.pointer (some ⟨b13, k14 + k * 3, none⟩)) rfl (fun w' hw => V.indexAddr (x := .tmp 42) (i := .tmp 43) (m := k) (j := (k : Int)) rfl u27 s95 (Eq.trans (b := v_xs) h0_10 hv17) h5_10 rfl hlt21) ?_
  refine WQ.y (.pointer (some ⟨b13, k14 + k * 3 + 2, none⟩)) rfl (fun w' hw => V.fieldAddr rfl fl95_2 rfl) ?_
  refine WQ.y (v22) rfl (fun w' hw => V.load rfl p22 rfl ((hat20.ext hw (by simp)).cell (j := 2) rfl)) ?_
  refine WQ.my rfl rfl ?_
  refine WQ.my rfl rfl ?_
  refine WQ.y (.pointer (some ⟨b28, k29 + k * 3, none⟩)) rfl (fun w' hw => V.indexAddr (x := .tmp 47) (i := .tmp 48) (m := k) (j := (k : Int)) rfl u27 s95 (Eq.trans (b := v_ys) h1_10 hv32) h5_10 rfl hlt36) ?_
  refine WQ.y (.pointer (some ⟨b28, k29 + k * 3 + 2, none⟩)) rfl (fun w' hw => V.fieldAddr rfl fl95_2 rfl) ?_
  refine WQ.y (v37) rfl (fun w' hw => V.load rfl p22 rfl ((hat35.ext hw (by simp)).cell (j := 2) rfl)) ?_
  refine WQ.c (u := .bool (eqB ieq ((xs.getD k default).Acks) ((ys.getD k default).Acks))) (Sure.yes rfl rfl rfl) rfl (fun w' hw => C.call2 rfl cl40 rfl rfl) (fun w' hw => (ref_sameInts (hl23.ext (Ext.any hw)) (hl38.ext (Ext.any hw)))) ?_
  refine WQ.y (.bool (!(eqB ieq ((xs.getD k default).Acks) ((ys.getD k default).Acks)))) rfl (fun w' hw => V.not rfl rfl) ?_
  refine WQ.k (a := false) rfl rfl ?_
  refine WQ.nil (fun w59 hq60 => ?_)
  have hx61 : Ext [] w w59 := hx11.trans hq60
  refine WP.condn (t := eqB ieq ((xs.getD k default).Acks) ((ys.getD k default).Acks)) rfl (fun hc63 => ?_) (fun hc63 => ?_)
  · refine WP.sr ?_
    refine WL.m rfl ?_
    refine WL.nil ?_
    refine WP.ret ?_
    refine resOf.c1 rfl (v := .bool (false)) rfl ?_
    exact ⟨(bool_eq (by first | (exact (eqB_len (by omega)).symm) | (exact (eqB_true (by omega) (by assumption) (by omega)).symm) | (exact (eqB_false (by omega) (by omega) (by first | assumption | grind [sameReadB])).symm))), hx61⟩
  refine WP.skip ?_
  refine WP.region ?_
  refine WL.m rfl ?_
  refine WL.z (.int .i64 ((k : Int) + 1)) (V.arith (x := .tmp 15) rfl h5_10 rfl rfl (wrap_i64 (by omega) (by omega))) ?_
  refine WL.m rfl ?_
  refine WL.nil ?_
  exact ⟨k + 1, ⟨h0_10, h1_10, (int_eq (by omega)), h6_10, h7_10, h8_10, h9_10, h10_10, hx61, (by omega), (all_step (by assumption) (by first | assumption | grind [sameReadB]))⟩, (by omega)⟩

theorem ref_SameEntries {w : World} {X : List Nat} {v_xs : Value} {xs : List EntryD} (h_xs : Sl entryR X w v_xs xs) {v_ys : Value} {ys : List EntryD} (h_ys : Sl entryR X w v_ys ys) : Fnc Try.prog 50 #[v_xs, v_ys] w (fun v w' => v = .bool (eqB sameEntB xs ys) ∧ Ext [] w w') := by
  have hle_xs := h_xs.le'
  have hle_ys := h_ys.le'
  refine Fnc.of_WP (n := 68) Try.func50 rfl Try.ntmps50 (by simp) ?_
  intro E hE
  have h0 : E 0 = v_xs := hE 0 (by simp)
  have h1 : E 1 = v_ys := hE 1 (by simp)
  clear hE
  refine WP.sr ?_
  refine WL.m rfl ?_
  refine WL.nil ?_
  refine WP.seq ?_
  refine WP.sr ?_
  refine WL.m rfl ?_
  obtain ⟨a1, c2, hv3⟩ := h_xs.shape
  refine WL.z (.int .i64 (((xs).length : Int))) (V.lenSlice (x := .tmp 6) rfl rfl u25 (Eq.trans (b := v_xs) h0 hv3)) ?_
  refine WL.m rfl ?_
  obtain ⟨a4, c5, hv6⟩ := h_ys.shape
  refine WL.z (.int .i64 (((ys).length : Int))) (V.lenSlice (x := .tmp 8) rfl rfl u25 (Eq.trans (b := v_ys) h1 hv6)) ?_
  refine WL.z (.bool (decide (((xs).length : Int) ≠ ((ys).length : Int)))) (V.cmp rfl rfl rfl rfl) ?_
  refine WL.nil ?_
  refine WP.condp (t := ((xs).length : Int) ≠ ((ys).length : Int)) rfl (fun hc7 => ?_) (fun hc7 => ?_)
  · refine WP.sr ?_
    refine WL.m rfl ?_
    refine WL.nil ?_
    refine WP.ret ?_
    refine resOf.c1 rfl (v := .bool (false)) rfl ?_
    exact ⟨(bool_eq (by first | (exact (eqB_len (by omega)).symm) | (exact (eqB_true (by omega) (by assumption) (by omega)).symm) | (exact (eqB_false (by omega) (by omega) (by first | assumption | grind [sameEntB])).symm))), Ext.refl _ _⟩
  refine WP.skip ?_
  refine WP.seq ?_
  refine WP.sr ?_
  refine WL.m rfl ?_
  refine WL.nil ?_
  refine WP.block ?_
  refine WP.loop (σ := Nat) (fun k E8 w9 => E8 0 = v_xs ∧ E8 1 = v_ys ∧ E8 5 = .int .i64 ((k : Int)) ∧ E8 6 = v_xs ∧ E8 7 = .int .i64 (((xs).length : Int)) ∧ E8 8 = v_ys ∧ E8 9 = .int .i64 (((ys).length : Int)) ∧ E8 10 = .bool (decide (((xs).length : Int) ≠ ((ys).length : Int))) ∧ Ext [] w w9 ∧ k ≤ xs.length ∧ ∀ j, j < k → (fun i => sameEntB (xs.getD i default) (ys.getD i default)) j = true) (fun k => xs.length - k) (0) ?_ ?_
  · exact ⟨h0, h1, (int_eq (by omega)), h0, rfl, h1, rfl, rfl, Ext.refl _ _, (by omega), (all_zero _)⟩
  rintro k E8 w9 ⟨h0_10, h1_10, h5_10, h6_10, h7_10, h8_10, h9_10, h10_10, hx10, hi0_10, hi1_10⟩
  have hx11 : Ext [] w w9 := hx10
  refine WP.seq ?_
  refine WP.sr ?_
  refine WL.m rfl ?_
  refine WL.m rfl ?_
  refine WL.z (.int .i64 (((xs).length : Int))) (V.lenSlice (x := .tmp 12) rfl rfl u25 (Eq.trans (b := v_xs) h0_10 hv3)) ?_
  refine WL.z (.bool (decide ((k : Int) < ((xs).length : Int)))) (V.cmp (x := .tmp 11) rfl h5_10 rfl rfl) ?_
  refine WL.nil ?_
  refine WP.condp (t := (k : Int) < ((xs).length : Int)) rfl (fun hc12 => ?_) (fun hc12 => ?_)
  rotate_left
  · refine WP.exit ?_
    refine WP.sr ?_
    refine WL.m rfl ?_
    refine WL.nil ?_
    refine WP.ret ?_
    refine resOf.c1 rfl (v := .bool (true)) rfl ?_
    exact ⟨(bool_eq (by first | (exact (eqB_len (by omega)).symm) | (exact (eqB_true (by omega) (by assumption) (by omega)).symm) | (exact (eqB_false (by omega) (by omega) (by first | assumption | grind [sameEntB])).symm))), hx11⟩
  refine WP.skip ?_
  refine WP.seq ?_
  refine WP.block ?_
  refine WP.seq ?_
  refine WP.quiet mo (by kernel_rfl) ?_
  refine WQ.m rfl ?_
  refine WQ.m rfl ?_
  have hlt21 : k < (xs).length := by first | omega | (simp at *; omega)
  obtain ⟨b13, k14, c15, cs16, hv17, hnb18, hr19, hat20⟩ := (h_xs.ext (Ext.pre hx11)).get (i := k) (x := (xs.getD k default)) (getD_some hlt21 _)
  obtain ⟨v22, rfl, hl23, hk24⟩ := hr19
  obtain ⟨hin25, hin26, hin27⟩ := (show EntryD.InR (xs.getD k default) from hk24)
  have hin25 := inK_u64 hin25
  have hin26 := inK_u8 hin26
  have hle28 := hl23.le'
  refine WQ.z (.pointer (some ⟨b13, k14 + k * 4, none⟩)) (fun w' hw => V.indexAddr (x := .tmp 17) (i := .tmp 18) (m := k) (j := (k : Int)) rfl u25 s90 (Eq.trans (b := v_xs) h0_10 hv17) h5_10 rfl hlt21) ?_
  refine WQ.z (.pointer (some ⟨b13, k14 + k * 4 + 0, none⟩)) (fun w' hw => V.fieldAddr rfl fl90_0 rfl) ?_
  refine WQ.z (.int .u64 ((xs.getD k default).Term)) (fun w' hw => V.load rfl p23 rfl ((hat20.ext hw (by simp)).cell (j := 0) rfl)) ?_
  refine WQ.m rfl ?_
  refine WQ.m rfl ?_
  have hlt37 : k < (ys).length := by first | omega | (simp at *; omega)
  obtain ⟨b29, k30, c31, cs32, hv33, hnb34, hr35, hat36⟩ := (h_ys.ext (Ext.pre hx11)).get (i := k) (x := (ys.getD k default)) (getD_some hlt37 _)
  obtain ⟨v38, rfl, hl39, hk40⟩ := hr35
  obtain ⟨hin41, hin42, hin43⟩ := (show EntryD.InR (ys.getD k default) from hk40)
  have hin41 := inK_u64 hin41
  have hin42 := inK_u8 hin42
  have hle44 := hl39.le'
  refine WQ.z (.pointer (some ⟨b29, k30 + k * 4, none⟩)) (fun w' hw => V.indexAddr (x := .tmp 22) (i := .tmp 23) (m := k) (j := (k : Int)) rfl u25 s90 (Eq.trans (b := v_ys) h1_10 hv33) h5_10 rfl hlt37) ?_
  refine WQ.z (.pointer (some ⟨b29, k30 + k * 4 + 0, none⟩)) (fun w' hw => V.fieldAddr rfl fl90_0 rfl) ?_
  refine WQ.z (.int .u64 ((ys.getD k default).Term)) (fun w' hw => V.load rfl p23 rfl ((hat36.ext hw (by simp)).cell (j := 0) rfl)) ?_
  refine WQ.z (.bool (decide (((xs.getD k default).Term) ≠ ((ys.getD k default).Term)))) (fun w' hw => V.cmp rfl rfl rfl rfl) ?_
  refine WQ.vbp (c := ((xs.getD k default).Term) ≠ ((ys.getD k default).Term)) (Sure.none rfl) rfl (fun w' hw => V.move rfl rfl) (fun hc45 => ?_) (fun hc45 => ?_)
  · refine WQ.skips [(28, some true)] [(67, some true)] (kc (some true) rfl kn) (by kernel_rfl) (fun E46 hK47 hE48 w49 hq50 => ?_)
    have hx51 : Ext [] w w49 := hx11.trans hq50
    refine WP.cond_true (hK47 67 (some true) rfl) ?_
    refine WP.sr ?_
    refine WL.m rfl ?_
    refine WL.nil ?_
    refine WP.ret ?_
    refine resOf.c1 rfl (v := .bool (false)) rfl ?_
    exact ⟨(bool_eq (by first | (exact (eqB_len (by omega)).symm) | (exact (eqB_true (by omega) (by assumption) (by omega)).symm) | (exact (eqB_false (by omega) (by omega) (by first | assumption | grind [sameEntB])).symm))), hx51⟩
  refine WQ.my rfl rfl ?_
  refine WQ.my rfl rfl ?_
  refine WQ.y (.pointer (some ⟨b13, k14 + k * 4, none⟩)) rfl (fun w' hw => V.indexAddr (x := .tmp 29) (i := .tmp 30) (m := k) (j := (k : Int)) rfl u25 s90 (Eq.trans (b := v_xs) h0_10 hv17) h5_10 rfl hlt21) ?_
  refine WQ.y (.pointer (some ⟨b13, k14 + k * 4 + 1, none⟩)) rfl (fun w' hw => V.fieldAddr rfl fl90_1 rfl) ?_
  refine WQ.y (.int .u8 ((xs.getD k default).Kind)) rfl (fun w' hw => V.load rfl p88 rfl ((hat20.ext hw (by simp)).cell (j := 1) rfl)) ?_
  refine WQ.my rfl rfl ?_
  refine WQ.my rfl rfl ?_
  refine WQ.y (.pointer (some ⟨b29, k30 + k * 4, none⟩)) rfl (fun w' hw => V.indexAddr (x := .tmp 34) (i := .tmp 35) (m := k) (j := (k : Int)) rfl u25 s90 (Eq.trans (b := v_ys) h1_10 hv33) h5_10 rfl hlt37) ?_
  refine WQ.y (.pointer (some ⟨b29, k30 + k * 4 + 1, none⟩)) rfl (fun w' hw => V.fieldAddr rfl fl90_1 rfl) ?_
  refine WQ.y (.int .u8 ((ys.getD k default).Kind)) rfl (fun w' hw => V.load rfl p88 rfl ((hat36.ext hw (by simp)).cell (j := 1) rfl)) ?_
  refine WQ.y (.bool (decide (((xs.getD k default).Kind) ≠ ((ys.getD k default).Kind)))) rfl (fun w' hw => V.cmp rfl rfl rfl rfl) ?_
  refine WQ.k (a := false) rfl rfl ?_
  refine WQ.vbp (c := ((xs.getD k default).Kind) ≠ ((ys.getD k default).Kind)) (Sure.none rfl) rfl (fun w' hw => V.move rfl rfl) (fun hc53 => ?_) (fun hc53 => ?_)
  · refine WQ.skips [(41, some true)] [(67, some true)] (kc (some true) rfl kn) (by kernel_rfl) (fun E54 hK55 hE56 w57 hq58 => ?_)
    have hx59 : Ext [] w w57 := hx11.trans hq58
    refine WP.cond_true (hK55 67 (some true) rfl) ?_
    refine WP.sr ?_
    refine WL.m rfl ?_
    refine WL.nil ?_
    refine WP.ret ?_
    refine resOf.c1 rfl (v := .bool (false)) rfl ?_
    exact ⟨(bool_eq (by first | (exact (eqB_len (by omega)).symm) | (exact (eqB_true (by omega) (by assumption) (by omega)).symm) | (exact (eqB_false (by omega) (by omega) (by first | assumption | grind [sameEntB])).symm))), hx59⟩
  refine WQ.my rfl rfl ?_
  refine WQ.my rfl rfl ?_
  refine WQ.y (.pointer (some ⟨b13, k14 + k * 4, none⟩)) rfl (fun w' hw => V.indexAddr (x := .tmp 42) (i := .tmp 43) (m := k) (j := (k : Int)) rfl u25 s90 (Eq.trans (b := v_xs) h0_10 hv17) h5_10 rfl hlt21) ?_
  refine WQ.y (.pointer (some ⟨b13, k14 + k * 4 + 2, none⟩)) rfl (fun w' hw => V.fieldAddr rfl fl90_2 rfl) ?_
  refine WQ.y (.string ((xs.getD k default).Data)) rfl (fun w' hw => V.load rfl p9 rfl ((hat20.ext hw (by simp)).cell (j := 2) rfl)) ?_
  refine WQ.my rfl rfl ?_
  refine WQ.my rfl rfl ?_
  refine WQ.y (.pointer (some ⟨b29, k30 + k * 4, none⟩)) rfl (fun w' hw => V.indexAddr (x := .tmp 47) (i := .tmp 48) (m := k) (j := (k : Int)) rfl u25 s90 (Eq.trans (b := v_ys) h1_10 hv33) h5_10 rfl hlt37) ?_
  refine WQ.y (.pointer (some ⟨b29, k30 + k * 4 + 2, none⟩)) rfl (fun w' hw => V.fieldAddr rfl fl90_2 rfl) ?_
  refine WQ.y (.string ((ys.getD k default).Data)) rfl (fun w' hw => V.load rfl p9 rfl ((hat36.ext hw (by simp)).cell (j := 2) rfl)) ?_
  refine WQ.y (.bool (!(seqB ((xs.getD k default).Data) ((ys.getD k default).Data)))) rfl (fun w' hw => V.scmp rfl rfl rfl rfl) ?_
  refine WQ.k (a := false) rfl rfl ?_
  refine WQ.vbn (c := seqB ((xs.getD k default).Data) ((ys.getD k default).Data)) (Sure.none rfl) rfl (fun w' hw => V.move rfl rfl) (fun hc61 => ?_) (fun hc61 => ?_)
  · refine WQ.skips [(54, some true)] [(67, some true)] (kc (some true) rfl kn) (by kernel_rfl) (fun E62 hK63 hE64 w65 hq66 => ?_)
    have hx67 : Ext [] w w65 := hx11.trans hq66
    refine WP.cond_true (hK63 67 (some true) rfl) ?_
    refine WP.sr ?_
    refine WL.m rfl ?_
    refine WL.nil ?_
    refine WP.ret ?_
    refine resOf.c1 rfl (v := .bool (false)) rfl ?_
    exact ⟨(bool_eq (by first | (exact (eqB_len (by omega)).symm) | (exact (eqB_true (by omega) (by assumption) (by omega)).symm) | (exact (eqB_false (by omega) (by omega) (by first | assumption | grind [sameEntB])).symm))), hx67⟩
  refine WQ.my rfl rfl ?_
  refine WQ.my rfl rfl ?_
  refine WQ.y (.pointer (some ⟨b13, k14 + k * 4, none⟩)) rfl (fun w' hw => V.indexAddr (x := .tmp 55) (i := .tmp 56) (m := k) (j := (k : Int)) rfl u25 s90 (Eq.trans (b := v_xs) h0_10 hv17) h5_10 rfl hlt21) ?_
  refine WQ.y (.pointer (some ⟨b13, k14 + k * 4 + 3, none⟩)) rfl (fun w' hw => V.fieldAddr rfl fl90_3 rfl) ?_
  refine WQ.y (v22) rfl (fun w' hw => V.load rfl p22 rfl ((hat20.ext hw (by simp)).cell (j := 3) rfl)) ?_
  refine WQ.my rfl rfl ?_
  refine WQ.my rfl rfl ?_
  refine WQ.y (.pointer (some ⟨b29, k30 + k * 4, none⟩)) rfl (fun w' hw => V.indexAddr (x := .tmp 60) (i := .tmp 61) (m := k) (j := (k : Int)) rfl u25 s90 (Eq.trans (b := v_ys) h1_10 hv33) h5_10 rfl hlt37) ?_
  refine WQ.y (.pointer (some ⟨b29, k30 + k * 4 + 3, none⟩)) rfl (fun w' hw => V.fieldAddr rfl fl90_3 rfl) ?_
  refine WQ.y (v38) rfl (fun w' hw => V.load rfl p22 rfl ((hat36.ext hw (by simp)).cell (j := 3) rfl)) ?_
  refine WQ.c (u := .bool (eqB ieq ((xs.getD k default).Members) ((ys.getD k default).Members))) (Sure.yes rfl rfl rfl) rfl (fun w' hw => C.call2 rfl cl40 rfl rfl) (fun w' hw => (ref_sameInts (hl23.ext (Ext.any hw)) (hl39.ext (Ext.any hw)))) ?_
  refine WQ.y (.bool (!(eqB ieq ((xs.getD k default).Members) ((ys.getD k default).Members)))) rfl (fun w' hw => V.not rfl rfl) ?_
  refine WQ.k (a := false) rfl rfl ?_
  refine WQ.nil (fun w69 hq70 => ?_)
  have hx71 : Ext [] w w69 := hx11.trans hq70
  refine WP.condn (t := eqB ieq ((xs.getD k default).Members) ((ys.getD k default).Members)) rfl (fun hc73 => ?_) (fun hc73 => ?_)
  · refine WP.sr ?_
    refine WL.m rfl ?_
    refine WL.nil ?_
    refine WP.ret ?_
    refine resOf.c1 rfl (v := .bool (false)) rfl ?_
    exact ⟨(bool_eq (by first | (exact (eqB_len (by omega)).symm) | (exact (eqB_true (by omega) (by assumption) (by omega)).symm) | (exact (eqB_false (by omega) (by omega) (by first | assumption | grind [sameEntB])).symm))), hx71⟩
  refine WP.skip ?_
  refine WP.region ?_
  refine WL.m rfl ?_
  refine WL.z (.int .i64 ((k : Int) + 1)) (V.arith (x := .tmp 15) rfl h5_10 rfl rfl (wrap_i64 (by omega) (by omega))) ?_
  refine WL.m rfl ?_
  refine WL.nil ?_
  exact ⟨k + 1, ⟨h0_10, h1_10, (int_eq (by omega)), h6_10, h7_10, h8_10, h9_10, h10_10, hx71, (by omega), (all_step (by assumption) (by first | assumption | grind [sameEntB]))⟩, (by omega)⟩

end Go.Proofs.Ytbpamkbegggeoaa.T
