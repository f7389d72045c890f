import Derived.Test.YtbpamkbegggeoaaV7
namespace Go.Proofs.Ytbpamkbegggeoaa.T
open W Go.RowKit
set_option maxRecDepth 100000
set_option maxHeartbeats 400000

theorem ref_Same {w : World} {X : List Nat} {a : PeerD} {c_a : List Value} (h_a : peerR.rd X w c_a a) {b : PeerD} {c_b : List Value} (h_b : peerR.rd X w c_b b) : Fnc Try.prog 14 #[.agg c_a.toArray, .agg c_b.toArray] w (fun v w' => v = .bool (samePeerB a b) ∧ Ext [] w w') := by
  obtain ⟨v1, v3, v5, v7, v9, v11, rfl, hl2, hl4, hl6, hl8, hl10, hl12, hk13⟩ := h_a
  obtain ⟨hin14, hin15, hin16, hin17, hin18, hin19, hin20, hin21, hin22, hin23, hin24, hin25⟩ := (show PeerD.InR a from hk13)
  have hin14 := inK_i64 hin14
  have hin15 := inK_u64 hin15
  have hin16 := inK_i64 hin16
  have hin17 := inK_u8 hin17
  have hin18 := inK_i64 hin18
  have hin19 := inK_u64 hin19
  have hin20 := inK_u64 hin20
  have hin22 := inK_u64 hin22
  have hin23 := inK_i64 hin23
  have hin24 := inK_i64 hin24
  have hin25 := inK_u64 hin25
  have hle26 := hl2.le'
  have hle27 := hl4.le'
  have hle28 := hl6.le'
  have hle29 := hl8.le'
  have hle30 := hl10.le'
  have hle31 := hl12.le'
  obtain ⟨v32, v34, v36, v38, v40, v42, rfl, hl33, hl35, hl37, hl39, hl41, hl43, hk44⟩ := h_b
  obtain ⟨hin45, hin46, hin47, hin48, hin49, hin50, hin51, hin52, hin53, hin54, hin55, hin56⟩ := (show PeerD.InR b from hk44)
  have hin45 := inK_i64 hin45
  have hin46 := inK_u64 hin46
  have hin47 := inK_i64 hin47
  have hin48 := inK_u8 hin48
  have hin49 := inK_i64 hin49
  have hin50 := inK_u64 hin50
  have hin51 := inK_u64 hin51
  have hin53 := inK_u64 hin53
  have hin54 := inK_i64 hin54
  have hin55 := inK_i64 hin55
  have hin56 := inK_u64 hin56
  have hle57 := hl33.le'
  have hle58 := hl35.le'
  have hle59 := hl37.le'
  have hle60 := hl39.le'
  have hle61 := hl41.le'
  have hle62 := hl43.le'
  refine Fnc.of_WP (n := 149) Try.func14 rfl Try.ntmps14 (by simp) ?_
  intro E hE
  have h0 : E 0 = .agg #[.int .i64 (a.Id), v1, .int .u64 (a.Term), .int .i64 (a.Vote), .int .u8 (a.Role), .int .i64 (a.Lead), .int .u64 (a.Base), .int .u64 (a.BaseTerm), v3, .string (a.Snap), v5, .int .u64 (a.Commit), .int .i64 (a.Idle), .int .i64 (a.Wait), v7, v9, .int .u64 (a.Round), v11] := hE 0 (by simp)
  have h1 : E 1 = .agg #[.int .i64 (b.Id), v32, .int .u64 (b.Term), .int .i64 (b.Vote), .int .u8 (b.Role), .int .i64 (b.Lead), .int .u64 (b.Base), .int .u64 (b.BaseTerm), v34, .string (b.Snap), v36, .int .u64 (b.Commit), .int .i64 (b.Idle), .int .i64 (b.Wait), v38, v40, .int .u64 (b.Round), v42] := hE 1 (by simp)
  clear hE
  refine WP.sr ?_
  refine WL.box (x := .tmp 0) (cs := [.int .i64 (a.Id), v1, .int .u64 (a.Term), .int .i64 (a.Vote), .int .u8 (a.Role), .int .i64 (a.Lead), .int .u64 (a.Base), .int .u64 (a.BaseTerm), v3, .string (a.Snap), v5, .int .u64 (a.Commit), .int .i64 (a.Idle), .int .i64 (a.Wait), v7, v9, .int .u64 (a.Round), v11]) (Sure.none rfl) rfl rfl h0 rfl (fun b63 w64 hx65 he66 hb67 => ?_)
  have hl68 := (Sl.new (b := b63) (by show (1 : Nat) ≠ 0; decide) hl2 (by omega)).ext (Ext.any hx65)
  have hl69 := (Sl.new (b := b63) (by show (1 : Nat) ≠ 0; decide) hl4 (by omega)).ext (Ext.any hx65)
  have hl70 := (Sl.new (b := b63) (by show (4 : Nat) ≠ 0; decide) hl6 (by omega)).ext (Ext.any hx65)
  have hl71 := (Sl.new (b := b63) (by show (1 : Nat) ≠ 0; decide) hl8 (by omega)).ext (Ext.any hx65)
  have hl72 := (Sl.new (b := b63) (by show (3 : Nat) ≠ 0; decide) hl10 (by omega)).ext (Ext.any hx65)
  have hl73 := (Sl.new (b := b63) (by show (3 : Nat) ≠ 0; decide) hl12 (by omega)).ext (Ext.any hx65)
  have hl74 := (Sl.new (b := b63) (by show (1 : Nat) ≠ 0; decide) hl33 (by omega)).ext (Ext.any hx65)
  have hl75 := (Sl.new (b := b63) (by show (1 : Nat) ≠ 0; decide) hl35 (by omega)).ext (Ext.any hx65)
  have hl76 := (Sl.new (b := b63) (by show (4 : Nat) ≠ 0; decide) hl37 (by omega)).ext (Ext.any hx65)
  have hl77 := (Sl.new (b := b63) (by show (1 : Nat) ≠ 0; decide) hl39 (by omega)).ext (Ext.any hx65)
  have hl78 := (Sl.new (b := b63) (by show (3 : Nat) ≠ 0; decide) hl41 (by omega)).ext (Ext.any hx65)
  have hl79 := (Sl.new (b := b63) (by show (3 : Nat) ≠ 0; decide) hl43 (by omega)).ext (Ext.any hx65)
  have hx80 : Ext [b63] _ _ := (Ext.refl _ _).trans (Ext.any hx65)
  have hge_b63_w : w.heap.size ≤ b63 := by have := Nat.le_refl w.heap.size; omega
  refine WL.box (x := .tmp 1) (cs := [.int .i64 (b.Id), v32, .int .u64 (b.Term), .int .i64 (b.Vote), .int .u8 (b.Role), .int .i64 (b.Lead), .int .u64 (b.Base), .int .u64 (b.BaseTerm), v34, .string (b.Snap), v36, .int .u64 (b.Commit), .int .i64 (b.Idle), .int .i64 (b.Wait), v38, v40, .int .u64 (b.Round), v42]) (Sure.none rfl) rfl rfl h1 rfl (fun b81 w82 hx83 he84 hb85 => ?_)
  have hlt_b63_b81 : b63 < b81 := by have := hb67.lt; omega
  have hb86 := hb67.ext hx83 (by simp)
  have hl87 := (Sl.new (b := b81) (by show (1 : Nat) ≠ 0; decide) hl68 (by omega)).ext (Ext.any hx83)
  have hl88 := (Sl.new (b := b81) (by show (1 : Nat) ≠ 0; decide) hl69 (by omega)).ext (Ext.any hx83)
  have hl89 := (Sl.new (b := b81) (by show (4 : Nat) ≠ 0; decide) hl70 (by omega)).ext (Ext.any hx83)
  have hl90 := (Sl.new (b := b81) (by show (1 : Nat) ≠ 0; decide) hl71 (by omega)).ext (Ext.any hx83)
  have hl91 := (Sl.new (b := b81) (by show (3 : Nat) ≠ 0; decide) hl72 (by omega)).ext (Ext.any hx83)
  have hl92 := (Sl.new (b := b81) (by show (3 : Nat) ≠ 0; decide) hl73 (by omega)).ext (Ext.any hx83)
  have hl93 := (Sl.new (b := b81) (by show (1 : Nat) ≠ 0; decide) hl74 (by omega)).ext (Ext.any hx83)
  have hl94 := (Sl.new (b := b81) (by show (1 : Nat) ≠ 0; decide) hl75 (by omega)).ext (Ext.any hx83)
  have hl95 := (Sl.new (b := b81) (by show (4 : Nat) ≠ 0; decide) hl76 (by omega)).ext (Ext.any hx83)
  have hl96 := (Sl.new (b := b81) (by show (1 : Nat) ≠ 0; decide) hl77 (by omega)).ext (Ext.any hx83)
  have hl97 := (Sl.new (b := b81) (by show (3 : Nat) ≠ 0; decide) hl78 (by omega)).ext (Ext.any hx83)
  have hl98 := (Sl.new (b := b81) (by show (3 : Nat) ≠ 0; decide) hl79 (by omega)).ext (Ext.any hx83)
  have hx99 : Ext [b81, b63] _ _ := (Ext.cons hx80).trans (Ext.any hx83)
  have hge_b81_w : w.heap.size ≤ b81 := by have := hx80.size; omega
  refine WL.m rfl ?_
  refine WL.nil ?_
  refine WP.seq ?_
  refine WP.sr ?_
  refine WL.f (v9) fl29_15 rfl p26 (hb86.cell rfl) ?_
  obtain ⟨a100, c101, hv102⟩ := hl91.shape
  refine WL.z (.int .i64 (((a.Follows).length : Int))) (V.lenSlice rfl rfl u26 (Eq.trans (b := v9) rfl hv102)) ?_
  refine WL.f (v40) fl29_15 rfl p26 (hb85.cell rfl) ?_
  obtain ⟨a103, c104, hv105⟩ := hl97.shape
  refine WL.z (.int .i64 (((b.Follows).length : Int))) (V.lenSlice rfl rfl u26 (Eq.trans (b := v40) rfl hv105)) ?_
  refine WL.z (.bool (decide (((a.Follows).length : Int) ≠ ((b.Follows).length : Int)))) (V.cmp rfl rfl rfl rfl) ?_
  refine WL.vbp (c := ((a.Follows).length : Int) ≠ ((b.Follows).length : Int)) (Sure.none rfl) rfl (V.move rfl rfl) (fun hc106 => ?_) (fun hc106 => ?_)
  · refine WL.skips [(13, some true)] [(20, some true)] (kc (some true) rfl kn) (by kernel_rfl) (fun E107 hK108 hE109 => ?_)
    refine WP.cond_true (hK108 20 (some true) rfl) ?_
    refine WP.sr ?_
    refine WL.m rfl ?_
    refine WL.nil ?_
    refine WP.ret ?_
    refine resOf.c1 rfl (v := .bool (false)) rfl ?_
    exact ⟨(bool_eq (by first | grind [samePeerB] | (have hfe := eqB_true (f := sameFolB) (xs := a.Follows) (ys := b.Follows) (by omega) (by assumption) (by omega); grind [samePeerB]) | (have hfe := eqB_len (f := sameFolB) (xs := a.Follows) (ys := b.Follows) (by omega); grind [samePeerB]) | (have hfe := eqB_false (f := sameFolB) (xs := a.Follows) (ys := b.Follows) (k := k) (by omega) (by omega) (by assumption); grind [samePeerB]))), ((hx99).done (geCons hge_b81_w (geCons hge_b63_w geNil)))⟩
  refine WL.fy (v11) rfl fl29_17 rfl p27 (hb86.cell rfl) ?_
  refine WL.fy (v42) rfl fl29_17 rfl p27 (hb85.cell rfl) ?_
  refine WL.c (Sure.yes rfl rfl rfl) rfl (C.call2 rfl cl49 rfl rfl) (Fnc.mono (ref_SameReads hl92 hl98) ?_)
  rintro _ w110 ⟨rfl, hx111⟩
  have hx112 : Ext [b81, b63] w w110 := hx99.trans (Ext.any (Y := [b81, b63]) hx111)
  have hx113 : Ext [b81, b63] w82 w110 := (Ext.any (Y := [b81, b63]) hx111)
  have hb114 := hb86.ext hx111 (by simp)
  have hb115 := hb85.ext hx111 (by simp)
  refine WL.y (.bool (!(eqB sameReadB a.Reads b.Reads))) rfl (V.not rfl rfl) ?_
  refine WL.k (a := false) rfl rfl ?_
  refine WL.nil ?_
  refine WP.condn (t := eqB sameReadB a.Reads b.Reads) rfl (fun hc116 => ?_) (fun hc116 => ?_)
  · refine WP.sr ?_
    refine WL.m rfl ?_
    refine WL.nil ?_
    refine WP.ret ?_
    refine resOf.c1 rfl (v := .bool (false)) rfl ?_
    exact ⟨(bool_eq (by first | grind [samePeerB] | (have hfe := eqB_true (f := sameFolB) (xs := a.Follows) (ys := b.Follows) (by omega) (by assumption) (by omega); grind [samePeerB]) | (have hfe := eqB_len (f := sameFolB) (xs := a.Follows) (ys := b.Follows) (by omega); grind [samePeerB]) | (have hfe := eqB_false (f := sameFolB) (xs := a.Follows) (ys := b.Follows) (k := k) (by omega) (by omega) (by assumption); grind [samePeerB]))), ((hx112).done (geCons hge_b81_w (geCons hge_b63_w geNil)))⟩
  refine WP.skip ?_
  refine WP.seq ?_
  refine WP.sr ?_
  refine WL.m rfl ?_
  refine WL.nil ?_
  refine WP.block ?_
  have hsz119 : w.heap.size ≤ w110.heap.size := hx112.size
  refine WP.loop (σ := Nat) (fun k E117 w118 => E117 0 = .agg #[.int .i64 (a.Id), v1, .int .u64 (a.Term), .int .i64 (a.Vote), .int .u8 (a.Role), .int .i64 (a.Lead), .int .u64 (a.Base), .int .u64 (a.BaseTerm), v3, .string (a.Snap), v5, .int .u64 (a.Commit), .int .i64 (a.Idle), .int .i64 (a.Wait), v7, v9, .int .u64 (a.Round), v11] ∧ E117 1 = .agg #[.int .i64 (b.Id), v32, .int .u64 (b.Term), .int .i64 (b.Vote), .int .u8 (b.Role), .int .i64 (b.Lead), .int .u64 (b.Base), .int .u64 (b.BaseTerm), v34, .string (b.Snap), v36, .int .u64 (b.Commit), .int .i64 (b.Idle), .int .i64 (b.Wait), v38, v40, .int .u64 (b.Round), v42] ∧ E117 2 = .pointer (some ⟨b63, 0, none⟩) ∧ E117 3 = .pointer (some ⟨b81, 0, none⟩) ∧ E117 5 = .int .i64 ((k : Int)) ∧ E117 6 = .pointer (some ⟨b63, 15, none⟩) ∧ E117 7 = v9 ∧ E117 8 = .int .i64 (((a.Follows).length : Int)) ∧ E117 9 = .pointer (some ⟨b81, 15, none⟩) ∧ E117 10 = v40 ∧ E117 11 = .int .i64 (((b.Follows).length : Int)) ∧ E117 12 = .bool (decide (((a.Follows).length : Int) ≠ ((b.Follows).length : Int))) ∧ E117 13 = .bool (false) ∧ E117 14 = .pointer (some ⟨b63, 17, none⟩) ∧ E117 15 = v11 ∧ E117 16 = .pointer (some ⟨b81, 17, none⟩) ∧ E117 17 = v42 ∧ E117 18 = .bool (eqB sameReadB a.Reads b.Reads) ∧ E117 19 = .bool (!(eqB sameReadB a.Reads b.Reads)) ∧ E117 20 = .bool (!(eqB sameReadB a.Reads b.Reads)) ∧ Ext [b81, b63] w110 w118 ∧ Box w118 b63 29 [.int .i64 (a.Id), v1, .int .u64 (a.Term), .int .i64 (a.Vote), .int .u8 (a.Role), .int .i64 (a.Lead), .int .u64 (a.Base), .int .u64 (a.BaseTerm), v3, .string (a.Snap), v5, .int .u64 (a.Commit), .int .i64 (a.Idle), .int .i64 (a.Wait), v7, v9, .int .u64 (a.Round), v11] ∧ Box w118 b81 29 [.int .i64 (b.Id), v32, .int .u64 (b.Term), .int .i64 (b.Vote), .int .u8 (b.Role), .int .i64 (b.Lead), .int .u64 (b.Base), .int .u64 (b.BaseTerm), v34, .string (b.Snap), v36, .int .u64 (b.Commit), .int .i64 (b.Idle), .int .i64 (b.Wait), v38, v40, .int .u64 (b.Round), v42] ∧ k ≤ a.Follows.length ∧ ∀ j, j < k → (fun i => sameFolB (a.Follows.getD i default) (b.Follows.getD i default)) j = true) (fun k => a.Follows.length - k) (0) ?_ ?_
  · exact ⟨h0, h1, rfl, rfl, (int_eq (by omega)), rfl, rfl, rfl, rfl, rfl, rfl, rfl, rfl, rfl, rfl, rfl, rfl, rfl, rfl, rfl, Ext.refl _ _, hb114, hb115, (by omega), (all_zero _)⟩
  rintro k E117 w118 ⟨h0_120, h1_120, h2_120, h3_120, h5_120, h6_120, h7_120, h8_120, h9_120, h10_120, h11_120, h12_120, h13_120, h14_120, h15_120, h16_120, h17_120, h18_120, h19_120, h20_120, hx120, hbb63_120, hbb81_120, hi0_120, hi1_120⟩
  have hx121 : Ext [b81, b63] w w118 := hx112.trans hx120
  have hx122 : Ext [b81, b63] w82 w118 := hx113.trans hx120
  have hx123 : Ext [b81, b63] w110 w118 := hx120
  refine WP.seq ?_
  refine WP.sr ?_
  refine WL.m rfl ?_
  refine WL.f (x := .tmp 2) (v9) fl29_15 h2_120 p26 (hbb63_120.cell rfl) ?_
  refine WL.z (.int .i64 (((a.Follows).length : Int))) (V.lenSlice rfl rfl u26 (Eq.trans (b := v9) rfl hv102)) ?_
  refine WL.z (.bool (decide ((k : Int) < ((a.Follows).length : Int)))) (V.cmp (x := .tmp 21) rfl h5_120 rfl rfl) ?_
  refine WL.nil ?_
  refine WP.condp (t := (k : Int) < ((a.Follows).length : Int)) rfl (fun hc124 => ?_) (fun hc124 => ?_)
  · refine WP.skip ?_
    refine WP.seq ?_
    refine WP.block ?_
    refine WP.seq ?_
    refine WP.quiet mo (by kernel_rfl) ?_
    refine WQ.f (x := .tmp 2) (v9) fl29_15 h2_120 p26 (fun w' hw => (hbb63_120.ext hw (by simp)).cell rfl) ?_
    refine WQ.m rfl ?_
    have hlt133 : k < (a.Follows).length := by first | omega | (simp at *; omega)
    obtain ⟨b125, k126, c127, cs128, hv129, hnb130, hr131, hat132⟩ := (hl91.ext (Ext.pre hx122)).get (i := k) (x := (a.Follows.getD k default)) (getD_some hlt133 _)
    obtain ⟨rfl, hk134⟩ := hr131
    obtain ⟨hin135, hin136, hin137⟩ := (show FollowD.InR (a.Follows.getD k default) from hk134)
    have hin135 := inK_i64 hin135
    have hin136 := inK_u64 hin136
    have hin137 := inK_u64 hin137
    refine WQ.z (.pointer (some ⟨b125, k126 + k * 3, none⟩)) (fun w' hw => V.indexAddr (i := .tmp 30) (m := k) (j := (k : Int)) rfl u26 s85 (Eq.trans (b := v9) rfl hv129) h5_120 rfl hlt133) ?_
    refine WQ.z (.agg #[.int .i64 ((a.Follows.getD k default).Id), .int .u64 ((a.Follows.getD k default).Next), .int .u64 ((a.Follows.getD k default).Match)]) (fun w' hw => V.loadAgg (cs := [.int .i64 ((a.Follows.getD k default).Id), .int .u64 ((a.Follows.getD k default).Next), .int .u64 ((a.Follows.getD k default).Match)]) rfl a85 rfl (hat132.ext hw (by simp)) rfl) ?_
    refine WQ.f (x := .tmp 3) (v40) fl29_15 h3_120 p26 (fun w' hw => (hbb81_120.ext hw (by simp)).cell rfl) ?_
    refine WQ.m rfl ?_
    have hlt146 : k < (b.Follows).length := by first | omega | (simp at *; omega)
    obtain ⟨b138, k139, c140, cs141, hv142, hnb143, hr144, hat145⟩ := (hl97.ext (Ext.pre hx122)).get (i := k) (x := (b.Follows.getD k default)) (getD_some hlt146 _)
    obtain ⟨rfl, hk147⟩ := hr144
    obtain ⟨hin148, hin149, hin150⟩ := (show FollowD.InR (b.Follows.getD k default) from hk147)
    have hin148 := inK_i64 hin148
    have hin149 := inK_u64 hin149
    have hin150 := inK_u64 hin150
    refine WQ.z (.pointer (some ⟨b138, k139 + k * 3, none⟩)) (fun w' hw => V.indexAddr (i := .tmp 35) (m := k) (j := (k : Int)) rfl u26 s85 (Eq.trans (b := v40) rfl hv142) h5_120 rfl hlt146) ?_
    refine WQ.z (.agg #[.int .i64 ((b.Follows.getD k default).Id), .int .u64 ((b.Follows.getD k default).Next), .int .u64 ((b.Follows.getD k default).Match)]) (fun w' hw => V.loadAgg (cs := [.int .i64 ((b.Follows.getD k default).Id), .int .u64 ((b.Follows.getD k default).Next), .int .u64 ((b.Follows.getD k default).Match)]) rfl a85 rfl (hat145.ext hw (by simp)) rfl) ?_
    refine WQ.z (.bool (!(decide (((a.Follows.getD k default).Id) = ((b.Follows.getD k default).Id)) && (decide (((a.Follows.getD k default).Next) = ((b.Follows.getD k default).Next)) && (decide (((a.Follows.getD k default).Match) = ((b.Follows.getD k default).Match)) && true))))) (fun w' hw => V.aeq [(.i64, ((a.Follows.getD k default).Id), ((b.Follows.getD k default).Id)), (.u64, ((a.Follows.getD k default).Next), ((b.Follows.getD k default).Next)), (.u64, ((a.Follows.getD k default).Match), ((b.Follows.getD k default).Match))] rfl (.inr ⟨rfl, rfl⟩) eg85 sh85 us85 fs85 rfl rfl ⟨rfl, u3, rfl, rfl, ⟨rfl, u23, rfl, rfl, ⟨rfl, u23, rfl, rfl, trivial⟩⟩⟩) ?_
    refine WQ.nil (fun w151 hq152 => ?_)
    have hx153 : Ext [b81, b63] w w151 := hx121.trans (Ext.any (Y := [b81, b63]) hq152)
    have hx155 : Ext [b81, b63] w110 w151 := hx123.trans (Ext.any (Y := [b81, b63]) hq152)
    have hb157 := hbb63_120.ext hq152 (by simp)
    have hb158 := hbb81_120.ext hq152 (by simp)
    refine WP.condn (t := (decide (((a.Follows.getD k default).Id) = ((b.Follows.getD k default).Id)) && (decide (((a.Follows.getD k default).Next) = ((b.Follows.getD k default).Next)) && (decide (((a.Follows.getD k default).Match) = ((b.Follows.getD k default).Match)) && true)))) rfl (fun hc159 => ?_) (fun hc159 => ?_)
    rotate_left
    · refine WP.skip ?_
      refine WP.region ?_
      refine WL.m rfl ?_
      refine WL.z (.int .i64 ((k : Int) + 1)) (V.arith (x := .tmp 26) rfl h5_120 rfl rfl (wrap_i64 (by omega) (by omega))) ?_
      refine WL.m rfl ?_
      refine WL.nil ?_
      exact ⟨k + 1, ⟨h0_120, h1_120, h2_120, h3_120, (int_eq (by omega)), h6_120, h7_120, h8_120, h9_120, h10_120, h11_120, h12_120, h13_120, h14_120, h15_120, h16_120, h17_120, h18_120, h19_120, h20_120, hx155, hb157, hb158, (by omega), (all_step (by assumption) (by assumption))⟩, (by omega)⟩
    refine WP.sr ?_
    refine WL.m rfl ?_
    refine WL.nil ?_
    refine WP.ret ?_
    refine resOf.c1 rfl (v := .bool (false)) rfl ?_
    exact ⟨(bool_eq (by first | grind [samePeerB] | (have hfe := eqB_true (f := sameFolB) (xs := a.Follows) (ys := b.Follows) (by omega) (by assumption) (by omega); grind [samePeerB]) | (have hfe := eqB_len (f := sameFolB) (xs := a.Follows) (ys := b.Follows) (by omega); grind [samePeerB]) | (have hfe := eqB_false (f := sameFolB) (xs := a.Follows) (ys := b.Follows) (k := k) (by omega) (by omega) (by assumption); grind [samePeerB]))), ((hx153).done (geCons hge_b81_w (geCons hge_b63_w geNil)))⟩
  refine WP.exit ?_
  refine WP.sr ?_
  refine WL.f (x := .tmp 2) (.int .i64 (a.Id)) fl29_0 h2_120 p3 (hbb63_120.cell rfl) ?_
  refine WL.f (x := .tmp 3) (.int .i64 (b.Id)) fl29_0 h3_120 p3 (hbb81_120.cell rfl) ?_
  refine WL.z (.bool (decide (a.Id = b.Id))) (V.cmp rfl rfl rfl rfl) ?_
  refine WL.vbp (c := a.Id = b.Id) (Sure.none rfl) rfl (V.move rfl rfl) (fun hc160 => ?_) (fun hc160 => ?_)
  rotate_left
  · refine WL.skips [(44, some false)] [(4, some false)] (kc (some false) rfl kn) (by kernel_rfl) (fun E255 hK256 hE257 => ?_)
    refine WP.ret ?_
    refine resOf.c1 rfl (v := .bool (false)) (hK256 4 (some false) rfl) ?_
    exact ⟨(bool_eq (by first | grind [samePeerB] | (have hfe := eqB_true (f := sameFolB) (xs := a.Follows) (ys := b.Follows) (by omega) (by assumption) (by omega); grind [samePeerB]) | (have hfe := eqB_len (f := sameFolB) (xs := a.Follows) (ys := b.Follows) (by omega); grind [samePeerB]) | (have hfe := eqB_false (f := sameFolB) (xs := a.Follows) (ys := b.Follows) (k := k) (by omega) (by omega) (by assumption); grind [samePeerB]))), ((hx121).done (geCons hge_b81_w (geCons hge_b63_w geNil)))⟩
  refine WL.fy (x := .tmp 2) (v1) rfl fl29_1 h2_120 p22 (hbb63_120.cell rfl) ?_
  refine WL.fy (x := .tmp 3) (v32) rfl fl29_1 h3_120 p22 (hbb81_120.cell rfl) ?_
  refine WL.c (Sure.yes rfl rfl rfl) rfl (C.call2 rfl cl40 rfl rfl) (Fnc.mono (ref_sameInts (hl87.ext (Ext.pre hx122)) (hl93.ext (Ext.pre hx122))) ?_)
  rintro _ w161 ⟨rfl, hx162⟩
  have hx163 : Ext [b81, b63] w w161 := hx121.trans (Ext.any (Y := [b81, b63]) hx162)
  have hx164 : Ext [b81, b63] w82 w161 := hx122.trans (Ext.any (Y := [b81, b63]) hx162)
  have hb167 := hbb63_120.ext hx162 (by simp)
  have hb168 := hbb81_120.ext hx162 (by simp)
  refine WL.k (a := true) rfl rfl ?_
  refine WL.vb (c := eqB ieq a.Members b.Members) (Sure.none rfl) rfl (V.move rfl rfl) (fun hc169 => ?_) (fun hc169 => ?_)
  rotate_left
  · refine WL.skips [(51, some false)] [(4, some false)] (kc (some false) rfl kn) (by kernel_rfl) (fun E252 hK253 hE254 => ?_)
    refine WP.ret ?_
    refine resOf.c1 rfl (v := .bool (false)) (hK253 4 (some false) rfl) ?_
    exact ⟨(bool_eq (by first | grind [samePeerB] | (have hfe := eqB_true (f := sameFolB) (xs := a.Follows) (ys := b.Follows) (by omega) (by assumption) (by omega); grind [samePeerB]) | (have hfe := eqB_len (f := sameFolB) (xs := a.Follows) (ys := b.Follows) (by omega); grind [samePeerB]) | (have hfe := eqB_false (f := sameFolB) (xs := a.Follows) (ys := b.Follows) (k := k) (by omega) (by omega) (by assumption); grind [samePeerB]))), ((hx163).done (geCons hge_b81_w (geCons hge_b63_w geNil)))⟩
  refine WL.fy (x := .tmp 2) (.int .u64 (a.Term)) rfl fl29_2 h2_120 p23 (hb167.cell rfl) ?_
  refine WL.fy (x := .tmp 3) (.int .u64 (b.Term)) rfl fl29_2 h3_120 p23 (hb168.cell rfl) ?_
  refine WL.y (.bool (decide (a.Term = b.Term))) rfl (V.cmp rfl rfl rfl rfl) ?_
  refine WL.k (a := true) rfl rfl ?_
  refine WL.vbp (c := a.Term = b.Term) (Sure.none rfl) rfl (V.move rfl rfl) (fun hc170 => ?_) (fun hc170 => ?_)
  rotate_left
  · refine WL.skips [(58, some false)] [(4, some false)] (kc (some false) rfl kn) (by kernel_rfl) (fun E249 hK250 hE251 => ?_)
    refine WP.ret ?_
    refine resOf.c1 rfl (v := .bool (false)) (hK250 4 (some false) rfl) ?_
    exact ⟨(bool_eq (by first | grind [samePeerB] | (have hfe := eqB_true (f := sameFolB) (xs := a.Follows) (ys := b.Follows) (by omega) (by assumption) (by omega); grind [samePeerB]) | (have hfe := eqB_len (f := sameFolB) (xs := a.Follows) (ys := b.Follows) (by omega); grind [samePeerB]) | (have hfe := eqB_false (f := sameFolB) (xs := a.Follows) (ys := b.Follows) (k := k) (by omega) (by omega) (by assumption); grind [samePeerB]))), ((hx163).done (geCons hge_b81_w (geCons hge_b63_w geNil)))⟩
  refine WL.fy (x := .tmp 2) (.int .i64 (a.Vote)) rfl fl29_3 h2_120 p3 (hb167.cell rfl) ?_
  refine WL.fy (x := .tmp 3) (.int .i64 (b.Vote)) rfl fl29_3 h3_120 p3 (hb168.cell rfl) ?_
  refine WL.y (.bool (decide (a.Vote = b.Vote))) rfl (V.cmp rfl rfl rfl rfl) ?_
  refine WL.k (a := true) rfl rfl ?_
  refine WL.vbp (c := a.Vote = b.Vote) (Sure.none rfl) rfl (V.move rfl rfl) (fun hc171 => ?_) (fun hc171 => ?_)
  rotate_left
  · refine WL.skips [(65, some false)] [(4, some false)] (kc (some false) rfl kn) (by kernel_rfl) (fun E246 hK247 hE248 => ?_)
    refine WP.ret ?_
    refine resOf.c1 rfl (v := .bool (false)) (hK247 4 (some false) rfl) ?_
    exact ⟨(bool_eq (by first | grind [samePeerB] | (have hfe := eqB_true (f := sameFolB) (xs := a.Follows) (ys := b.Follows) (by omega) (by assumption) (by omega); grind [samePeerB]) | (have hfe := eqB_len (f := sameFolB) (xs := a.Follows) (ys := b.Follows) (by omega); grind [samePeerB]) | (have hfe := eqB_false (f := sameFolB) (xs := a.Follows) (ys := b.Follows) (k := k) (by omega) (by omega) (by assumption); grind [samePeerB]))), ((hx163).done (geCons hge_b81_w (geCons hge_b63_w geNil)))⟩
  refine WL.fy (x := .tmp 2) (.int .u8 (a.Role)) rfl fl29_4 h2_120 p24 (hb167.cell rfl) ?_
  refine WL.fy (x := .tmp 3) (.int .u8 (b.Role)) rfl fl29_4 h3_120 p24 (hb168.cell rfl) ?_
  refine WL.y (.bool (decide (a.Role = b.Role))) rfl (V.cmp rfl rfl rfl rfl) ?_
  refine WL.k (a := true) rfl rfl ?_
  refine WL.vbp (c := a.Role = b.Role) (Sure.none rfl) rfl (V.move rfl rfl) (fun hc172 => ?_) (fun hc172 => ?_)
  rotate_left
  · refine WL.skips [(72, some false)] [(4, some false)] (kc (some false) rfl kn) (by kernel_rfl) (fun E243 hK244 hE245 => ?_)
    refine WP.ret ?_
    refine resOf.c1 rfl (v := .bool (false)) (hK244 4 (some false) rfl) ?_
    exact ⟨(bool_eq (by first | grind [samePeerB] | (have hfe := eqB_true (f := sameFolB) (xs := a.Follows) (ys := b.Follows) (by omega) (by assumption) (by omega); grind [samePeerB]) | (have hfe := eqB_len (f := sameFolB) (xs := a.Follows) (ys := b.Follows) (by omega); grind [samePeerB]) | (have hfe := eqB_false (f := sameFolB) (xs := a.Follows) (ys := b.Follows) (k := k) (by omega) (by omega) (by assumption); grind [samePeerB]))), ((hx163).done (geCons hge_b81_w (geCons hge_b63_w geNil)))⟩
  refine WL.fy (x := .tmp 2) (.int .i64 (a.Lead)) rfl fl29_5 h2_120 p3 (hb167.cell rfl) ?_
  refine WL.fy (x := .tmp 3) (.int .i64 (b.Lead)) rfl fl29_5 h3_120 p3 (hb168.cell rfl) ?_
  refine WL.y (.bool (decide (a.Lead = b.Lead))) rfl (V.cmp rfl rfl rfl rfl) ?_
  refine WL.k (a := true) rfl rfl ?_
  refine WL.vbp (c := a.Lead = b.Lead) (Sure.none rfl) rfl (V.move rfl rfl) (fun hc173 => ?_) (fun hc173 => ?_)
  rotate_left
  · refine WL.skips [(79, some false)] [(4, some false)] (kc (some false) rfl kn) (by kernel_rfl) (fun E240 hK241 hE242 => ?_)
    refine WP.ret ?_
    refine resOf.c1 rfl (v := .bool (false)) (hK241 4 (some false) rfl) ?_
    exact ⟨(bool_eq (by first | grind [samePeerB] | (have hfe := eqB_true (f := sameFolB) (xs := a.Follows) (ys := b.Follows) (by omega) (by assumption) (by omega); grind [samePeerB]) | (have hfe := eqB_len (f := sameFolB) (xs := a.Follows) (ys := b.Follows) (by omega); grind [samePeerB]) | (have hfe := eqB_false (f := sameFolB) (xs := a.Follows) (ys := b.Follows) (k := k) (by omega) (by omega) (by assumption); grind [samePeerB]))), ((hx163).done (geCons hge_b81_w (geCons hge_b63_w geNil)))⟩
  refine WL.fy (x := .tmp 2) (.int .u64 (a.Base)) rfl fl29_6 h2_120 p23 (hb167.cell rfl) ?_
  refine WL.fy (x := .tmp 3) (.int .u64 (b.Base)) rfl fl29_6 h3_120 p23 (hb168.cell rfl) ?_
  refine WL.y (.bool (decide (a.Base = b.Base))) rfl (V.cmp rfl rfl rfl rfl) ?_
  refine WL.k (a := true) rfl rfl ?_
  refine WL.vbp (c := a.Base = b.Base) (Sure.none rfl) rfl (V.move rfl rfl) (fun hc174 => ?_) (fun hc174 => ?_)
  rotate_left
  · refine WL.skips [(86, some false)] [(4, some false)] (kc (some false) rfl kn) (by kernel_rfl) (fun E237 hK238 hE239 => ?_)
    refine WP.ret ?_
    refine resOf.c1 rfl (v := .bool (false)) (hK238 4 (some false) rfl) ?_
    exact ⟨(bool_eq (by first | grind [samePeerB] | (have hfe := eqB_true (f := sameFolB) (xs := a.Follows) (ys := b.Follows) (by omega) (by assumption) (by omega); grind [samePeerB]) | (have hfe := eqB_len (f := sameFolB) (xs := a.Follows) (ys := b.Follows) (by omega); grind [samePeerB]) | (have hfe := eqB_false (f := sameFolB) (xs := a.Follows) (ys := b.Follows) (k := k) (by omega) (by omega) (by assumption); grind [samePeerB]))), ((hx163).done (geCons hge_b81_w (geCons hge_b63_w geNil)))⟩
  refine WL.fy (x := .tmp 2) (.int .u64 (a.BaseTerm)) rfl fl29_7 h2_120 p23 (hb167.cell rfl) ?_
  refine WL.fy (x := .tmp 3) (.int .u64 (b.BaseTerm)) rfl fl29_7 h3_120 p23 (hb168.cell rfl) ?_
  refine WL.y (.bool (decide (a.BaseTerm = b.BaseTerm))) rfl (V.cmp rfl rfl rfl rfl) ?_
  refine WL.k (a := true) rfl rfl ?_
  refine WL.vbp (c := a.BaseTerm = b.BaseTerm) (Sure.none rfl) rfl (V.move rfl rfl) (fun hc175 => ?_) (fun hc175 => ?_)
  rotate_left
  · refine WL.skips [(93, some false)] [(4, some false)] (kc (some false) rfl kn) (by kernel_rfl) (fun E234 hK235 hE236 => ?_)
    refine WP.ret ?_
    refine resOf.c1 rfl (v := .bool (false)) (hK235 4 (some false) rfl) ?_
    exact ⟨(bool_eq (by first | grind [samePeerB] | (have hfe := eqB_true (f := sameFolB) (xs := a.Follows) (ys := b.Follows) (by omega) (by assumption) (by omega); grind [samePeerB]) | (have hfe := eqB_len (f := sameFolB) (xs := a.Follows) (ys := b.Follows) (by omega); grind [samePeerB]) | (have hfe := eqB_false (f := sameFolB) (xs := a.Follows) (ys := b.Follows) (k := k) (by omega) (by omega) (by assumption); grind [samePeerB]))), ((hx163).done (geCons hge_b81_w (geCons hge_b63_w geNil)))⟩
  refine WL.fy (x := .tmp 2) (v3) rfl fl29_8 h2_120 p22 (hb167.cell rfl) ?_
  refine WL.fy (x := .tmp 3) (v34) rfl fl29_8 h3_120 p22 (hb168.cell rfl) ?_
  refine WL.c (Sure.yes rfl rfl rfl) rfl (C.call2 rfl cl40 rfl rfl) (Fnc.mono (ref_sameInts (hl88.ext (Ext.pre hx164)) (hl94.ext (Ext.pre hx164))) ?_)
  rintro _ w176 ⟨rfl, hx177⟩
  have hx178 : Ext [b81, b63] w w176 := hx163.trans (Ext.any (Y := [b81, b63]) hx177)
  have hx179 : Ext [b81, b63] w82 w176 := hx164.trans (Ext.any (Y := [b81, b63]) hx177)
  have hb183 := hb167.ext hx177 (by simp)
  have hb184 := hb168.ext hx177 (by simp)
  refine WL.k (a := true) rfl rfl ?_
  refine WL.vb (c := eqB ieq a.BaseMembers b.BaseMembers) (Sure.none rfl) rfl (V.move rfl rfl) (fun hc185 => ?_) (fun hc185 => ?_)
  rotate_left
  · refine WL.skips [(100, some false)] [(4, some false)] (kc (some false) rfl kn) (by kernel_rfl) (fun E231 hK232 hE233 => ?_)
    refine WP.ret ?_
    refine resOf.c1 rfl (v := .bool (false)) (hK232 4 (some false) rfl) ?_
    exact ⟨(bool_eq (by first | grind [samePeerB] | (have hfe := eqB_true (f := sameFolB) (xs := a.Follows) (ys := b.Follows) (by omega) (by assumption) (by omega); grind [samePeerB]) | (have hfe := eqB_len (f := sameFolB) (xs := a.Follows) (ys := b.Follows) (by omega); grind [samePeerB]) | (have hfe := eqB_false (f := sameFolB) (xs := a.Follows) (ys := b.Follows) (k := k) (by omega) (by omega) (by assumption); grind [samePeerB]))), ((hx178).done (geCons hge_b81_w (geCons hge_b63_w geNil)))⟩
  refine WL.fy (x := .tmp 2) (.string (a.Snap)) rfl fl29_9 h2_120 p9 (hb183.cell rfl) ?_
  refine WL.fy (x := .tmp 3) (.string (b.Snap)) rfl fl29_9 h3_120 p9 (hb184.cell rfl) ?_
  refine WL.y (.bool (seqB a.Snap b.Snap)) rfl (V.scmp rfl rfl rfl rfl) ?_
  refine WL.k (a := true) rfl rfl ?_
  refine WL.vb (c := seqB a.Snap b.Snap) (Sure.none rfl) rfl (V.move rfl rfl) (fun hc186 => ?_) (fun hc186 => ?_)
  rotate_left
  · refine WL.skips [(107, some false)] [(4, some false)] (kc (some false) rfl kn) (by kernel_rfl) (fun E228 hK229 hE230 => ?_)
    refine WP.ret ?_
    refine resOf.c1 rfl (v := .bool (false)) (hK229 4 (some false) rfl) ?_
    exact ⟨(bool_eq (by first | grind [samePeerB] | (have hfe := eqB_true (f := sameFolB) (xs := a.Follows) (ys := b.Follows) (by omega) (by assumption) (by omega); grind [samePeerB]) | (have hfe := eqB_len (f := sameFolB) (xs := a.Follows) (ys := b.Follows) (by omega); grind [samePeerB]) | (have hfe := eqB_false (f := sameFolB) (xs := a.Follows) (ys := b.Follows) (k := k) (by omega) (by omega) (by assumption); grind [samePeerB]))), ((hx178).done (geCons hge_b81_w (geCons hge_b63_w geNil)))⟩
  refine WL.fy (x := .tmp 2) (v5) rfl fl29_10 h2_120 p25 (hb183.cell rfl) ?_
  refine WL.fy (x := .tmp 3) (v36) rfl fl29_10 h3_120 p25 (hb184.cell rfl) ?_
  refine WL.c (Sure.yes rfl rfl rfl) rfl (C.call2 rfl cl50 rfl rfl) (Fnc.mono (ref_SameEntries (hl89.ext (Ext.pre hx179)) (hl95.ext (Ext.pre hx179))) ?_)
  rintro _ w187 ⟨rfl, hx188⟩
  have hx189 : Ext [b81, b63] w w187 := hx178.trans (Ext.any (Y := [b81, b63]) hx188)
  have hx190 : Ext [b81, b63] w82 w187 := hx179.trans (Ext.any (Y := [b81, b63]) hx188)
  have hb195 := hb183.ext hx188 (by simp)
  have hb196 := hb184.ext hx188 (by simp)
  refine WL.k (a := true) rfl rfl ?_
  refine WL.vb (c := eqB sameEntB a.Log b.Log) (Sure.none rfl) rfl (V.move rfl rfl) (fun hc197 => ?_) (fun hc197 => ?_)
  rotate_left
  · refine WL.skips [(114, some false)] [(4, some false)] (kc (some false) rfl kn) (by kernel_rfl) (fun E225 hK226 hE227 => ?_)
    refine WP.ret ?_
    refine resOf.c1 rfl (v := .bool (false)) (hK226 4 (some false) rfl) ?_
    exact ⟨(bool_eq (by first | grind [samePeerB] | (have hfe := eqB_true (f := sameFolB) (xs := a.Follows) (ys := b.Follows) (by omega) (by assumption) (by omega); grind [samePeerB]) | (have hfe := eqB_len (f := sameFolB) (xs := a.Follows) (ys := b.Follows) (by omega); grind [samePeerB]) | (have hfe := eqB_false (f := sameFolB) (xs := a.Follows) (ys := b.Follows) (k := k) (by omega) (by omega) (by assumption); grind [samePeerB]))), ((hx189).done (geCons hge_b81_w (geCons hge_b63_w geNil)))⟩
  refine WL.fy (x := .tmp 2) (.int .u64 (a.Commit)) rfl fl29_11 h2_120 p23 (hb195.cell rfl) ?_
  refine WL.fy (x := .tmp 3) (.int .u64 (b.Commit)) rfl fl29_11 h3_120 p23 (hb196.cell rfl) ?_
  refine WL.y (.bool (decide (a.Commit = b.Commit))) rfl (V.cmp rfl rfl rfl rfl) ?_
  refine WL.k (a := true) rfl rfl ?_
  refine WL.vbp (c := a.Commit = b.Commit) (Sure.none rfl) rfl (V.move rfl rfl) (fun hc198 => ?_) (fun hc198 => ?_)
  rotate_left
  · refine WL.skips [(121, some false)] [(4, some false)] (kc (some false) rfl kn) (by kernel_rfl) (fun E222 hK223 hE224 => ?_)
    refine WP.ret ?_
    refine resOf.c1 rfl (v := .bool (false)) (hK223 4 (some false) rfl) ?_
    exact ⟨(bool_eq (by first | grind [samePeerB] | (have hfe := eqB_true (f := sameFolB) (xs := a.Follows) (ys := b.Follows) (by omega) (by assumption) (by omega); grind [samePeerB]) | (have hfe := eqB_len (f := sameFolB) (xs := a.Follows) (ys := b.Follows) (by omega); grind [samePeerB]) | (have hfe := eqB_false (f := sameFolB) (xs := a.Follows) (ys := b.Follows) (k := k) (by omega) (by omega) (by assumption); grind [samePeerB]))), ((hx189).done (geCons hge_b81_w (geCons hge_b63_w geNil)))⟩
  refine WL.fy (x := .tmp 2) (.int .i64 (a.Idle)) rfl fl29_12 h2_120 p3 (hb195.cell rfl) ?_
  refine WL.fy (x := .tmp 3) (.int .i64 (b.Idle)) rfl fl29_12 h3_120 p3 (hb196.cell rfl) ?_
  refine WL.y (.bool (decide (a.Idle = b.Idle))) rfl (V.cmp rfl rfl rfl rfl) ?_
  refine WL.k (a := true) rfl rfl ?_
  refine WL.vbp (c := a.Idle = b.Idle) (Sure.none rfl) rfl (V.move rfl rfl) (fun hc199 => ?_) (fun hc199 => ?_)
  rotate_left
  · refine WL.skips [(128, some false)] [(4, some false)] (kc (some false) rfl kn) (by kernel_rfl) (fun E219 hK220 hE221 => ?_)
    refine WP.ret ?_
    refine resOf.c1 rfl (v := .bool (false)) (hK220 4 (some false) rfl) ?_
    exact ⟨(bool_eq (by first | grind [samePeerB] | (have hfe := eqB_true (f := sameFolB) (xs := a.Follows) (ys := b.Follows) (by omega) (by assumption) (by omega); grind [samePeerB]) | (have hfe := eqB_len (f := sameFolB) (xs := a.Follows) (ys := b.Follows) (by omega); grind [samePeerB]) | (have hfe := eqB_false (f := sameFolB) (xs := a.Follows) (ys := b.Follows) (k := k) (by omega) (by omega) (by assumption); grind [samePeerB]))), ((hx189).done (geCons hge_b81_w (geCons hge_b63_w geNil)))⟩
  refine WL.fy (x := .tmp 2) (.int .i64 (a.Wait)) rfl fl29_13 h2_120 p3 (hb195.cell rfl) ?_
  refine WL.fy (x := .tmp 3) (.int .i64 (b.Wait)) rfl fl29_13 h3_120 p3 (hb196.cell rfl) ?_
  refine WL.y (.bool (decide (a.Wait = b.Wait))) rfl (V.cmp rfl rfl rfl rfl) ?_
  refine WL.k (a := true) rfl rfl ?_
  refine WL.vbp (c := a.Wait = b.Wait) (Sure.none rfl) rfl (V.move rfl rfl) (fun hc200 => ?_) (fun hc200 => ?_)
  rotate_left
  · refine WL.skips [(135, some false)] [(4, some false)] (kc (some false) rfl kn) (by kernel_rfl) (fun E216 hK217 hE218 => ?_)
    refine WP.ret ?_
    refine resOf.c1 rfl (v := .bool (false)) (hK217 4 (some false) rfl) ?_
    exact ⟨(bool_eq (by first | grind [samePeerB] | (have hfe := eqB_true (f := sameFolB) (xs := a.Follows) (ys := b.Follows) (by omega) (by assumption) (by omega); grind [samePeerB]) | (have hfe := eqB_len (f := sameFolB) (xs := a.Follows) (ys := b.Follows) (by omega); grind [samePeerB]) | (have hfe := eqB_false (f := sameFolB) (xs := a.Follows) (ys := b.Follows) (k := k) (by omega) (by omega) (by assumption); grind [samePeerB]))), ((hx189).done (geCons hge_b81_w (geCons hge_b63_w geNil)))⟩
  refine WL.fy (x := .tmp 2) (v7) rfl fl29_14 h2_120 p22 (hb195.cell rfl) ?_
  refine WL.fy (x := .tmp 3) (v38) rfl fl29_14 h3_120 p22 (hb196.cell rfl) ?_
  refine WL.c (Sure.yes rfl rfl rfl) rfl (C.call2 rfl cl40 rfl rfl) (Fnc.mono (ref_sameInts (hl90.ext (Ext.pre hx190)) (hl96.ext (Ext.pre hx190))) ?_)
  rintro _ w201 ⟨rfl, hx202⟩
  have hx203 : Ext [b81, b63] w w201 := hx189.trans (Ext.any (Y := [b81, b63]) hx202)
  have hb210 := hb195.ext hx202 (by simp)
  have hb211 := hb196.ext hx202 (by simp)
  refine WL.k (a := true) rfl rfl ?_
  refine WL.vb (c := eqB ieq a.Votes b.Votes) (Sure.none rfl) rfl (V.move rfl rfl) (fun hc212 => ?_) (fun hc212 => ?_)
  rotate_left
  · refine WL.skips [(142, some false)] [(4, some false)] (kc (some false) rfl kn) (by kernel_rfl) (fun E213 hK214 hE215 => ?_)
    refine WP.ret ?_
    refine resOf.c1 rfl (v := .bool (false)) (hK214 4 (some false) rfl) ?_
    exact ⟨(bool_eq (by first | grind [samePeerB] | (have hfe := eqB_true (f := sameFolB) (xs := a.Follows) (ys := b.Follows) (by omega) (by assumption) (by omega); grind [samePeerB]) | (have hfe := eqB_len (f := sameFolB) (xs := a.Follows) (ys := b.Follows) (by omega); grind [samePeerB]) | (have hfe := eqB_false (f := sameFolB) (xs := a.Follows) (ys := b.Follows) (k := k) (by omega) (by omega) (by assumption); grind [samePeerB]))), ((hx203).done (geCons hge_b81_w (geCons hge_b63_w geNil)))⟩
  refine WL.fy (x := .tmp 2) (.int .u64 (a.Round)) rfl fl29_16 h2_120 p23 (hb210.cell rfl) ?_
  refine WL.fy (x := .tmp 3) (.int .u64 (b.Round)) rfl fl29_16 h3_120 p23 (hb211.cell rfl) ?_
  refine WL.y (.bool (decide (a.Round = b.Round))) rfl (V.cmp rfl rfl rfl rfl) ?_
  refine WL.k (a := true) rfl rfl ?_
  refine WL.m rfl ?_
  refine WL.nil ?_
  refine WP.ret ?_
  refine resOf.c1 rfl (v := .bool (decide (a.Round = b.Round))) rfl ?_
  exact ⟨(bool_eq (by first | grind [samePeerB] | (have hfe := eqB_true (f := sameFolB) (xs := a.Follows) (ys := b.Follows) (by omega) (by assumption) (by omega); grind [samePeerB]) | (have hfe := eqB_len (f := sameFolB) (xs := a.Follows) (ys := b.Follows) (by omega); grind [samePeerB]) | (have hfe := eqB_false (f := sameFolB) (xs := a.Follows) (ys := b.Follows) (k := k) (by omega) (by omega) (by assumption); grind [samePeerB]))), ((hx203).done (geCons hge_b81_w (geCons hge_b63_w geNil)))⟩

end Go.Proofs.Ytbpamkbegggeoaa.T
