import Derived.Test.YtbpamkbegggeoaaV9
namespace Go.Proofs.Ytbpamkbegggeoaa.T
open W Go.RowKit
set_option maxRecDepth 100000
set_option maxHeartbeats 400000

theorem ref_Members {w : World} {X : List Nat} {p : PeerD} {c_p : List Value} (h_p : peerR.rd X w c_p p) (i : Int) (hBase : p.Base ≤ 4611686018427387904) (hi : 0 ≤ i ∧ i < 18446744073709551616) (hF : Fits p) (hX : ∀ x ∈ X, x < w.heap.size) : Fnc Try.prog 21 #[.agg c_p.toArray, .int .u64 (i)] w (fun v w' => ∃ (u0 : Value), v = u0 ∧ Sl (intR .i64) X w' u0 (membersOf p i) ∧ Ext [] w w') := by
  obtain ⟨v1, v3, v5, v7, v9, v11, rfl, hl2, hl4, hl6, hl8, hl10, hl12, hk13⟩ := h_p
  obtain ⟨hin14, hin15, hin16, hin17, hin18, hin19, hin20, hin21, hin22, hin23, hin24, hin25⟩ := (show PeerD.InR p from hk13)
  have hin14 := inK_i64 hin14
  have hin15 := inK_u64 hin15
  have hin16 := inK_i64 hin16
  have hin17 := inK_u8 hin17
  have hin18 := inK_i64 hin18
  have hin19 := inK_u64 hin19
  have hin20 := inK_u64 hin20
  have hin22 := inK_u64 hin22
  have hin23 := inK_i64 hin23
  have hin24 := inK_i64 hin24
  have hin25 := inK_u64 hin25
  have hle26 := hl2.le'
  have hle27 := hl4.le'
  have hle28 := hl6.le'
  have hle29 := hl8.le'
  have hle30 := hl10.le'
  have hle31 := hl12.le'
  have hlI : lastI p = p.Base + (p.Log.length : Int) := rfl
  refine Fnc.of_WP (n := 49) Try.func21 rfl Try.ntmps21 (by simp) ?_
  intro E hE
  have h0 : E 0 = .agg #[.int .i64 (p.Id), v1, .int .u64 (p.Term), .int .i64 (p.Vote), .int .u8 (p.Role), .int .i64 (p.Lead), .int .u64 (p.Base), .int .u64 (p.BaseTerm), v3, .string (p.Snap), v5, .int .u64 (p.Commit), .int .i64 (p.Idle), .int .i64 (p.Wait), v7, v9, .int .u64 (p.Round), v11] := hE 0 (by simp)
  have h1 : E 1 = .int .u64 (i) := hE 1 (by simp)
  clear hE
  refine WP.sr ?_
  refine WL.box (x := .tmp 0) (cs := [.int .i64 (p.Id), v1, .int .u64 (p.Term), .int .i64 (p.Vote), .int .u8 (p.Role), .int .i64 (p.Lead), .int .u64 (p.Base), .int .u64 (p.BaseTerm), v3, .string (p.Snap), v5, .int .u64 (p.Commit), .int .i64 (p.Idle), .int .i64 (p.Wait), v7, v9, .int .u64 (p.Round), v11]) (Sure.none rfl) rfl rfl h0 rfl (fun b32 w33 hx34 he35 hb36 => ?_)
  have hl37 := (Sl.new (b := b32) (by show (1 : Nat) ≠ 0; decide) hl2 (by omega)).ext (Ext.any hx34)
  have hl38 := (Sl.new (b := b32) (by show (1 : Nat) ≠ 0; decide) hl4 (by omega)).ext (Ext.any hx34)
  have hl39 := (Sl.new (b := b32) (by show (4 : Nat) ≠ 0; decide) hl6 (by omega)).ext (Ext.any hx34)
  have hl40 := (Sl.new (b := b32) (by show (1 : Nat) ≠ 0; decide) hl8 (by omega)).ext (Ext.any hx34)
  have hl41 := (Sl.new (b := b32) (by show (3 : Nat) ≠ 0; decide) hl10 (by omega)).ext (Ext.any hx34)
  have hl42 := (Sl.new (b := b32) (by show (3 : Nat) ≠ 0; decide) hl12 (by omega)).ext (Ext.any hx34)
  have hx43 : Ext [b32] _ _ := (Ext.refl _ _).trans (Ext.any hx34)
  have hge_b32_w : w.heap.size ≤ b32 := by have := Nat.le_refl w.heap.size; omega
  refine WL.m rfl ?_
  refine WL.nil ?_
  refine WP.sr ?_
  refine WL.z (.agg #[.int .i64 (p.Id), v1, .int .u64 (p.Term), .int .i64 (p.Vote), .int .u8 (p.Role), .int .i64 (p.Lead), .int .u64 (p.Base), .int .u64 (p.BaseTerm), v3, .string (p.Snap), v5, .int .u64 (p.Commit), .int .i64 (p.Idle), .int .i64 (p.Wait), v7, v9, .int .u64 (p.Round), v11]) (V.loadAgg (cs := [.int .i64 (p.Id), v1, .int .u64 (p.Term), .int .i64 (p.Vote), .int .u8 (p.Role), .int .i64 (p.Lead), .int .u64 (p.Base), .int .u64 (p.BaseTerm), v3, .string (p.Snap), v5, .int .u64 (p.Commit), .int .i64 (p.Idle), .int .i64 (p.Wait), v7, v9, .int .u64 (p.Round), v11]) rfl a29 rfl (At.box hb36) rfl) ?_
  refine WL.c (Sure.none rfl) rfl (C.call1 rfl cl17 rfl) (Fnc.mono (ref_Last (p := p) ⟨v1, v3, v5, v7, v9, v11, rfl, hl37, hl38, hl39, hl40, hl41, hl42, hk13⟩ (by omega)) ?_)
  rintro _ w44 ⟨rfl, hx45⟩
  have hx46 : Ext [b32] w w44 := hx43.trans (Ext.any (Y := [b32]) hx45)
  have hx47 : Ext [b32] w33 w44 := (Ext.any (Y := [b32]) hx45)
  have hb48 := hb36.ext hx45 (by simp)
  refine WL.m rfl ?_
  refine WL.z (.int .u64 (lastI p)) (V.extract rfl rfl rfl) ?_
  refine WL.z (.int .u64 (lastT p)) (V.extract rfl rfl rfl) ?_
  refine WL.m rfl ?_
  refine WL.m rfl ?_
  refine WL.nil ?_
  refine WP.seq ?_
  refine WP.sr ?_
  refine WL.m rfl ?_
  refine WL.f (.int .u64 (p.Base)) fl29_6 rfl p23 (hb48.cell rfl) ?_
  refine WL.z (.bool (decide (i < p.Base))) (V.cmp (x := .tmp 14) rfl h1 rfl rfl) ?_
  refine WL.vbp (c := i < p.Base) (Sure.none rfl) rfl (V.move rfl rfl) (fun hc49 => ?_) (fun hc49 => ?_)
  · refine WL.skips [(18, some true)] [(22, some true)] (kc (some true) rfl kn) (by kernel_rfl) (fun E50 hK51 hE52 => ?_)
    refine WP.cond_true (hK51 22 (some true) rfl) ?_
    refine WP.sr ?_
    refine WL.m rfl ?_
    refine WL.nil ?_
    refine WP.ret ?_
    refine resOf.c1 rfl (v := .slice none 0 0) rfl ?_
    exact ⟨.slice none 0 0, rfl, (castSl (by first | exact (membersOf_out (by omega)).symm | (rw [membersOf_in (by omega), show (i - p.Base).toNat = k from by omega])) (Sl.base (O := [b32]) Sl.nil)), ((hx46).done (geCons hge_b32_w geNil))⟩
  refine WL.my rfl rfl ?_
  refine WL.my rfl rfl ?_
  refine WL.y (.bool (decide (i > (lastI p)))) rfl (V.cmp (x := .tmp 19) rfl h1 rfl rfl) ?_
  refine WL.k (a := false) rfl rfl ?_
  refine WL.nil ?_
  refine WP.condp (t := i > (lastI p)) rfl (fun hc53 => ?_) (fun hc53 => ?_)
  · refine WP.sr ?_
    refine WL.m rfl ?_
    refine WL.nil ?_
    refine WP.ret ?_
    refine resOf.c1 rfl (v := .slice none 0 0) rfl ?_
    exact ⟨.slice none 0 0, rfl, (castSl (by first | exact (membersOf_out (by omega)).symm | (rw [membersOf_in (by omega), show (i - p.Base).toNat = k from by omega])) (Sl.base (O := [b32]) Sl.nil)), ((hx46).done (geCons hge_b32_w geNil))⟩
  refine WP.skip ?_
  refine WP.sr ?_
  refine WL.f (v3) fl29_8 rfl p22 (hb48.cell rfl) ?_
  refine WL.m rfl ?_
  refine WL.nil ?_
  refine WP.seq ?_
  refine WP.sr ?_
  refine WL.m rfl ?_
  refine WL.nil ?_
  refine WP.block ?_
  have hsz56 : w.heap.size ≤ w44.heap.size := hx46.size
  refine WP.loop (σ := Nat) (fun k E54 w55 => E54 0 = .agg #[.int .i64 (p.Id), v1, .int .u64 (p.Term), .int .i64 (p.Vote), .int .u8 (p.Role), .int .i64 (p.Lead), .int .u64 (p.Base), .int .u64 (p.BaseTerm), v3, .string (p.Snap), v5, .int .u64 (p.Commit), .int .i64 (p.Idle), .int .i64 (p.Wait), v7, v9, .int .u64 (p.Round), v11] ∧ E54 1 = .int .u64 (i) ∧ E54 2 = .pointer (some ⟨b32, 0, none⟩) ∧ E54 4 = .slice none 0 0 ∧ E54 5 = .int .u64 (lastI p) ∧ E54 6 = .int .u64 (lastT p) ∧ E54 8 = .int .u64 ((k : Int)) ∧ E54 9 = .tuple #[.int .u64 (lastI p), .int .u64 (lastT p)] ∧ E54 10 = .agg #[.int .i64 (p.Id), v1, .int .u64 (p.Term), .int .i64 (p.Vote), .int .u8 (p.Role), .int .i64 (p.Lead), .int .u64 (p.Base), .int .u64 (p.BaseTerm), v3, .string (p.Snap), v5, .int .u64 (p.Commit), .int .i64 (p.Idle), .int .i64 (p.Wait), v7, v9, .int .u64 (p.Round), v11] ∧ E54 11 = .tuple #[.int .u64 (lastI p), .int .u64 (lastT p)] ∧ E54 12 = .int .u64 (lastI p) ∧ E54 13 = .int .u64 (lastT p) ∧ E54 14 = .int .u64 (i) ∧ E54 15 = .pointer (some ⟨b32, 6, none⟩) ∧ E54 16 = .int .u64 (p.Base) ∧ E54 17 = .bool (decide (i < p.Base)) ∧ E54 18 = .bool (false) ∧ E54 19 = .int .u64 (i) ∧ E54 20 = .int .u64 (lastI p) ∧ E54 21 = .bool (decide (i > (lastI p))) ∧ E54 22 = .bool (decide (i > (lastI p))) ∧ E54 23 = .pointer (some ⟨b32, 8, none⟩) ∧ E54 24 = v3 ∧ Ext [b32] w44 w55 ∧ Box w55 b32 29 [.int .i64 (p.Id), v1, .int .u64 (p.Term), .int .i64 (p.Vote), .int .u8 (p.Role), .int .i64 (p.Lead), .int .u64 (p.Base), .int .u64 (p.BaseTerm), v3, .string (p.Snap), v5, .int .u64 (p.Commit), .int .i64 (p.Idle), .int .i64 (p.Wait), v7, v9, .int .u64 (p.Round), v11] ∧ Sl (intR .i64) (b32 :: X) w55 (E54 7) (memUpto p k) ∧ (k : Int) ≤ i - p.Base) (fun k => (i - p.Base).toNat - k) (0) ?_ ?_
  · exact ⟨h0, h1, rfl, rfl, rfl, rfl, (int_eq (by omega)), rfl, rfl, rfl, rfl, rfl, h1, rfl, rfl, rfl, rfl, h1, rfl, rfl, rfl, rfl, rfl, Ext.refl _ _, hb48, (castSl (by rfl) (hl38.ext (Ext.pre hx47))), (by omega)⟩
  rintro k E54 w55 ⟨h0_57, h1_57, h2_57, h4_57, h5_57, h6_57, h8_57, h9_57, h10_57, h11_57, h12_57, h13_57, h14_57, h15_57, h16_57, h17_57, h18_57, h19_57, h20_57, h21_57, h22_57, h23_57, h24_57, hx57, hbb32_57, hs7_57, hi0_57⟩
  have hx58 : Ext [b32] w w55 := hx46.trans hx57
  have hx59 : Ext [b32] w33 w55 := hx47.trans hx57
  have hx60 : Ext [b32] w44 w55 := hx57
  refine WP.seq ?_
  refine WP.sr ?_
  refine WL.m rfl ?_
  refine WL.m rfl ?_
  refine WL.f (x := .tmp 2) (.int .u64 (p.Base)) fl29_6 h2_57 p23 (hbb32_57.cell rfl) ?_
  refine WL.z (.int .u64 (i - p.Base)) (V.arith (x := .tmp 26) rfl h1_57 rfl rfl (wrap_u64 (by omega) (by omega))) ?_
  refine WL.z (.bool (decide ((k : Int) < (i - p.Base)))) (V.cmp (x := .tmp 25) rfl h8_57 rfl rfl) ?_
  refine WL.nil ?_
  refine WP.condp (t := (k : Int) < (i - p.Base)) rfl (fun hc61 => ?_) (fun hc61 => ?_)
  rotate_left
  · refine WP.exit ?_
    refine WP.sr ?_
    refine WL.lit (R := (intR .i64)) (X := (b32 :: X)) (vs := []) (xs := []) (Sure.none rfl) rfl rfl u22 e3 (by show 0 < (1 : Nat); decide) (by show _ * (1 : Nat) ≤ 1024; decide) rfl rfl rfl (by intro i v x hv hx; match i, hv, hx with | i + 0, hv, _ => simp at hv) (fun v79 w80 hx81 ho82 hlit83 => ?_)
    have hno84 : ∀ g, (v79).ownBlock = some g → g ∉ (b32 :: X) := by intro g hg hm; have h1 := hlit83 g hg; have h2 := (inCons hbb32_57.lt (inMono hX hx58.size)) g hm; omega
    have hsz85 : w.heap.size ≤ w55.heap.size := hx58.size
    have hsz86 : w33.heap.size ≤ w55.heap.size := hx59.size
    have hx87 : Ext [b32] w w80 := hx58.trans (Ext.any (Y := [b32]) hx81)
    have hx90 : Ext [b32] w55 w80 := (Ext.any (Y := [b32]) hx81)
    have hb91 := hbb32_57.ext hx81 (by simp)
    have ho92 := ho82.low (B' := w55.heap.size) (Nat.le_refl _)
    refine WL.m rfl ?_
    refine WL.appendOwn (R := (intR .i64)) (X := (b32 :: X)) (B := w55.heap.size) (xs := []) (ys := memUpto p k) (Sure.none rfl) rfl rfl u22 e3 rfl (by show 0 < (1 : Nat); decide) rfl rfl ho92 (hs7_57.ext (Ext.pre hx90)) (fun g hg => (Sl.new (by show (1 : Nat) ≠ 0; decide) hs7_57 (Nat.le_trans (Nat.le_refl _) (ho92.lt g hg).1)).ext (Ext.cons (Ext.pre hx90))) hx90.size (by have := hF.upto k (by omega); simp only [List.length_nil]; omega) (by have := hF.upto k (by omega); simp only [List.length_nil, maxLen]; omega) (fun v93 w94 ho95 hg96 hf97 => ?_)
    have hno98 := after_no hf97 hno84 (inCons hb91.lt (inMono hX hx87.size))
    have hx99 := Ext.ownB (hx87) hg96 (fun k hk => (Owns.lt ho92 k hk).1) hsz85
    have ho95 := ho95.castE (List.nil_append _)
    refine WL.m rfl ?_
    refine WL.nil ?_
    refine WP.ret ?_
    refine resOf.c1 rfl (v := v93) rfl ?_
    exact ⟨v93, rfl, (castSl (by first | exact (membersOf_out (by omega)).symm | (rw [membersOf_in (by omega), show (i - p.Base).toNat = k from by omega])) (Sl.base (O := [b32]) (Owns.sl' ho95 hno98))), ((hx99).done (geCons hge_b32_w geNil))⟩
  refine WP.skip ?_
  refine WP.seq ?_
  refine WP.block ?_
  refine WP.sr ?_
  refine WL.f (x := .tmp 2) (v5) fl29_10 h2_57 p25 (hbb32_57.cell rfl) ?_
  refine WL.m rfl ?_
  have hlt70 : k < (p.Log).length := by first | omega | (simp at *; omega)
  obtain ⟨b62, k63, c64, cs65, hv66, hnb67, hr68, hat69⟩ := (hl39.ext (Ext.pre hx59)).get (i := k) (x := (p.Log.getD k default)) (getD_some hlt70 _)
  obtain ⟨v71, rfl, hl72, hk73⟩ := hr68
  obtain ⟨hin74, hin75, hin76⟩ := (show EntryD.InR (p.Log.getD k default) from hk73)
  have hin74 := inK_u64 hin74
  have hin75 := inK_u8 hin75
  have hle77 := hl72.le'
  refine WL.z (.pointer (some ⟨b62, k63 + k * 4, none⟩)) (V.indexAddr (i := .tmp 35) (m := k) (j := (k : Int)) rfl u25 s90 (Eq.trans (b := v5) rfl hv66) h8_57 rfl hlt70) ?_
  refine WL.z (.pointer (some ⟨b62, k63 + k * 4 + 1, none⟩)) (V.fieldAddr rfl fl90_1 rfl) ?_
  refine WL.z (.int .u8 ((p.Log.getD k default).Kind)) (V.load rfl p88 rfl (hat69.cell (j := 1) rfl)) ?_
  refine WL.z (.bool (decide (((p.Log.getD k default).Kind) = 2))) (V.cmp rfl rfl rfl rfl) ?_
  refine WL.nil ?_
  refine WP.condp (t := ((p.Log.getD k default).Kind) = 2) rfl (fun hc78 => ?_) (fun hc78 => ?_)
  rotate_left
  · refine WP.skip ?_
    refine WP.region ?_
    refine WL.m rfl ?_
    refine WL.z (.int .u64 ((k : Int) + 1)) (V.arith (x := .tmp 31) rfl h8_57 rfl rfl (wrap_u64 (by omega) (by omega))) ?_
    refine WL.m rfl ?_
    refine WL.nil ?_
    exact ⟨k + 1, ⟨h0_57, h1_57, h2_57, h4_57, h5_57, h6_57, (int_eq (by omega)), h9_57, h10_57, h11_57, h12_57, h13_57, h14_57, h15_57, h16_57, h17_57, h18_57, h19_57, h20_57, h21_57, h22_57, h23_57, h24_57, hx60, hbb32_57, (castSl (by first | exact memUpto_hit (by assumption) | exact memUpto_miss (by assumption)) hs7_57), (by omega)⟩, (by omega)⟩
  refine WP.region ?_
  refine WL.f (x := .tmp 2) (v5) fl29_10 h2_57 p25 (hbb32_57.cell rfl) ?_
  refine WL.m rfl ?_
  refine WL.z (.pointer (some ⟨b62, k63 + k * 4, none⟩)) (V.indexAddr (i := .tmp 42) (m := k) (j := (k : Int)) rfl u25 s90 (Eq.trans (b := v5) rfl hv66) h8_57 rfl hlt70) ?_
  refine WL.z (.pointer (some ⟨b62, k63 + k * 4 + 3, none⟩)) (V.fieldAddr rfl fl90_3 rfl) ?_
  refine WL.z (v71) (V.load rfl p22 rfl (hat69.cell (j := 3) rfl)) ?_
  refine WL.m rfl ?_
  refine WL.nil ?_
  refine WP.region ?_
  refine WL.m rfl ?_
  refine WL.z (.int .u64 ((k : Int) + 1)) (V.arith (x := .tmp 31) rfl h8_57 rfl rfl (wrap_u64 (by omega) (by omega))) ?_
  refine WL.m rfl ?_
  refine WL.nil ?_
  exact ⟨k + 1, ⟨h0_57, h1_57, h2_57, h4_57, h5_57, h6_57, (int_eq (by omega)), h9_57, h10_57, h11_57, h12_57, h13_57, h14_57, h15_57, h16_57, h17_57, h18_57, h19_57, h20_57, h21_57, h22_57, h23_57, h24_57, hx60, hbb32_57, (castSl (by first | exact memUpto_hit (by assumption) | exact memUpto_miss (by assumption)) hl72), (by omega)⟩, (by omega)⟩

end Go.Proofs.Ytbpamkbegggeoaa.T
