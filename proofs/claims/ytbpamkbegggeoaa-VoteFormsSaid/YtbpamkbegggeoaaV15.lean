import Derived.Test.YtbpamkbegggeoaaV14
namespace Go.Proofs.Ytbpamkbegggeoaa.T
open W Go.RowKit
set_option maxRecDepth 100000
set_option maxHeartbeats 400000

theorem law_Own {w : World} {X : List Nat} {p : PeerD} {c_p : List Value} (h_p : peerR.rd X w c_p p) (hF : Fits p) (hX : ∀ x ∈ X, x < w.heap.size) : Fnc Try.prog 9 #[.agg c_p.toArray] w (fun v w' => ∃ (u0 : List Value), v = .agg u0.toArray ∧ peerR.rd X w' u0 (p) ∧ Ext [] w w') := by
  obtain ⟨v1, v3, v5, v7, v9, v11, rfl, hl2, hl4, hl6, hl8, hl10, hl12, hk13⟩ := h_p
  obtain ⟨hin14, hin15, hin16, hin17, hin18, hin19, hin20, hin21, hin22, hin23, hin24, hin25⟩ := (show PeerD.InR p from hk13)
  have hin14 := inK_i64 hin14
  have hin15 := inK_u64 hin15
  have hin16 := inK_i64 hin16
  have hin17 := inK_u8 hin17
  have hin18 := inK_i64 hin18
  have hin19 := inK_u64 hin19
  have hin20 := inK_u64 hin20
  have hin22 := inK_u64 hin22
  have hin23 := inK_i64 hin23
  have hin24 := inK_i64 hin24
  have hin25 := inK_u64 hin25
  have hle26 := hl2.le'
  have hle27 := hl4.le'
  have hle28 := hl6.le'
  have hle29 := hl8.le'
  have hle30 := hl10.le'
  have hle31 := hl12.le'
  refine Fnc.of_WP (n := 5) Try.func9 rfl Try.ntmps9 (by simp) ?_
  intro E hE
  have h0 : E 0 = .agg #[.int .i64 (p.Id), v1, .int .u64 (p.Term), .int .i64 (p.Vote), .int .u8 (p.Role), .int .i64 (p.Lead), .int .u64 (p.Base), .int .u64 (p.BaseTerm), v3, .string (p.Snap), v5, .int .u64 (p.Commit), .int .i64 (p.Idle), .int .i64 (p.Wait), v7, v9, .int .u64 (p.Round), v11] := hE 0 (by simp)
  clear hE
  refine WP.sr ?_
  refine WL.box (x := .tmp 0) (cs := [.int .i64 (p.Id), v1, .int .u64 (p.Term), .int .i64 (p.Vote), .int .u8 (p.Role), .int .i64 (p.Lead), .int .u64 (p.Base), .int .u64 (p.BaseTerm), v3, .string (p.Snap), v5, .int .u64 (p.Commit), .int .i64 (p.Idle), .int .i64 (p.Wait), v7, v9, .int .u64 (p.Round), v11]) (Sure.none rfl) rfl rfl h0 rfl (fun b32 w33 hx34 he35 hb36 => ?_)
  have hl37 := (Sl.new (b := b32) (by show (1 : Nat) ≠ 0; decide) hl2 (by omega)).ext (Ext.any hx34)
  have hl38 := (Sl.new (b := b32) (by show (1 : Nat) ≠ 0; decide) hl4 (by omega)).ext (Ext.any hx34)
  have hl39 := (Sl.new (b := b32) (by show (4 : Nat) ≠ 0; decide) hl6 (by omega)).ext (Ext.any hx34)
  have hl40 := (Sl.new (b := b32) (by show (1 : Nat) ≠ 0; decide) hl8 (by omega)).ext (Ext.any hx34)
  have hl41 := (Sl.new (b := b32) (by show (3 : Nat) ≠ 0; decide) hl10 (by omega)).ext (Ext.any hx34)
  have hl42 := (Sl.new (b := b32) (by show (3 : Nat) ≠ 0; decide) hl12 (by omega)).ext (Ext.any hx34)
  have hx43 : Ext [b32] _ _ := (Ext.refl _ _).trans (Ext.any hx34)
  have hge_b32_w : w.heap.size ≤ b32 := by have := Nat.le_refl w.heap.size; omega
  refine WL.alloc (cs := [.int .i64 (0), .slice none 0 0, .int .u64 (0), .int .i64 (0), .int .u8 (0), .int .i64 (0), .int .u64 (0), .int .u64 (0), .slice none 0 0, .string (ByteArray.mk #[]), .slice none 0 0, .int .u64 (0), .int .i64 (0), .int .i64 (0), .slice none 0 0, .slice none 0 0, .int .u64 (0), .slice none 0 0]) (Sure.none rfl) rfl rfl z29 rfl (fun b44 w45 hx46 he47 hb48 => ?_)
  have hlt_b32_b44 : b32 < b44 := by have := hb36.lt; omega
  have hb49 := hb36.ext hx46 (by simp)
  have hl50 := (Sl.new (b := b44) (by show (1 : Nat) ≠ 0; decide) hl37 (by omega)).ext (Ext.any hx46)
  have hl51 := (Sl.new (b := b44) (by show (1 : Nat) ≠ 0; decide) hl38 (by omega)).ext (Ext.any hx46)
  have hl52 := (Sl.new (b := b44) (by show (4 : Nat) ≠ 0; decide) hl39 (by omega)).ext (Ext.any hx46)
  have hl53 := (Sl.new (b := b44) (by show (1 : Nat) ≠ 0; decide) hl40 (by omega)).ext (Ext.any hx46)
  have hl54 := (Sl.new (b := b44) (by show (3 : Nat) ≠ 0; decide) hl41 (by omega)).ext (Ext.any hx46)
  have hl55 := (Sl.new (b := b44) (by show (3 : Nat) ≠ 0; decide) hl42 (by omega)).ext (Ext.any hx46)
  have hx56 : Ext [b44, b32] _ _ := (Ext.cons hx43).trans (Ext.any hx46)
  have hge_b44_w : w.heap.size ≤ b44 := by have := hx43.size; omega
  refine WL.nil ?_
  refine WP.sr ?_
  refine WL.z (.agg #[.int .i64 (p.Id), v1, .int .u64 (p.Term), .int .i64 (p.Vote), .int .u8 (p.Role), .int .i64 (p.Lead), .int .u64 (p.Base), .int .u64 (p.BaseTerm), v3, .string (p.Snap), v5, .int .u64 (p.Commit), .int .i64 (p.Idle), .int .i64 (p.Wait), v7, v9, .int .u64 (p.Round), v11]) (V.loadAgg (cs := [.int .i64 (p.Id), v1, .int .u64 (p.Term), .int .i64 (p.Vote), .int .u8 (p.Role), .int .i64 (p.Lead), .int .u64 (p.Base), .int .u64 (p.BaseTerm), v3, .string (p.Snap), v5, .int .u64 (p.Commit), .int .i64 (p.Idle), .int .i64 (p.Wait), v7, v9, .int .u64 (p.Round), v11]) rfl a29 rfl (At.box hb49) rfl) ?_
  refine WL.c (Sure.none rfl) rfl (C.call1 rfl cl36 rfl) (Fnc.mono (ref_Own (p := p) ⟨v1, v3, v5, v7, v9, v11, rfl, hl50, hl51, hl52, hl53, hl54, hl55, hk13⟩ (by assumption) (X := (b44 :: (b32 :: X))) (inCons hb48.lt (inCons hb49.lt (inMono hX hx56.size)))) ?_)
  rintro _ w57 ⟨cs59, rfl, hr60, hx58⟩
  have hx61 : Ext [b44, b32] w w57 := hx56.trans (Ext.any (Y := [b44, b32]) hx58)
  have hb64 := hb48.ext hx58 (by simp)
  obtain ⟨v65, v67, v69, v71, v73, v75, rfl, hl66, hl68, hl70, hl72, hl74, hl76, hk77⟩ := hr60
  obtain ⟨hin78, hin79, hin80, hin81, hin82, hin83, hin84, hin85, hin86, hin87, hin88, hin89⟩ := (show PeerD.InR p from hk77)
  have hin78 := inK_i64 hin78
  have hin79 := inK_u64 hin79
  have hin80 := inK_i64 hin80
  have hin81 := inK_u8 hin81
  have hin82 := inK_i64 hin82
  have hin83 := inK_u64 hin83
  have hin84 := inK_u64 hin84
  have hin86 := inK_u64 hin86
  have hin87 := inK_i64 hin87
  have hin88 := inK_i64 hin88
  have hin89 := inK_u64 hin89
  have hle90 := hl66.le'
  have hle91 := hl68.le'
  have hle92 := hl70.le'
  have hle93 := hl72.le'
  have hle94 := hl74.le'
  have hle95 := hl76.le'
  refine WL.storeAgg (vs := [.int .i64 (p.Id), v65, .int .u64 (p.Term), .int .i64 (p.Vote), .int .u8 (p.Role), .int .i64 (p.Lead), .int .u64 (p.Base), .int .u64 (p.BaseTerm), v67, .string (p.Snap), v69, .int .u64 (p.Commit), .int .i64 (p.Idle), .int .i64 (p.Wait), v71, v73, .int .u64 (p.Round), v75]) (Sure.none rfl) rfl rfl s29 rfl rfl rfl (by intro u hu; simp only [List.mem_cons, List.not_mem_nil, or_false] at hu; rcases hu with rfl | rfl | rfl | rfl | rfl | rfl | rfl | rfl | rfl | rfl | rfl | rfl | rfl | rfl | rfl | rfl | rfl | rfl <;> first | rfl | exact Sl.one (by assumption)) hb64 (by show (0 : Nat) + 18 ≤ 18; decide) (fun w96 hs97 hb98 => ?_)
  replace hb98 : Box w96 b44 29 [.int .i64 (p.Id), v65, .int .u64 (p.Term), .int .i64 (p.Vote), .int .u8 (p.Role), .int .i64 (p.Lead), .int .u64 (p.Base), .int .u64 (p.BaseTerm), v67, .string (p.Snap), v69, .int .u64 (p.Commit), .int .i64 (p.Idle), .int .i64 (p.Wait), v71, v73, .int .u64 (p.Round), v75] := hb98
  have hx100 : Ext [b44, b32] w w96 := hx61.trans (hs97.mono (by simp))
  have hx102 : Ext [b44, b32] w57 w96 := (hs97.mono (by simp))
  refine WL.nil ?_
  refine WP.ret ?_
  refine resOf.c1 rfl (v := .agg #[.int .i64 (p.Id), v65, .int .u64 (p.Term), .int .i64 (p.Vote), .int .u8 (p.Role), .int .i64 (p.Lead), .int .u64 (p.Base), .int .u64 (p.BaseTerm), v67, .string (p.Snap), v69, .int .u64 (p.Commit), .int .i64 (p.Idle), .int .i64 (p.Wait), v71, v73, .int .u64 (p.Round), v75]) ⟨_, _, rfl, run_loadVar_agg a29 (At.box hb98) rfl⟩ ?_
  exact ⟨[.int .i64 (p.Id), v65, .int .u64 (p.Term), .int .i64 (p.Vote), .int .u8 (p.Role), .int .i64 (p.Lead), .int .u64 (p.Base), .int .u64 (p.BaseTerm), v67, .string (p.Snap), v69, .int .u64 (p.Commit), .int .i64 (p.Idle), .int .i64 (p.Wait), v71, v73, .int .u64 (p.Round), v75], rfl, (Rep.base (O := [b44, b32]) (castRd (R := peerR) (show (p : PeerD) = p from (by rfl)) ⟨v65, v67, v69, v71, v73, v75, rfl, (hl66.ext (Ext.pre hx102)), (hl68.ext (Ext.pre hx102)), (hl70.ext (Ext.pre hx102)), (hl72.ext (Ext.pre hx102)), (hl74.ext (Ext.pre hx102)), (hl76.ext (Ext.pre hx102)), hk77⟩)), ((hx100).done (geCons hge_b44_w (geCons hge_b32_w geNil)))⟩

theorem law_small {w : World} {X : List Nat} {p : PeerD} {c_p : List Value} (h_p : peerR.rd X w c_p p) : Fnc Try.prog 7 #[.agg c_p.toArray] w (fun v w' => v = .bool (smallB p) ∧ Ext [] w w') := by
  obtain ⟨v1, v3, v5, v7, v9, v11, rfl, hl2, hl4, hl6, hl8, hl10, hl12, hk13⟩ := h_p
  obtain ⟨hin14, hin15, hin16, hin17, hin18, hin19, hin20, hin21, hin22, hin23, hin24, hin25⟩ := (show PeerD.InR p from hk13)
  have hin14 := inK_i64 hin14
  have hin15 := inK_u64 hin15
  have hin16 := inK_i64 hin16
  have hin17 := inK_u8 hin17
  have hin18 := inK_i64 hin18
  have hin19 := inK_u64 hin19
  have hin20 := inK_u64 hin20
  have hin22 := inK_u64 hin22
  have hin23 := inK_i64 hin23
  have hin24 := inK_i64 hin24
  have hin25 := inK_u64 hin25
  have hle26 := hl2.le'
  have hle27 := hl4.le'
  have hle28 := hl6.le'
  have hle29 := hl8.le'
  have hle30 := hl10.le'
  have hle31 := hl12.le'
  refine Fnc.of_WP (n := 19) Try.func7 rfl Try.ntmps7 (by simp) ?_
  intro E hE
  have h0 : E 0 = .agg #[.int .i64 (p.Id), v1, .int .u64 (p.Term), .int .i64 (p.Vote), .int .u8 (p.Role), .int .i64 (p.Lead), .int .u64 (p.Base), .int .u64 (p.BaseTerm), v3, .string (p.Snap), v5, .int .u64 (p.Commit), .int .i64 (p.Idle), .int .i64 (p.Wait), v7, v9, .int .u64 (p.Round), v11] := hE 0 (by simp)
  clear hE
  refine WP.sr ?_
  refine WL.box (x := .tmp 0) (cs := [.int .i64 (p.Id), v1, .int .u64 (p.Term), .int .i64 (p.Vote), .int .u8 (p.Role), .int .i64 (p.Lead), .int .u64 (p.Base), .int .u64 (p.BaseTerm), v3, .string (p.Snap), v5, .int .u64 (p.Commit), .int .i64 (p.Idle), .int .i64 (p.Wait), v7, v9, .int .u64 (p.Round), v11]) (Sure.none rfl) rfl rfl h0 rfl (fun b32 w33 hx34 he35 hb36 => ?_)
  have hl39 := (Sl.new (b := b32) (by show (4 : Nat) ≠ 0; decide) hl6 (by omega)).ext (Ext.any hx34)
  have hl41 := (Sl.new (b := b32) (by show (3 : Nat) ≠ 0; decide) hl10 (by omega)).ext (Ext.any hx34)
  have hl42 := (Sl.new (b := b32) (by show (3 : Nat) ≠ 0; decide) hl12 (by omega)).ext (Ext.any hx34)
  have hx43 : Ext [b32] _ _ := (Ext.refl _ _).trans (Ext.any hx34)
  have hge_b32_w : w.heap.size ≤ b32 := by have := Nat.le_refl w.heap.size; omega
  refine WL.m rfl ?_
  refine WL.nil ?_
  refine WP.sr ?_
  refine WL.f (v5) fl29_10 rfl p25 (hb36.cell rfl) ?_
  obtain ⟨a44, c45, hv46⟩ := hl39.shape
  refine WL.z (.int .i64 (((p.Log).length : Int))) (V.lenSlice rfl rfl u25 (Eq.trans (b := v5) rfl hv46)) ?_
  refine WL.z (.bool (decide (((p.Log).length : Int) ≤ 60))) (V.cmp rfl rfl rfl rfl) ?_
  refine WL.vbp (c := ((p.Log).length : Int) ≤ 60) (Sure.none rfl) rfl (V.move rfl rfl) (fun hc47 => ?_) (fun hc47 => ?_)
  rotate_left
  · refine WL.skips [(7, some false)] [(2, some false)] (kc (some false) rfl kn) (by kernel_rfl) (fun E58 hK59 hE60 => ?_)
    refine WP.ret ?_
    refine resOf.c1 rfl (v := .bool (false)) (hK59 2 (some false) rfl) ?_
    exact ⟨(bool_eq (by first | assumption | grind [smallB])), ((hx43).done (geCons hge_b32_w geNil))⟩
  refine WL.fy (v9) rfl fl29_15 rfl p26 (hb36.cell rfl) ?_
  obtain ⟨a48, c49, hv50⟩ := hl41.shape
  refine WL.y (.int .i64 (((p.Follows).length : Int))) rfl (V.lenSlice rfl rfl u26 (Eq.trans (b := v9) rfl hv50)) ?_
  refine WL.y (.bool (decide (((p.Follows).length : Int) ≤ 64))) rfl (V.cmp rfl rfl rfl rfl) ?_
  refine WL.k (a := true) rfl rfl ?_
  refine WL.vbp (c := ((p.Follows).length : Int) ≤ 64) (Sure.none rfl) rfl (V.move rfl rfl) (fun hc51 => ?_) (fun hc51 => ?_)
  rotate_left
  · refine WL.skips [(13, some false)] [(2, some false)] (kc (some false) rfl kn) (by kernel_rfl) (fun E55 hK56 hE57 => ?_)
    refine WP.ret ?_
    refine resOf.c1 rfl (v := .bool (false)) (hK56 2 (some false) rfl) ?_
    exact ⟨(bool_eq (by first | assumption | grind [smallB])), ((hx43).done (geCons hge_b32_w geNil))⟩
  refine WL.fy (v11) rfl fl29_17 rfl p27 (hb36.cell rfl) ?_
  obtain ⟨a52, c53, hv54⟩ := hl42.shape
  refine WL.y (.int .i64 (((p.Reads).length : Int))) rfl (V.lenSlice rfl rfl u27 (Eq.trans (b := v11) rfl hv54)) ?_
  refine WL.y (.bool (decide (((p.Reads).length : Int) ≤ 60))) rfl (V.cmp rfl rfl rfl rfl) ?_
  refine WL.k (a := true) rfl rfl ?_
  refine WL.m rfl ?_
  refine WL.nil ?_
  refine WP.ret ?_
  refine resOf.c1 rfl (v := .bool (decide (((p.Reads).length : Int) ≤ 60))) rfl ?_
  exact ⟨(bool_eq (by first | assumption | grind [smallB])), ((hx43).done (geCons hge_b32_w geNil))⟩

end Go.Proofs.Ytbpamkbegggeoaa.T
