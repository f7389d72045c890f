import Derived.Test.YtkcnljgennehaaaV1
namespace Go.Proofs.Ytkcnljgennehaaa.T
open W Go.RowKit
set_option maxRecDepth 100000
set_option maxHeartbeats 400000

theorem vote_entries {w : World} {X : List Nat} {v_l : Value} {l : List EntryD} (h_l : Sl entryR X w v_l l) (fr : Int) (to' : Int) (hfr : 0 ≤ fr ∧ fr < 18446744073709551616) : Fnc Try.prog 31 #[v_l, .int .u64 (fr), .int .u64 (to')] w (fun v w' => v = .bool (entsB l fr to') ∧ Ext [] w w') := by
  have hle_l := h_l.le'
  refine Fnc.of_WP (n := 71) Try.func31 rfl Try.ntmps31 (by simp) ?_
  intro E hE
  have h0 : E 0 = v_l := hE 0 (by simp)
  have h1 : E 1 = .int .u64 (fr) := hE 1 (by simp)
  have h2 : E 2 = .int .u64 (to') := hE 2 (by simp)
  clear hE
  refine WP.sr ?_
  refine WL.m rfl ?_
  refine WL.nil ?_
  refine WP.sr ?_
  refine WL.m rfl ?_
  refine WL.z (.int .u64 (max fr 1)) (V.max (x := .tmp 10) rfl rfl u24 h1 rfl) ?_
  refine WL.m rfl ?_
  refine WL.nil ?_
  refine WP.seq ?_
  refine WP.sr ?_
  refine WL.m rfl ?_
  obtain ⟨a1, c2, hv3⟩ := h_l.shape
  refine WL.z (.int .i64 (((l).length : Int))) (V.lenSlice (x := .tmp 12) rfl rfl u26 (Eq.trans (b := v_l) h0 hv3)) ?_
  refine WL.m rfl ?_
  refine WL.nil ?_
  refine WP.block ?_
  refine WP.loop (σ := Nat) (fun k E4 w5 => E4 0 = v_l ∧ E4 1 = .int .u64 (vprevT l fr k) ∧ E4 2 = .int .u64 (to') ∧ E4 10 = .int .u64 (fr) ∧ E4 11 = .int .u64 (max fr 1) ∧ E4 12 = v_l ∧ E4 13 = .int .i64 (((l).length : Int)) ∧ E4 14 = .int .i64 ((k : Int)) ∧ Ext [] w w5 ∧ k ≤ l.length ∧ ∀ j, j < k → (fun i => entOk (vprevT l fr i) (l.getD i default) to') j = true) (fun k => l.length - k) (0) ?_ ?_
  · exact ⟨h0, (int_eq (by simp [prevT, vprevT])), h2, h1, rfl, h0, rfl, (int_eq (by omega)), Ext.refl _ _, (by omega), (all_zero _)⟩
  rintro k E4 w5 ⟨h0_6, h1_6, h2_6, h10_6, h11_6, h12_6, h13_6, h14_6, hx6, hi0_6, hi1_6⟩
  have hx7 : Ext [] w w5 := hx6
  have hv1 : 1 ≤ vprevT l fr k := vprevT_pos (t := to') (by assumption)
  refine WP.sr ?_
  refine WL.z (.bool (decide ((k : Int) < ((l).length : Int)))) (V.cmp (x := .tmp 14) (y := .tmp 13) rfl h14_6 h13_6 rfl) ?_
  refine WL.nil ?_
  refine WP.seq ?_
  refine WP.condp (t := (k : Int) < ((l).length : Int)) rfl (fun hc8 => ?_) (fun hc8 => ?_)
  rotate_left
  · refine WP.exit ?_
    refine WP.sr ?_
    refine WL.m rfl ?_
    refine WL.nil ?_
    refine WP.ret ?_
    refine resOf.c1 rfl (v := .bool (true)) rfl ?_
    exact ⟨(bool_eq (by rw [← vents_eq]; first | (exact (allB_true (by assumption) (by omega)).symm) | (exact (allB_false (k := k) (by omega) (by first | assumption | grind [entOk, kindOk])).symm))), hx7⟩
  refine WP.skip ?_
  refine WP.seq ?_
  refine WP.block ?_
  refine WP.sr ?_
  have hlt17 : k < (l).length := by first | omega | (simp at *; omega)
  obtain ⟨b9, k10, c11, cs12, hv13, hnb14, hr15, hat16⟩ := (h_l.ext (Ext.pre hx7)).get (i := k) (x := (l.getD k default)) (getD_some hlt17 _)
  obtain ⟨v18, rfl, hl19, hk20⟩ := hr15
  obtain ⟨hin21, hin22, hin23⟩ := (show EntryD.InR (l.getD k default) from hk20)
  have hin21 := inK_u64 hin21
  have hin22 := inK_u8 hin22
  have hle24 := hl19.le'
  refine WL.z (.pointer (some ⟨b9, k10 + k * 4, none⟩)) (V.indexAddr (x := .tmp 12) (i := .tmp 14) (m := k) (j := (k : Int)) rfl u26 s61 (Eq.trans (b := v_l) h12_6 hv13) h14_6 rfl hlt17) ?_
  refine WL.z (.agg #[.int .u64 ((l.getD k default).Term), .int .u8 ((l.getD k default).Kind), .string ((l.getD k default).Data), v18]) (V.loadAgg (cs := [.int .u64 ((l.getD k default).Term), .int .u8 ((l.getD k default).Kind), .string ((l.getD k default).Data), v18]) rfl a61 rfl hat16 rfl) ?_
  refine WL.alloc (cs := [.int .u64 (0), .int .u8 (0), .string (ByteArray.mk #[]), .slice none 0 0]) (Sure.none rfl) rfl rfl z61 rfl (fun b25 w26 hx27 he28 hb29 => ?_)
  have hl31 := (Sl.new (b := b25) (by show (1 : Nat) ≠ 0; decide) hl19 (by omega)).ext (Ext.any hx27)
  have hx32 : Ext [b25] _ _ := (Ext.cons hx7).trans (Ext.any hx27)
  have hge_b25_w : w.heap.size ≤ b25 := by have := hx7.size; omega
  refine WL.storeAgg (vs := [.int .u64 ((l.getD k default).Term), .int .u8 ((l.getD k default).Kind), .string ((l.getD k default).Data), v18]) (Sure.none rfl) rfl rfl s61 rfl rfl rfl (by intro u hu; simp only [List.mem_cons, List.not_mem_nil, or_false] at hu; rcases hu with rfl | rfl | rfl | rfl <;> first | rfl | exact Sl.one (by assumption)) hb29 (by show (0 : Nat) + 4 ≤ 4; decide) (fun w33 hs34 hb35 => ?_)
  replace hb35 : Box w33 b25 61 [.int .u64 ((l.getD k default).Term), .int .u8 ((l.getD k default).Kind), .string ((l.getD k default).Data), v18] := hb35
  have hx36 : Ext [b25] w w33 := hx32.trans (hs34.mono (by simp))
  have hx37 : Ext [b25] w26 w33 := (hs34.mono (by simp))
  refine WL.nil ?_
  refine WP.sr ?_
  refine WL.f (.int .u64 ((l.getD k default).Term)) fl61_0 rfl p24 (hb35.cell rfl) ?_
  refine WL.m rfl ?_
  refine WL.z (.bool (decide (((l.getD k default).Term) ≥ (vprevT l fr k)))) (V.cmp (y := .tmp 20) rfl rfl h1_6 rfl) ?_
  refine WL.vbp (c := ((l.getD k default).Term) ≥ (vprevT l fr k)) (Sure.none rfl) rfl (V.move rfl rfl) (fun hc38 => ?_) (fun hc38 => ?_)
  rotate_left
  · refine WL.skips [(22, some false)] [(9, some false)] (kc (some false) rfl kn) (by kernel_rfl) (fun E77 hK78 hE79 => ?_)
    refine WP.seq ?_
    refine WP.sr ?_
    refine WL.f (x := .tmp 8) (.int .u8 ((l.getD k default).Kind)) fl61_1 (hE79 8 rfl) p59 (hb35.cell rfl) ?_
    refine WL.nil ?_
    refine WP.block ?_
    refine WP.sr ?_
    refine WL.z (.bool (decide (((l.getD k default).Kind) = 0))) (V.cmp rfl rfl rfl rfl) ?_
    refine WL.m rfl ?_
    refine WL.nil ?_
    refine WP.condp (t := ((l.getD k default).Kind) = 0) rfl (fun hc80 => ?_) (fun hc80 => ?_)
    · refine WP.region ?_
      refine WL.skips [(9, some false)] [(9, some false)] (kc (some false) (hK78 9 (some false) rfl) kn) (by kernel_rfl) (fun E81 hK82 hE83 => ?_)
      refine WP.seq ?_
      refine WP.sr ?_
      refine WL.m rfl ?_
      refine WL.z (.bool (true)) (V.not (x := .tmp 66) (b := false) rfl (hK82 9 (some false) rfl)) ?_
      refine WL.nil ?_
      refine WP.cond_true rfl ?_
      refine WP.sr ?_
      refine WL.m rfl ?_
      refine WL.nil ?_
      refine WP.ret ?_
      refine resOf.c1 rfl (v := .bool (false)) rfl ?_
      exact ⟨(bool_eq (by rw [← vents_eq]; first | (exact (allB_true (by assumption) (by omega)).symm) | (exact (allB_false (k := k) (by omega) (by first | assumption | grind [entOk, kindOk])).symm))), ((hx36).done (geCons hge_b25_w geNil))⟩
    refine WP.sr ?_
    refine WL.z (.bool (decide (((l.getD k default).Kind) = 1))) (V.cmp rfl rfl rfl rfl) ?_
    refine WL.m rfl ?_
    refine WL.nil ?_
    refine WP.condp (t := ((l.getD k default).Kind) = 1) rfl (fun hc84 => ?_) (fun hc84 => ?_)
    · refine WP.region ?_
      refine WL.skips [(9, some false)] [(9, some false)] (kc (some false) (hK78 9 (some false) rfl) kn) (by kernel_rfl) (fun E85 hK86 hE87 => ?_)
      refine WP.seq ?_
      refine WP.sr ?_
      refine WL.m rfl ?_
      refine WL.z (.bool (true)) (V.not (x := .tmp 66) (b := false) rfl (hK86 9 (some false) rfl)) ?_
      refine WL.nil ?_
      refine WP.cond_true rfl ?_
      refine WP.sr ?_
      refine WL.m rfl ?_
      refine WL.nil ?_
      refine WP.ret ?_
      refine resOf.c1 rfl (v := .bool (false)) rfl ?_
      exact ⟨(bool_eq (by rw [← vents_eq]; first | (exact (allB_true (by assumption) (by omega)).symm) | (exact (allB_false (k := k) (by omega) (by first | assumption | grind [entOk, kindOk])).symm))), ((hx36).done (geCons hge_b25_w geNil))⟩
    refine WP.sr ?_
    refine WL.z (.bool (decide (((l.getD k default).Kind) = 2))) (V.cmp rfl rfl rfl rfl) ?_
    refine WL.m rfl ?_
    refine WL.nil ?_
    refine WP.condp (t := ((l.getD k default).Kind) = 2) rfl (fun hc88 => ?_) (fun hc88 => ?_)
    rotate_left
    · refine WP.region ?_
      refine WL.m rfl ?_
      refine WL.nil ?_
      refine WP.seq ?_
      refine WP.sr ?_
      refine WL.m rfl ?_
      refine WL.z (.bool (true)) (V.not (b := false) rfl rfl) ?_
      refine WL.nil ?_
      refine WP.cond_true rfl ?_
      refine WP.sr ?_
      refine WL.m rfl ?_
      refine WL.nil ?_
      refine WP.ret ?_
      refine resOf.c1 rfl (v := .bool (false)) rfl ?_
      exact ⟨(bool_eq (by rw [← vents_eq]; first | (exact (allB_true (by assumption) (by omega)).symm) | (exact (allB_false (k := k) (by omega) (by first | assumption | grind [entOk, kindOk])).symm))), ((hx36).done (geCons hge_b25_w geNil))⟩
    refine WP.region ?_
    refine WL.skips [(9, some false)] [(9, some false)] (kc (some false) (hK78 9 (some false) rfl) kn) (by kernel_rfl) (fun E89 hK90 hE91 => ?_)
    refine WP.seq ?_
    refine WP.sr ?_
    refine WL.m rfl ?_
    refine WL.z (.bool (true)) (V.not (x := .tmp 66) (b := false) rfl (hK90 9 (some false) rfl)) ?_
    refine WL.nil ?_
    refine WP.cond_true rfl ?_
    refine WP.sr ?_
    refine WL.m rfl ?_
    refine WL.nil ?_
    refine WP.ret ?_
    refine resOf.c1 rfl (v := .bool (false)) rfl ?_
    exact ⟨(bool_eq (by rw [← vents_eq]; first | (exact (allB_true (by assumption) (by omega)).symm) | (exact (allB_false (k := k) (by omega) (by first | assumption | grind [entOk, kindOk])).symm))), ((hx36).done (geCons hge_b25_w geNil))⟩
  refine WL.fy (.int .u64 ((l.getD k default).Term)) rfl fl61_0 rfl p24 (hb35.cell rfl) ?_
  refine WL.my rfl rfl ?_
  refine WL.y (.bool (decide (((l.getD k default).Term) ≤ to'))) rfl (V.cmp (y := .tmp 25) rfl rfl h2_6 rfl) ?_
  refine WL.k (a := true) rfl rfl ?_
  refine WL.m rfl ?_
  refine WL.nil ?_
  refine WP.seq ?_
  refine WP.sr ?_
  refine WL.f (.int .u8 ((l.getD k default).Kind)) fl61_1 rfl p59 (hb35.cell rfl) ?_
  refine WL.nil ?_
  refine WP.block ?_
  refine WP.sr ?_
  refine WL.z (.bool (decide (((l.getD k default).Kind) = 0))) (V.cmp rfl rfl rfl rfl) ?_
  refine WL.m rfl ?_
  refine WL.nil ?_
  refine WP.condp (t := ((l.getD k default).Kind) = 0) rfl (fun hc39 => ?_) (fun hc39 => ?_)
  · refine WP.region ?_
    refine WL.m rfl ?_
    refine WL.vbp (c := ((l.getD k default).Term) ≤ to') (Sure.none rfl) rfl (V.move rfl rfl) (fun hc40 => ?_) (fun hc40 => ?_)
    rotate_left
    · refine WL.skips [(33, some false)] [(9, some false)] (kc (some false) rfl kn) (by kernel_rfl) (fun E45 hK46 hE47 => ?_)
      refine WP.seq ?_
      refine WP.sr ?_
      refine WL.m rfl ?_
      refine WL.z (.bool (true)) (V.not (x := .tmp 66) (b := false) rfl (hK46 9 (some false) rfl)) ?_
      refine WL.nil ?_
      refine WP.cond_true rfl ?_
      refine WP.sr ?_
      refine WL.m rfl ?_
      refine WL.nil ?_
      refine WP.ret ?_
      refine resOf.c1 rfl (v := .bool (false)) rfl ?_
      exact ⟨(bool_eq (by rw [← vents_eq]; first | (exact (allB_true (by assumption) (by omega)).symm) | (exact (allB_false (k := k) (by omega) (by first | assumption | grind [entOk, kindOk])).symm))), ((hx36).done (geCons hge_b25_w geNil))⟩
    refine WL.fy (v18) rfl fl61_3 rfl p22 (hb35.cell rfl) ?_
    obtain ⟨a41, c42, hv43⟩ := hl31.shape
    refine WL.y (.int .i64 ((((l.getD k default).Members).length : Int))) rfl (V.lenSlice rfl rfl u22 (Eq.trans (b := v18) rfl hv43)) ?_
    refine WL.y (.bool (decide ((((l.getD k default).Members).length : Int) = 0))) rfl (V.cmp rfl rfl rfl rfl) ?_
    refine WL.k (a := true) rfl rfl ?_
    refine WL.m rfl ?_
    refine WL.nil ?_
    refine WP.seq ?_
    refine WP.sr ?_
    refine WL.m rfl ?_
    refine WL.z (.bool (!(decide ((((l.getD k default).Members).length : Int) = 0)))) (V.not rfl rfl) ?_
    refine WL.nil ?_
    refine WP.condnp (t := (((l.getD k default).Members).length : Int) = 0) rfl (fun hc44 => ?_) (fun hc44 => ?_)
    · refine WP.sr ?_
      refine WL.m rfl ?_
      refine WL.nil ?_
      refine WP.ret ?_
      refine resOf.c1 rfl (v := .bool (false)) rfl ?_
      exact ⟨(bool_eq (by rw [← vents_eq]; first | (exact (allB_true (by assumption) (by omega)).symm) | (exact (allB_false (k := k) (by omega) (by first | assumption | grind [entOk, kindOk])).symm))), ((hx36).done (geCons hge_b25_w geNil))⟩
    refine WP.skip ?_
    refine WP.region ?_
    refine WL.f (.int .u64 ((l.getD k default).Term)) fl61_0 rfl p24 (hb35.cell rfl) ?_
    refine WL.m rfl ?_
    refine WL.nil ?_
    refine WP.region ?_
    refine WL.z (.int .i64 ((k : Int) + 1)) (V.arith (x := .tmp 14) rfl h14_6 rfl rfl (wrap_i64 (by omega) (by omega))) ?_
    refine WL.m rfl ?_
    refine WL.nil ?_
    exact ⟨k + 1, ⟨h0_6, (int_eq (by simp [prevT, vprevT])), h2_6, h10_6, h11_6, h12_6, h13_6, (int_eq (by omega)), (Ext.drop hx36 hge_b25_w), (by omega), (all_step (by assumption) (by first | assumption | grind [entOk, kindOk]))⟩, (by omega)⟩
  refine WP.sr ?_
  refine WL.z (.bool (decide (((l.getD k default).Kind) = 1))) (V.cmp rfl rfl rfl rfl) ?_
  refine WL.m rfl ?_
  refine WL.nil ?_
  refine WP.condp (t := ((l.getD k default).Kind) = 1) rfl (fun hc48 => ?_) (fun hc48 => ?_)
  · refine WP.region ?_
    refine WL.m rfl ?_
    refine WL.vbp (c := ((l.getD k default).Term) ≤ to') (Sure.none rfl) rfl (V.move rfl rfl) (fun hc49 => ?_) (fun hc49 => ?_)
    rotate_left
    · refine WL.skips [(42, some false)] [(9, some false)] (kc (some false) rfl kn) (by kernel_rfl) (fun E58 hK59 hE60 => ?_)
      refine WP.seq ?_
      refine WP.sr ?_
      refine WL.m rfl ?_
      refine WL.z (.bool (true)) (V.not (x := .tmp 66) (b := false) rfl (hK59 9 (some false) rfl)) ?_
      refine WL.nil ?_
      refine WP.cond_true rfl ?_
      refine WP.sr ?_
      refine WL.m rfl ?_
      refine WL.nil ?_
      refine WP.ret ?_
      refine resOf.c1 rfl (v := .bool (false)) rfl ?_
      exact ⟨(bool_eq (by rw [← vents_eq]; first | (exact (allB_true (by assumption) (by omega)).symm) | (exact (allB_false (k := k) (by omega) (by first | assumption | grind [entOk, kindOk])).symm))), ((hx36).done (geCons hge_b25_w geNil))⟩
    refine WL.fy (.string ((l.getD k default).Data)) rfl fl61_2 rfl p9 (hb35.cell rfl) ?_
    refine WL.y (.bool (seqB ((l.getD k default).Data) (ByteArray.mk #[]))) rfl (V.scmp rfl rfl rfl rfl) ?_
    refine WL.k (a := true) rfl rfl ?_
    refine WL.vb (c := seqB ((l.getD k default).Data) (ByteArray.mk #[])) (Sure.none rfl) rfl (V.move rfl rfl) (fun hc50 => ?_) (fun hc50 => ?_)
    rotate_left
    · refine WL.skips [(47, some false)] [(9, some false)] (kc (some false) rfl kn) (by kernel_rfl) (fun E55 hK56 hE57 => ?_)
      refine WP.seq ?_
      refine WP.sr ?_
      refine WL.m rfl ?_
      refine WL.z (.bool (true)) (V.not (x := .tmp 66) (b := false) rfl (hK56 9 (some false) rfl)) ?_
      refine WL.nil ?_
      refine WP.cond_true rfl ?_
      refine WP.sr ?_
      refine WL.m rfl ?_
      refine WL.nil ?_
      refine WP.ret ?_
      refine resOf.c1 rfl (v := .bool (false)) rfl ?_
      exact ⟨(bool_eq (by rw [← vents_eq]; first | (exact (allB_true (by assumption) (by omega)).symm) | (exact (allB_false (k := k) (by omega) (by first | assumption | grind [entOk, kindOk])).symm))), ((hx36).done (geCons hge_b25_w geNil))⟩
    refine WL.fy (v18) rfl fl61_3 rfl p22 (hb35.cell rfl) ?_
    obtain ⟨a51, c52, hv53⟩ := hl31.shape
    refine WL.y (.int .i64 ((((l.getD k default).Members).length : Int))) rfl (V.lenSlice rfl rfl u22 (Eq.trans (b := v18) rfl hv53)) ?_
    refine WL.y (.bool (decide ((((l.getD k default).Members).length : Int) = 0))) rfl (V.cmp rfl rfl rfl rfl) ?_
    refine WL.k (a := true) rfl rfl ?_
    refine WL.m rfl ?_
    refine WL.nil ?_
    refine WP.seq ?_
    refine WP.sr ?_
    refine WL.m rfl ?_
    refine WL.z (.bool (!(decide ((((l.getD k default).Members).length : Int) = 0)))) (V.not rfl rfl) ?_
    refine WL.nil ?_
    refine WP.condnp (t := (((l.getD k default).Members).length : Int) = 0) rfl (fun hc54 => ?_) (fun hc54 => ?_)
    · refine WP.sr ?_
      refine WL.m rfl ?_
      refine WL.nil ?_
      refine WP.ret ?_
      refine resOf.c1 rfl (v := .bool (false)) rfl ?_
      exact ⟨(bool_eq (by rw [← vents_eq]; first | (exact (allB_true (by assumption) (by omega)).symm) | (exact (allB_false (k := k) (by omega) (by first | assumption | grind [entOk, kindOk])).symm))), ((hx36).done (geCons hge_b25_w geNil))⟩
    refine WP.skip ?_
    refine WP.region ?_
    refine WL.f (.int .u64 ((l.getD k default).Term)) fl61_0 rfl p24 (hb35.cell rfl) ?_
    refine WL.m rfl ?_
    refine WL.nil ?_
    refine WP.region ?_
    refine WL.z (.int .i64 ((k : Int) + 1)) (V.arith (x := .tmp 14) rfl h14_6 rfl rfl (wrap_i64 (by omega) (by omega))) ?_
    refine WL.m rfl ?_
    refine WL.nil ?_
    exact ⟨k + 1, ⟨h0_6, (int_eq (by simp [prevT, vprevT])), h2_6, h10_6, h11_6, h12_6, h13_6, (int_eq (by omega)), (Ext.drop hx36 hge_b25_w), (by omega), (all_step (by assumption) (by first | assumption | grind [entOk, kindOk]))⟩, (by omega)⟩
  refine WP.sr ?_
  refine WL.z (.bool (decide (((l.getD k default).Kind) = 2))) (V.cmp rfl rfl rfl rfl) ?_
  refine WL.m rfl ?_
  refine WL.nil ?_
  refine WP.condp (t := ((l.getD k default).Kind) = 2) rfl (fun hc61 => ?_) (fun hc61 => ?_)
  rotate_left
  · refine WP.region ?_
    refine WL.m rfl ?_
    refine WL.nil ?_
    refine WP.seq ?_
    refine WP.sr ?_
    refine WL.m rfl ?_
    refine WL.z (.bool (true)) (V.not (b := false) rfl rfl) ?_
    refine WL.nil ?_
    refine WP.cond_true rfl ?_
    refine WP.sr ?_
    refine WL.m rfl ?_
    refine WL.nil ?_
    refine WP.ret ?_
    refine resOf.c1 rfl (v := .bool (false)) rfl ?_
    exact ⟨(bool_eq (by rw [← vents_eq]; first | (exact (allB_true (by assumption) (by omega)).symm) | (exact (allB_false (k := k) (by omega) (by first | assumption | grind [entOk, kindOk])).symm))), ((hx36).done (geCons hge_b25_w geNil))⟩
  refine WP.region ?_
  refine WL.m rfl ?_
  refine WL.vbp (c := ((l.getD k default).Term) ≤ to') (Sure.none rfl) rfl (V.move rfl rfl) (fun hc62 => ?_) (fun hc62 => ?_)
  rotate_left
  · refine WL.skips [(56, some false)] [(9, some false)] (kc (some false) rfl kn) (by kernel_rfl) (fun E74 hK75 hE76 => ?_)
    refine WP.seq ?_
    refine WP.sr ?_
    refine WL.m rfl ?_
    refine WL.z (.bool (true)) (V.not (x := .tmp 66) (b := false) rfl (hK75 9 (some false) rfl)) ?_
    refine WL.nil ?_
    refine WP.cond_true rfl ?_
    refine WP.sr ?_
    refine WL.m rfl ?_
    refine WL.nil ?_
    refine WP.ret ?_
    refine resOf.c1 rfl (v := .bool (false)) rfl ?_
    exact ⟨(bool_eq (by rw [← vents_eq]; first | (exact (allB_true (by assumption) (by omega)).symm) | (exact (allB_false (k := k) (by omega) (by first | assumption | grind [entOk, kindOk])).symm))), ((hx36).done (geCons hge_b25_w geNil))⟩
  refine WL.fy (.string ((l.getD k default).Data)) rfl fl61_2 rfl p9 (hb35.cell rfl) ?_
  refine WL.y (.bool (seqB ((l.getD k default).Data) (ByteArray.mk #[]))) rfl (V.scmp rfl rfl rfl rfl) ?_
  refine WL.k (a := true) rfl rfl ?_
  refine WL.vb (c := seqB ((l.getD k default).Data) (ByteArray.mk #[])) (Sure.none rfl) rfl (V.move rfl rfl) (fun hc63 => ?_) (fun hc63 => ?_)
  rotate_left
  · refine WL.skips [(61, some false)] [(9, some false)] (kc (some false) rfl kn) (by kernel_rfl) (fun E71 hK72 hE73 => ?_)
    refine WP.seq ?_
    refine WP.sr ?_
    refine WL.m rfl ?_
    refine WL.z (.bool (true)) (V.not (x := .tmp 66) (b := false) rfl (hK72 9 (some false) rfl)) ?_
    refine WL.nil ?_
    refine WP.cond_true rfl ?_
    refine WP.sr ?_
    refine WL.m rfl ?_
    refine WL.nil ?_
    refine WP.ret ?_
    refine resOf.c1 rfl (v := .bool (false)) rfl ?_
    exact ⟨(bool_eq (by rw [← vents_eq]; first | (exact (allB_true (by assumption) (by omega)).symm) | (exact (allB_false (k := k) (by omega) (by first | assumption | grind [entOk, kindOk])).symm))), ((hx36).done (geCons hge_b25_w geNil))⟩
  refine WL.fy (v18) rfl fl61_3 rfl p22 (hb35.cell rfl) ?_
  refine WL.c (Sure.yes rfl rfl rfl) rfl (C.call1 rfl cl30 rfl) (Fnc.mono (vote_members (hl31.ext (Ext.pre hx37))) ?_)
  rintro _ w64 ⟨rfl, hx65⟩
  have hx66 : Ext [b25] w w64 := hx36.trans (Ext.any (Y := [b25]) hx65)
  have hb69 := hb35.ext hx65 (by simp)
  refine WL.k (a := true) rfl rfl ?_
  refine WL.m rfl ?_
  refine WL.nil ?_
  refine WP.seq ?_
  refine WP.sr ?_
  refine WL.m rfl ?_
  refine WL.z (.bool (!(membersB ((l.getD k default).Members)))) (V.not rfl rfl) ?_
  refine WL.nil ?_
  refine WP.condn (t := membersB ((l.getD k default).Members)) rfl (fun hc70 => ?_) (fun hc70 => ?_)
  · refine WP.sr ?_
    refine WL.m rfl ?_
    refine WL.nil ?_
    refine WP.ret ?_
    refine resOf.c1 rfl (v := .bool (false)) rfl ?_
    exact ⟨(bool_eq (by rw [← vents_eq]; first | (exact (allB_true (by assumption) (by omega)).symm) | (exact (allB_false (k := k) (by omega) (by first | assumption | grind [entOk, kindOk])).symm))), ((hx66).done (geCons hge_b25_w geNil))⟩
  refine WP.skip ?_
  refine WP.region ?_
  refine WL.f (.int .u64 ((l.getD k default).Term)) fl61_0 rfl p24 (hb69.cell rfl) ?_
  refine WL.m rfl ?_
  refine WL.nil ?_
  refine WP.region ?_
  refine WL.z (.int .i64 ((k : Int) + 1)) (V.arith (x := .tmp 14) rfl h14_6 rfl rfl (wrap_i64 (by omega) (by omega))) ?_
  refine WL.m rfl ?_
  refine WL.nil ?_
  exact ⟨k + 1, ⟨h0_6, (int_eq (by simp [prevT, vprevT])), h2_6, h10_6, h11_6, h12_6, h13_6, (int_eq (by omega)), (Ext.drop hx66 hge_b25_w), (by omega), (all_step (by assumption) (by first | assumption | grind [entOk, kindOk]))⟩, (by omega)⟩

end Go.Proofs.Ytkcnljgennehaaa.T
