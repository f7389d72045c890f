import Derived.Test.YtkcnljgennehaaaV3
namespace Go.Proofs.Ytkcnljgennehaaa.T
open W Go.RowKit
set_option maxRecDepth 100000
set_option maxHeartbeats 400000

theorem sl_Index {w : World} {X : List Nat} {v_xs : Value} {xs : List Int} (h_xs : Sl (intR .i64) X w v_xs xs) (n : Int) : Fnc Try.prog 38 #[v_xs, .int .i64 (n)] w (fun v w' => v = .int .i64 (idxD xs n) ∧ Ext [] w w') := by
  have hle_xs := h_xs.le'
  refine Fnc.of_WP (n := 19) Try.func38 rfl Try.ntmps38 (by simp) ?_
  intro E hE
  have h0 : E 0 = v_xs := hE 0 (by simp)
  have h1 : E 1 = .int .i64 (n) := hE 1 (by simp)
  clear hE
  refine WP.sr ?_
  refine WL.m rfl ?_
  refine WL.nil ?_
  refine WP.seq ?_
  refine WP.sr ?_
  refine WL.m rfl ?_
  obtain ⟨a1, c2, hv3⟩ := h_xs.shape
  refine WL.z (.int .i64 (((xs).length : Int))) (V.lenSlice (x := .tmp 6) rfl rfl u22 (Eq.trans (b := v_xs) h0 hv3)) ?_
  refine WL.m rfl ?_
  refine WL.nil ?_
  refine WP.block ?_
  refine WP.loop (σ := Nat) (fun k E4 w5 => E4 0 = v_xs ∧ E4 1 = .int .i64 (n) ∧ E4 6 = v_xs ∧ E4 7 = .int .i64 (((xs).length : Int)) ∧ E4 8 = .int .i64 ((k : Int)) ∧ Ext [] w w5 ∧ k ≤ xs.length ∧ ∀ j, j < k → (fun i => !ieq (xs.getD i 0) n) j = true) (fun k => xs.length - k) (0) ?_ ?_
  · exact ⟨h0, h1, h0, rfl, (int_eq (by omega)), Ext.refl _ _, (by omega), (all_zero _)⟩
  rintro k E4 w5 ⟨h0_6, h1_6, h6_6, h7_6, h8_6, hx6, hi0_6, hi1_6⟩
  have hx7 : Ext [] w w5 := hx6
  refine WP.sr ?_
  refine WL.z (.bool (decide ((k : Int) < ((xs).length : Int)))) (V.cmp (x := .tmp 8) (y := .tmp 7) rfl h8_6 h7_6 rfl) ?_
  refine WL.nil ?_
  refine WP.seq ?_
  refine WP.condp (t := (k : Int) < ((xs).length : Int)) rfl (fun hc8 => ?_) (fun hc8 => ?_)
  rotate_left
  · refine WP.exit ?_
    refine WP.sr ?_
    refine WL.m rfl ?_
    refine WL.nil ?_
    refine WP.ret ?_
    refine resOf.c1 rfl (v := .int .i64 (-1)) rfl ?_
    exact ⟨(int_eq (by first | (exact (idxD_none (by assumption) (by omega)).symm) | (exact (idxD_at (by omega) (by assumption) (by first | assumption | grind [ieq])).symm))), hx7⟩
  refine WP.skip ?_
  refine WP.seq ?_
  refine WP.block ?_
  refine WP.sr ?_
  refine WL.m rfl ?_
  refine WL.m rfl ?_
  refine WL.nil ?_
  refine WP.sr ?_
  refine WL.m rfl ?_
  refine WL.m rfl ?_
  refine WL.m rfl ?_
  have hlt17 : k < (xs).length := by first | omega | (simp at *; omega)
  obtain ⟨b9, k10, c11, cs12, hv13, hnb14, hr15, hat16⟩ := (h_xs.ext (Ext.pre hx7)).get (i := k) (x := (xs.getD k 0)) (getD_some hlt17 _)
  obtain ⟨rfl, hin18⟩ := hr15
  have hin18 := inK_i64 hin18
  refine WL.z (.pointer (some ⟨b9, k10 + k * 1, none⟩)) (V.indexAddr (x := .tmp 12) (i := .tmp 13) (m := k) (j := (k : Int)) rfl u22 s3 (Eq.trans (b := v_xs) h0_6 hv13) h8_6 rfl hlt17) ?_
  refine WL.z (.int .i64 ((xs.getD k 0))) (V.load rfl p3 rfl (hat16.cell (j := 0) rfl)) ?_
  refine WL.z (.bool (decide (n = (xs.getD k 0)))) (V.cmp (x := .tmp 11) rfl h1_6 rfl rfl) ?_
  refine WL.nil ?_
  refine WP.condp (t := n = (xs.getD k 0)) rfl (fun hc19 => ?_) (fun hc19 => ?_)
  · refine WP.sr ?_
    refine WL.m rfl ?_
    refine WL.m rfl ?_
    refine WL.nil ?_
    refine WP.ret ?_
    refine resOf.c1 rfl (v := .int .i64 ((k : Int))) h8_6 ?_
    exact ⟨(int_eq (by first | (exact (idxD_none (by assumption) (by omega)).symm) | (exact (idxD_at (by omega) (by assumption) (by first | assumption | grind [ieq])).symm))), hx7⟩
  refine WP.skip ?_
  refine WP.region ?_
  refine WL.z (.int .i64 ((k : Int) + 1)) (V.arith (x := .tmp 8) rfl h8_6 rfl rfl (wrap_i64 (by omega) (by omega))) ?_
  refine WL.m rfl ?_
  refine WL.nil ?_
  exact ⟨k + 1, ⟨h0_6, h1_6, h6_6, h7_6, (int_eq (by omega)), hx7, (by omega), (all_step (by assumption) (by first | assumption | grind [ieq]))⟩, (by omega)⟩

theorem sl_Contains {w : World} {X : List Nat} {v_xs : Value} {xs : List Int} (h_xs : Sl (intR .i64) X w v_xs xs) (n : Int) : Fnc Try.prog 14 #[v_xs, .int .i64 (n)] w (fun v w' => v = .bool (hasB xs n) ∧ Ext [] w w') := by
  have hle_xs := h_xs.le'
  refine Fnc.of_WP (n := 9) Try.func14 rfl Try.ntmps14 (by simp) ?_
  intro E hE
  have h0 : E 0 = v_xs := hE 0 (by simp)
  have h1 : E 1 = .int .i64 (n) := hE 1 (by simp)
  clear hE
  refine WP.sr ?_
  refine WL.m rfl ?_
  refine WL.nil ?_
  refine WP.sr ?_
  refine WL.m rfl ?_
  refine WL.m rfl ?_
  refine WL.c (Sure.none rfl) rfl (C.call2 (x := .tmp 5) (y := .tmp 6) rfl cl38 h0 h1) (Fnc.mono (sl_Index h_xs n) ?_)
  rintro _ w1 ⟨rfl, hx2⟩
  have hx3 : Ext [] w w1 := hx2
  refine WL.z (.bool (decide ((idxD xs n) ≥ 0))) (V.cmp rfl rfl rfl rfl) ?_
  refine WL.m rfl ?_
  refine WL.nil ?_
  refine WP.ret ?_
  refine resOf.c1 rfl (v := .bool (decide ((idxD xs n) ≥ 0))) rfl ?_
  exact ⟨(bool_eq (by exact idxD_has _ _)), hx3⟩

theorem vote_Majority {w : World} {X : List Nat} {v_xs : Value} {xs : List Int} (h_xs : Sl (intR .i64) X w v_xs xs) {v_ids : Value} {ids : List Int} (h_ids : Sl (intR .i64) X w v_ids ids) (hb : xs.length ≤ 17592186044416) : Fnc Try.prog 6 #[v_xs, v_ids] w (fun v w' => v = .bool (majB xs ids) ∧ Ext [] w w') := by
  have hle_xs := h_xs.le'
  have hle_ids := h_ids.le'
  refine Fnc.of_WP (n := 26) Try.func6 rfl Try.ntmps6 (by simp) ?_
  intro E hE
  have h0 : E 0 = v_xs := hE 0 (by simp)
  have h1 : E 1 = v_ids := hE 1 (by simp)
  clear hE
  refine WP.sr ?_
  refine WL.m rfl ?_
  refine WL.nil ?_
  refine WP.sr ?_
  refine WL.m rfl ?_
  refine WL.nil ?_
  refine WP.seq ?_
  refine WP.sr ?_
  refine WL.m rfl ?_
  obtain ⟨a1, c2, hv3⟩ := h_xs.shape
  refine WL.z (.int .i64 (((xs).length : Int))) (V.lenSlice (x := .tmp 7) rfl rfl u22 (Eq.trans (b := v_xs) h0 hv3)) ?_
  refine WL.m rfl ?_
  refine WL.nil ?_
  refine WP.block ?_
  refine WP.loop (σ := Nat) (fun k E4 w5 => E4 0 = v_xs ∧ E4 1 = v_ids ∧ E4 4 = .bool (false) ∧ E4 5 = .int .i64 ((cntIn ids xs k : Int)) ∧ E4 7 = v_xs ∧ E4 8 = .int .i64 (((xs).length : Int)) ∧ E4 9 = .int .i64 ((k : Int)) ∧ Ext [] w w5 ∧ k ≤ xs.length) (fun k => xs.length - k) (0) ?_ ?_
  · exact ⟨h0, h1, rfl, (int_eq (by rfl)), h0, rfl, (int_eq (by omega)), Ext.refl _ _, (by omega)⟩
  rintro k E4 w5 ⟨h0_6, h1_6, h4_6, h5_6, h7_6, h8_6, h9_6, hx6, hi0_6⟩
  have hx7 : Ext [] w w5 := hx6
  have hcl := cntIn_le ids xs k
  refine WP.sr ?_
  refine WL.z (.bool (decide ((k : Int) < ((xs).length : Int)))) (V.cmp (x := .tmp 9) (y := .tmp 8) rfl h9_6 h8_6 rfl) ?_
  refine WL.nil ?_
  refine WP.seq ?_
  refine WP.condp (t := (k : Int) < ((xs).length : Int)) rfl (fun hc8 => ?_) (fun hc8 => ?_)
  rotate_left
  · refine WP.exit ?_
    refine WP.sr ?_
    refine WL.m rfl ?_
    refine WL.z (.int .i64 (2 * (cntIn ids xs k : Int))) (V.arith (y := .tmp 21) rfl rfl h5_6 rfl (wrap_i64 (by omega) (by omega))) ?_
    refine WL.m rfl ?_
    refine WL.z (.int .i64 (((xs).length : Int))) (V.lenSlice (x := .tmp 23) rfl rfl u22 (Eq.trans (b := v_xs) h0_6 hv3)) ?_
    refine WL.z (.bool (decide ((2 * (cntIn ids xs k : Int)) > ((xs).length : Int)))) (V.cmp rfl rfl rfl rfl) ?_
    refine WL.m rfl ?_
    refine WL.nil ?_
    refine WP.ret ?_
    refine resOf.c1 rfl (v := .bool (decide ((2 * (cntIn ids xs k : Int)) > ((xs).length : Int)))) rfl ?_
    exact ⟨(bool_eq (by (have hke : k = xs.length := (by omega)); subst hke; rfl)), hx7⟩
  refine WP.skip ?_
  refine WP.seq ?_
  refine WP.block ?_
  refine WP.sr ?_
  refine WL.m rfl ?_
  refine WL.m rfl ?_
  refine WL.nil ?_
  refine WP.sr ?_
  refine WL.m rfl ?_
  refine WL.m rfl ?_
  refine WL.m rfl ?_
  have hlt17 : k < (xs).length := by first | omega | (simp at *; omega)
  obtain ⟨b9, k10, c11, cs12, hv13, hnb14, hr15, hat16⟩ := (h_xs.ext (Ext.pre hx7)).get (i := k) (x := (xs.getD k 0)) (getD_some hlt17 _)
  obtain ⟨rfl, hin18⟩ := hr15
  have hin18 := inK_i64 hin18
  refine WL.z (.pointer (some ⟨b9, k10 + k * 1, none⟩)) (V.indexAddr (x := .tmp 13) (i := .tmp 14) (m := k) (j := (k : Int)) rfl u22 s3 (Eq.trans (b := v_xs) h0_6 hv13) h9_6 rfl hlt17) ?_
  refine WL.z (.int .i64 ((xs.getD k 0))) (V.load rfl p3 rfl (hat16.cell (j := 0) rfl)) ?_
  refine WL.c (Sure.none rfl) rfl (C.call2 (x := .tmp 12) rfl cl14 h1_6 rfl) (Fnc.mono (sl_Contains (h_ids.ext (Ext.pre hx7)) (xs.getD k 0)) ?_)
  rintro _ w19 ⟨rfl, hx20⟩
  have hx21 : Ext [] w w19 := hx7.trans hx20
  refine WL.nil ?_
  refine WP.cond (t := hasB ids (xs.getD k 0)) rfl (fun hc23 => ?_) (fun hc23 => ?_)
  rotate_left
  · refine WP.skip ?_
    refine WP.region ?_
    refine WL.z (.int .i64 ((k : Int) + 1)) (V.arith (x := .tmp 9) rfl h9_6 rfl rfl (wrap_i64 (by omega) (by omega))) ?_
    refine WL.m rfl ?_
    refine WL.nil ?_
    exact ⟨k + 1, ⟨h0_6, h1_6, h4_6, (Eq.trans h5_6 (int_eq (by first | (rw [cntIn_go (by omega) (by assumption)]; omega) | (rw [cntIn_skip (by omega) (by assumption)])))), h7_6, h8_6, (int_eq (by omega)), hx21, (by omega)⟩, (by omega)⟩
  refine WP.region ?_
  refine WL.m rfl ?_
  refine WL.z (.int .i64 ((cntIn ids xs k : Int) + 1)) (V.arith (x := .tmp 18) rfl h5_6 rfl rfl (wrap_i64 (by omega) (by omega))) ?_
  refine WL.m rfl ?_
  refine WL.nil ?_
  refine WP.region ?_
  refine WL.z (.int .i64 ((k : Int) + 1)) (V.arith (x := .tmp 9) rfl h9_6 rfl rfl (wrap_i64 (by omega) (by omega))) ?_
  refine WL.m rfl ?_
  refine WL.nil ?_
  exact ⟨k + 1, ⟨h0_6, h1_6, h4_6, (int_eq (by first | (rw [cntIn_go (by omega) (by assumption)]; omega) | (rw [cntIn_skip (by omega) (by assumption)]))), h7_6, h8_6, (int_eq (by omega)), hx21, (by omega)⟩, (by omega)⟩

end Go.Proofs.Ytkcnljgennehaaa.T
