import Derived.Test.YtkcnljgennehaaaVD
import Derived.Test.YtkcnljgennehaaaProg
namespace Go.Proofs.Ytkcnljgennehaaa.T
open W Go.RowKit
set_option maxRecDepth 100000
set_option maxHeartbeats 400000

theorem vote_id {w : World} (n : Int) : Fnc Try.prog 29 #[.int .i64 (n)] w (fun v w' => v = .bool (idB n) ∧ Ext [] w w') := by
  refine Fnc.of_WP (n := 9) Try.func29 rfl Try.ntmps29 (by simp) ?_
  intro E hE
  have h0 : E 0 = .int .i64 (n) := hE 0 (by simp)
  clear hE
  refine WP.sr ?_
  refine WL.m rfl ?_
  refine WL.nil ?_
  refine WP.sr ?_
  refine WL.m rfl ?_
  refine WL.z (.bool (decide (n ≥ 1))) (V.cmp (x := .tmp 3) rfl h0 rfl rfl) ?_
  refine WL.vbp (c := n ≥ 1) (Sure.none rfl) rfl (V.move rfl rfl) (fun hc1 => ?_) (fun hc1 => ?_)
  rotate_left
  · refine WL.skips [(5, some false)] [(2, some false)] (kc (some false) rfl kn) (by kernel_rfl) (fun E2 hK3 hE4 => ?_)
    refine WP.ret ?_
    refine resOf.c1 rfl (v := .bool (false)) (hK3 2 (some false) rfl) ?_
    exact ⟨(bool_eq (by grind [idB])), Ext.refl _ _⟩
  refine WL.my rfl rfl ?_
  refine WL.y (.bool (decide (n ≤ 64))) rfl (V.cmp (x := .tmp 6) rfl h0 rfl rfl) ?_
  refine WL.k (a := true) rfl rfl ?_
  refine WL.m rfl ?_
  refine WL.nil ?_
  refine WP.ret ?_
  refine resOf.c1 rfl (v := .bool (decide (n ≤ 64))) rfl ?_
  exact ⟨(bool_eq (by grind [idB])), Ext.refl _ _⟩

theorem vote_rising {w : World} {X : List Nat} {v_xs : Value} {xs : List Int} (h_xs : Sl (intR .i64) X w v_xs xs) : Fnc Try.prog 35 #[v_xs] w (fun v w' => v = .bool (idsB xs) ∧ Ext [] w w') := by
  have hle_xs := h_xs.le'
  refine Fnc.of_WP (n := 29) Try.func35 rfl Try.ntmps35 (by simp) ?_
  intro E hE
  have h0 : E 0 = v_xs := hE 0 (by simp)
  clear hE
  refine WP.sr ?_
  refine WL.m rfl ?_
  refine WL.nil ?_
  refine WP.seq ?_
  refine WP.sr ?_
  refine WL.m rfl ?_
  obtain ⟨a1, c2, hv3⟩ := h_xs.shape
  refine WL.z (.int .i64 (((xs).length : Int))) (V.lenSlice (x := .tmp 5) rfl rfl u22 (Eq.trans (b := v_xs) h0 hv3)) ?_
  refine WL.m rfl ?_
  refine WL.nil ?_
  refine WP.block ?_
  refine WP.loop (σ := Nat) (fun k E4 w5 => E4 0 = v_xs ∧ E4 5 = v_xs ∧ E4 6 = .int .i64 (((xs).length : Int)) ∧ E4 7 = .int .i64 ((k : Int)) ∧ Ext [] w w5 ∧ k ≤ xs.length ∧ ∀ j, j < k → (okAt xs) j = true) (fun k => xs.length - k) (0) ?_ ?_
  · exact ⟨h0, h0, rfl, (int_eq (by omega)), Ext.refl _ _, (by omega), (all_zero _)⟩
  rintro k E4 w5 ⟨h0_6, h5_6, h6_6, h7_6, hx6, hi0_6, hi1_6⟩
  have hx7 : Ext [] w w5 := hx6
  refine WP.sr ?_
  refine WL.z (.bool (decide ((k : Int) < ((xs).length : Int)))) (V.cmp (x := .tmp 7) (y := .tmp 6) rfl h7_6 h6_6 rfl) ?_
  refine WL.nil ?_
  refine WP.seq ?_
  refine WP.condp (t := (k : Int) < ((xs).length : Int)) rfl (fun hc8 => ?_) (fun hc8 => ?_)
  rotate_left
  · refine WP.exit ?_
    refine WP.sr ?_
    refine WL.m rfl ?_
    refine WL.nil ?_
    refine WP.ret ?_
    refine resOf.c1 rfl (v := .bool (true)) rfl ?_
    exact ⟨(bool_eq (by first | (exact (allB_true (by assumption) (by omega)).symm) | (exact (allB_false (k := k) (by omega) (by grind [okAt])).symm))), hx7⟩
  refine WP.skip ?_
  refine WP.seq ?_
  refine WP.block ?_
  refine WP.sr ?_
  refine WL.m rfl ?_
  have hlt17 : k < (xs).length := by first | omega | (simp at *; omega)
  obtain ⟨b9, k10, c11, cs12, hv13, hnb14, hr15, hat16⟩ := (h_xs.ext (Ext.pre hx7)).get (i := k) (x := (xs.getD k 0)) (getD_some hlt17 _)
  obtain ⟨rfl, hin18⟩ := hr15
  have hin18 := inK_i64 hin18
  refine WL.z (.pointer (some ⟨b9, k10 + k * 1, none⟩)) (V.indexAddr (x := .tmp 5) (i := .tmp 7) (m := k) (j := (k : Int)) rfl u22 s3 (Eq.trans (b := v_xs) h5_6 hv13) h7_6 rfl hlt17) ?_
  refine WL.z (.int .i64 ((xs.getD k 0))) (V.load rfl p3 rfl (hat16.cell (j := 0) rfl)) ?_
  refine WL.m rfl ?_
  refine WL.m rfl ?_
  refine WL.nil ?_
  refine WP.sr ?_
  refine WL.m rfl ?_
  refine WL.c (Sure.none rfl) rfl (C.call1 rfl cl29 rfl) (Fnc.mono (vote_id (xs.getD k 0)) ?_)
  rintro _ w19 ⟨rfl, hx20⟩
  have hx21 : Ext [] w w19 := hx7.trans hx20
  refine WL.z (.bool (!(idB (xs.getD k 0)))) (V.not rfl rfl) ?_
  refine WL.vbn (c := idB (xs.getD k 0)) (Sure.none rfl) rfl (V.move rfl rfl) (fun hc23 => ?_) (fun hc23 => ?_)
  · refine WL.skips [(15, some true)] [(27, some true)] (kc (some true) rfl kn) (by kernel_rfl) (fun E24 hK25 hE26 => ?_)
    refine WP.cond_true (hK25 27 (some true) rfl) ?_
    refine WP.sr ?_
    refine WL.m rfl ?_
    refine WL.nil ?_
    refine WP.ret ?_
    refine resOf.c1 rfl (v := .bool (false)) rfl ?_
    exact ⟨(bool_eq (by first | (exact (allB_true (by assumption) (by omega)).symm) | (exact (allB_false (k := k) (by omega) (by grind [okAt])).symm))), hx21⟩
  refine WL.my rfl rfl ?_
  refine WL.y (.bool (decide ((k : Int) > 0))) rfl (V.cmp (x := .tmp 16) rfl h7_6 rfl rfl) ?_
  refine WL.vbp (c := (k : Int) > 0) (Sure.yes rfl rfl rfl) rfl (V.move rfl rfl) (fun hc27 => ?_) (fun hc27 => ?_)
  rotate_left
  · refine WL.skips [(18, some false), (15, some false)] [(27, some false)] (kc (some false) rfl (kc (some false) rfl kn)) (by kernel_rfl) (fun E39 hK40 hE41 => ?_)
    refine WP.cond_false (hK40 27 (some false) rfl) ?_
    refine WP.skip ?_
    refine WP.region ?_
    refine WL.z (.int .i64 ((k : Int) + 1)) (V.arith (x := .tmp 7) rfl ((hE41 7 rfl).trans h7_6) rfl rfl (wrap_i64 (by omega) (by omega))) ?_
    refine WL.m rfl ?_
    refine WL.nil ?_
    exact ⟨k + 1, ⟨((hE41 0 rfl).trans h0_6), ((hE41 5 rfl).trans h5_6), ((hE41 6 rfl).trans h6_6), (int_eq (by omega)), hx21, (by omega), (all_step (by assumption) (by grind [okAt]))⟩, (by omega)⟩
  refine WL.my rfl rfl ?_
  refine WL.my rfl rfl ?_
  refine WL.y (.int .i64 ((k : Int) - 1)) rfl (V.arith (x := .tmp 20) rfl h7_6 rfl rfl (wrap_i64 (by omega) (by omega))) ?_
  have hlt36 : k - 1 < (xs).length := by first | omega | (simp at *; omega)
  obtain ⟨b28, k29, c30, cs31, hv32, hnb33, hr34, hat35⟩ := (h_xs.ext (Ext.pre hx21)).get (i := k - 1) (x := (xs.getD (k - 1) 0)) (getD_some hlt36 _)
  obtain ⟨rfl, hin37⟩ := hr34
  have hin37 := inK_i64 hin37
  refine WL.y (.pointer (some ⟨b28, k29 + (k - 1) * 1, none⟩)) rfl (V.indexAddr (x := .tmp 19) (m := k - 1) (j := (k : Int) - 1) rfl u22 s3 (Eq.trans (b := v_xs) h0_6 hv32) rfl (by omega) hlt36) ?_
  refine WL.y (.int .i64 ((xs.getD (k - 1) 0))) rfl (V.load rfl p3 rfl (hat35.cell (j := 0) rfl)) ?_
  refine WL.my rfl rfl ?_
  refine WL.y (.bool (decide ((xs.getD (k - 1) 0) ≥ (xs.getD k 0)))) rfl (V.cmp rfl rfl rfl rfl) ?_
  refine WL.ky (a := true) rfl rfl rfl ?_
  refine WL.k (a := false) rfl rfl ?_
  refine WL.nil ?_
  refine WP.condp (t := (xs.getD (k - 1) 0) ≥ (xs.getD k 0)) rfl (fun hc38 => ?_) (fun hc38 => ?_)
  · refine WP.sr ?_
    refine WL.m rfl ?_
    refine WL.nil ?_
    refine WP.ret ?_
    refine resOf.c1 rfl (v := .bool (false)) rfl ?_
    exact ⟨(bool_eq (by first | (exact (allB_true (by assumption) (by omega)).symm) | (exact (allB_false (k := k) (by omega) (by grind [okAt])).symm))), hx21⟩
  refine WP.skip ?_
  refine WP.region ?_
  refine WL.z (.int .i64 ((k : Int) + 1)) (V.arith (x := .tmp 7) rfl h7_6 rfl rfl (wrap_i64 (by omega) (by omega))) ?_
  refine WL.m rfl ?_
  refine WL.nil ?_
  exact ⟨k + 1, ⟨h0_6, h5_6, h6_6, (int_eq (by omega)), hx21, (by omega), (all_step (by assumption) (by grind [okAt]))⟩, (by omega)⟩

theorem vote_members {w : World} {X : List Nat} {v_xs : Value} {xs : List Int} (h_xs : Sl (intR .i64) X w v_xs xs) : Fnc Try.prog 30 #[v_xs] w (fun v w' => v = .bool (membersB xs) ∧ Ext [] w w') := by
  have hle_xs := h_xs.le'
  refine Fnc.of_WP (n := 10) Try.func30 rfl Try.ntmps30 (by simp) ?_
  intro E hE
  have h0 : E 0 = v_xs := hE 0 (by simp)
  clear hE
  refine WP.sr ?_
  refine WL.m rfl ?_
  refine WL.nil ?_
  refine WP.sr ?_
  refine WL.m rfl ?_
  obtain ⟨a1, c2, hv3⟩ := h_xs.shape
  refine WL.z (.int .i64 (((xs).length : Int))) (V.lenSlice (x := .tmp 3) rfl rfl u22 (Eq.trans (b := v_xs) h0 hv3)) ?_
  refine WL.z (.bool (decide (((xs).length : Int) > 0))) (V.cmp rfl rfl rfl rfl) ?_
  refine WL.vbp (c := ((xs).length : Int) > 0) (Sure.none rfl) rfl (V.move rfl rfl) (fun hc4 => ?_) (fun hc4 => ?_)
  rotate_left
  · refine WL.skips [(6, some false)] [(2, some false)] (kc (some false) rfl kn) (by kernel_rfl) (fun E8 hK9 hE10 => ?_)
    refine WP.ret ?_
    refine resOf.c1 rfl (v := .bool (false)) (hK9 2 (some false) rfl) ?_
    exact ⟨(bool_eq (by grind [membersB])), Ext.refl _ _⟩
  refine WL.my rfl rfl ?_
  refine WL.c (Sure.yes rfl rfl rfl) rfl (C.call1 (x := .tmp 7) rfl cl35 h0) (Fnc.mono (vote_rising h_xs) ?_)
  rintro _ w5 ⟨rfl, hx6⟩
  have hx7 : Ext [] w w5 := hx6
  refine WL.k (a := true) rfl rfl ?_
  refine WL.m rfl ?_
  refine WL.nil ?_
  refine WP.ret ?_
  refine resOf.c1 rfl (v := .bool (idsB xs)) rfl ?_
  exact ⟨(bool_eq (by grind [membersB])), hx7⟩

theorem sl_equal_int {w : World} {X : List Nat} {v_xs : Value} {xs : List Int} (h_xs : Sl (intR .i64) X w v_xs xs) {v_ys : Value} {ys : List Int} (h_ys : Sl (intR .i64) X w v_ys ys) : Fnc Try.prog 33 #[v_xs, v_ys] w (fun v w' => v = .bool (eqB ieq xs ys) ∧ Ext [] w w') := by
  have hle_xs := h_xs.le'
  have hle_ys := h_ys.le'
  refine Fnc.of_WP (n := 26) Try.func33 rfl Try.ntmps33 (by simp) ?_
  intro E hE
  have h0 : E 0 = v_xs := hE 0 (by simp)
  have h1 : E 1 = v_ys := hE 1 (by simp)
  clear hE
  refine WP.sr ?_
  refine WL.m rfl ?_
  refine WL.nil ?_
  refine WP.seq ?_
  refine WP.sr ?_
  refine WL.m rfl ?_
  obtain ⟨a1, c2, hv3⟩ := h_xs.shape
  refine WL.z (.int .i64 (((xs).length : Int))) (V.lenSlice (x := .tmp 6) rfl rfl u22 (Eq.trans (b := v_xs) h0 hv3)) ?_
  refine WL.m rfl ?_
  obtain ⟨a4, c5, hv6⟩ := h_ys.shape
  refine WL.z (.int .i64 (((ys).length : Int))) (V.lenSlice (x := .tmp 8) rfl rfl u22 (Eq.trans (b := v_ys) h1 hv6)) ?_
  refine WL.z (.bool (decide (((xs).length : Int) ≠ ((ys).length : Int)))) (V.cmp rfl rfl rfl rfl) ?_
  refine WL.nil ?_
  refine WP.condp (t := ((xs).length : Int) ≠ ((ys).length : Int)) rfl (fun hc7 => ?_) (fun hc7 => ?_)
  · refine WP.sr ?_
    refine WL.m rfl ?_
    refine WL.nil ?_
    refine WP.ret ?_
    refine resOf.c1 rfl (v := .bool (false)) rfl ?_
    exact ⟨(bool_eq (by first | (exact (eqB_len (by omega)).symm) | (exact (eqB_true (by omega) (by assumption) (by omega)).symm) | (exact (eqB_false (by omega) (by omega) (by grind [ieq])).symm))), Ext.refl _ _⟩
  refine WP.skip ?_
  refine WP.seq ?_
  refine WP.sr ?_
  refine WL.m rfl ?_
  refine WL.z (.int .i64 (((xs).length : Int))) (V.lenSlice (x := .tmp 11) rfl rfl u22 (Eq.trans (b := v_xs) h0 hv3)) ?_
  refine WL.m rfl ?_
  refine WL.nil ?_
  refine WP.block ?_
  refine WP.loop (σ := Nat) (fun k E8 w9 => E8 0 = v_xs ∧ E8 1 = v_ys ∧ E8 6 = v_xs ∧ E8 7 = .int .i64 (((xs).length : Int)) ∧ E8 8 = v_ys ∧ E8 9 = .int .i64 (((ys).length : Int)) ∧ E8 10 = .bool (decide (((xs).length : Int) ≠ ((ys).length : Int))) ∧ E8 11 = v_xs ∧ E8 12 = .int .i64 (((xs).length : Int)) ∧ E8 13 = .int .i64 ((k : Int)) ∧ Ext [] w w9 ∧ k ≤ xs.length ∧ ∀ j, j < k → (fun i => ieq (xs.getD i 0) (ys.getD i 0)) j = true) (fun k => xs.length - k) (0) ?_ ?_
  · exact ⟨h0, h1, h0, rfl, h1, rfl, rfl, h0, rfl, (int_eq (by omega)), Ext.refl _ _, (by omega), (all_zero _)⟩
  rintro k E8 w9 ⟨h0_10, h1_10, h6_10, h7_10, h8_10, h9_10, h10_10, h11_10, h12_10, h13_10, hx10, hi0_10, hi1_10⟩
  have hx11 : Ext [] w w9 := hx10
  refine WP.sr ?_
  refine WL.z (.bool (decide ((k : Int) < ((xs).length : Int)))) (V.cmp (x := .tmp 13) (y := .tmp 12) rfl h13_10 h12_10 rfl) ?_
  refine WL.nil ?_
  refine WP.seq ?_
  refine WP.condp (t := (k : Int) < ((xs).length : Int)) rfl (fun hc12 => ?_) (fun hc12 => ?_)
  rotate_left
  · refine WP.exit ?_
    refine WP.sr ?_
    refine WL.m rfl ?_
    refine WL.nil ?_
    refine WP.ret ?_
    refine resOf.c1 rfl (v := .bool (true)) rfl ?_
    exact ⟨(bool_eq (by first | (exact (eqB_len (by omega)).symm) | (exact (eqB_true (by omega) (by assumption) (by omega)).symm) | (exact (eqB_false (by omega) (by omega) (by grind [ieq])).symm))), hx11⟩
  refine WP.skip ?_
  refine WP.seq ?_
  refine WP.block ?_
  refine WP.sr ?_
  refine WL.m rfl ?_
  refine WL.m rfl ?_
  refine WL.nil ?_
  refine WP.seq ?_
  refine WP.quiet mo (by kernel_rfl) ?_
  refine WQ.m rfl ?_
  refine WQ.m rfl ?_
  have hlt21 : k < (xs).length := by first | omega | (simp at *; omega)
  obtain ⟨b13, k14, c15, cs16, hv17, hnb18, hr19, hat20⟩ := (h_xs.ext (Ext.pre hx11)).get (i := k) (x := (xs.getD k 0)) (getD_some hlt21 _)
  obtain ⟨rfl, hin22⟩ := hr19
  have hin22 := inK_i64 hin22
  refine WQ.z (.pointer (some ⟨b13, k14 + k * 1, none⟩)) (fun w' hw => V.indexAddr (x := .tmp 16) (i := .tmp 17) (m := k) (j := (k : Int)) rfl u22 s3 (Eq.trans (b := v_xs) h0_10 hv17) h13_10 rfl hlt21) ?_
  refine WQ.z (.int .i64 ((xs.getD k 0))) (fun w' hw => V.load rfl p3 rfl ((hat20.ext hw (by simp)).cell (j := 0) rfl)) ?_
  refine WQ.m rfl ?_
  refine WQ.m rfl ?_
  have hlt31 : k < (ys).length := by first | omega | (simp at *; omega)
  obtain ⟨b23, k24, c25, cs26, hv27, hnb28, hr29, hat30⟩ := (h_ys.ext (Ext.pre hx11)).get (i := k) (x := (ys.getD k 0)) (getD_some hlt31 _)
  obtain ⟨rfl, hin32⟩ := hr29
  have hin32 := inK_i64 hin32
  refine WQ.z (.pointer (some ⟨b23, k24 + k * 1, none⟩)) (fun w' hw => V.indexAddr (x := .tmp 20) (i := .tmp 21) (m := k) (j := (k : Int)) rfl u22 s3 (Eq.trans (b := v_ys) h1_10 hv27) h13_10 rfl hlt31) ?_
  refine WQ.z (.int .i64 ((ys.getD k 0))) (fun w' hw => V.load rfl p3 rfl ((hat30.ext hw (by simp)).cell (j := 0) rfl)) ?_
  refine WQ.z (.bool (decide ((xs.getD k 0) ≠ (ys.getD k 0)))) (fun w' hw => V.cmp rfl rfl rfl rfl) ?_
  refine WQ.nil (fun w33 hq34 => ?_)
  have hx35 : Ext [] w w33 := hx11.trans hq34
  refine WP.condp (t := (xs.getD k 0) ≠ (ys.getD k 0)) rfl (fun hc37 => ?_) (fun hc37 => ?_)
  · refine WP.sr ?_
    refine WL.m rfl ?_
    refine WL.nil ?_
    refine WP.ret ?_
    refine resOf.c1 rfl (v := .bool (false)) rfl ?_
    exact ⟨(bool_eq (by first | (exact (eqB_len (by omega)).symm) | (exact (eqB_true (by omega) (by assumption) (by omega)).symm) | (exact (eqB_false (by omega) (by omega) (by grind [ieq])).symm))), hx35⟩
  refine WP.skip ?_
  refine WP.region ?_
  refine WL.z (.int .i64 ((k : Int) + 1)) (V.arith (x := .tmp 13) rfl h13_10 rfl rfl (wrap_i64 (by omega) (by omega))) ?_
  refine WL.m rfl ?_
  refine WL.nil ?_
  exact ⟨k + 1, ⟨h0_10, h1_10, h6_10, h7_10, h8_10, h9_10, h10_10, h11_10, h12_10, (int_eq (by omega)), hx35, (by omega), (all_step (by assumption) (by grind [ieq]))⟩, (by omega)⟩

theorem ref_Has {w : World} {X : List Nat} {v_xs : Value} {xs : List Int} (h_xs : Sl (intR .i64) X w v_xs xs) (n : Int) : Fnc Try.prog 7 #[v_xs, .int .i64 (n)] w (fun v w' => v = .bool (hasB xs n) ∧ Ext [] w w') := by
  have hle_xs := h_xs.le'
  refine Fnc.of_WP (n := 18) Try.func7 rfl Try.ntmps7 (by simp) ?_
  intro E hE
  have h0 : E 0 = v_xs := hE 0 (by simp)
  have h1 : E 1 = .int .i64 (n) := hE 1 (by simp)
  clear hE
  refine WP.sr ?_
  refine WL.m rfl ?_
  refine WL.nil ?_
  refine WP.seq ?_
  refine WP.sr ?_
  refine WL.m rfl ?_
  refine WL.nil ?_
  refine WP.block ?_
  refine WP.loop (σ := Nat) (fun k E1 w2 => E1 0 = v_xs ∧ E1 1 = .int .i64 (n) ∧ E1 5 = .int .i64 ((k : Int)) ∧ Ext [] w w2 ∧ k ≤ xs.length ∧ ∀ j, j < k → (fun i => !ieq (xs.getD i 0) n) j = true) (fun k => xs.length - k) (0) ?_ ?_
  · exact ⟨h0, h1, (int_eq (by omega)), Ext.refl _ _, (by omega), (all_zero _)⟩
  rintro k E1 w2 ⟨h0_3, h1_3, h5_3, hx3, hi0_3, hi1_3⟩
  have hx4 : Ext [] w w2 := hx3
  refine WP.seq ?_
  refine WP.sr ?_
  refine WL.m rfl ?_
  refine WL.m rfl ?_
  obtain ⟨a5, c6, hv7⟩ := h_xs.shape
  refine WL.z (.int .i64 (((xs).length : Int))) (V.lenSlice (x := .tmp 7) rfl rfl u22 (Eq.trans (b := v_xs) h0_3 hv7)) ?_
  refine WL.z (.bool (decide ((k : Int) < ((xs).length : Int)))) (V.cmp (x := .tmp 6) rfl h5_3 rfl rfl) ?_
  refine WL.nil ?_
  refine WP.condp (t := (k : Int) < ((xs).length : Int)) rfl (fun hc8 => ?_) (fun hc8 => ?_)
  rotate_left
  · refine WP.exit ?_
    refine WP.sr ?_
    refine WL.m rfl ?_
    refine WL.nil ?_
    refine WP.ret ?_
    refine resOf.c1 rfl (v := .bool (false)) rfl ?_
    exact ⟨(bool_eq (by first | (exact (hasB_false (by assumption) (by omega)).symm) | (exact (hasB_true (by assumption) (by grind [ieq])).symm))), hx4⟩
  refine WP.skip ?_
  refine WP.seq ?_
  refine WP.block ?_
  refine WP.sr ?_
  refine WL.m rfl ?_
  refine WL.m rfl ?_
  have hlt17 : k < (xs).length := by first | omega | (simp at *; omega)
  obtain ⟨b9, k10, c11, cs12, hv13, hnb14, hr15, hat16⟩ := (h_xs.ext (Ext.pre hx4)).get (i := k) (x := (xs.getD k 0)) (getD_some hlt17 _)
  obtain ⟨rfl, hin18⟩ := hr15
  have hin18 := inK_i64 hin18
  refine WL.z (.pointer (some ⟨b9, k10 + k * 1, none⟩)) (V.indexAddr (x := .tmp 12) (i := .tmp 13) (m := k) (j := (k : Int)) rfl u22 s3 (Eq.trans (b := v_xs) h0_3 hv13) h5_3 rfl hlt17) ?_
  refine WL.z (.int .i64 ((xs.getD k 0))) (V.load rfl p3 rfl (hat16.cell (j := 0) rfl)) ?_
  refine WL.m rfl ?_
  refine WL.z (.bool (decide ((xs.getD k 0) = n))) (V.cmp (y := .tmp 16) rfl rfl h1_3 rfl) ?_
  refine WL.nil ?_
  refine WP.condp (t := (xs.getD k 0) = n) rfl (fun hc19 => ?_) (fun hc19 => ?_)
  · refine WP.sr ?_
    refine WL.m rfl ?_
    refine WL.nil ?_
    refine WP.ret ?_
    refine resOf.c1 rfl (v := .bool (true)) rfl ?_
    exact ⟨(bool_eq (by first | (exact (hasB_false (by assumption) (by omega)).symm) | (exact (hasB_true (by assumption) (by grind [ieq])).symm))), hx4⟩
  refine WP.skip ?_
  refine WP.region ?_
  refine WL.m rfl ?_
  refine WL.z (.int .i64 ((k : Int) + 1)) (V.arith (x := .tmp 10) rfl h5_3 rfl rfl (wrap_i64 (by omega) (by omega))) ?_
  refine WL.m rfl ?_
  refine WL.nil ?_
  exact ⟨k + 1, ⟨h0_3, h1_3, (int_eq (by omega)), hx4, (by omega), (all_step (by assumption) (by grind [ieq]))⟩, (by omega)⟩

theorem sl_clone_int {w : World} {X : List Nat} {v_xs : Value} {xs : List Int} (h_xs : Sl (intR .i64) X w v_xs xs) (hb : xs.length ≤ 17592186044416) (hX : ∀ x ∈ X, x < w.heap.size) : Fnc Try.prog 12 #[v_xs] w (fun v w' => ∃ (u0 : Value), v = u0 ∧ Sl (intR .i64) X w' u0 (xs) ∧ Ext [] w w') := by
  have hle_xs := h_xs.le'
  refine Fnc.of_WP (n := 8) Try.func12 rfl Try.ntmps12 (by simp) ?_
  intro E hE
  have h0 : E 0 = v_xs := hE 0 (by simp)
  clear hE
  refine WP.sr ?_
  refine WL.m rfl ?_
  refine WL.nil ?_
  refine WP.seq ?_
  refine WP.sr ?_
  refine WL.m rfl ?_
  obtain ⟨a1, c2, hv3⟩ := h_xs.shape
  refine WL.z (.bool (nilB v_xs)) (V.eqNil (x := .tmp 3) rfl u22 h0 hv3 rfl) ?_
  refine WL.nil ?_
  refine WP.cond (t := nilB v_xs) rfl (fun hc4 => ?_) (fun hc4 => ?_)
  · have hc4_n := (h_xs).isNil hc4
    replace hc4 := hc4_n.2
    refine WP.sr ?_
    refine WL.m rfl ?_
    refine WL.nil ?_
    refine WP.ret ?_
    refine resOf.c1 rfl (v := .slice none 0 0) rfl ?_
    exact ⟨.slice none 0 0, rfl, (castSl (by first | rfl | (revert hc4; simp +contextual)) Sl.nil), Ext.refl _ _⟩
  refine WP.skip ?_
  refine WP.sr ?_
  refine WL.lit (R := (intR .i64)) (X := X) (vs := []) (xs := []) (Sure.none rfl) rfl rfl u22 e3 (by show 0 < (1 : Nat); decide) (by show _ * (1 : Nat) ≤ 1024; decide) rfl rfl rfl (by intro i v x hv hx; match i, hv, hx with | i + 0, hv, _ => simp at hv) (fun v5 w6 hx7 ho8 hlit9 => ?_)
  have hno10 : ∀ g, (v5).ownBlock = some g → g ∉ X := by intro g hg hm; have h1 := hlit9 g hg; have h2 := hX g hm; omega
  have hx11 : Ext [] w w6 := hx7
  have ho12 := ho8.low (B' := w.heap.size) (Nat.le_refl _)
  refine WL.m rfl ?_
  refine WL.appendOwn (y := .tmp 6) (R := (intR .i64)) (X := X) (B := w.heap.size) (xs := []) (ys := xs) (Sure.none rfl) rfl rfl u22 e3 rfl (by show 0 < (1 : Nat); decide) rfl h0 ho12 (h_xs.ext (Ext.pre hx11)) (fun g hg => (Sl.new (by show (1 : Nat) ≠ 0; decide) h_xs (Nat.le_trans (Nat.le_refl _) (ho12.lt g hg).1)).ext (Ext.cons (Ext.pre hx11))) hx11.size (by simp only [List.length_cons, List.length_nil]; omega) (by simp only [List.length_cons, List.length_nil, maxLen]; omega) (fun v13 w14 ho15 hg16 hf17 => ?_)
  have hno18 := after_no hf17 hno10 (inMono hX hx11.size)
  have hx19 := Ext.ownB (hx11) hg16 (fun k hk => (Owns.lt ho12 k hk).1) (Nat.le_refl _)
  have ho15 := ho15.castE (List.nil_append _)
  refine WL.m rfl ?_
  refine WL.nil ?_
  refine WP.ret ?_
  refine resOf.c1 rfl (v := v13) rfl ?_
  exact ⟨v13, rfl, (castSl (by first | rfl | (revert hc4; simp +contextual)) (Owns.sl' ho15 hno18)), hx19⟩

theorem vote_Last {w : World} {X : List Nat} {p : PeerD} {c_p : List Value} (h_p : peerR.rd X w c_p p) (hBase : p.Base ≤ 4611686018427387904) : Fnc Try.prog 32 #[.agg c_p.toArray] w (fun v w' => v = .tuple #[.int .u64 (lastI p), .int .u64 (lastT p)] ∧ Ext [] w w') := by
  obtain ⟨v1, v3, v5, v7, v9, v11, rfl, hl2, hl4, hl6, hl8, hl10, hl12, hk13⟩ := h_p
  obtain ⟨hin14, hin15, hin16, hin17, hin18, hin19, hin20, hin21, hin22, hin23, hin24, hin25⟩ := (show PeerD.InR p from hk13)
  have hin14 := inK_i64 hin14
  have hin15 := inK_u64 hin15
  have hin16 := inK_i64 hin16
  have hin17 := inK_u8 hin17
  have hin18 := inK_i64 hin18
  have hin19 := inK_u64 hin19
  have hin20 := inK_u64 hin20
  have hin22 := inK_u64 hin22
  have hin23 := inK_i64 hin23
  have hin24 := inK_i64 hin24
  have hin25 := inK_u64 hin25
  have hle26 := hl2.le'
  have hle27 := hl4.le'
  have hle28 := hl6.le'
  have hle29 := hl8.le'
  have hle30 := hl10.le'
  have hle31 := hl12.le'
  refine Fnc.of_WP (n := 26) Try.func32 rfl Try.ntmps32 (by simp) ?_
  intro E hE
  have h0 : E 0 = .agg #[.int .i64 (p.Id), v1, .int .u64 (p.Term), .int .i64 (p.Vote), .int .u8 (p.Role), .int .i64 (p.Lead), .int .u64 (p.Base), .int .u64 (p.BaseTerm), v3, .string (p.Snap), v5, .int .u64 (p.Commit), .int .i64 (p.Idle), .int .i64 (p.Wait), v7, v9, .int .u64 (p.Round), v11] := hE 0 (by simp)
  clear hE
  refine WP.sr ?_
  refine WL.box (x := .tmp 0) (cs := [.int .i64 (p.Id), v1, .int .u64 (p.Term), .int .i64 (p.Vote), .int .u8 (p.Role), .int .i64 (p.Lead), .int .u64 (p.Base), .int .u64 (p.BaseTerm), v3, .string (p.Snap), v5, .int .u64 (p.Commit), .int .i64 (p.Idle), .int .i64 (p.Wait), v7, v9, .int .u64 (p.Round), v11]) (Sure.none rfl) rfl rfl h0 rfl (fun b32 w33 hx34 he35 hb36 => ?_)
  have hl39 := (Sl.new (b := b32) (by show (4 : Nat) ≠ 0; decide) hl6 (by omega)).ext (Ext.any hx34)
  have hx43 : Ext [b32] _ _ := (Ext.refl _ _).trans (Ext.any hx34)
  have hge_b32_w : w.heap.size ≤ b32 := by have := Nat.le_refl w.heap.size; omega
  refine WL.m rfl ?_
  refine WL.m rfl ?_
  refine WL.nil ?_
  refine WP.seq ?_
  refine WP.sr ?_
  refine WL.f (v5) fl30_10 rfl p26 (hb36.cell rfl) ?_
  obtain ⟨a44, c45, hv46⟩ := hl39.shape
  refine WL.z (.int .i64 (((p.Log).length : Int))) (V.lenSlice rfl rfl u26 (Eq.trans (b := v5) rfl hv46)) ?_
  refine WL.m rfl ?_
  refine WL.nil ?_
  refine WP.sr ?_
  refine WL.m rfl ?_
  refine WL.z (.bool (decide (((p.Log).length : Int) > 0))) (V.cmp rfl rfl rfl rfl) ?_
  refine WL.nil ?_
  refine WP.condp (t := ((p.Log).length : Int) > 0) rfl (fun hc47 => ?_) (fun hc47 => ?_)
  rotate_left
  · refine WP.skip ?_
    refine WP.seq ?_
    refine WP.quiet mo (by kernel_rfl) ?_
    refine WQ.f (.int .u64 (p.Base)) fl30_6 rfl p24 (fun w' hw => (hb36.ext hw (by simp)).cell rfl) ?_
    refine WQ.f (.int .u64 (p.BaseTerm)) fl30_7 rfl p24 (fun w' hw => (hb36.ext hw (by simp)).cell rfl) ?_
    refine WQ.m rfl ?_
    refine WQ.m rfl ?_
    refine WQ.nil (fun w69 hq70 => ?_)
    have hx71 : Ext [b32] w w69 := hx43.trans (Ext.any (Y := [b32]) hq70)
    refine WP.ret ?_
    refine resOf.c2 rfl (v := .int .u64 (p.Base)) rfl (v' := .int .u64 (p.BaseTerm)) rfl ?_
    exact ⟨(tup2 (int_eq (by grind [lastI, lastT])) (int_eq (by grind [lastI, lastT]))), ((hx71).done (geCons hge_b32_w geNil))⟩
  refine WP.seq ?_
  refine WP.quiet mo (by kernel_rfl) ?_
  refine WQ.f (.int .u64 (p.Base)) fl30_6 rfl p24 (fun w' hw => (hb36.ext hw (by simp)).cell rfl) ?_
  refine WQ.m rfl ?_
  refine WQ.z (.int .u64 (((p.Log).length : Int))) (fun w' hw => V.convInt rfl u3 u24 rfl (wrap_u64 (by omega) (by omega))) ?_
  refine WQ.z (.int .u64 (p.Base + ((p.Log).length : Int))) (fun w' hw => V.arith rfl rfl rfl rfl (wrap_u64 (by omega) (by omega))) ?_
  refine WQ.f (v5) fl30_10 rfl p26 (fun w' hw => (hb36.ext hw (by simp)).cell rfl) ?_
  refine WQ.m rfl ?_
  refine WQ.z (.int .i64 (((p.Log).length : Int) - 1)) (fun w' hw => V.arith rfl rfl rfl rfl (wrap_i64 (by omega) (by omega))) ?_
  have hlt56 : p.Log.length - 1 < (p.Log).length := by first | omega | (simp at *; omega)
  obtain ⟨b48, k49, c50, cs51, hv52, hnb53, hr54, hat55⟩ := hl39.get (i := p.Log.length - 1) (x := (p.Log.getD (p.Log.length - 1) default)) (getD_some hlt56 _)
  obtain ⟨v57, rfl, hl58, hk59⟩ := hr54
  obtain ⟨hin60, hin61, hin62⟩ := (show EntryD.InR (p.Log.getD (p.Log.length - 1) default) from hk59)
  have hin60 := inK_u64 hin60
  have hin61 := inK_u8 hin61
  have hle63 := hl58.le'
  refine WQ.z (.pointer (some ⟨b48, k49 + (p.Log.length - 1) * 4, none⟩)) (fun w' hw => V.indexAddr (m := p.Log.length - 1) (j := ((p.Log).length : Int) - 1) rfl u26 s61 (Eq.trans (b := v5) rfl hv52) rfl (by omega) hlt56) ?_
  refine WQ.z (.pointer (some ⟨b48, k49 + (p.Log.length - 1) * 4 + 0, none⟩)) (fun w' hw => V.fieldAddr rfl fl61_0 rfl) ?_
  refine WQ.z (.int .u64 ((p.Log.getD (p.Log.length - 1) default).Term)) (fun w' hw => V.load rfl p24 rfl ((hat55.ext hw (by simp)).cell (j := 0) rfl)) ?_
  refine WQ.m rfl ?_
  refine WQ.m rfl ?_
  refine WQ.nil (fun w64 hq65 => ?_)
  have hx66 : Ext [b32] w w64 := hx43.trans (Ext.any (Y := [b32]) hq65)
  refine WP.ret ?_
  refine resOf.c2 rfl (v := .int .u64 (p.Base + ((p.Log).length : Int))) rfl (v' := .int .u64 ((p.Log.getD (p.Log.length - 1) default).Term)) rfl ?_
  exact ⟨(tup2 (int_eq (by grind [lastI, lastT])) (int_eq (by grind [lastI, lastT]))), ((hx66).done (geCons hge_b32_w geNil))⟩

theorem vote_Term {w : World} {X : List Nat} {p : PeerD} {c_p : List Value} (h_p : peerR.rd X w c_p p) (i : Int) (hBase : p.Base ≤ 4611686018427387904) (hi : 0 ≤ i ∧ i < 18446744073709551616) : Fnc Try.prog 44 #[.agg c_p.toArray, .int .u64 (i)] w (fun v w' => v = .tuple #[.int .u64 (termOf p i), .bool (termIs p i)] ∧ Ext [] w w') := by
  obtain ⟨v1, v3, v5, v7, v9, v11, rfl, hl2, hl4, hl6, hl8, hl10, hl12, hk13⟩ := h_p
  obtain ⟨hin14, hin15, hin16, hin17, hin18, hin19, hin20, hin21, hin22, hin23, hin24, hin25⟩ := (show PeerD.InR p from hk13)
  have hin14 := inK_i64 hin14
  have hin15 := inK_u64 hin15
  have hin16 := inK_i64 hin16
  have hin17 := inK_u8 hin17
  have hin18 := inK_i64 hin18
  have hin19 := inK_u64 hin19
  have hin20 := inK_u64 hin20
  have hin22 := inK_u64 hin22
  have hin23 := inK_i64 hin23
  have hin24 := inK_i64 hin24
  have hin25 := inK_u64 hin25
  have hle26 := hl2.le'
  have hle27 := hl4.le'
  have hle28 := hl6.le'
  have hle29 := hl8.le'
  have hle30 := hl10.le'
  have hle31 := hl12.le'
  have hlI : lastI p = p.Base + (p.Log.length : Int) := rfl
  refine Fnc.of_WP (n := 40) Try.func44 rfl Try.ntmps44 (by simp) ?_
  intro E hE
  have h0 : E 0 = .agg #[.int .i64 (p.Id), v1, .int .u64 (p.Term), .int .i64 (p.Vote), .int .u8 (p.Role), .int .i64 (p.Lead), .int .u64 (p.Base), .int .u64 (p.BaseTerm), v3, .string (p.Snap), v5, .int .u64 (p.Commit), .int .i64 (p.Idle), .int .i64 (p.Wait), v7, v9, .int .u64 (p.Round), v11] := hE 0 (by simp)
  have h1 : E 1 = .int .u64 (i) := hE 1 (by simp)
  clear hE
  refine WP.sr ?_
  refine WL.box (x := .tmp 0) (cs := [.int .i64 (p.Id), v1, .int .u64 (p.Term), .int .i64 (p.Vote), .int .u8 (p.Role), .int .i64 (p.Lead), .int .u64 (p.Base), .int .u64 (p.BaseTerm), v3, .string (p.Snap), v5, .int .u64 (p.Commit), .int .i64 (p.Idle), .int .i64 (p.Wait), v7, v9, .int .u64 (p.Round), v11]) (Sure.none rfl) rfl rfl h0 rfl (fun b32 w33 hx34 he35 hb36 => ?_)
  have hl37 := (Sl.new (b := b32) (by show (1 : Nat) ≠ 0; decide) hl2 (by omega)).ext (Ext.any hx34)
  have hl38 := (Sl.new (b := b32) (by show (1 : Nat) ≠ 0; decide) hl4 (by omega)).ext (Ext.any hx34)
  have hl39 := (Sl.new (b := b32) (by show (4 : Nat) ≠ 0; decide) hl6 (by omega)).ext (Ext.any hx34)
  have hl40 := (Sl.new (b := b32) (by show (1 : Nat) ≠ 0; decide) hl8 (by omega)).ext (Ext.any hx34)
  have hl41 := (Sl.new (b := b32) (by show (3 : Nat) ≠ 0; decide) hl10 (by omega)).ext (Ext.any hx34)
  have hl42 := (Sl.new (b := b32) (by show (3 : Nat) ≠ 0; decide) hl12 (by omega)).ext (Ext.any hx34)
  have hx43 : Ext [b32] _ _ := (Ext.refl _ _).trans (Ext.any hx34)
  have hge_b32_w : w.heap.size ≤ b32 := by have := Nat.le_refl w.heap.size; omega
  refine WL.m rfl ?_
  refine WL.m rfl ?_
  refine WL.nil ?_
  refine WP.sr ?_
  refine WL.z (.agg #[.int .i64 (p.Id), v1, .int .u64 (p.Term), .int .i64 (p.Vote), .int .u8 (p.Role), .int .i64 (p.Lead), .int .u64 (p.Base), .int .u64 (p.BaseTerm), v3, .string (p.Snap), v5, .int .u64 (p.Commit), .int .i64 (p.Idle), .int .i64 (p.Wait), v7, v9, .int .u64 (p.Round), v11]) (V.loadAgg (cs := [.int .i64 (p.Id), v1, .int .u64 (p.Term), .int .i64 (p.Vote), .int .u8 (p.Role), .int .i64 (p.Lead), .int .u64 (p.Base), .int .u64 (p.BaseTerm), v3, .string (p.Snap), v5, .int .u64 (p.Commit), .int .i64 (p.Idle), .int .i64 (p.Wait), v7, v9, .int .u64 (p.Round), v11]) rfl a30 rfl (At.box hb36) rfl) ?_
  refine WL.c (Sure.none rfl) rfl (C.call1 rfl cl32 rfl) (Fnc.mono (vote_Last (p := p) ⟨v1, v3, v5, v7, v9, v11, rfl, hl37, hl38, hl39, hl40, hl41, hl42, hk13⟩ (by omega)) ?_)
  rintro _ w44 ⟨rfl, hx45⟩
  have hx46 : Ext [b32] w w44 := hx43.trans (Ext.any (Y := [b32]) hx45)
  have hx47 : Ext [b32] w33 w44 := (Ext.any (Y := [b32]) hx45)
  have hb48 := hb36.ext hx45 (by simp)
  refine WL.m rfl ?_
  refine WL.z (.int .u64 (lastI p)) (V.extract rfl rfl rfl) ?_
  refine WL.z (.int .u64 (lastT p)) (V.extract rfl rfl rfl) ?_
  refine WL.m rfl ?_
  refine WL.m rfl ?_
  refine WL.nil ?_
  refine WP.seq ?_
  refine WP.block ?_
  refine WP.sr ?_
  refine WL.m rfl ?_
  refine WL.f (.int .u64 (p.Base)) fl30_6 rfl p24 (hb48.cell rfl) ?_
  refine WL.z (.bool (decide (i < p.Base))) (V.cmp (x := .tmp 14) rfl h1 rfl rfl) ?_
  refine WL.vbp (c := i < p.Base) (Sure.none rfl) rfl (V.move rfl rfl) (fun hc49 => ?_) (fun hc49 => ?_)
  · refine WL.skips [(18, some true)] [(13, some true)] (kc (some true) rfl kn) (by kernel_rfl) (fun E50 hK51 hE52 => ?_)
    refine WP.cond_true (hK51 13 (some true) rfl) ?_
    refine WP.sr ?_
    refine WL.m rfl ?_
    refine WL.m rfl ?_
    refine WL.nil ?_
    refine WP.ret ?_
    refine resOf.c2 rfl (v := .int .u64 (0)) rfl (v' := .bool (false)) rfl ?_
    exact ⟨(tup2 (int_eq (by first | exact (termOf_in (by omega) (by omega)).symm | exact (termOf_at (by omega)).symm | exact (termOf_out (by omega)).symm | exact (termIs_in (by omega) (by omega)).symm | exact (termIs_out (by omega)).symm)) (bool_eq (by first | exact (termOf_in (by omega) (by omega)).symm | exact (termOf_at (by omega)).symm | exact (termOf_out (by omega)).symm | exact (termIs_in (by omega) (by omega)).symm | exact (termIs_out (by omega)).symm))), ((hx46).done (geCons hge_b32_w geNil))⟩
  refine WL.my rfl rfl ?_
  refine WL.my rfl rfl ?_
  refine WL.y (.bool (decide (i > (lastI p)))) rfl (V.cmp (x := .tmp 19) rfl h1 rfl rfl) ?_
  refine WL.k (a := false) rfl rfl ?_
  refine WL.m rfl ?_
  refine WL.nil ?_
  refine WP.condp (t := i > (lastI p)) rfl (fun hc53 => ?_) (fun hc53 => ?_)
  · refine WP.sr ?_
    refine WL.m rfl ?_
    refine WL.m rfl ?_
    refine WL.nil ?_
    refine WP.ret ?_
    refine resOf.c2 rfl (v := .int .u64 (0)) rfl (v' := .bool (false)) rfl ?_
    exact ⟨(tup2 (int_eq (by first | exact (termOf_in (by omega) (by omega)).symm | exact (termOf_at (by omega)).symm | exact (termOf_out (by omega)).symm | exact (termIs_in (by omega) (by omega)).symm | exact (termIs_out (by omega)).symm)) (bool_eq (by first | exact (termOf_in (by omega) (by omega)).symm | exact (termOf_at (by omega)).symm | exact (termOf_out (by omega)).symm | exact (termIs_in (by omega) (by omega)).symm | exact (termIs_out (by omega)).symm))), ((hx46).done (geCons hge_b32_w geNil))⟩
  refine WP.sr ?_
  refine WL.m rfl ?_
  refine WL.f (.int .u64 (p.Base)) fl30_6 rfl p24 (hb48.cell rfl) ?_
  refine WL.z (.bool (decide (i = p.Base))) (V.cmp (x := .tmp 24) rfl h1 rfl rfl) ?_
  refine WL.m rfl ?_
  refine WL.nil ?_
  refine WP.condp (t := i = p.Base) rfl (fun hc54 => ?_) (fun hc54 => ?_)
  · refine WP.sr ?_
    refine WL.f (.int .u64 (p.BaseTerm)) fl30_7 rfl p24 (hb48.cell rfl) ?_
    refine WL.m rfl ?_
    refine WL.m rfl ?_
    refine WL.nil ?_
    refine WP.ret ?_
    refine resOf.c2 rfl (v := .int .u64 (p.BaseTerm)) rfl (v' := .bool (true)) rfl ?_
    exact ⟨(tup2 (int_eq (by first | exact (termOf_in (by omega) (by omega)).symm | exact (termOf_at (by omega)).symm | exact (termOf_out (by omega)).symm | exact (termIs_in (by omega) (by omega)).symm | exact (termIs_out (by omega)).symm)) (bool_eq (by first | exact (termOf_in (by omega) (by omega)).symm | exact (termOf_at (by omega)).symm | exact (termOf_out (by omega)).symm | exact (termIs_in (by omega) (by omega)).symm | exact (termIs_out (by omega)).symm))), ((hx46).done (geCons hge_b32_w geNil))⟩
  refine WP.skip ?_
  refine WP.sr ?_
  refine WL.f (v5) fl30_10 rfl p26 (hb48.cell rfl) ?_
  refine WL.m rfl ?_
  refine WL.f (.int .u64 (p.Base)) fl30_6 rfl p24 (hb48.cell rfl) ?_
  refine WL.z (.int .u64 (i - p.Base)) (V.arith (x := .tmp 32) rfl h1 rfl rfl (wrap_u64 (by omega) (by omega))) ?_
  refine WL.z (.int .u64 ((i - p.Base) - 1)) (V.arith rfl rfl rfl rfl (wrap_u64 (by omega) (by omega))) ?_
  have hlt63 : (i - p.Base - 1).toNat < (p.Log).length := by first | omega | (simp at *; omega)
  obtain ⟨b55, k56, c57, cs58, hv59, hnb60, hr61, hat62⟩ := (hl39.ext (Ext.pre hx47)).get (i := (i - p.Base - 1).toNat) (x := (p.Log.getD ((i - p.Base - 1).toNat) default)) (getD_some hlt63 _)
  obtain ⟨v64, rfl, hl65, hk66⟩ := hr61
  obtain ⟨hin67, hin68, hin69⟩ := (show EntryD.InR (p.Log.getD ((i - p.Base - 1).toNat) default) from hk66)
  have hin67 := inK_u64 hin67
  have hin68 := inK_u8 hin68
  have hle70 := hl65.le'
  refine WL.z (.pointer (some ⟨b55, k56 + ((i - p.Base - 1).toNat) * 4, none⟩)) (V.indexAddr (m := (i - p.Base - 1).toNat) (j := (i - p.Base) - 1) rfl u26 s61 (Eq.trans (b := v5) rfl hv59) rfl (by omega) hlt63) ?_
  refine WL.z (.pointer (some ⟨b55, k56 + ((i - p.Base - 1).toNat) * 4 + 0, none⟩)) (V.fieldAddr rfl fl61_0 rfl) ?_
  refine WL.z (.int .u64 ((p.Log.getD ((i - p.Base - 1).toNat) default).Term)) (V.load rfl p24 rfl (hat62.cell (j := 0) rfl)) ?_
  refine WL.m rfl ?_
  refine WL.m rfl ?_
  refine WL.nil ?_
  refine WP.ret ?_
  refine resOf.c2 rfl (v := .int .u64 ((p.Log.getD ((i - p.Base - 1).toNat) default).Term)) rfl (v' := .bool (true)) rfl ?_
  exact ⟨(tup2 (int_eq (by first | exact (termOf_in (by omega) (by omega)).symm | exact (termOf_at (by omega)).symm | exact (termOf_out (by omega)).symm | exact (termIs_in (by omega) (by omega)).symm | exact (termIs_out (by omega)).symm)) (bool_eq (by first | exact (termOf_in (by omega) (by omega)).symm | exact (termOf_at (by omega)).symm | exact (termOf_out (by omega)).symm | exact (termIs_in (by omega) (by omega)).symm | exact (termIs_out (by omega)).symm))), ((hx46).done (geCons hge_b32_w geNil))⟩

end Go.Proofs.Ytkcnljgennehaaa.T
