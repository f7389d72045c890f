import Derived.Test.YtkcnljgennehaaaV16
import Derived.Test.YtkcnljgennehaaaW11
namespace Go.Proofs.Ytkcnljgennehaaa.T
open W Go.RowKit
set_option maxRecDepth 100000
set_option maxHeartbeats 400000

theorem sl_IndexFunc {w : World} {X : List Nat} {v_xs : Value} {xs : List Int} (h_xs : Sl (intR .i64) X w v_xs xs) {c_f : Value} {f : Int → Bool} (hcl : ∀ w', Ext [] w w' → ∀ m, Fnc Try.prog 59 #[.int .i64 m, c_f] w' (fun u w'' => u = .bool (f m) ∧ Ext [] w' w'')) : Fnc Try.prog 54 #[v_xs, .func (.func 59) #[] #[c_f]] w (fun v w' => v = .int .i64 (idxP f xs) ∧ Ext [] w w') := by
  have hle_xs := h_xs.le'
  refine Fnc.of_WP (n := 19) Try.func54 rfl Try.ntmps54 (by simp) ?_
  intro E hE
  have h0 : E 0 = v_xs := hE 0 (by simp)
  have h1 : E 1 = .func (.func 59) #[] #[c_f] := hE 1 (by simp)
  clear hE
  refine WP.sr ?_
  refine WL.m rfl ?_
  refine WL.nil ?_
  refine WP.seq ?_
  refine WP.sr ?_
  refine WL.m rfl ?_
  obtain ⟨a1, c2, hv3⟩ := h_xs.shape
  refine WL.z (.int .i64 (((xs).length : Int))) (V.lenSlice (x := .tmp 6) rfl rfl u22 (Eq.trans (b := v_xs) h0 hv3)) ?_
  refine WL.m rfl ?_
  refine WL.nil ?_
  refine WP.block ?_
  refine WP.loop (σ := Nat) (fun k E4 w5 => E4 0 = v_xs ∧ E4 1 = .func (.func 59) #[] #[c_f] ∧ E4 6 = v_xs ∧ E4 7 = .int .i64 (((xs).length : Int)) ∧ E4 8 = .int .i64 ((k : Int)) ∧ Ext [] w w5 ∧ k ≤ xs.length ∧ ∀ j, j < k → (fun i => !f (xs.getD i 0)) j = true) (fun k => xs.length - k) (0) ?_ ?_
  · exact ⟨h0, h1, h0, rfl, (int_eq (by omega)), Ext.refl _ _, (by omega), (all_zero _)⟩
  rintro k E4 w5 ⟨h0_6, h1_6, h6_6, h7_6, h8_6, hx6, hi0_6, hi1_6⟩
  have hx7 : Ext [] w w5 := hx6
  refine WP.sr ?_
  refine WL.z (.bool (decide ((k : Int) < ((xs).length : Int)))) (V.cmp (x := .tmp 8) (y := .tmp 7) rfl h8_6 h7_6 rfl) ?_
  refine WL.nil ?_
  refine WP.seq ?_
  refine WP.condp (t := (k : Int) < ((xs).length : Int)) rfl (fun hc8 => ?_) (fun hc8 => ?_)
  rotate_left
  · refine WP.exit ?_
    refine WP.sr ?_
    refine WL.m rfl ?_
    refine WL.nil ?_
    refine WP.ret ?_
    refine resOf.c1 rfl (v := .int .i64 (-1)) rfl ?_
    exact ⟨(int_eq (by first | (exact (idxP_none (by assumption) (by omega)).symm) | (exact (idxP_at (by omega) (by assumption) (by assumption)).symm))), hx7⟩
  refine WP.skip ?_
  refine WP.seq ?_
  refine WP.block ?_
  refine WP.sr ?_
  refine WL.m rfl ?_
  refine WL.m rfl ?_
  refine WL.nil ?_
  refine WP.sr ?_
  refine WL.m rfl ?_
  refine WL.m rfl ?_
  refine WL.m rfl ?_
  have hlt17 : k < (xs).length := by first | omega | (simp at *; omega)
  obtain ⟨b9, k10, c11, cs12, hv13, hnb14, hr15, hat16⟩ := (h_xs.ext (Ext.pre hx7)).get (i := k) (x := (xs.getD k 0)) (getD_some hlt17 _)
  obtain ⟨rfl, hin18⟩ := hr15
  have hin18 := inK_i64 hin18
  refine WL.z (.pointer (some ⟨b9, k10 + k * 1, none⟩)) (V.indexAddr (x := .tmp 12) (i := .tmp 13) (m := k) (j := (k : Int)) rfl u22 s3 (Eq.trans (b := v_xs) h0_6 hv13) h8_6 rfl hlt17) ?_
  refine WL.z (.int .i64 ((xs.getD k 0))) (V.load rfl p3 rfl (hat16.cell (j := 0) rfl)) ?_
  refine WL.c (Sure.none rfl) rfl (C.callv1 (g := .tmp 11) rfl h1_6 (by intro f' e; cases e) cl59 rfl rfl) (Fnc.mono (hcl _ (hx7) (xs.getD k 0)) ?_)
  rintro _ w19 ⟨rfl, hx20⟩
  have hx21 : Ext [] w w19 := hx7.trans hx20
  refine WL.nil ?_
  refine WP.cond (t := f (xs.getD k 0)) rfl (fun hc23 => ?_) (fun hc23 => ?_)
  · refine WP.sr ?_
    refine WL.m rfl ?_
    refine WL.m rfl ?_
    refine WL.nil ?_
    refine WP.ret ?_
    refine resOf.c1 rfl (v := .int .i64 ((k : Int))) h8_6 ?_
    exact ⟨(int_eq (by first | (exact (idxP_none (by assumption) (by omega)).symm) | (exact (idxP_at (by omega) (by assumption) (by assumption)).symm))), hx21⟩
  refine WP.skip ?_
  refine WP.region ?_
  refine WL.z (.int .i64 ((k : Int) + 1)) (V.arith (x := .tmp 8) rfl h8_6 rfl rfl (wrap_i64 (by omega) (by omega))) ?_
  refine WL.m rfl ?_
  refine WL.nil ?_
  exact ⟨k + 1, ⟨h0_6, h1_6, h6_6, h7_6, (int_eq (by omega)), hx21, (by omega), (all_step (by assumption) (by first | assumption | grind [idxP]))⟩, (by omega)⟩

theorem vote_others1 {w : World} {b : Nat} {id n : Int} {rest : List Value} (hb : Box w b 30 (.int .i64 id :: rest)) : Fnc Try.prog 59 #[.int .i64 n, .pointer (some ⟨b, 0, none⟩)] w (fun v w' => v = .bool (decide (n = id)) ∧ Ext [] w w') := by
  refine Fnc.of_WP (n := 8) Try.func59 rfl Try.ntmps59 (by simp) ?_
  intro E hE
  have h0 : E 0 = .int .i64 n := hE 0 (by simp)
  have h1 : E 1 = .pointer (some ⟨b, 0, none⟩) := hE 1 (by simp)
  clear hE
  refine WP.seq ?_
  refine WP.region ?_
  refine WL.v (u := .bool false) (Sure.none rfl) rfl (V.assign rfl rfl) ?_
  refine WL.nil ?_
  refine WP.seq ?_
  refine WP.region ?_
  refine WL.v (u := .int .i64 n) (Sure.none rfl) rfl (V.move (x := .tmp 0) rfl h0) ?_
  refine WL.v (u := .pointer (some ⟨b, 0 + 0, none⟩)) (Sure.none rfl) rfl (V.fieldAddr (x := .tmp 1) rfl fl30_0 h1) ?_
  refine WL.v (u := .int .i64 id) (Sure.none rfl) rfl (V.load (x := .tmp 5) rfl p3 rfl (hb.cell rfl)) ?_
  refine WL.v (u := .bool (decide (n = id))) (Sure.none rfl) rfl (V.cmp (x := .tmp 4) (y := .tmp 6) rfl rfl rfl rfl) ?_
  refine WL.v (u := .bool (decide (n = id))) (Sure.none rfl) rfl (V.assign (x := .tmp 7) rfl rfl) ?_
  refine WL.nil ?_
  refine WP.ret ?_
  refine resOf.c1 rfl (v := .bool (decide (n = id))) rfl ?_
  exact ⟨rfl, Ext.refl _ _⟩

theorem sl_DeleteFunc {w : World} {X : List Nat} {B : Nat} {v c : Value} {xs : List Int} {p : Int → Bool} (ho : Owns (intR .i64) 3 B X w v xs) (hno : ∀ g, v.ownBlock = some g → g ∉ X)
    (hcl : ∀ w', Ext (rowOf v) w w' → ∀ m, Fnc Try.prog 59 #[.int .i64 m, c] w' (fun u w'' => u = .bool (p m) ∧ Ext [] w' w'')) :
    Fnc Try.prog 25 #[v, .func (.func 59) #[] #[c]] w (fun u w' => Sl (intR .i64) X w' u (xs.filter (fun m => !p m)) ∧ Ext (rowOf v) w w') := by
  have hsl : Sl (intR .i64) X w v xs := Owns.sl' ho hno
  have hrow := ho.asRow
  have hle := hsl.le'
  refine Fnc.of_WP (n := 42) Try.func25 rfl Try.ntmps25 (by simp) ?_
  intro E hE
  have h0 : E 0 = v := hE 0 (by simp)
  have h1 : E 1 = .func (.func 59) #[] #[c] := hE 1 (by simp)
  clear hE
  refine WP.seq ?_
  refine WP.region ?_
  refine WL.v (u := .slice none 0 0) (Sure.none rfl) rfl (V.assign rfl rfl) ?_
  refine WL.nil ?_
  refine WP.seq ?_
  refine WP.region ?_
  refine WL.v (u := v) (Sure.none rfl) rfl (V.move (x := .tmp 0) rfl h0) ?_
  refine WL.v (u := .func (.func 59) #[] #[c]) (Sure.none rfl) rfl (V.move (x := .tmp 1) rfl h1) ?_
  refine WL.c (Sure.none rfl) rfl (C.call2 (x := .tmp 8) (y := .tmp 9) rfl cl54 rfl rfl) (Fnc.mono (sl_IndexFunc hsl (f := p) (fun w' hw m => hcl w' (Ext.any hw) m)) ?_)
  rintro _ w1 ⟨rfl, hx1⟩
  rcases idxP_cases p xs with ⟨hi, hf⟩ | ⟨k, hk, hi, hpk, hfk⟩ <;> rw [hi]
  · refine WL.v (u := .int .i64 (-1)) (Sure.none rfl) rfl (V.assign (x := .tmp 10) rfl rfl) ?_
    refine WL.nil ?_
    refine WP.seq ?_
    refine WP.seq ?_
    refine WP.region ?_
    refine WL.v (u := .int .i64 (-1)) (Sure.none rfl) rfl (V.move (x := .tmp 5) rfl rfl) ?_
    refine WL.v (u := .bool true) (Sure.none rfl) rfl (V.cmp (x := .tmp 11) rfl rfl rfl rfl) ?_
    refine WL.nil ?_
    refine WP.cond_true rfl ?_
    refine WP.seq ?_
    refine WP.region ?_
    refine WL.v (u := v) (Sure.none rfl) rfl (V.move (x := .tmp 0) rfl h0) ?_
    refine WL.v (u := v) (Sure.none rfl) rfl (V.assign (x := .tmp 13) rfl rfl) ?_
    refine WL.nil ?_
    refine WP.ret ?_
    refine resOf.c1 rfl (v := v) rfl ?_
    exact ⟨castSl hf.symm (hsl.ext (Ext.any hx1)), Ext.any hx1⟩
  · rcases hrow with ⟨rfl, rfl⟩ | ⟨g, cap, T, rfl, hb, hlen, hcap, hin, hB⟩
    · simp at hk
    have hgX : g ∉ X := hno g rfl
    have hb1 := hb.ext hx1 (by simp)
    refine WL.v (u := .int .i64 (k : Int)) (Sure.none rfl) rfl (V.assign (x := .tmp 10) rfl rfl) ?_
    refine WL.nil ?_
    refine WP.seq ?_
    refine WP.seq ?_
    refine WP.region ?_
    refine WL.v (u := .int .i64 (k : Int)) (Sure.none rfl) rfl (V.move (x := .tmp 5) rfl rfl) ?_
    refine WL.v (u := .bool (decide ((k : Int) = -1))) (Sure.none rfl) rfl (V.cmp (x := .tmp 11) rfl rfl rfl rfl) ?_
    refine WL.nil ?_
    refine WP.cond (t := decide ((k : Int) = -1)) rfl (fun hc => absurd (of_decide_eq_true hc) (by omega)) (fun _ => ?_)
    refine WP.skip ?_
    refine WP.seq ?_
    refine WP.seq ?_
    refine WP.region ?_
    refine WL.v (u := .int .i64 (k : Int)) (Sure.none rfl) rfl (V.move (x := .tmp 5) rfl rfl) ?_
    refine WL.v (u := .int .i64 ((k : Int) + 1)) (Sure.none rfl) rfl (V.arith (x := .tmp 14) rfl rfl rfl rfl (wrap_i64 (by omega) (by omega))) ?_
    refine WL.v (u := .int .i64 ((k : Int) + 1)) (Sure.none rfl) rfl (V.assign (x := .tmp 15) rfl rfl) ?_
    refine WL.nil ?_
    refine WP.block ?_
    refine WP.loop (σ := Nat × Nat × List Int) (fun s E w' => E 0 = .slice (some ⟨g, 0, none⟩) xs.length cap ∧ E 1 = .func (.func 59) #[] #[c] ∧ E 5 = .int .i64 (s.1 : Int) ∧ E 6 = .int .i64 (s.2.1 : Int) ∧ DelInv (fun m => !p m) xs s.2.2 s.1 s.2.1 ∧ Box w' g 3 (irow s.2.2 T) ∧ Ext [g] w w') (fun s => xs.length - s.2.1) (k, k + 1, xs) ?_ ?_
    · exact ⟨h0, h1, rfl, (int_eq (by show (k : Int) + 1 = ((k + 1 : Nat) : Int); omega)), ⟨rfl, hin, (by show k < k + 1; omega), hk, hfk.symm, rfl⟩, hb1, Ext.any hx1⟩
    · rintro ⟨i, j, L⟩ E w2 ⟨g0, g1, g5, g6, hI, hb2, hx2⟩
      replace g5 : E 5 = .int .i64 (i : Int) := g5
      replace g6 : E 6 = .int .i64 (j : Int) := g6
      replace hI : DelInv (fun m => !p m) xs L i j := hI
      replace hb2 : Box w2 g 3 (irow L T) := hb2
      have hij := hI.lt
      have hjl := hI.le
      have hLl := hI.len
      refine WP.seq ?_
      refine WP.seq ?_
      refine WP.region ?_
      refine WL.v (u := .int .i64 (j : Int)) (Sure.none rfl) rfl (V.move (x := .tmp 6) rfl g6) ?_
      refine WL.v (u := .slice (some ⟨g, 0, none⟩) xs.length cap) (Sure.none rfl) rfl (V.move (x := .tmp 0) rfl g0) ?_
      refine WL.v (u := .int .i64 (xs.length : Int)) (Sure.none rfl) rfl (V.lenSlice (x := .tmp 17) rfl rfl u22 rfl) ?_
      refine WL.v (u := .bool (decide ((j : Int) < (xs.length : Int)))) (Sure.none rfl) rfl (V.cmp (x := .tmp 16) (y := .tmp 18) rfl rfl rfl rfl) ?_
      refine WL.nil ?_
      refine WP.cond (t := decide ((j : Int) < (xs.length : Int))) rfl (fun hc => ?_) (fun hc => ?_)
      · replace hc := of_decide_eq_true hc
        have hjx : j < xs.length := by omega
        obtain ⟨x, hx⟩ : ∃ x, L.getD j 0 = x := ⟨_, rfl⟩
        have hget : (irow L T)[0 + j * 1]? = some (.int .i64 x) := by rw [show 0 + j * 1 = j from by omega, irow_get (by omega), hx]
        refine WP.skip ?_
        refine WP.seq ?_
        refine WP.block ?_
        refine WP.seq ?_
        refine WP.region ?_
        refine WL.v (u := .slice (some ⟨g, 0, none⟩) xs.length cap) (Sure.none rfl) rfl (V.move (x := .tmp 0) rfl g0) ?_
        refine WL.v (u := .int .i64 (j : Int)) (Sure.none rfl) rfl (V.move (x := .tmp 6) rfl g6) ?_
        refine WL.v (u := .pointer (some ⟨g, 0 + j * 1, none⟩)) (Sure.none rfl) rfl (V.indexAddr (x := .tmp 22) (i := .tmp 23) (m := j) (j := (j : Int)) rfl u22 s3 rfl rfl rfl hjx) ?_
        refine WL.v (u := .int .i64 x) (Sure.none rfl) rfl (V.load (x := .tmp 24) rfl p3 rfl (hb2.cell hget)) ?_
        refine WL.v (u := .int .i64 x) (Sure.none rfl) rfl (V.assign (x := .tmp 25) rfl rfl) ?_
        refine WL.nil ?_
        refine WP.seq ?_
        refine WP.region ?_
        refine WL.v (u := .func (.func 59) #[] #[c]) (Sure.none rfl) rfl (V.move (x := .tmp 1) rfl g1) ?_
        refine WL.v (u := .int .i64 x) (Sure.none rfl) rfl (V.move (x := .tmp 7) rfl rfl) ?_
        refine WL.c (Sure.none rfl) rfl (C.callv1 (g := .tmp 26) (x := .tmp 27) rfl rfl (by intro f' e; cases e) cl59 rfl rfl) (Fnc.mono (hcl w2 hx2 x) ?_)
        rintro _ w3 ⟨rfl, hx3⟩
        have hb3 := hb2.ext hx3 (by simp)
        refine WL.v (u := .bool (!p x)) (Sure.none rfl) rfl (V.not (x := .tmp 28) rfl rfl) ?_
        refine WL.nil ?_
        refine WP.cond (t := !p x) rfl (fun hq => ?_) (fun hq => ?_)
        · refine WP.seq ?_
          refine WP.region ?_
          refine WL.v (u := .slice (some ⟨g, 0, none⟩) xs.length cap) (Sure.none rfl) rfl (V.move (x := .tmp 0) rfl g0) ?_
          refine WL.v (u := .int .i64 (i : Int)) (Sure.none rfl) rfl (V.move (x := .tmp 5) rfl g5) ?_
          refine WL.v (u := .int .i64 x) (Sure.none rfl) rfl (V.move (x := .tmp 7) rfl rfl) ?_
          refine WL.v (u := .pointer (some ⟨g, 0 + i * 1, none⟩)) (Sure.none rfl) rfl (V.indexAddr (x := .tmp 30) (i := .tmp 31) (m := i) (j := (i : Int)) rfl u22 s3 rfl rfl rfl (by omega)) ?_
          refine WL.store (x := .tmp 33) (y := .tmp 32) (Sure.none rfl) rfl rfl s3 rfl rfl rfl hb3 (by rw [irow_len]; omega) (fun w4 hx4 hb4 => ?_)
          replace hb4 : Box w4 g 3 ((irow L T).set (0 + i * 1) (.int .i64 x)) := hb4
          rw [show 0 + i * 1 = i from by omega, irow_set (by omega)] at hb4
          refine WL.nil ?_
          refine WP.region ?_
          refine WL.v (u := .int .i64 (i : Int)) (Sure.none rfl) rfl (V.move (x := .tmp 5) rfl g5) ?_
          refine WL.v (u := .int .i64 ((i : Int) + 1)) (Sure.none rfl) rfl (V.arith (x := .tmp 34) rfl rfl rfl rfl (wrap_i64 (by omega) (by omega))) ?_
          refine WL.v (u := .int .i64 ((i : Int) + 1)) (Sure.none rfl) rfl (V.assign (x := .tmp 35) rfl rfl) ?_
          refine WL.nil ?_
          refine WP.region ?_
          refine WL.v (u := .int .i64 (j : Int)) (Sure.none rfl) rfl (V.move (x := .tmp 6) rfl g6) ?_
          refine WL.v (u := .int .i64 ((j : Int) + 1)) (Sure.none rfl) rfl (V.arith (x := .tmp 20) rfl rfl rfl rfl (wrap_i64 (by omega) (by omega))) ?_
          refine WL.v (u := .int .i64 ((j : Int) + 1)) (Sure.none rfl) rfl (V.assign (x := .tmp 21) rfl rfl) ?_
          refine WL.nil ?_
          refine ⟨(i + 1, j + 1, L.set i x), ⟨g0, g1, int_eq (by show (i : Int) + 1 = ((i + 1 : Nat) : Int); omega), int_eq (by show (j : Int) + 1 = ((j + 1 : Nat) : Int); omega), by rw [← hx]; exact hI.keep hjx (by rw [hx]; exact hq), hb4, (hx2.trans (Ext.any hx3)).trans hx4⟩, ?_⟩
          show xs.length - (j + 1) < xs.length - j
          omega
        · refine WP.skip ?_
          refine WP.region ?_
          refine WL.v (u := .int .i64 (j : Int)) (Sure.none rfl) rfl (V.move (x := .tmp 6) rfl g6) ?_
          refine WL.v (u := .int .i64 ((j : Int) + 1)) (Sure.none rfl) rfl (V.arith (x := .tmp 20) rfl rfl rfl rfl (wrap_i64 (by omega) (by omega))) ?_
          refine WL.v (u := .int .i64 ((j : Int) + 1)) (Sure.none rfl) rfl (V.assign (x := .tmp 21) rfl rfl) ?_
          refine WL.nil ?_
          refine ⟨(i, j + 1, L), ⟨g0, g1, g5, int_eq (by show (j : Int) + 1 = ((j + 1 : Nat) : Int); omega), hI.skip hjx (by rw [hx]; exact hq), hb3, hx2.trans (Ext.any hx3)⟩, ?_⟩
          show xs.length - (j + 1) < xs.length - j
          omega
      · replace hc := of_decide_eq_false hc
        have hj : j = xs.length := by omega
        have hcapi : 0 + (if cap = i then 0 else i * 1) = i := by rw [if_neg (by omega)]; omega
        refine WP.exit ?_
        refine WP.seq ?_
        refine WP.region ?_
        refine WL.v (u := .slice (some ⟨g, 0, none⟩) xs.length cap) (Sure.none rfl) rfl (V.move (x := .tmp 0) rfl g0) ?_
        refine WL.v (u := .int .i64 (i : Int)) (Sure.none rfl) rfl (V.move (x := .tmp 5) rfl g5) ?_
        refine WL.v (u := .slice (some ⟨g, 0 + (if cap = i then 0 else i * 1), none⟩) (xs.length - i) (cap - i)) (Sure.none rfl) rfl (V.sliceSlice (x := .tmp 36) (lo := some (.tmp 37)) (hi := none) (l := i) (h := xs.length) rfl u22 s3 rfl ⟨_, rfl⟩ rfl (by omega) (by omega)) ?_
        rw [hcapi]
        refine WL.clear (x := .tmp 38) (z := .int .i64 0) (Sure.none rfl) rfl rfl u22 e3 rfl rfl rfl hb2 (by rw [irow_len]; omega) (fun w4 hx4 hb4 => ?_)
        rw [irow_clear (by omega)] at hb4
        have hl2 : (L.take i ++ List.replicate (xs.length - i) 0).length = xs.length := by simp; omega
        have hsl4 : Sl (intR .i64) X w4 (.slice (some ⟨g, 0, none⟩) xs.length cap) (L.take i ++ List.replicate (xs.length - i) 0) := by
          have := irow_sl hb4 hgX (by
            intro x hx
            rcases List.mem_append.1 hx with hx | hx
            · exact hI.inn x (List.mem_of_mem_take hx)
            · rw [List.eq_of_mem_replicate hx]; exact inK_i64' (by omega)) (by rw [hl2]; omega) hcap
          rwa [hl2] at this
        refine WL.nil ?_
        refine WP.seq ?_
        refine WP.region ?_
        refine WL.v (u := .slice (some ⟨g, 0, none⟩) xs.length cap) (Sure.none rfl) rfl (V.move (x := .tmp 0) rfl g0) ?_
        refine WL.v (u := .int .i64 (i : Int)) (Sure.none rfl) rfl (V.move (x := .tmp 5) rfl g5) ?_
        refine WL.vex (Sure.none rfl) rfl (V.upto (x := .tmp 39) (y := .tmp 40) (k := .i64) (h := i) rfl u22 s3 rfl hsl4 rfl (by rw [hl2]; omega)) (fun u hu => ?_)
        refine WL.v (u := u) (Sure.none rfl) rfl (V.assign (x := .tmp 41) rfl rfl) ?_
        refine WL.nil ?_
        refine WP.ret ?_
        refine resOf.c1 rfl (v := u) rfl ?_
        refine ⟨castSl ?_ hu, hx2.trans hx4⟩
        have hpre := hI.pre
        rw [hj, List.take_length] at hpre
        rw [List.take_append_of_le_length (by simp; omega), List.take_take, Nat.min_self, hpre]

theorem sl_clone_own {w : World} {X : List Nat} {v_xs : Value} {xs : List Int} (h_xs : Sl (intR .i64) X w v_xs xs) (hb : xs.length ≤ 17592186044416) (hX : ∀ x ∈ X, x < w.heap.size) : Fnc Try.prog 12 #[v_xs] w (fun v w' => ∃ u0, v = u0 ∧ Owns (intR .i64) 3 w.heap.size X w' u0 xs ∧ (∀ g, u0.ownBlock = some g → g ∉ X) ∧ Ext [] w w') := by
  have hle_xs := h_xs.le'
  refine Fnc.of_WP (n := 8) Try.func12 rfl Try.ntmps12 (by simp) ?_
  intro E hE
  have h0 : E 0 = v_xs := hE 0 (by simp)
  clear hE
  refine WP.sr ?_
  refine WL.m rfl ?_
  refine WL.nil ?_
  refine WP.seq ?_
  refine WP.sr ?_
  refine WL.m rfl ?_
  obtain ⟨a1, c2, hv3⟩ := h_xs.shape
  refine WL.z (.bool (nilB v_xs)) (V.eqNil (x := .tmp 3) rfl u22 h0 hv3 rfl) ?_
  refine WL.nil ?_
  refine WP.cond (t := nilB v_xs) rfl (fun hc4 => ?_) (fun hc4 => ?_)
  · have hc4_n := (h_xs).isNil hc4
    replace hc4 := hc4_n.2
    refine WP.sr ?_
    refine WL.m rfl ?_
    refine WL.nil ?_
    refine WP.ret ?_
    refine resOf.c1 rfl (v := .slice none 0 0) rfl ?_
    exact ⟨_, rfl, Owns.castE (by first | rfl | (revert hc4; simp +contextual)) Owns.nil, nil_block rfl, Ext.refl _ _⟩
  refine WP.skip ?_
  refine WP.sr ?_
  refine WL.lit (R := (intR .i64)) (X := X) (vs := []) (xs := []) (Sure.none rfl) rfl rfl u22 e3 (by show 0 < (1 : Nat); decide) (by show _ * (1 : Nat) ≤ 1024; decide) rfl rfl rfl (by intro i v x hv hx; match i, hv, hx with | i + 0, hv, _ => simp at hv) (fun v5 w6 hx7 ho8 hlit9 => ?_)
  have hno10 : ∀ g, (v5).ownBlock = some g → g ∉ X := by intro g hg hm; have h1 := hlit9 g hg; have h2 := hX g hm; omega
  have hx11 : Ext [] w w6 := hx7
  have ho12 := ho8.low (B' := w.heap.size) (Nat.le_refl _)
  refine WL.m rfl ?_
  refine WL.appendOwn (y := .tmp 6) (R := (intR .i64)) (X := X) (B := w.heap.size) (xs := []) (ys := xs) (Sure.none rfl) rfl rfl u22 e3 rfl (by show 0 < (1 : Nat); decide) rfl h0 ho12 (h_xs.ext (Ext.pre hx11)) (fun g hg => (Sl.new (by show (1 : Nat) ≠ 0; decide) h_xs (Nat.le_trans (Nat.le_refl _) (ho12.lt g hg).1)).ext (Ext.cons (Ext.pre hx11))) hx11.size (by simp only [List.length_cons, List.length_nil]; omega) (by simp only [List.length_cons, List.length_nil, maxLen]; omega) (fun v13 w14 ho15 hg16 hf17 => ?_)
  have hno18 := after_no hf17 hno10 (inMono hX hx11.size)
  have hx19 := Ext.ownB (hx11) hg16 (fun k hk => (Owns.lt ho12 k hk).1) (Nat.le_refl _)
  have ho15 := ho15.castE (List.nil_append _)
  refine WL.m rfl ?_
  refine WL.nil ?_
  refine WP.ret ?_
  refine resOf.c1 rfl (v := v13) rfl ?_
  exact ⟨_, rfl, Owns.castE (by first | rfl | simp) ho15, hno18, hx19⟩

theorem vote_others {w : World} {X : List Nat} {p : PeerD} {c_p : List Value} (h_p : peerR.rd X w c_p p) (hb : p.Members.length ≤ 17592186044416) (hX : ∀ x ∈ X, x < w.heap.size) : Fnc Try.prog 40 #[.agg c_p.toArray] w (fun v w' => ∃ (u0 : Value), v = u0 ∧ Sl (intR .i64) X w' u0 (othersOf p) ∧ Ext [] w w') := by
  obtain ⟨v1, v3, v5, v7, v9, v11, rfl, hl2, hl4, hl6, hl8, hl10, hl12, hk13⟩ := h_p
  obtain ⟨hin14, hin15, hin16, hin17, hin18, hin19, hin20, hin21, hin22, hin23, hin24, hin25⟩ := (show PeerD.InR p from hk13)
  have hin14 := inK_i64 hin14
  have hin15 := inK_u64 hin15
  have hin16 := inK_i64 hin16
  have hin17 := inK_u8 hin17
  have hin18 := inK_i64 hin18
  have hin19 := inK_u64 hin19
  have hin20 := inK_u64 hin20
  have hin22 := inK_u64 hin22
  have hin23 := inK_i64 hin23
  have hin24 := inK_i64 hin24
  have hin25 := inK_u64 hin25
  have hle26 := hl2.le'
  have hle27 := hl4.le'
  have hle28 := hl6.le'
  have hle29 := hl8.le'
  have hle30 := hl10.le'
  have hle31 := hl12.le'
  refine Fnc.of_WP (n := 8) Try.func40 rfl Try.ntmps40 (by simp) ?_
  intro E hE
  have h0 : E 0 = .agg #[.int .i64 (p.Id), v1, .int .u64 (p.Term), .int .i64 (p.Vote), .int .u8 (p.Role), .int .i64 (p.Lead), .int .u64 (p.Base), .int .u64 (p.BaseTerm), v3, .string (p.Snap), v5, .int .u64 (p.Commit), .int .i64 (p.Idle), .int .i64 (p.Wait), v7, v9, .int .u64 (p.Round), v11] := hE 0 (by simp)
  clear hE
  refine WP.sr ?_
  refine WL.box (x := .tmp 0) (cs := [.int .i64 (p.Id), v1, .int .u64 (p.Term), .int .i64 (p.Vote), .int .u8 (p.Role), .int .i64 (p.Lead), .int .u64 (p.Base), .int .u64 (p.BaseTerm), v3, .string (p.Snap), v5, .int .u64 (p.Commit), .int .i64 (p.Idle), .int .i64 (p.Wait), v7, v9, .int .u64 (p.Round), v11]) (Sure.none rfl) rfl rfl h0 rfl (fun b32 w33 hx34 he35 hb36 => ?_)
  have hl37 := (Sl.new (b := b32) (by show (1 : Nat) ≠ 0; decide) hl2 (by omega)).ext (Ext.any hx34)
  have hx43 : Ext [b32] _ _ := (Ext.refl _ _).trans (Ext.any hx34)
  have hge_b32_w : w.heap.size ≤ b32 := by have := Nat.le_refl w.heap.size; omega
  refine WL.m rfl ?_
  refine WL.nil ?_
  refine WP.sr ?_
  refine WL.f (v1) fl30_1 rfl p22 (hb36.cell rfl) ?_
  refine WL.c (Sure.none rfl) rfl (C.call1 rfl cl12 rfl) (Fnc.mono (sl_clone_own hl37 (by omega) (X := (b32 :: X)) (inCons hb36.lt (inMono hX hx43.size))) ?_)
  rintro v44 w45 ⟨_, rfl, ho46, hno47, hx48⟩
  have hszB : w.heap.size ≤ w33.heap.size := hx43.size
  have hx49 : Ext [b32] w w45 := hx43.trans (Ext.any (Y := [b32]) hx48)
  have hb51 := hb36.ext hx48 (by simp)
  refine WL.z (.func (.func 59) #[] #[.pointer (some ⟨b32, 0, none⟩)]) (V.makeFunc rfl (by simp) (map1 rfl)) ?_
  refine WL.c (Sure.none rfl) rfl (C.call2 rfl cl25 rfl rfl) (Fnc.mono (sl_DeleteFunc (p := fun m => decide (m = p.Id)) ho46 hno47 (fun w' hw m => vote_others1 (hb51.ext hw (rowOf_no hno47 (by simp))))) ?_)
  rintro u52 w53 ⟨hs54, hx55⟩
  have he56 := Ext.skip hx49 hx55 (rowOf_ge ho46 hszB)
  refine WL.m rfl ?_
  refine WL.nil ?_
  refine WP.ret ?_
  refine resOf.c1 rfl (v := u52) rfl ?_
  exact ⟨u52, rfl, (castSl (by rfl) (Sl.base (O := [b32]) hs54)), ((he56).done (geCons hge_b32_w geNil))⟩

def vfollowsB (p : PeerD) (last : Int) : Bool := allB p.Follows.length (fun i => fOk last (p.Follows.getD i default)) && eqB ieq (p.Follows.map FollowD.Id) (othersOf p)
theorem map_take_step {l : List FollowD} {k : Nat} (h : k < l.length) : (l.take k).map FollowD.Id ++ [(l.getD k default).Id] = (l.take (k + 1)).map FollowD.Id := by
  rw [← take_step h, List.map_append]; rfl
theorem map_take_le (l : List FollowD) (k : Nat) : ((l.take k).map FollowD.Id).length ≤ k := by simp; omega
theorem vfollowsB_end {p : PeerD} {last : Int} {k : Nat} (hk : p.Follows.length ≤ k) (h : ∀ j, j < k → (fun i => fOk last (p.Follows.getD i default)) j = true) : eqB ieq ((p.Follows.take k).map FollowD.Id) (othersOf p) = vfollowsB p last := by
  rw [vfollowsB, allB_true h hk, Bool.true_and, List.take_of_length_le hk]
theorem vfollowsB_bad {p : PeerD} {last : Int} {k : Nat} (hk : k < p.Follows.length) (h : fOk last (p.Follows.getD k default) = false) : false = vfollowsB p last := by
  rw [vfollowsB, allB_false hk h, Bool.false_and]
theorem vfollows_eq (p : PeerD) (last : Int) : vfollowsB p last = followsB p last := by
  rw [Bool.eq_iff_iff]
  simp only [vfollowsB, followsB, eqB, Bool.and_eq_true, decide_eq_true_eq, allB_iff, fOkAt, List.length_map, ieq]
  have hid : ∀ j, j < p.Follows.length → (p.Follows.map FollowD.Id).getD j default = (p.Follows.getD j default).Id := by
    intro j hj
    simp [List.getD_eq_getElem?_getD, List.getElem?_eq_getElem hj]
  constructor
  · rintro ⟨h1, h2, h3⟩
    exact ⟨h2.symm, fun j hj => ⟨h1 j hj, by rw [← hid j hj]; exact h3 j hj⟩⟩
  · rintro ⟨h1, h2⟩
    exact ⟨fun j hj => (h2 j hj).1, h1.symm, fun j hj => by rw [hid j hj]; exact (h2 j hj).2⟩

theorem vote_follows {w : World} {X : List Nat} {p : PeerD} {c_p : List Value} (h_p : peerR.rd X w c_p p) (last : Int) (hX : ∀ x ∈ X, x < w.heap.size) (hlast : 0 ≤ last ∧ last < 18446744073709551615) (hF : Fits p) : Fnc Try.prog 36 #[.agg c_p.toArray, .int .u64 (last)] w (fun v w' => v = .bool (vfollowsB p last) ∧ Ext [] w w') := by
  obtain ⟨v1, v3, v5, v7, v9, v11, rfl, hl2, hl4, hl6, hl8, hl10, hl12, hk13⟩ := h_p
  obtain ⟨hin14, hin15, hin16, hin17, hin18, hin19, hin20, hin21, hin22, hin23, hin24, hin25⟩ := (show PeerD.InR p from hk13)
  have hin14 := inK_i64 hin14
  have hin15 := inK_u64 hin15
  have hin16 := inK_i64 hin16
  have hin17 := inK_u8 hin17
  have hin18 := inK_i64 hin18
  have hin19 := inK_u64 hin19
  have hin20 := inK_u64 hin20
  have hin22 := inK_u64 hin22
  have hin23 := inK_i64 hin23
  have hin24 := inK_i64 hin24
  have hin25 := inK_u64 hin25
  have hle26 := hl2.le'
  have hle27 := hl4.le'
  have hle28 := hl6.le'
  have hle29 := hl8.le'
  have hle30 := hl10.le'
  have hle31 := hl12.le'
  have hfm := hF.mem
  have hff := hF.follows
  refine Fnc.of_WP (n := 42) Try.func36 rfl Try.ntmps36 (by simp) ?_
  intro E hE
  have h0 : E 0 = .agg #[.int .i64 (p.Id), v1, .int .u64 (p.Term), .int .i64 (p.Vote), .int .u8 (p.Role), .int .i64 (p.Lead), .int .u64 (p.Base), .int .u64 (p.BaseTerm), v3, .string (p.Snap), v5, .int .u64 (p.Commit), .int .i64 (p.Idle), .int .i64 (p.Wait), v7, v9, .int .u64 (p.Round), v11] := hE 0 (by simp)
  have h1 : E 1 = .int .u64 (last) := hE 1 (by simp)
  clear hE
  refine WP.sr ?_
  refine WL.box (x := .tmp 0) (cs := [.int .i64 (p.Id), v1, .int .u64 (p.Term), .int .i64 (p.Vote), .int .u8 (p.Role), .int .i64 (p.Lead), .int .u64 (p.Base), .int .u64 (p.BaseTerm), v3, .string (p.Snap), v5, .int .u64 (p.Commit), .int .i64 (p.Idle), .int .i64 (p.Wait), v7, v9, .int .u64 (p.Round), v11]) (Sure.none rfl) rfl rfl h0 rfl (fun b32 w33 hx34 he35 hb36 => ?_)
  have hl37 := (Sl.new (b := b32) (by show (1 : Nat) ≠ 0; decide) hl2 (by omega)).ext (Ext.any hx34)
  have hl38 := (Sl.new (b := b32) (by show (1 : Nat) ≠ 0; decide) hl4 (by omega)).ext (Ext.any hx34)
  have hl39 := (Sl.new (b := b32) (by show (4 : Nat) ≠ 0; decide) hl6 (by omega)).ext (Ext.any hx34)
  have hl40 := (Sl.new (b := b32) (by show (1 : Nat) ≠ 0; decide) hl8 (by omega)).ext (Ext.any hx34)
  have hl41 := (Sl.new (b := b32) (by show (3 : Nat) ≠ 0; decide) hl10 (by omega)).ext (Ext.any hx34)
  have hl42 := (Sl.new (b := b32) (by show (3 : Nat) ≠ 0; decide) hl12 (by omega)).ext (Ext.any hx34)
  have hx43 : Ext [b32] _ _ := (Ext.refl _ _).trans (Ext.any hx34)
  have hge_b32_w : w.heap.size ≤ b32 := by have := Nat.le_refl w.heap.size; omega
  refine WL.m rfl ?_
  refine WL.nil ?_
  refine WP.sr ?_
  refine WL.m rfl ?_
  refine WL.nil ?_
  refine WP.seq ?_
  refine WP.sr ?_
  refine WL.f (v9) fl30_15 rfl p27 (hb36.cell rfl) ?_
  obtain ⟨a44, c45, hv46⟩ := hl41.shape
  refine WL.z (.int .i64 (((p.Follows).length : Int))) (V.lenSlice rfl rfl u27 (Eq.trans (b := v9) rfl hv46)) ?_
  refine WL.m rfl ?_
  refine WL.nil ?_
  refine WP.block ?_
  have hsz49 : w.heap.size ≤ w33.heap.size := hx43.size
  refine WP.loop (σ := Nat) (fun k E47 w48 => E47 0 = .agg #[.int .i64 (p.Id), v1, .int .u64 (p.Term), .int .i64 (p.Vote), .int .u8 (p.Role), .int .i64 (p.Lead), .int .u64 (p.Base), .int .u64 (p.BaseTerm), v3, .string (p.Snap), v5, .int .u64 (p.Commit), .int .i64 (p.Idle), .int .i64 (p.Wait), v7, v9, .int .u64 (p.Round), v11] ∧ E47 1 = .int .u64 (last) ∧ E47 2 = .pointer (some ⟨b32, 0, none⟩) ∧ E47 8 = .pointer (some ⟨b32, 15, none⟩) ∧ E47 9 = v9 ∧ E47 10 = .int .i64 (((p.Follows).length : Int)) ∧ E47 11 = .int .i64 ((k : Int)) ∧ Ext [b32] w33 w48 ∧ Box w48 b32 30 [.int .i64 (p.Id), v1, .int .u64 (p.Term), .int .i64 (p.Vote), .int .u8 (p.Role), .int .i64 (p.Lead), .int .u64 (p.Base), .int .u64 (p.BaseTerm), v3, .string (p.Snap), v5, .int .u64 (p.Commit), .int .i64 (p.Idle), .int .i64 (p.Wait), v7, v9, .int .u64 (p.Round), v11] ∧ (Owns (intR .i64) 3 w33.heap.size (b32 :: X) w48 (E47 5) ((p.Follows.take k).map FollowD.Id) ∧ (∀ g, (E47 5).ownBlock = some g → g ∉ (b32 :: X))) ∧ k ≤ p.Follows.length ∧ ∀ j, j < k → (fun i => fOk last (p.Follows.getD i default)) j = true) (fun k => p.Follows.length - k) (0) ?_ ?_
  · exact ⟨h0, h1, rfl, rfl, rfl, rfl, (int_eq (by omega)), Ext.refl _ _, hb36, ⟨(Owns.castE (by rfl) Owns.nil), (nil_block rfl)⟩, (by omega), (all_zero _)⟩
  rintro k E47 w48 ⟨h0_50, h1_50, h2_50, h8_50, h9_50, h10_50, h11_50, hx50, hbb32_50, ⟨ho5_50, ho5_50n⟩, hi0_50, hi1_50⟩
  have hx51 : Ext [b32] w w48 := hx43.trans hx50
  have hx52 : Ext [b32] w33 w48 := hx50
  have htk := map_take_le p.Follows k
  refine WP.sr ?_
  refine WL.z (.bool (decide ((k : Int) < ((p.Follows).length : Int)))) (V.cmp (x := .tmp 11) (y := .tmp 10) rfl h11_50 h10_50 rfl) ?_
  refine WL.nil ?_
  refine WP.seq ?_
  refine WP.condp (t := (k : Int) < ((p.Follows).length : Int)) rfl (fun hc53 => ?_) (fun hc53 => ?_)
  rotate_left
  · refine WP.exit ?_
    refine WP.sr ?_
    refine WL.m rfl ?_
    refine WL.z (.agg #[.int .i64 (p.Id), v1, .int .u64 (p.Term), .int .i64 (p.Vote), .int .u8 (p.Role), .int .i64 (p.Lead), .int .u64 (p.Base), .int .u64 (p.BaseTerm), v3, .string (p.Snap), v5, .int .u64 (p.Commit), .int .i64 (p.Idle), .int .i64 (p.Wait), v7, v9, .int .u64 (p.Round), v11]) (V.loadAgg (x := .tmp 2) (cs := [.int .i64 (p.Id), v1, .int .u64 (p.Term), .int .i64 (p.Vote), .int .u8 (p.Role), .int .i64 (p.Lead), .int .u64 (p.Base), .int .u64 (p.BaseTerm), v3, .string (p.Snap), v5, .int .u64 (p.Commit), .int .i64 (p.Idle), .int .i64 (p.Wait), v7, v9, .int .u64 (p.Round), v11]) rfl a30 h2_50 (At.box hbb32_50) rfl) ?_
    refine WL.c (Sure.none rfl) rfl (C.call1 rfl cl40 rfl) (Fnc.mono (vote_others (p := p) ⟨v1, v3, v5, v7, v9, v11, rfl, (hl37.ext (Ext.pre hx52)), (hl38.ext (Ext.pre hx52)), (hl39.ext (Ext.pre hx52)), (hl40.ext (Ext.pre hx52)), (hl41.ext (Ext.pre hx52)), (hl42.ext (Ext.pre hx52)), hk13⟩ (by omega) (X := (b32 :: X)) (inCons hbb32_50.lt (inMono hX hx51.size))) ?_)
    rintro v129 w127 ⟨_, rfl, hl130, hx128⟩
    have hx131 : Ext [b32] w w127 := hx51.trans (Ext.any (Y := [b32]) hx128)
    have ho135 := ho5_50.keep hx128 (by intro g hg hm; simp at hm) (by simp)
    refine WL.c (Sure.none rfl) rfl (C.call2 rfl cl33 rfl rfl) (Fnc.mono (sl_equal_int (Owns.sl' ho135 ho5_50n) hl130) ?_)
    rintro _ w136 ⟨rfl, hx137⟩
    have hx138 : Ext [b32] w w136 := hx131.trans (Ext.any (Y := [b32]) hx137)
    refine WL.m rfl ?_
    refine WL.nil ?_
    refine WP.ret ?_
    refine resOf.c1 rfl (v := .bool (eqB ieq ((p.Follows.take k).map FollowD.Id) (othersOf p))) rfl ?_
    exact ⟨(bool_eq (by first | (exact vfollowsB_end (by omega) (by assumption)) | (exact vfollowsB_bad (by omega) (by first | assumption | grind [fOk])))), ((hx138).done (geCons hge_b32_w geNil))⟩
  refine WP.skip ?_
  refine WP.seq ?_
  refine WP.block ?_
  refine WP.sr ?_
  have hlt62 : k < (p.Follows).length := by first | omega | (simp at *; omega)
  obtain ⟨b54, k55, c56, cs57, hv58, hnb59, hr60, hat61⟩ := (hl41.ext (Ext.pre hx52)).get (i := k) (x := (p.Follows.getD k default)) (getD_some hlt62 _)
  obtain ⟨rfl, hk63⟩ := hr60
  obtain ⟨hin64, hin65, hin66⟩ := (show FollowD.InR (p.Follows.getD k default) from hk63)
  have hin64 := inK_i64 hin64
  have hin65 := inK_u64 hin65
  have hin66 := inK_u64 hin66
  refine WL.z (.pointer (some ⟨b54, k55 + k * 3, none⟩)) (V.indexAddr (x := .tmp 9) (i := .tmp 11) (m := k) (j := (k : Int)) rfl u27 s49 (Eq.trans (b := v9) h9_50 hv58) h11_50 rfl hlt62) ?_
  refine WL.z (.agg #[.int .i64 ((p.Follows.getD k default).Id), .int .u64 ((p.Follows.getD k default).Next), .int .u64 ((p.Follows.getD k default).Match)]) (V.loadAgg (cs := [.int .i64 ((p.Follows.getD k default).Id), .int .u64 ((p.Follows.getD k default).Next), .int .u64 ((p.Follows.getD k default).Match)]) rfl a49 rfl hat61 rfl) ?_
  refine WL.alloc (cs := [.int .i64 (0), .int .u64 (0), .int .u64 (0)]) (Sure.none rfl) rfl rfl z49 rfl (fun b67 w68 hx69 he70 hb71 => ?_)
  have hlt_b32_b67 : b32 < b67 := by have := hbb32_50.lt; omega
  have hb72 := hbb32_50.ext hx69 (by simp)
  have ho73 := (Owns.new (b := b67) ho5_50 (by omega)).keep hx69 (by intro g hg hm; simp at hm) (by simp)
  have hno74 : ∀ g, (E47 5).ownBlock = some g → g ∉ (b67 :: (b32 :: X)) := fun g hg hm => (List.mem_cons.1 hm).elim (fun h => by have := (ho5_50.lt g hg).2; omega) (fun h => ho5_50n g hg h)
  have hx81 : Ext [b67, b32] _ _ := (Ext.cons hx51).trans (Ext.any hx69)
  have hx82 : Ext [b67, b32] _ _ := (Ext.cons hx52).trans (Ext.any hx69)
  have hge_b67_w : w.heap.size ≤ b67 := by have := hx51.size; omega
  have hge_b67_w33 : w33.heap.size ≤ b67 := by have := hx52.size; omega
  refine WL.storeAgg (vs := [.int .i64 ((p.Follows.getD k default).Id), .int .u64 ((p.Follows.getD k default).Next), .int .u64 ((p.Follows.getD k default).Match)]) (Sure.none rfl) rfl rfl s49 rfl rfl rfl (by intro u hu; simp only [List.mem_cons, List.not_mem_nil, or_false] at hu; rcases hu with rfl | rfl | rfl <;> first | rfl | exact Sl.one (by assumption)) hb71 (by show (0 : Nat) + 3 ≤ 3; decide) (fun w83 hs84 hb85 => ?_)
  replace hb85 : Box w83 b67 49 [.int .i64 ((p.Follows.getD k default).Id), .int .u64 ((p.Follows.getD k default).Next), .int .u64 ((p.Follows.getD k default).Match)] := hb85
  have hb86 := hb72.ext hs84 (by simp; omega)
  have hx87 : Ext [b67, b32] w w83 := hx81.trans (hs84.mono (by simp))
  have hx88 : Ext [b67, b32] w33 w83 := hx82.trans (hs84.mono (by simp))
  have hx89 : Ext [b67, b32] w68 w83 := (hs84.mono (by simp))
  have ho90 := Owns.keep (Y := [b67, b32]) ho73 (hs84.mono (by simp)) (fun g hg hm => hno74 g hg (mem_pre (O := [b67, b32]) (X := X) hm)) (fun b hb => mem_pre (O := [b67, b32]) (X := X) hb)
  refine WL.nil ?_
  refine WP.seq ?_
  refine WP.sr ?_
  refine WL.f (.int .u64 ((p.Follows.getD k default).Next)) fl49_1 rfl p24 (hb85.cell rfl) ?_
  refine WL.z (.bool (decide (((p.Follows.getD k default).Next) < 1))) (V.cmp rfl rfl rfl rfl) ?_
  refine WL.vbp (c := ((p.Follows.getD k default).Next) < 1) (Sure.none rfl) rfl (V.move rfl rfl) (fun hc91 => ?_) (fun hc91 => ?_)
  · refine WL.skips [(18, some true)] [(31, some true)] (kc (some true) rfl kn) (by kernel_rfl) (fun E92 hK93 hE94 => ?_)
    refine WP.cond_true (hK93 31 (some true) rfl) ?_
    refine WP.sr ?_
    refine WL.m rfl ?_
    refine WL.nil ?_
    refine WP.ret ?_
    refine resOf.c1 rfl (v := .bool (false)) rfl ?_
    exact ⟨(bool_eq (by first | (exact vfollowsB_end (by omega) (by assumption)) | (exact vfollowsB_bad (by omega) (by first | assumption | grind [fOk])))), ((hx87).done (geCons hge_b67_w (geCons hge_b32_w geNil)))⟩
  refine WL.fy (.int .u64 ((p.Follows.getD k default).Next)) rfl fl49_1 rfl p24 (hb85.cell rfl) ?_
  refine WL.my rfl rfl ?_
  refine WL.y (.int .u64 (last + 1)) rfl (V.arith (x := .tmp 21) rfl h1_50 rfl rfl (wrap_u64 (by omega) (by omega))) ?_
  refine WL.y (.bool (decide (((p.Follows.getD k default).Next) > (last + 1)))) rfl (V.cmp rfl rfl rfl rfl) ?_
  refine WL.k (a := false) rfl rfl ?_
  refine WL.vbp (c := ((p.Follows.getD k default).Next) > (last + 1)) (Sure.none rfl) rfl (V.move rfl rfl) (fun hc95 => ?_) (fun hc95 => ?_)
  · refine WL.skips [(25, some true)] [(31, some true)] (kc (some true) rfl kn) (by kernel_rfl) (fun E96 hK97 hE98 => ?_)
    refine WP.cond_true (hK97 31 (some true) rfl) ?_
    refine WP.sr ?_
    refine WL.m rfl ?_
    refine WL.nil ?_
    refine WP.ret ?_
    refine resOf.c1 rfl (v := .bool (false)) rfl ?_
    exact ⟨(bool_eq (by first | (exact vfollowsB_end (by omega) (by assumption)) | (exact vfollowsB_bad (by omega) (by first | assumption | grind [fOk])))), ((hx87).done (geCons hge_b67_w (geCons hge_b32_w geNil)))⟩
  refine WL.fy (.int .u64 ((p.Follows.getD k default).Match)) rfl fl49_2 rfl p24 (hb85.cell rfl) ?_
  refine WL.fy (.int .u64 ((p.Follows.getD k default).Next)) rfl fl49_1 rfl p24 (hb85.cell rfl) ?_
  refine WL.y (.bool (decide (((p.Follows.getD k default).Match) ≥ ((p.Follows.getD k default).Next)))) rfl (V.cmp rfl rfl rfl rfl) ?_
  refine WL.k (a := false) rfl rfl ?_
  refine WL.nil ?_
  refine WP.condp (t := ((p.Follows.getD k default).Match) ≥ ((p.Follows.getD k default).Next)) rfl (fun hc99 => ?_) (fun hc99 => ?_)
  · refine WP.sr ?_
    refine WL.m rfl ?_
    refine WL.nil ?_
    refine WP.ret ?_
    refine resOf.c1 rfl (v := .bool (false)) rfl ?_
    exact ⟨(bool_eq (by first | (exact vfollowsB_end (by omega) (by assumption)) | (exact vfollowsB_bad (by omega) (by first | assumption | grind [fOk])))), ((hx87).done (geCons hge_b67_w (geCons hge_b32_w geNil)))⟩
  refine WP.skip ?_
  refine WP.region ?_
  refine WL.m rfl ?_
  refine WL.f (.int .i64 ((p.Follows.getD k default).Id)) fl49_0 rfl p3 (hb85.cell rfl) ?_
  refine WL.lit (R := (intR .i64)) (X := (b67 :: (b32 :: X))) (vs := [.int .i64 ((p.Follows.getD k default).Id)]) (xs := [((p.Follows.getD k default).Id)]) (Sure.none rfl) rfl rfl u22 e3 (by show 0 < (1 : Nat); decide) (by show _ * (1 : Nat) ≤ 1024; decide) rfl rfl rfl (by intro i v x hv hx; match i, hv, hx with | 0, rfl, rfl => exact ⟨rfl, inK_i64' (by omega)⟩ | i + 1, hv, _ => simp at hv) (fun v100 w101 hx102 ho103 hlit104 => ?_)
  have hno105 : ∀ g, (v100).ownBlock = some g → g ∉ (b67 :: (b32 :: X)) := by intro g hg hm; have h1 := hlit104 g hg; have h2 := (inCons hb85.lt (inCons hb86.lt (inMono hX hx87.size))) g hm; omega
  have hsz106 : w.heap.size ≤ w83.heap.size := hx87.size
  have hsz107 : w33.heap.size ≤ w83.heap.size := hx88.size
  have hsz108 : w68.heap.size ≤ w83.heap.size := hx89.size
  have hx109 : Ext [b67, b32] w w101 := hx87.trans (Ext.any (Y := [b67, b32]) hx102)
  have hx110 : Ext [b67, b32] w33 w101 := hx88.trans (Ext.any (Y := [b67, b32]) hx102)
  have hb113 := hb86.ext hx102 (by simp)
  have hb114 := hb85.ext hx102 (by simp)
  have ho115 := ho90.keep hx102 (by intro g hg hm; simp at hm) (by simp)
  have ho116 := ho103.low (B' := w83.heap.size) (Nat.le_refl _)
  refine WL.appendOwn (R := (intR .i64)) (X := (b67 :: (b32 :: X))) (B := w33.heap.size) (xs := (p.Follows.take k).map FollowD.Id) (ys := [((p.Follows.getD k default).Id)]) (Sure.none rfl) rfl rfl u22 e3 rfl (by show 0 < (1 : Nat); decide) rfl rfl ho115 (Owns.sl' ho116 hno105) (fun g hg => Owns.sl' (Owns.flat (flat_int _) ho116) (fun gs hgs hm => (List.mem_cons.1 hm).elim (fun h => by have h1 := hlit104 gs hgs; have h2 := (ho90.lt g hg).2; omega) (fun h => hno105 gs hgs h))) hx110.size (by simp only [List.length_cons, List.length_nil]; omega) (by simp only [List.length_cons, List.length_nil, maxLen]; omega) (fun v117 w118 ho119 hg120 hf121 => ?_)
  have hno122 := after_no hf121 hno74 (inCons hb114.lt (inCons hb113.lt (inMono hX hx109.size)))
  have hx124 := Ext.ownB (hx110) hg120 (fun k hk => (Owns.lt ho115 k hk).1) (Nat.le_refl _)
  have hb125 := hb113.grown hg120 (fun g hg e => hno74 g hg (by simp [e]))
  refine WL.m rfl ?_
  refine WL.nil ?_
  refine WP.region ?_
  refine WL.z (.int .i64 ((k : Int) + 1)) (V.arith (x := .tmp 11) rfl h11_50 rfl rfl (wrap_i64 (by omega) (by omega))) ?_
  refine WL.m rfl ?_
  refine WL.nil ?_
  exact ⟨k + 1, ⟨h0_50, h1_50, h2_50, h8_50, h9_50, h10_50, (int_eq (by omega)), (Ext.drop hx124 hge_b67_w33), hb125, ⟨(Owns.castE (by exact map_take_step (by omega)) (Owns.base (O := [b67]) ho119)), (base_no (O := [b67]) hno122)⟩, (by omega), (all_step (by assumption) (by first | assumption | grind [fOk]))⟩, (by omega)⟩

end Go.Proofs.Ytkcnljgennehaaa.T
