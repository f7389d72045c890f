/- My texts, cut to what this claim needs and merged. -/
import Derived.Test.YtbpamkbegggeoaaB6
namespace Go.Proofs.Ytbpamkbegggeoaa.T
open W Go.RowKit
set_option maxRecDepth 100000
set_option maxHeartbeats 400000
theorem vote_sameEntry {w : World} {X : List Nat} {a : EntryD} {c_a : List Value} (h_a : entryR.rd X w c_a a) {b : EntryD} {c_b : List Value} (h_b : entryR.rd X w c_b b) : Fnc Try.prog 53 #[.agg c_a.toArray, .agg c_b.toArray] w (fun v w' => v = .bool (sameEntB a b) ∧ Ext [] w w') := by
  obtain ⟨v1, rfl, hl2, hk3⟩ := h_a
  obtain ⟨hin4, hin5, hin6⟩ := (show EntryD.InR a from hk3)
  have hin4 := inK_u64 hin4
  have hin5 := inK_u8 hin5
  have hle7 := hl2.le'
  obtain ⟨v8, rfl, hl9, hk10⟩ := h_b
  obtain ⟨hin11, hin12, hin13⟩ := (show EntryD.InR b from hk10)
  have hin11 := inK_u64 hin11
  have hin12 := inK_u8 hin12
  have hle14 := hl9.le'
  refine Fnc.of_WP (n := 31) Try.func53 rfl Try.ntmps53 (by simp) ?_
  intro E hE
  have h0 : E 0 = .agg #[.int .u64 (a.Term), .int .u8 (a.Kind), .string (a.Data), v1] := hE 0 (by simp)
  have h1 : E 1 = .agg #[.int .u64 (b.Term), .int .u8 (b.Kind), .string (b.Data), v8] := hE 1 (by simp)
  clear hE
  refine WP.sr ?_
  refine WL.box (x := .tmp 0) (cs := [.int .u64 (a.Term), .int .u8 (a.Kind), .string (a.Data), v1]) (Sure.none rfl) rfl rfl h0 rfl (fun b15 w16 hx17 he18 hb19 => ?_)
  have hl20 := (Sl.new (b := b15) (by show (1 : Nat) ≠ 0; decide) hl2 (by omega)).ext (Ext.any hx17)
  have hl21 := (Sl.new (b := b15) (by show (1 : Nat) ≠ 0; decide) hl9 (by omega)).ext (Ext.any hx17)
  have hx22 : Ext [b15] _ _ := (Ext.refl _ _).trans (Ext.any hx17)
  have hge_b15_w : w.heap.size ≤ b15 := by have := Nat.le_refl w.heap.size; omega
  refine WL.box (x := .tmp 1) (cs := [.int .u64 (b.Term), .int .u8 (b.Kind), .string (b.Data), v8]) (Sure.none rfl) rfl rfl h1 rfl (fun b23 w24 hx25 he26 hb27 => ?_)
  have hlt_b15_b23 : b15 < b23 := by have := hb19.lt; omega
  have hb28 := hb19.ext hx25 (by simp)
  have hl29 := (Sl.new (b := b23) (by show (1 : Nat) ≠ 0; decide) hl20 (by omega)).ext (Ext.any hx25)
  have hl30 := (Sl.new (b := b23) (by show (1 : Nat) ≠ 0; decide) hl21 (by omega)).ext (Ext.any hx25)
  have hx31 : Ext [b23, b15] _ _ := (Ext.cons hx22).trans (Ext.any hx25)
  have hge_b23_w : w.heap.size ≤ b23 := by have := hx22.size; omega
  refine WL.m rfl ?_
  refine WL.nil ?_
  refine WP.sr ?_
  refine WL.f (.int .u64 (a.Term)) fl90_0 rfl p23 (hb28.cell rfl) ?_
  refine WL.f (.int .u64 (b.Term)) fl90_0 rfl p23 (hb27.cell rfl) ?_
  refine WL.z (.bool (decide (a.Term = b.Term))) (V.cmp rfl rfl rfl rfl) ?_
  refine WL.vbp (c := a.Term = b.Term) (Sure.none rfl) rfl (V.move rfl rfl) (fun hc32 => ?_) (fun hc32 => ?_)
  rotate_left
  · refine WL.skips [(10, some false)] [(4, some false)] (kc (some false) rfl kn) (by kernel_rfl) (fun E47 hK48 hE49 => ?_)
    refine WP.ret ?_
    refine resOf.c1 rfl (v := .bool (false)) (hK48 4 (some false) rfl) ?_
    exact ⟨(bool_eq (by first | assumption | grind [sameEntB])), ((hx31).done (geCons hge_b23_w (geCons hge_b15_w geNil)))⟩
  refine WL.fy (.int .u8 (a.Kind)) rfl fl90_1 rfl p88 (hb28.cell rfl) ?_
  refine WL.fy (.int .u8 (b.Kind)) rfl fl90_1 rfl p88 (hb27.cell rfl) ?_
  refine WL.y (.bool (decide (a.Kind = b.Kind))) rfl (V.cmp rfl rfl rfl rfl) ?_
  refine WL.k (a := true) rfl rfl ?_
  refine WL.vbp (c := a.Kind = b.Kind) (Sure.none rfl) rfl (V.move rfl rfl) (fun hc33 => ?_) (fun hc33 => ?_)
  rotate_left
  · refine WL.skips [(17, some false)] [(4, some false)] (kc (some false) rfl kn) (by kernel_rfl) (fun E44 hK45 hE46 => ?_)
    refine WP.ret ?_
    refine resOf.c1 rfl (v := .bool (false)) (hK45 4 (some false) rfl) ?_
    exact ⟨(bool_eq (by first | assumption | grind [sameEntB])), ((hx31).done (geCons hge_b23_w (geCons hge_b15_w geNil)))⟩
  refine WL.fy (.string (a.Data)) rfl fl90_2 rfl p9 (hb28.cell rfl) ?_
  refine WL.fy (.string (b.Data)) rfl fl90_2 rfl p9 (hb27.cell rfl) ?_
  refine WL.y (.bool (seqB a.Data b.Data)) rfl (V.scmp rfl rfl rfl rfl) ?_
  refine WL.k (a := true) rfl rfl ?_
  refine WL.vb (c := seqB a.Data b.Data) (Sure.none rfl) rfl (V.move rfl rfl) (fun hc34 => ?_) (fun hc34 => ?_)
  rotate_left
  · refine WL.skips [(24, some false)] [(4, some false)] (kc (some false) rfl kn) (by kernel_rfl) (fun E41 hK42 hE43 => ?_)
    refine WP.ret ?_
    refine resOf.c1 rfl (v := .bool (false)) (hK42 4 (some false) rfl) ?_
    exact ⟨(bool_eq (by first | assumption | grind [sameEntB])), ((hx31).done (geCons hge_b23_w (geCons hge_b15_w geNil)))⟩
  refine WL.fy (v1) rfl fl90_3 rfl p22 (hb28.cell rfl) ?_
  refine WL.fy (v8) rfl fl90_3 rfl p22 (hb27.cell rfl) ?_
  refine WL.c (Sure.yes rfl rfl rfl) rfl (C.call2 rfl cl51 rfl rfl) (Fnc.mono (sl_equal_int hl29 hl30) ?_)
  rintro _ w35 ⟨rfl, hx36⟩
  have hx37 : Ext [b23, b15] w w35 := hx31.trans (Ext.any (Y := [b23, b15]) hx36)
  refine WL.k (a := true) rfl rfl ?_
  refine WL.m rfl ?_
  refine WL.nil ?_
  refine WP.ret ?_
  refine resOf.c1 rfl (v := .bool (eqB ieq a.Members b.Members)) rfl ?_
  exact ⟨(bool_eq (by first | assumption | grind [sameEntB])), ((hx37).done (geCons hge_b23_w (geCons hge_b15_w geNil)))⟩
theorem sl_equalFunc_entry {w : World} {X : List Nat} {v_xs : Value} {xs : List EntryD} (h_xs : Sl entryR X w v_xs xs) {v_ys : Value} {ys : List EntryD} (h_ys : Sl entryR X w v_ys ys) : Fnc Try.prog 52 #[v_xs, v_ys, .func (.func 53) #[] #[]] w (fun v w' => v = .bool (eqB sameEntB xs ys) ∧ Ext [] w w') := by
  have hle_xs := h_xs.le'
  have hle_ys := h_ys.le'
  refine Fnc.of_WP (n := 32) Try.func52 rfl Try.ntmps52 (by simp) ?_
  intro E hE
  have h0 : E 0 = v_xs := hE 0 (by simp)
  have h1 : E 1 = v_ys := hE 1 (by simp)
  have h2 : E 2 = .func (.func 53) #[] #[] := hE 2 (by simp)
  clear hE
  refine WP.sr ?_
  refine WL.m rfl ?_
  refine WL.nil ?_
  refine WP.seq ?_
  refine WP.sr ?_
  refine WL.m rfl ?_
  obtain ⟨a1, c2, hv3⟩ := h_xs.shape
  refine WL.z (.int .i64 (((xs).length : Int))) (V.lenSlice (x := .tmp 10) rfl rfl u25 (Eq.trans (b := v_xs) h0 hv3)) ?_
  refine WL.m rfl ?_
  obtain ⟨a4, c5, hv6⟩ := h_ys.shape
  refine WL.z (.int .i64 (((ys).length : Int))) (V.lenSlice (x := .tmp 12) rfl rfl u25 (Eq.trans (b := v_ys) h1 hv6)) ?_
  refine WL.z (.bool (decide (((xs).length : Int) ≠ ((ys).length : Int)))) (V.cmp rfl rfl rfl rfl) ?_
  refine WL.nil ?_
  refine WP.condp (t := ((xs).length : Int) ≠ ((ys).length : Int)) rfl (fun hc7 => ?_) (fun hc7 => ?_)
  · refine WP.sr ?_
    refine WL.m rfl ?_
    refine WL.nil ?_
    refine WP.ret ?_
    refine resOf.c1 rfl (v := .bool (false)) rfl ?_
    exact ⟨(bool_eq (by first | (exact (eqB_len (by omega)).symm) | (exact (eqB_true (by omega) (by assumption) (by omega)).symm) | (exact (eqB_false (by omega) (by omega) (by assumption)).symm))), Ext.refl _ _⟩
  refine WP.skip ?_
  refine WP.seq ?_
  refine WP.sr ?_
  refine WL.m rfl ?_
  refine WL.z (.int .i64 (((xs).length : Int))) (V.lenSlice (x := .tmp 15) rfl rfl u25 (Eq.trans (b := v_xs) h0 hv3)) ?_
  refine WL.m rfl ?_
  refine WL.nil ?_
  refine WP.block ?_
  refine WP.loop (σ := Nat) (fun k E8 w9 => E8 0 = v_xs ∧ E8 1 = v_ys ∧ E8 2 = .func (.func 53) #[] #[] ∧ E8 14 = .bool (decide (((xs).length : Int) ≠ ((ys).length : Int))) ∧ E8 15 = v_xs ∧ E8 16 = .int .i64 (((xs).length : Int)) ∧ E8 17 = .int .i64 ((k : Int)) ∧ Ext [] w w9 ∧ k ≤ xs.length ∧ ∀ j, j < k → (fun i => sameEntB (xs.getD i default) (ys.getD i default)) j = true) (fun k => xs.length - k) (0) ?_ ?_
  · exact ⟨h0, h1, h2, rfl, h0, rfl, (int_eq (by omega)), Ext.refl _ _, (by omega), (all_zero _)⟩
  rintro k E8 w9 ⟨h0_10, h1_10, h2_10, h14_10, h15_10, h16_10, h17_10, hx10, hi0_10, hi1_10⟩
  have hx11 : Ext [] w w9 := hx10
  refine WP.sr ?_
  refine WL.z (.bool (decide ((k : Int) < ((xs).length : Int)))) (V.cmp (x := .tmp 17) (y := .tmp 16) rfl h17_10 h16_10 rfl) ?_
  refine WL.nil ?_
  refine WP.seq ?_
  refine WP.condp (t := (k : Int) < ((xs).length : Int)) rfl (fun hc12 => ?_) (fun hc12 => ?_)
  rotate_left
  · refine WP.exit ?_
    refine WP.sr ?_
    refine WL.m rfl ?_
    refine WL.nil ?_
    refine WP.ret ?_
    refine resOf.c1 rfl (v := .bool (true)) rfl ?_
    exact ⟨(bool_eq (by first | (exact (eqB_len (by omega)).symm) | (exact (eqB_true (by omega) (by assumption) (by omega)).symm) | (exact (eqB_false (by omega) (by omega) (by assumption)).symm))), hx11⟩
  refine WP.skip ?_
  refine WP.seq ?_
  refine WP.block ?_
  refine WP.sr ?_
  refine WL.m rfl ?_
  have hlt21 : k < (xs).length := by first | omega | (simp at *; omega)
  obtain ⟨b13, k14, c15, cs16, hv17, hnb18, hr19, hat20⟩ := (h_xs.ext (Ext.pre hx11)).get (i := k) (x := (xs.getD k default)) (getD_some hlt21 _)
  obtain ⟨v22, rfl, hl23, hk24⟩ := hr19
  obtain ⟨hin25, hin26, hin27⟩ := (show EntryD.InR (xs.getD k default) from hk24)
  have hin25 := inK_u64 hin25
  have hin26 := inK_u8 hin26
  have hle28 := hl23.le'
  refine WL.z (.pointer (some ⟨b13, k14 + k * 4, none⟩)) (V.indexAddr (x := .tmp 15) (i := .tmp 17) (m := k) (j := (k : Int)) rfl u25 s90 (Eq.trans (b := v_xs) h15_10 hv17) h17_10 rfl hlt21) ?_
  refine WL.z (.agg #[.int .u64 ((xs.getD k default).Term), .int .u8 ((xs.getD k default).Kind), .string ((xs.getD k default).Data), v22]) (V.loadAgg (cs := [.int .u64 ((xs.getD k default).Term), .int .u8 ((xs.getD k default).Kind), .string ((xs.getD k default).Data), v22]) rfl a90 rfl hat20 rfl) ?_
  refine WL.alloc (cs := [.int .u64 (0), .int .u8 (0), .string (ByteArray.mk #[]), .slice none 0 0]) (Sure.none rfl) rfl rfl z90 rfl (fun b29 w30 hx31 he32 hb33 => ?_)
  have hl35 := (Sl.new (b := b29) (by show (4 : Nat) ≠ 0; decide) (h_ys.ext (Ext.pre hx11)) (by omega)).ext (Ext.any hx31)
  have hl36 := (Sl.new (b := b29) (by show (1 : Nat) ≠ 0; decide) hl23 (by omega)).ext (Ext.any hx31)
  have hx37 : Ext [b29] _ _ := (Ext.cons hx11).trans (Ext.any hx31)
  have hge_b29_w : w.heap.size ≤ b29 := by have := hx11.size; omega
  refine WL.m rfl ?_
  refine WL.storeAgg (vs := [.int .u64 ((xs.getD k default).Term), .int .u8 ((xs.getD k default).Kind), .string ((xs.getD k default).Data), v22]) (Sure.none rfl) rfl rfl s90 rfl rfl rfl (by intro u hu; simp only [List.mem_cons, List.not_mem_nil, or_false] at hu; rcases hu with rfl | rfl | rfl | rfl <;> first | rfl | exact Sl.one (by assumption)) hb33 (by show (0 : Nat) + 4 ≤ 4; decide) (fun w38 hs39 hb40 => ?_)
  replace hb40 : Box w38 b29 90 [.int .u64 ((xs.getD k default).Term), .int .u8 ((xs.getD k default).Kind), .string ((xs.getD k default).Data), v22] := hb40
  have hx41 : Ext [b29] w w38 := hx37.trans (hs39.mono (by simp))
  have hx42 : Ext [b29] w30 w38 := (hs39.mono (by simp))
  refine WL.nil ?_
  refine WP.sr ?_
  refine WL.m rfl ?_
  refine WL.m rfl ?_
  have hlt51 : k < (ys).length := by first | omega | (simp at *; omega)
  obtain ⟨b43, k44, c45, cs46, hv47, hnb48, hr49, hat50⟩ := (hl35.ext (Ext.pre hx42)).get (i := k) (x := (ys.getD k default)) (getD_some hlt51 _)
  obtain ⟨v52, rfl, hl53, hk54⟩ := hr49
  obtain ⟨hin55, hin56, hin57⟩ := (show EntryD.InR (ys.getD k default) from hk54)
  have hin55 := inK_u64 hin55
  have hin56 := inK_u8 hin56
  have hle58 := hl53.le'
  refine WL.z (.pointer (some ⟨b43, k44 + k * 4, none⟩)) (V.indexAddr (x := .tmp 22) (i := .tmp 23) (m := k) (j := (k : Int)) rfl u25 s90 (Eq.trans (b := v_ys) h1_10 hv47) h17_10 rfl hlt51) ?_
  refine WL.z (.agg #[.int .u64 ((ys.getD k default).Term), .int .u8 ((ys.getD k default).Kind), .string ((ys.getD k default).Data), v52]) (V.loadAgg (cs := [.int .u64 ((ys.getD k default).Term), .int .u8 ((ys.getD k default).Kind), .string ((ys.getD k default).Data), v52]) rfl a90 rfl hat50 rfl) ?_
  refine WL.alloc (cs := [.int .u64 (0), .int .u8 (0), .string (ByteArray.mk #[]), .slice none 0 0]) (Sure.none rfl) rfl rfl z90 rfl (fun b59 w60 hx61 he62 hb63 => ?_)
  have hlt_b29_b59 : b29 < b59 := by have := hb40.lt; omega
  have hb64 := hb40.ext hx61 (by simp)
  have hl67 := (Sl.new (b := b59) (by show (1 : Nat) ≠ 0; decide) (hl36.ext (Ext.pre hx42)) (by omega)).ext (Ext.any hx61)
  have hl68 := (Sl.new (b := b59) (by show (1 : Nat) ≠ 0; decide) hl53 (by omega)).ext (Ext.any hx61)
  have hx69 : Ext [b59, b29] _ _ := (Ext.cons hx41).trans (Ext.any hx61)
  have hge_b59_w : w.heap.size ≤ b59 := by have := hx41.size; omega
  refine WL.storeAgg (vs := [.int .u64 ((ys.getD k default).Term), .int .u8 ((ys.getD k default).Kind), .string ((ys.getD k default).Data), v52]) (Sure.none rfl) rfl rfl s90 rfl rfl rfl (by intro u hu; simp only [List.mem_cons, List.not_mem_nil, or_false] at hu; rcases hu with rfl | rfl | rfl | rfl <;> first | rfl | exact Sl.one (by assumption)) hb63 (by show (0 : Nat) + 4 ≤ 4; decide) (fun w70 hs71 hb72 => ?_)
  replace hb72 : Box w70 b59 90 [.int .u64 ((ys.getD k default).Term), .int .u8 ((ys.getD k default).Kind), .string ((ys.getD k default).Data), v52] := hb72
  have hb73 := hb64.ext hs71 (by simp; omega)
  have hx74 : Ext [b59, b29] w w70 := hx69.trans (hs71.mono (by simp))
  have hx75 : Ext [b59, b29] w60 w70 := (hs71.mono (by simp))
  refine WL.nil ?_
  refine WP.sr ?_
  refine WL.m rfl ?_
  refine WL.z (.agg #[.int .u64 ((xs.getD k default).Term), .int .u8 ((xs.getD k default).Kind), .string ((xs.getD k default).Data), v22]) (V.loadAgg (cs := [.int .u64 ((xs.getD k default).Term), .int .u8 ((xs.getD k default).Kind), .string ((xs.getD k default).Data), v22]) rfl a90 rfl (At.box hb73) rfl) ?_
  refine WL.z (.agg #[.int .u64 ((ys.getD k default).Term), .int .u8 ((ys.getD k default).Kind), .string ((ys.getD k default).Data), v52]) (V.loadAgg (cs := [.int .u64 ((ys.getD k default).Term), .int .u8 ((ys.getD k default).Kind), .string ((ys.getD k default).Data), v52]) rfl a90 rfl (At.box hb72) rfl) ?_
  refine WL.c (Sure.none rfl) rfl (C.callv2 (g := .tmp 26) rfl h2_10 (by intro f' e; cases e) cl53 rfl rfl rfl) (Fnc.mono (vote_sameEntry (a := (xs.getD k default)) ⟨v22, rfl, (hl67.ext (Ext.pre hx75)), hk24⟩ (b := (ys.getD k default)) ⟨v52, rfl, (hl68.ext (Ext.pre hx75)), hk54⟩) ?_)
  rintro _ w76 ⟨rfl, hx77⟩
  have hx78 : Ext [b59, b29] w w76 := hx74.trans (Ext.any (Y := [b59, b29]) hx77)
  refine WL.z (.bool (!(sameEntB (xs.getD k default) (ys.getD k default)))) (V.not rfl rfl) ?_
  refine WL.nil ?_
  refine WP.condn (t := sameEntB (xs.getD k default) (ys.getD k default)) rfl (fun hc83 => ?_) (fun hc83 => ?_)
  · refine WP.sr ?_
    refine WL.m rfl ?_
    refine WL.nil ?_
    refine WP.ret ?_
    refine resOf.c1 rfl (v := .bool (false)) rfl ?_
    exact ⟨(bool_eq (by first | (exact (eqB_len (by omega)).symm) | (exact (eqB_true (by omega) (by assumption) (by omega)).symm) | (exact (eqB_false (by omega) (by omega) (by assumption)).symm))), ((hx78).done (geCons hge_b59_w (geCons hge_b29_w geNil)))⟩
  refine WP.skip ?_
  refine WP.region ?_
  refine WL.z (.int .i64 ((k : Int) + 1)) (V.arith (x := .tmp 17) rfl h17_10 rfl rfl (wrap_i64 (by omega) (by omega))) ?_
  refine WL.m rfl ?_
  refine WL.nil ?_
  exact ⟨k + 1, ⟨h0_10, h1_10, h2_10, h14_10, h15_10, h16_10, (int_eq (by omega)), (Ext.drop (Ext.drop hx78 hge_b59_w) hge_b29_w), (by omega), (all_step (by assumption) (by assumption))⟩, (by omega)⟩
end Go.Proofs.Ytbpamkbegggeoaa.T
namespace Go.Proofs.Ytbpamkbegggeoaa.T
open W Go.RowKit
set_option maxRecDepth 100000
set_option maxHeartbeats 400000
theorem vote_sameMsg {w : World} {X : List Nat} {a : MsgD} {c_a : List Value} (h_a : msgR.rd X w c_a a) {b : MsgD} {c_b : List Value} (h_b : msgR.rd X w c_b b) : Fnc Try.prog 48 #[.agg c_a.toArray, .agg c_b.toArray] w (fun v w' => v = .bool (sameMsgB a b) ∧ Ext [] w w') := by
  obtain ⟨v1, v3, rfl, hl2, hl4, hk5⟩ := h_a
  obtain ⟨hin6, hin7, hin8, hin9, hin10, hin11, hin12, hin13, hin14⟩ := (show MsgD.InR a from hk5)
  have hin6 := inK_u8 hin6
  have hin7 := inK_i64 hin7
  have hin8 := inK_i64 hin8
  have hin9 := inK_u64 hin9
  have hin10 := inK_u64 hin10
  have hin11 := inK_u64 hin11
  have hin12 := inK_u64 hin12
  have hin13 := inK_u64 hin13
  have hle15 := hl2.le'
  have hle16 := hl4.le'
  obtain ⟨v17, v19, rfl, hl18, hl20, hk21⟩ := h_b
  obtain ⟨hin22, hin23, hin24, hin25, hin26, hin27, hin28, hin29, hin30⟩ := (show MsgD.InR b from hk21)
  have hin22 := inK_u8 hin22
  have hin23 := inK_i64 hin23
  have hin24 := inK_i64 hin24
  have hin25 := inK_u64 hin25
  have hin26 := inK_u64 hin26
  have hin27 := inK_u64 hin27
  have hin28 := inK_u64 hin28
  have hin29 := inK_u64 hin29
  have hle31 := hl18.le'
  have hle32 := hl20.le'
  refine Fnc.of_WP (n := 87) Try.func48 rfl Try.ntmps48 (by simp) ?_
  intro E hE
  have h0 : E 0 = .agg #[.int .u8 (a.Kind), .int .i64 (a.From), .int .i64 (a.To), .int .u64 (a.Term), .int .u64 (a.Index), .int .u64 (a.LogTerm), .int .u64 (a.Commit), .int .u64 (a.Round), .bool (a.Ok), v1, v3, .string (a.Snap)] := hE 0 (by simp)
  have h1 : E 1 = .agg #[.int .u8 (b.Kind), .int .i64 (b.From), .int .i64 (b.To), .int .u64 (b.Term), .int .u64 (b.Index), .int .u64 (b.LogTerm), .int .u64 (b.Commit), .int .u64 (b.Round), .bool (b.Ok), v17, v19, .string (b.Snap)] := hE 1 (by simp)
  clear hE
  refine WP.sr ?_
  refine WL.box (x := .tmp 0) (cs := [.int .u8 (a.Kind), .int .i64 (a.From), .int .i64 (a.To), .int .u64 (a.Term), .int .u64 (a.Index), .int .u64 (a.LogTerm), .int .u64 (a.Commit), .int .u64 (a.Round), .bool (a.Ok), v1, v3, .string (a.Snap)]) (Sure.none rfl) rfl rfl h0 rfl (fun b33 w34 hx35 he36 hb37 => ?_)
  have hl38 := (Sl.new (b := b33) (by show (4 : Nat) ≠ 0; decide) hl2 (by omega)).ext (Ext.any hx35)
  have hl39 := (Sl.new (b := b33) (by show (1 : Nat) ≠ 0; decide) hl4 (by omega)).ext (Ext.any hx35)
  have hl40 := (Sl.new (b := b33) (by show (4 : Nat) ≠ 0; decide) hl18 (by omega)).ext (Ext.any hx35)
  have hl41 := (Sl.new (b := b33) (by show (1 : Nat) ≠ 0; decide) hl20 (by omega)).ext (Ext.any hx35)
  have hx42 : Ext [b33] _ _ := (Ext.refl _ _).trans (Ext.any hx35)
  have hge_b33_w : w.heap.size ≤ b33 := by have := Nat.le_refl w.heap.size; omega
  refine WL.box (x := .tmp 1) (cs := [.int .u8 (b.Kind), .int .i64 (b.From), .int .i64 (b.To), .int .u64 (b.Term), .int .u64 (b.Index), .int .u64 (b.LogTerm), .int .u64 (b.Commit), .int .u64 (b.Round), .bool (b.Ok), v17, v19, .string (b.Snap)]) (Sure.none rfl) rfl rfl h1 rfl (fun b43 w44 hx45 he46 hb47 => ?_)
  have hlt_b33_b43 : b33 < b43 := by have := hb37.lt; omega
  have hb48 := hb37.ext hx45 (by simp)
  have hl49 := (Sl.new (b := b43) (by show (4 : Nat) ≠ 0; decide) hl38 (by omega)).ext (Ext.any hx45)
  have hl50 := (Sl.new (b := b43) (by show (1 : Nat) ≠ 0; decide) hl39 (by omega)).ext (Ext.any hx45)
  have hl51 := (Sl.new (b := b43) (by show (4 : Nat) ≠ 0; decide) hl40 (by omega)).ext (Ext.any hx45)
  have hl52 := (Sl.new (b := b43) (by show (1 : Nat) ≠ 0; decide) hl41 (by omega)).ext (Ext.any hx45)
  have hx53 : Ext [b43, b33] _ _ := (Ext.cons hx42).trans (Ext.any hx45)
  have hge_b43_w : w.heap.size ≤ b43 := by have := hx42.size; omega
  refine WL.m rfl ?_
  refine WL.nil ?_
  refine WP.sr ?_
  refine WL.f (.int .u8 (a.Kind)) fl32_0 rfl p30 (hb48.cell rfl) ?_
  refine WL.f (.int .u8 (b.Kind)) fl32_0 rfl p30 (hb47.cell rfl) ?_
  refine WL.z (.bool (decide (a.Kind = b.Kind))) (V.cmp rfl rfl rfl rfl) ?_
  refine WL.vbp (c := a.Kind = b.Kind) (Sure.none rfl) rfl (V.move rfl rfl) (fun hc54 => ?_) (fun hc54 => ?_)
  rotate_left
  · refine WL.skips [(10, some false)] [(4, some false)] (kc (some false) rfl kn) (by kernel_rfl) (fun E108 hK109 hE110 => ?_)
    refine WP.ret ?_
    refine resOf.c1 rfl (v := .bool (false)) (hK109 4 (some false) rfl) ?_
    exact ⟨(bool_eq (by first | assumption | grind [sameMsgB])), ((hx53).done (geCons hge_b43_w (geCons hge_b33_w geNil)))⟩
  refine WL.fy (.int .i64 (a.From)) rfl fl32_1 rfl p3 (hb48.cell rfl) ?_
  refine WL.fy (.int .i64 (b.From)) rfl fl32_1 rfl p3 (hb47.cell rfl) ?_
  refine WL.y (.bool (decide (a.From = b.From))) rfl (V.cmp rfl rfl rfl rfl) ?_
  refine WL.k (a := true) rfl rfl ?_
  refine WL.vbp (c := a.From = b.From) (Sure.none rfl) rfl (V.move rfl rfl) (fun hc55 => ?_) (fun hc55 => ?_)
  rotate_left
  · refine WL.skips [(17, some false)] [(4, some false)] (kc (some false) rfl kn) (by kernel_rfl) (fun E105 hK106 hE107 => ?_)
    refine WP.ret ?_
    refine resOf.c1 rfl (v := .bool (false)) (hK106 4 (some false) rfl) ?_
    exact ⟨(bool_eq (by first | assumption | grind [sameMsgB])), ((hx53).done (geCons hge_b43_w (geCons hge_b33_w geNil)))⟩
  refine WL.fy (.int .i64 (a.To)) rfl fl32_2 rfl p3 (hb48.cell rfl) ?_
  refine WL.fy (.int .i64 (b.To)) rfl fl32_2 rfl p3 (hb47.cell rfl) ?_
  refine WL.y (.bool (decide (a.To = b.To))) rfl (V.cmp rfl rfl rfl rfl) ?_
  refine WL.k (a := true) rfl rfl ?_
  refine WL.vbp (c := a.To = b.To) (Sure.none rfl) rfl (V.move rfl rfl) (fun hc56 => ?_) (fun hc56 => ?_)
  rotate_left
  · refine WL.skips [(24, some false)] [(4, some false)] (kc (some false) rfl kn) (by kernel_rfl) (fun E102 hK103 hE104 => ?_)
    refine WP.ret ?_
    refine resOf.c1 rfl (v := .bool (false)) (hK103 4 (some false) rfl) ?_
    exact ⟨(bool_eq (by first | assumption | grind [sameMsgB])), ((hx53).done (geCons hge_b43_w (geCons hge_b33_w geNil)))⟩
  refine WL.fy (.int .u64 (a.Term)) rfl fl32_3 rfl p23 (hb48.cell rfl) ?_
  refine WL.fy (.int .u64 (b.Term)) rfl fl32_3 rfl p23 (hb47.cell rfl) ?_
  refine WL.y (.bool (decide (a.Term = b.Term))) rfl (V.cmp rfl rfl rfl rfl) ?_
  refine WL.k (a := true) rfl rfl ?_
  refine WL.vbp (c := a.Term = b.Term) (Sure.none rfl) rfl (V.move rfl rfl) (fun hc57 => ?_) (fun hc57 => ?_)
  rotate_left
  · refine WL.skips [(31, some false)] [(4, some false)] (kc (some false) rfl kn) (by kernel_rfl) (fun E99 hK100 hE101 => ?_)
    refine WP.ret ?_
    refine resOf.c1 rfl (v := .bool (false)) (hK100 4 (some false) rfl) ?_
    exact ⟨(bool_eq (by first | assumption | grind [sameMsgB])), ((hx53).done (geCons hge_b43_w (geCons hge_b33_w geNil)))⟩
  refine WL.fy (.int .u64 (a.Index)) rfl fl32_4 rfl p23 (hb48.cell rfl) ?_
  refine WL.fy (.int .u64 (b.Index)) rfl fl32_4 rfl p23 (hb47.cell rfl) ?_
  refine WL.y (.bool (decide (a.Index = b.Index))) rfl (V.cmp rfl rfl rfl rfl) ?_
  refine WL.k (a := true) rfl rfl ?_
  refine WL.vbp (c := a.Index = b.Index) (Sure.none rfl) rfl (V.move rfl rfl) (fun hc58 => ?_) (fun hc58 => ?_)
  rotate_left
  · refine WL.skips [(38, some false)] [(4, some false)] (kc (some false) rfl kn) (by kernel_rfl) (fun E96 hK97 hE98 => ?_)
    refine WP.ret ?_
    refine resOf.c1 rfl (v := .bool (false)) (hK97 4 (some false) rfl) ?_
    exact ⟨(bool_eq (by first | assumption | grind [sameMsgB])), ((hx53).done (geCons hge_b43_w (geCons hge_b33_w geNil)))⟩
  refine WL.fy (.int .u64 (a.LogTerm)) rfl fl32_5 rfl p23 (hb48.cell rfl) ?_
  refine WL.fy (.int .u64 (b.LogTerm)) rfl fl32_5 rfl p23 (hb47.cell rfl) ?_
  refine WL.y (.bool (decide (a.LogTerm = b.LogTerm))) rfl (V.cmp rfl rfl rfl rfl) ?_
  refine WL.k (a := true) rfl rfl ?_
  refine WL.vbp (c := a.LogTerm = b.LogTerm) (Sure.none rfl) rfl (V.move rfl rfl) (fun hc59 => ?_) (fun hc59 => ?_)
  rotate_left
  · refine WL.skips [(45, some false)] [(4, some false)] (kc (some false) rfl kn) (by kernel_rfl) (fun E93 hK94 hE95 => ?_)
    refine WP.ret ?_
    refine resOf.c1 rfl (v := .bool (false)) (hK94 4 (some false) rfl) ?_
    exact ⟨(bool_eq (by first | assumption | grind [sameMsgB])), ((hx53).done (geCons hge_b43_w (geCons hge_b33_w geNil)))⟩
  refine WL.fy (.int .u64 (a.Commit)) rfl fl32_6 rfl p23 (hb48.cell rfl) ?_
  refine WL.fy (.int .u64 (b.Commit)) rfl fl32_6 rfl p23 (hb47.cell rfl) ?_
  refine WL.y (.bool (decide (a.Commit = b.Commit))) rfl (V.cmp rfl rfl rfl rfl) ?_
  refine WL.k (a := true) rfl rfl ?_
  refine WL.vbp (c := a.Commit = b.Commit) (Sure.none rfl) rfl (V.move rfl rfl) (fun hc60 => ?_) (fun hc60 => ?_)
  rotate_left
  · refine WL.skips [(52, some false)] [(4, some false)] (kc (some false) rfl kn) (by kernel_rfl) (fun E90 hK91 hE92 => ?_)
    refine WP.ret ?_
    refine resOf.c1 rfl (v := .bool (false)) (hK91 4 (some false) rfl) ?_
    exact ⟨(bool_eq (by first | assumption | grind [sameMsgB])), ((hx53).done (geCons hge_b43_w (geCons hge_b33_w geNil)))⟩
  refine WL.fy (.int .u64 (a.Round)) rfl fl32_7 rfl p23 (hb48.cell rfl) ?_
  refine WL.fy (.int .u64 (b.Round)) rfl fl32_7 rfl p23 (hb47.cell rfl) ?_
  refine WL.y (.bool (decide (a.Round = b.Round))) rfl (V.cmp rfl rfl rfl rfl) ?_
  refine WL.k (a := true) rfl rfl ?_
  refine WL.vbp (c := a.Round = b.Round) (Sure.none rfl) rfl (V.move rfl rfl) (fun hc61 => ?_) (fun hc61 => ?_)
  rotate_left
  · refine WL.skips [(59, some false)] [(4, some false)] (kc (some false) rfl kn) (by kernel_rfl) (fun E87 hK88 hE89 => ?_)
    refine WP.ret ?_
    refine resOf.c1 rfl (v := .bool (false)) (hK88 4 (some false) rfl) ?_
    exact ⟨(bool_eq (by first | assumption | grind [sameMsgB])), ((hx53).done (geCons hge_b43_w (geCons hge_b33_w geNil)))⟩
  refine WL.fy (.bool (a.Ok)) rfl fl32_8 rfl p4 (hb48.cell rfl) ?_
  refine WL.fy (.bool (b.Ok)) rfl fl32_8 rfl p4 (hb47.cell rfl) ?_
  refine WL.y (.bool (a.Ok == b.Ok)) rfl (V.bcmpEq rfl u4 rfl rfl) ?_
  refine WL.k (a := true) rfl rfl ?_
  refine WL.vb (c := a.Ok == b.Ok) (Sure.none rfl) rfl (V.move rfl rfl) (fun hc62 => ?_) (fun hc62 => ?_)
  rotate_left
  · refine WL.skips [(66, some false)] [(4, some false)] (kc (some false) rfl kn) (by kernel_rfl) (fun E84 hK85 hE86 => ?_)
    refine WP.ret ?_
    refine resOf.c1 rfl (v := .bool (false)) (hK85 4 (some false) rfl) ?_
    exact ⟨(bool_eq (by first | assumption | grind [sameMsgB])), ((hx53).done (geCons hge_b43_w (geCons hge_b33_w geNil)))⟩
  refine WL.fy (v1) rfl fl32_9 rfl p25 (hb48.cell rfl) ?_
  refine WL.fy (v17) rfl fl32_9 rfl p25 (hb47.cell rfl) ?_
  refine WL.c (Sure.yes rfl rfl rfl) rfl (C.call3 rfl cl52 rfl rfl rfl) (Fnc.mono (sl_equalFunc_entry hl49 hl51) ?_)
  rintro _ w63 ⟨rfl, hx64⟩
  have hx65 : Ext [b43, b33] w w63 := hx53.trans (Ext.any (Y := [b43, b33]) hx64)
  have hx66 : Ext [b43, b33] w44 w63 := (Ext.any (Y := [b43, b33]) hx64)
  have hb67 := hb48.ext hx64 (by simp)
  have hb68 := hb47.ext hx64 (by simp)
  refine WL.k (a := true) rfl rfl ?_
  refine WL.vb (c := eqB sameEntB a.Entries b.Entries) (Sure.none rfl) rfl (V.move rfl rfl) (fun hc69 => ?_) (fun hc69 => ?_)
  rotate_left
  · refine WL.skips [(73, some false)] [(4, some false)] (kc (some false) rfl kn) (by kernel_rfl) (fun E81 hK82 hE83 => ?_)
    refine WP.ret ?_
    refine resOf.c1 rfl (v := .bool (false)) (hK82 4 (some false) rfl) ?_
    exact ⟨(bool_eq (by first | assumption | grind [sameMsgB])), ((hx65).done (geCons hge_b43_w (geCons hge_b33_w geNil)))⟩
  refine WL.fy (v3) rfl fl32_10 rfl p22 (hb67.cell rfl) ?_
  refine WL.fy (v19) rfl fl32_10 rfl p22 (hb68.cell rfl) ?_
  refine WL.c (Sure.yes rfl rfl rfl) rfl (C.call2 rfl cl51 rfl rfl) (Fnc.mono (sl_equal_int (hl50.ext (Ext.pre hx66)) (hl52.ext (Ext.pre hx66))) ?_)
  rintro _ w70 ⟨rfl, hx71⟩
  have hx72 : Ext [b43, b33] w w70 := hx65.trans (Ext.any (Y := [b43, b33]) hx71)
  have hb75 := hb67.ext hx71 (by simp)
  have hb76 := hb68.ext hx71 (by simp)
  refine WL.k (a := true) rfl rfl ?_
  refine WL.vb (c := eqB ieq a.Members b.Members) (Sure.none rfl) rfl (V.move rfl rfl) (fun hc77 => ?_) (fun hc77 => ?_)
  rotate_left
  · refine WL.skips [(80, some false)] [(4, some false)] (kc (some false) rfl kn) (by kernel_rfl) (fun E78 hK79 hE80 => ?_)
    refine WP.ret ?_
    refine resOf.c1 rfl (v := .bool (false)) (hK79 4 (some false) rfl) ?_
    exact ⟨(bool_eq (by first | assumption | grind [sameMsgB])), ((hx72).done (geCons hge_b43_w (geCons hge_b33_w geNil)))⟩
  refine WL.fy (.string (a.Snap)) rfl fl32_11 rfl p9 (hb75.cell rfl) ?_
  refine WL.fy (.string (b.Snap)) rfl fl32_11 rfl p9 (hb76.cell rfl) ?_
  refine WL.y (.bool (seqB a.Snap b.Snap)) rfl (V.scmp rfl rfl rfl rfl) ?_
  refine WL.k (a := true) rfl rfl ?_
  refine WL.m rfl ?_
  refine WL.nil ?_
  refine WP.ret ?_
  refine resOf.c1 rfl (v := .bool (seqB a.Snap b.Snap)) rfl ?_
  exact ⟨(bool_eq (by first | assumption | grind [sameMsgB])), ((hx72).done (geCons hge_b43_w (geCons hge_b33_w geNil)))⟩
end Go.Proofs.Ytbpamkbegggeoaa.T
namespace Go.Proofs.Ytbpamkbegggeoaa.T
open W Go.RowKit
set_option maxRecDepth 100000
set_option maxHeartbeats 400000
theorem ref_SameMsg {w : World} {X : List Nat} {a : MsgD} {c_a : List Value} (h_a : msgR.rd X w c_a a) {b : MsgD} {c_b : List Value} (h_b : msgR.rd X w c_b b) : Fnc Try.prog 25 #[.agg c_a.toArray, .agg c_b.toArray] w (fun v w' => v = .bool (sameMsgB a b) ∧ Ext [] w w') := by
  obtain ⟨v1, v3, rfl, hl2, hl4, hk5⟩ := h_a
  obtain ⟨hin6, hin7, hin8, hin9, hin10, hin11, hin12, hin13, hin14⟩ := (show MsgD.InR a from hk5)
  have hin6 := inK_u8 hin6
  have hin7 := inK_i64 hin7
  have hin8 := inK_i64 hin8
  have hin9 := inK_u64 hin9
  have hin10 := inK_u64 hin10
  have hin11 := inK_u64 hin11
  have hin12 := inK_u64 hin12
  have hin13 := inK_u64 hin13
  have hle15 := hl2.le'
  have hle16 := hl4.le'
  obtain ⟨v17, v19, rfl, hl18, hl20, hk21⟩ := h_b
  obtain ⟨hin22, hin23, hin24, hin25, hin26, hin27, hin28, hin29, hin30⟩ := (show MsgD.InR b from hk21)
  have hin22 := inK_u8 hin22
  have hin23 := inK_i64 hin23
  have hin24 := inK_i64 hin24
  have hin25 := inK_u64 hin25
  have hin26 := inK_u64 hin26
  have hin27 := inK_u64 hin27
  have hin28 := inK_u64 hin28
  have hin29 := inK_u64 hin29
  have hle31 := hl18.le'
  have hle32 := hl20.le'
  refine Fnc.of_WP (n := 87) Try.func25 rfl Try.ntmps25 (by simp) ?_
  intro E hE
  have h0 : E 0 = .agg #[.int .u8 (a.Kind), .int .i64 (a.From), .int .i64 (a.To), .int .u64 (a.Term), .int .u64 (a.Index), .int .u64 (a.LogTerm), .int .u64 (a.Commit), .int .u64 (a.Round), .bool (a.Ok), v1, v3, .string (a.Snap)] := hE 0 (by simp)
  have h1 : E 1 = .agg #[.int .u8 (b.Kind), .int .i64 (b.From), .int .i64 (b.To), .int .u64 (b.Term), .int .u64 (b.Index), .int .u64 (b.LogTerm), .int .u64 (b.Commit), .int .u64 (b.Round), .bool (b.Ok), v17, v19, .string (b.Snap)] := hE 1 (by simp)
  clear hE
  refine WP.sr ?_
  refine WL.box (x := .tmp 0) (cs := [.int .u8 (a.Kind), .int .i64 (a.From), .int .i64 (a.To), .int .u64 (a.Term), .int .u64 (a.Index), .int .u64 (a.LogTerm), .int .u64 (a.Commit), .int .u64 (a.Round), .bool (a.Ok), v1, v3, .string (a.Snap)]) (Sure.none rfl) rfl rfl h0 rfl (fun b33 w34 hx35 he36 hb37 => ?_)
  have hl38 := (Sl.new (b := b33) (by show (4 : Nat) ≠ 0; decide) hl2 (by omega)).ext (Ext.any hx35)
  have hl39 := (Sl.new (b := b33) (by show (1 : Nat) ≠ 0; decide) hl4 (by omega)).ext (Ext.any hx35)
  have hl40 := (Sl.new (b := b33) (by show (4 : Nat) ≠ 0; decide) hl18 (by omega)).ext (Ext.any hx35)
  have hl41 := (Sl.new (b := b33) (by show (1 : Nat) ≠ 0; decide) hl20 (by omega)).ext (Ext.any hx35)
  have hx42 : Ext [b33] _ _ := (Ext.refl _ _).trans (Ext.any hx35)
  have hge_b33_w : w.heap.size ≤ b33 := by have := Nat.le_refl w.heap.size; omega
  refine WL.box (x := .tmp 1) (cs := [.int .u8 (b.Kind), .int .i64 (b.From), .int .i64 (b.To), .int .u64 (b.Term), .int .u64 (b.Index), .int .u64 (b.LogTerm), .int .u64 (b.Commit), .int .u64 (b.Round), .bool (b.Ok), v17, v19, .string (b.Snap)]) (Sure.none rfl) rfl rfl h1 rfl (fun b43 w44 hx45 he46 hb47 => ?_)
  have hlt_b33_b43 : b33 < b43 := by have := hb37.lt; omega
  have hb48 := hb37.ext hx45 (by simp)
  have hl49 := (Sl.new (b := b43) (by show (4 : Nat) ≠ 0; decide) hl38 (by omega)).ext (Ext.any hx45)
  have hl50 := (Sl.new (b := b43) (by show (1 : Nat) ≠ 0; decide) hl39 (by omega)).ext (Ext.any hx45)
  have hl51 := (Sl.new (b := b43) (by show (4 : Nat) ≠ 0; decide) hl40 (by omega)).ext (Ext.any hx45)
  have hl52 := (Sl.new (b := b43) (by show (1 : Nat) ≠ 0; decide) hl41 (by omega)).ext (Ext.any hx45)
  have hx53 : Ext [b43, b33] _ _ := (Ext.cons hx42).trans (Ext.any hx45)
  have hge_b43_w : w.heap.size ≤ b43 := by have := hx42.size; omega
  refine WL.m rfl ?_
  refine WL.nil ?_
  refine WP.sr ?_
  refine WL.f (.int .u8 (a.Kind)) fl32_0 rfl p30 (hb48.cell rfl) ?_
  refine WL.f (.int .u8 (b.Kind)) fl32_0 rfl p30 (hb47.cell rfl) ?_
  refine WL.z (.bool (decide (a.Kind = b.Kind))) (V.cmp rfl rfl rfl rfl) ?_
  refine WL.vbp (c := a.Kind = b.Kind) (Sure.none rfl) rfl (V.move rfl rfl) (fun hc54 => ?_) (fun hc54 => ?_)
  rotate_left
  · refine WL.skips [(10, some false)] [(4, some false)] (kc (some false) rfl kn) (by kernel_rfl) (fun E108 hK109 hE110 => ?_)
    refine WP.ret ?_
    refine resOf.c1 rfl (v := .bool (false)) (hK109 4 (some false) rfl) ?_
    exact ⟨(bool_eq (by first | assumption | grind [sameMsgB])), ((hx53).done (geCons hge_b43_w (geCons hge_b33_w geNil)))⟩
  refine WL.fy (.int .i64 (a.From)) rfl fl32_1 rfl p3 (hb48.cell rfl) ?_
  refine WL.fy (.int .i64 (b.From)) rfl fl32_1 rfl p3 (hb47.cell rfl) ?_
  refine WL.y (.bool (decide (a.From = b.From))) rfl (V.cmp rfl rfl rfl rfl) ?_
  refine WL.k (a := true) rfl rfl ?_
  refine WL.vbp (c := a.From = b.From) (Sure.none rfl) rfl (V.move rfl rfl) (fun hc55 => ?_) (fun hc55 => ?_)
  rotate_left
  · refine WL.skips [(17, some false)] [(4, some false)] (kc (some false) rfl kn) (by kernel_rfl) (fun E105 hK106 hE107 => ?_)
    refine WP.ret ?_
    refine resOf.c1 rfl (v := .bool (false)) (hK106 4 (some false) rfl) ?_
    exact ⟨(bool_eq (by first | assumption | grind [sameMsgB])), ((hx53).done (geCons hge_b43_w (geCons hge_b33_w geNil)))⟩
  refine WL.fy (.int .i64 (a.To)) rfl fl32_2 rfl p3 (hb48.cell rfl) ?_
  refine WL.fy (.int .i64 (b.To)) rfl fl32_2 rfl p3 (hb47.cell rfl) ?_
  refine WL.y (.bool (decide (a.To = b.To))) rfl (V.cmp rfl rfl rfl rfl) ?_
  refine WL.k (a := true) rfl rfl ?_
  refine WL.vbp (c := a.To = b.To) (Sure.none rfl) rfl (V.move rfl rfl) (fun hc56 => ?_) (fun hc56 => ?_)
  rotate_left
  · refine WL.skips [(24, some false)] [(4, some false)] (kc (some false) rfl kn) (by kernel_rfl) (fun E102 hK103 hE104 => ?_)
    refine WP.ret ?_
    refine resOf.c1 rfl (v := .bool (false)) (hK103 4 (some false) rfl) ?_
    exact ⟨(bool_eq (by first | assumption | grind [sameMsgB])), ((hx53).done (geCons hge_b43_w (geCons hge_b33_w geNil)))⟩
  refine WL.fy (.int .u64 (a.Term)) rfl fl32_3 rfl p23 (hb48.cell rfl) ?_
  refine WL.fy (.int .u64 (b.Term)) rfl fl32_3 rfl p23 (hb47.cell rfl) ?_
  refine WL.y (.bool (decide (a.Term = b.Term))) rfl (V.cmp rfl rfl rfl rfl) ?_
  refine WL.k (a := true) rfl rfl ?_
  refine WL.vbp (c := a.Term = b.Term) (Sure.none rfl) rfl (V.move rfl rfl) (fun hc57 => ?_) (fun hc57 => ?_)
  rotate_left
  · refine WL.skips [(31, some false)] [(4, some false)] (kc (some false) rfl kn) (by kernel_rfl) (fun E99 hK100 hE101 => ?_)
    refine WP.ret ?_
    refine resOf.c1 rfl (v := .bool (false)) (hK100 4 (some false) rfl) ?_
    exact ⟨(bool_eq (by first | assumption | grind [sameMsgB])), ((hx53).done (geCons hge_b43_w (geCons hge_b33_w geNil)))⟩
  refine WL.fy (.int .u64 (a.Index)) rfl fl32_4 rfl p23 (hb48.cell rfl) ?_
  refine WL.fy (.int .u64 (b.Index)) rfl fl32_4 rfl p23 (hb47.cell rfl) ?_
  refine WL.y (.bool (decide (a.Index = b.Index))) rfl (V.cmp rfl rfl rfl rfl) ?_
  refine WL.k (a := true) rfl rfl ?_
  refine WL.vbp (c := a.Index = b.Index) (Sure.none rfl) rfl (V.move rfl rfl) (fun hc58 => ?_) (fun hc58 => ?_)
  rotate_left
  · refine WL.skips [(38, some false)] [(4, some false)] (kc (some false) rfl kn) (by kernel_rfl) (fun E96 hK97 hE98 => ?_)
    refine WP.ret ?_
    refine resOf.c1 rfl (v := .bool (false)) (hK97 4 (some false) rfl) ?_
    exact ⟨(bool_eq (by first | assumption | grind [sameMsgB])), ((hx53).done (geCons hge_b43_w (geCons hge_b33_w geNil)))⟩
  refine WL.fy (.int .u64 (a.LogTerm)) rfl fl32_5 rfl p23 (hb48.cell rfl) ?_
  refine WL.fy (.int .u64 (b.LogTerm)) rfl fl32_5 rfl p23 (hb47.cell rfl) ?_
  refine WL.y (.bool (decide (a.LogTerm = b.LogTerm))) rfl (V.cmp rfl rfl rfl rfl) ?_
  refine WL.k (a := true) rfl rfl ?_
  refine WL.vbp (c := a.LogTerm = b.LogTerm) (Sure.none rfl) rfl (V.move rfl rfl) (fun hc59 => ?_) (fun hc59 => ?_)
  rotate_left
  · refine WL.skips [(45, some false)] [(4, some false)] (kc (some false) rfl kn) (by kernel_rfl) (fun E93 hK94 hE95 => ?_)
    refine WP.ret ?_
    refine resOf.c1 rfl (v := .bool (false)) (hK94 4 (some false) rfl) ?_
    exact ⟨(bool_eq (by first | assumption | grind [sameMsgB])), ((hx53).done (geCons hge_b43_w (geCons hge_b33_w geNil)))⟩
  refine WL.fy (.int .u64 (a.Commit)) rfl fl32_6 rfl p23 (hb48.cell rfl) ?_
  refine WL.fy (.int .u64 (b.Commit)) rfl fl32_6 rfl p23 (hb47.cell rfl) ?_
  refine WL.y (.bool (decide (a.Commit = b.Commit))) rfl (V.cmp rfl rfl rfl rfl) ?_
  refine WL.k (a := true) rfl rfl ?_
  refine WL.vbp (c := a.Commit = b.Commit) (Sure.none rfl) rfl (V.move rfl rfl) (fun hc60 => ?_) (fun hc60 => ?_)
  rotate_left
  · refine WL.skips [(52, some false)] [(4, some false)] (kc (some false) rfl kn) (by kernel_rfl) (fun E90 hK91 hE92 => ?_)
    refine WP.ret ?_
    refine resOf.c1 rfl (v := .bool (false)) (hK91 4 (some false) rfl) ?_
    exact ⟨(bool_eq (by first | assumption | grind [sameMsgB])), ((hx53).done (geCons hge_b43_w (geCons hge_b33_w geNil)))⟩
  refine WL.fy (.int .u64 (a.Round)) rfl fl32_7 rfl p23 (hb48.cell rfl) ?_
  refine WL.fy (.int .u64 (b.Round)) rfl fl32_7 rfl p23 (hb47.cell rfl) ?_
  refine WL.y (.bool (decide (a.Round = b.Round))) rfl (V.cmp rfl rfl rfl rfl) ?_
  refine WL.k (a := true) rfl rfl ?_
  refine WL.vbp (c := a.Round = b.Round) (Sure.none rfl) rfl (V.move rfl rfl) (fun hc61 => ?_) (fun hc61 => ?_)
  rotate_left
  · refine WL.skips [(59, some false)] [(4, some false)] (kc (some false) rfl kn) (by kernel_rfl) (fun E87 hK88 hE89 => ?_)
    refine WP.ret ?_
    refine resOf.c1 rfl (v := .bool (false)) (hK88 4 (some false) rfl) ?_
    exact ⟨(bool_eq (by first | assumption | grind [sameMsgB])), ((hx53).done (geCons hge_b43_w (geCons hge_b33_w geNil)))⟩
  refine WL.fy (.bool (a.Ok)) rfl fl32_8 rfl p4 (hb48.cell rfl) ?_
  refine WL.fy (.bool (b.Ok)) rfl fl32_8 rfl p4 (hb47.cell rfl) ?_
  refine WL.y (.bool (a.Ok == b.Ok)) rfl (V.bcmpEq rfl u4 rfl rfl) ?_
  refine WL.k (a := true) rfl rfl ?_
  refine WL.vb (c := a.Ok == b.Ok) (Sure.none rfl) rfl (V.move rfl rfl) (fun hc62 => ?_) (fun hc62 => ?_)
  rotate_left
  · refine WL.skips [(66, some false)] [(4, some false)] (kc (some false) rfl kn) (by kernel_rfl) (fun E84 hK85 hE86 => ?_)
    refine WP.ret ?_
    refine resOf.c1 rfl (v := .bool (false)) (hK85 4 (some false) rfl) ?_
    exact ⟨(bool_eq (by first | assumption | grind [sameMsgB])), ((hx53).done (geCons hge_b43_w (geCons hge_b33_w geNil)))⟩
  refine WL.fy (v1) rfl fl32_9 rfl p25 (hb48.cell rfl) ?_
  refine WL.fy (v17) rfl fl32_9 rfl p25 (hb47.cell rfl) ?_
  refine WL.c (Sure.yes rfl rfl rfl) rfl (C.call2 rfl cl50 rfl rfl) (Fnc.mono (ref_SameEntries hl49 hl51) ?_)
  rintro _ w63 ⟨rfl, hx64⟩
  have hx65 : Ext [b43, b33] w w63 := hx53.trans (Ext.any (Y := [b43, b33]) hx64)
  have hx66 : Ext [b43, b33] w44 w63 := (Ext.any (Y := [b43, b33]) hx64)
  have hb67 := hb48.ext hx64 (by simp)
  have hb68 := hb47.ext hx64 (by simp)
  refine WL.k (a := true) rfl rfl ?_
  refine WL.vb (c := eqB sameEntB a.Entries b.Entries) (Sure.none rfl) rfl (V.move rfl rfl) (fun hc69 => ?_) (fun hc69 => ?_)
  rotate_left
  · refine WL.skips [(73, some false)] [(4, some false)] (kc (some false) rfl kn) (by kernel_rfl) (fun E81 hK82 hE83 => ?_)
    refine WP.ret ?_
    refine resOf.c1 rfl (v := .bool (false)) (hK82 4 (some false) rfl) ?_
    exact ⟨(bool_eq (by first | assumption | grind [sameMsgB])), ((hx65).done (geCons hge_b43_w (geCons hge_b33_w geNil)))⟩
  refine WL.fy (v3) rfl fl32_10 rfl p22 (hb67.cell rfl) ?_
  refine WL.fy (v19) rfl fl32_10 rfl p22 (hb68.cell rfl) ?_
  refine WL.c (Sure.yes rfl rfl rfl) rfl (C.call2 rfl cl40 rfl rfl) (Fnc.mono (ref_sameInts (hl50.ext (Ext.pre hx66)) (hl52.ext (Ext.pre hx66))) ?_)
  rintro _ w70 ⟨rfl, hx71⟩
  have hx72 : Ext [b43, b33] w w70 := hx65.trans (Ext.any (Y := [b43, b33]) hx71)
  have hb75 := hb67.ext hx71 (by simp)
  have hb76 := hb68.ext hx71 (by simp)
  refine WL.k (a := true) rfl rfl ?_
  refine WL.vb (c := eqB ieq a.Members b.Members) (Sure.none rfl) rfl (V.move rfl rfl) (fun hc77 => ?_) (fun hc77 => ?_)
  rotate_left
  · refine WL.skips [(80, some false)] [(4, some false)] (kc (some false) rfl kn) (by kernel_rfl) (fun E78 hK79 hE80 => ?_)
    refine WP.ret ?_
    refine resOf.c1 rfl (v := .bool (false)) (hK79 4 (some false) rfl) ?_
    exact ⟨(bool_eq (by first | assumption | grind [sameMsgB])), ((hx72).done (geCons hge_b43_w (geCons hge_b33_w geNil)))⟩
  refine WL.fy (.string (a.Snap)) rfl fl32_11 rfl p9 (hb75.cell rfl) ?_
  refine WL.fy (.string (b.Snap)) rfl fl32_11 rfl p9 (hb76.cell rfl) ?_
  refine WL.y (.bool (seqB a.Snap b.Snap)) rfl (V.scmp rfl rfl rfl rfl) ?_
  refine WL.k (a := true) rfl rfl ?_
  refine WL.m rfl ?_
  refine WL.nil ?_
  refine WP.ret ?_
  refine resOf.c1 rfl (v := .bool (seqB a.Snap b.Snap)) rfl ?_
  exact ⟨(bool_eq (by first | assumption | grind [sameMsgB])), ((hx72).done (geCons hge_b43_w (geCons hge_b33_w geNil)))⟩
end Go.Proofs.Ytbpamkbegggeoaa.T
