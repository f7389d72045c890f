import Derived.Test.YtkcnljgennehaaaV26
import Derived.Test.YtkcnljgennehaaaVA
import Derived.Test.YtkcnljgennehaaaP3
namespace Go.Proofs.Ytkcnljgennehaaa.T
open W Go.RowKit
set_option maxRecDepth 100000
set_option maxHeartbeats 400000

def pairB (M m a b : List Int) (i j : Nat) : Bool := ieq (a.getD i 0) (b.getD j 0) && (hasB M (a.getD i 0) && hasB m (a.getD i 0))
theorem more_t {M : List Int} {id : Int} {k : Nat} (hk : M.length ≤ k) (h : (((M.take k).filter (fun m => !ieq m id)).length : Int) = (M.length : Int)) : (M.take k).filter (fun m => !ieq m id) ++ [id] = moreOf M id := by
  rw [List.take_of_length_le hk] at h ⊢
  have h' : (moreF M id M.length).length = M.length := by rw [moreF, List.take_length]; omega
  rw [moreOf, if_pos h', moreF, List.take_length]
theorem more_f {M : List Int} {id : Int} {k : Nat} (hk : M.length ≤ k) (h : ¬ (((M.take k).filter (fun m => !ieq m id)).length : Int) = (M.length : Int)) : (M.take k).filter (fun m => !ieq m id) = moreOf M id := by
  rw [List.take_of_length_le hk] at h ⊢
  have h' : ¬ (moreF M id M.length).length = M.length := by rw [moreF, List.take_length]; omega
  rw [moreOf, if_neg h', moreF, List.take_length]
theorem law_z {b : Bool} (h : ¬ ((if b = true then (0 : Int) else 2) ≠ 0)) : b = true := by cases b <;> simp_all
theorem may_ids {n wait : Int} {l : List Int} (h : vmayB (newP n wait l) = true) : idsB l = true := by
  simp only [vmayB, vM2, membersB, Bool.and_eq_true] at h
  exact h.2.1.2.2.2
theorem seats_end {M m a b : List Int} {id : Int} {k : Nat} (hM : idsB M = true) (hm : m = moreOf M id) (ha : majB M a = true) (hb : majB m b = true) (h : ∀ j, j < k → (fun i => allB b.length (fun j => !pairB M m a b i j)) j = true) (hk : a.length ≤ k) : False := by
  subst hm
  obtain ⟨x, hxa, hxb, h1, h2⟩ := common hM ha hb
  obtain ⟨i, hi⟩ := List.mem_iff_getElem?.1 hxa
  obtain ⟨j, hj⟩ := List.mem_iff_getElem?.1 hxb
  have hi' : i < a.length := (List.getElem?_eq_some_iff.1 hi).1
  have hj' : j < b.length := (List.getElem?_eq_some_iff.1 hj).1
  have := allB_iff.1 (h i (by omega)) j hj'
  simp only [pairB, List.getD_eq_getElem?_getD, hi, hj, Option.getD_some, h1, h2, ieq, decide_true, Bool.and_self, Bool.not_true] at this
  cases this

set_option maxHeartbeats 16000000 in
theorem law_SeatsCommon {w : World} {X : List Nat} {v_members : Value} {members : List Int} (h_members : Sl (intR .i64) X w v_members members) (id : Int) {v_a : Value} {a : List Int} (h_a : Sl (intR .i64) X w v_a a) {v_b : Value} {b : List Int} (h_b : Sl (intR .i64) X w v_b b) (hX : ∀ x ∈ X, x < w.heap.size) : Fnc Try.prog 3 #[v_members, .int .i64 (id), v_a, v_b] w (fun v w' => v = .bool (true) ∧ Ext [] w w') := by
  have hle_members := h_members.le'
  have hle_a := h_a.le'
  have hle_b := h_b.le'
  refine Fnc.of_WP (n := 133) Try.func3 rfl Try.ntmps3 (by simp) ?_
  intro E hE
  have h0 : E 0 = v_members := hE 0 (by simp)
  have h1 : E 1 = .int .i64 (id) := hE 1 (by simp)
  have h2 : E 2 = v_a := hE 2 (by simp)
  have h3 : E 3 = v_b := hE 3 (by simp)
  clear hE
  refine WP.sr ?_
  refine WL.m rfl ?_
  refine WL.nil ?_
  refine WP.seq ?_
  refine WP.sr ?_
  refine WL.m rfl ?_
  obtain ⟨a1, c2, hv3⟩ := h_members.shape
  refine WL.z (.int .i64 (((members).length : Int))) (V.lenSlice (x := .tmp 15) rfl rfl u22 (Eq.trans (b := v_members) h0 hv3)) ?_
  refine WL.z (.bool (decide (((members).length : Int) > 64))) (V.cmp rfl rfl rfl rfl) ?_
  refine WL.vbp (c := ((members).length : Int) > 64) (Sure.none rfl) rfl (V.move rfl rfl) (fun hc4 => ?_) (fun hc4 => ?_)
  · refine WL.skips [(18, some true)] [(27, some true)] (kc (some true) rfl kn) (by kernel_rfl) (fun E5 hK6 hE7 => ?_)
    refine WP.cond_true (hK6 27 (some true) rfl) ?_
    refine WP.sr ?_
    refine WL.c (Sure.none rfl) rfl (C.call0 rfl cl4 ) (Fnc.mono (law_alive ) ?_)
    rintro _ w8 ⟨rfl, hx9⟩
    have hx10 : Ext [] w w8 := hx9
    refine WL.m rfl ?_
    refine WL.nil ?_
    refine WP.ret ?_
    refine resOf.c1 rfl (v := .bool (true)) rfl ?_
    exact ⟨(bool_eq (by first | rfl | exact (seats_end hMids hmore (by assumption) (by assumption) (by assumption) (by omega)).elim)), hx10⟩
  refine WL.my rfl rfl ?_
  obtain ⟨a11, c12, hv13⟩ := h_a.shape
  refine WL.y (.int .i64 (((a).length : Int))) rfl (V.lenSlice (x := .tmp 19) rfl rfl u22 (Eq.trans (b := v_a) h2 hv13)) ?_
  refine WL.y (.bool (decide (((a).length : Int) > 100))) rfl (V.cmp rfl rfl rfl rfl) ?_
  refine WL.k (a := false) rfl rfl ?_
  refine WL.vbp (c := ((a).length : Int) > 100) (Sure.none rfl) rfl (V.move rfl rfl) (fun hc14 => ?_) (fun hc14 => ?_)
  · refine WL.skips [(23, some true)] [(27, some true)] (kc (some true) rfl kn) (by kernel_rfl) (fun E15 hK16 hE17 => ?_)
    refine WP.cond_true (hK16 27 (some true) rfl) ?_
    refine WP.sr ?_
    refine WL.c (Sure.none rfl) rfl (C.call0 rfl cl4 ) (Fnc.mono (law_alive ) ?_)
    rintro _ w18 ⟨rfl, hx19⟩
    have hx20 : Ext [] w w18 := hx19
    refine WL.m rfl ?_
    refine WL.nil ?_
    refine WP.ret ?_
    refine resOf.c1 rfl (v := .bool (true)) rfl ?_
    exact ⟨(bool_eq (by first | rfl | exact (seats_end hMids hmore (by assumption) (by assumption) (by assumption) (by omega)).elim)), hx20⟩
  refine WL.my rfl rfl ?_
  obtain ⟨a21, c22, hv23⟩ := h_b.shape
  refine WL.y (.int .i64 (((b).length : Int))) rfl (V.lenSlice (x := .tmp 24) rfl rfl u22 (Eq.trans (b := v_b) h3 hv23)) ?_
  refine WL.y (.bool (decide (((b).length : Int) > 100))) rfl (V.cmp rfl rfl rfl rfl) ?_
  refine WL.k (a := false) rfl rfl ?_
  refine WL.nil ?_
  refine WP.condp (t := ((b).length : Int) > 100) rfl (fun hc24 => ?_) (fun hc24 => ?_)
  · refine WP.sr ?_
    refine WL.c (Sure.none rfl) rfl (C.call0 rfl cl4 ) (Fnc.mono (law_alive ) ?_)
    rintro _ w25 ⟨rfl, hx26⟩
    have hx27 : Ext [] w w25 := hx26
    refine WL.m rfl ?_
    refine WL.nil ?_
    refine WP.ret ?_
    refine resOf.c1 rfl (v := .bool (true)) rfl ?_
    exact ⟨(bool_eq (by first | rfl | exact (seats_end hMids hmore (by assumption) (by assumption) (by assumption) (by omega)).elim)), hx27⟩
  refine WP.skip ?_
  refine WP.sr ?_
  refine WL.m rfl ?_
  refine WL.c (Sure.none rfl) rfl (C.call3 (z := .tmp 30) rfl cl5 rfl rfl h0) (Fnc.mono (vote_New 1 1 h_members (by omega) (by omega) (by omega) (X := X) hX) ?_)
  rintro _ w28 ⟨cs30, rfl, hr31, hx29⟩
  have hx32 : Ext [] w w28 := hx29
  obtain ⟨v33, v35, v37, v39, v41, v43, rfl, hl34, hl36, hl38, hl40, hl42, hl44, hk45⟩ := hr31
  obtain ⟨hin46, hin47, hin48, hin49, hin50, hin51, hin52, hin53, hin54, hin55, hin56, hin57⟩ := (show PeerD.InR (newR 1 1 members) from hk45)
  have hin46 := inK_i64 hin46
  have hin47 := inK_u64 hin47
  have hin48 := inK_i64 hin48
  have hin49 := inK_u8 hin49
  have hin50 := inK_i64 hin50
  have hin51 := inK_u64 hin51
  have hin52 := inK_u64 hin52
  have hin54 := inK_u64 hin54
  have hin55 := inK_i64 hin55
  have hin56 := inK_i64 hin56
  have hin57 := inK_u64 hin57
  have hle58 := hl34.le'
  have hle59 := hl36.le'
  have hle60 := hl38.le'
  have hle61 := hl40.le'
  have hle62 := hl42.le'
  have hle63 := hl44.le'
  refine WL.m rfl ?_
  refine WL.z (.agg #[.int .i64 ((newR 1 1 members).Id), v33, .int .u64 ((newR 1 1 members).Term), .int .i64 ((newR 1 1 members).Vote), .int .u8 ((newR 1 1 members).Role), .int .i64 ((newR 1 1 members).Lead), .int .u64 ((newR 1 1 members).Base), .int .u64 ((newR 1 1 members).BaseTerm), v35, .string ((newR 1 1 members).Snap), v37, .int .u64 ((newR 1 1 members).Commit), .int .i64 ((newR 1 1 members).Idle), .int .i64 ((newR 1 1 members).Wait), v39, v41, .int .u64 ((newR 1 1 members).Round), v43]) (V.extract rfl rfl rfl) ?_
  refine WL.z (.int .i64 (if vmayB (newP 1 1 members) then 0 else 2)) (V.extract rfl rfl rfl) ?_
  refine WL.alloc (cs := [.int .i64 (0), .slice none 0 0, .int .u64 (0), .int .i64 (0), .int .u8 (0), .int .i64 (0), .int .u64 (0), .int .u64 (0), .slice none 0 0, .string (ByteArray.mk #[]), .slice none 0 0, .int .u64 (0), .int .i64 (0), .int .i64 (0), .slice none 0 0, .slice none 0 0, .int .u64 (0), .slice none 0 0]) (Sure.none rfl) rfl rfl z30 rfl (fun b64 w65 hx66 he67 hb68 => ?_)
  have hl70 := (Sl.new (b := b64) (by show (1 : Nat) ≠ 0; decide) (h_a.ext (Ext.pre hx32)) (by omega)).ext (Ext.any hx66)
  have hl71 := (Sl.new (b := b64) (by show (1 : Nat) ≠ 0; decide) (h_b.ext (Ext.pre hx32)) (by omega)).ext (Ext.any hx66)
  have hl72 := (Sl.new (b := b64) (by show (1 : Nat) ≠ 0; decide) hl34 (by omega)).ext (Ext.any hx66)
  have hx78 : Ext [b64] _ _ := (Ext.cons hx32).trans (Ext.any hx66)
  have hge_b64_w : w.heap.size ≤ b64 := by have := hx32.size; omega
  refine WL.storeAgg (vs := [.int .i64 ((newR 1 1 members).Id), v33, .int .u64 ((newR 1 1 members).Term), .int .i64 ((newR 1 1 members).Vote), .int .u8 ((newR 1 1 members).Role), .int .i64 ((newR 1 1 members).Lead), .int .u64 ((newR 1 1 members).Base), .int .u64 ((newR 1 1 members).BaseTerm), v35, .string ((newR 1 1 members).Snap), v37, .int .u64 ((newR 1 1 members).Commit), .int .i64 ((newR 1 1 members).Idle), .int .i64 ((newR 1 1 members).Wait), v39, v41, .int .u64 ((newR 1 1 members).Round), v43]) (Sure.none rfl) rfl rfl s30 rfl rfl rfl (by intro u hu; simp only [List.mem_cons, List.not_mem_nil, or_false] at hu; rcases hu with rfl | rfl | rfl | rfl | rfl | rfl | rfl | rfl | rfl | rfl | rfl | rfl | rfl | rfl | rfl | rfl | rfl | rfl <;> first | rfl | exact Sl.one (by assumption)) hb68 (by show (0 : Nat) + 18 ≤ 18; decide) (fun w79 hs80 hb81 => ?_)
  replace hb81 : Box w79 b64 30 [.int .i64 ((newR 1 1 members).Id), v33, .int .u64 ((newR 1 1 members).Term), .int .i64 ((newR 1 1 members).Vote), .int .u8 ((newR 1 1 members).Role), .int .i64 ((newR 1 1 members).Lead), .int .u64 ((newR 1 1 members).Base), .int .u64 ((newR 1 1 members).BaseTerm), v35, .string ((newR 1 1 members).Snap), v37, .int .u64 ((newR 1 1 members).Commit), .int .i64 ((newR 1 1 members).Idle), .int .i64 ((newR 1 1 members).Wait), v39, v41, .int .u64 ((newR 1 1 members).Round), v43] := hb81
  have hx82 : Ext [b64] w w79 := hx78.trans (hs80.mono (by simp))
  have hx83 : Ext [b64] w65 w79 := (hs80.mono (by simp))
  refine WL.m rfl ?_
  refine WL.nil ?_
  refine WP.seq ?_
  refine WP.sr ?_
  refine WL.m rfl ?_
  refine WL.z (.bool (decide ((if vmayB (newP 1 1 members) then 0 else 2) ≠ 0))) (V.cmp rfl rfl rfl rfl) ?_
  refine WL.vbp (c := (if vmayB (newP 1 1 members) then 0 else 2) ≠ 0) (Sure.none rfl) rfl (V.move rfl rfl) (fun hc84 => ?_) (fun hc84 => ?_)
  · refine WL.skips [(36, some true)] [(43, some true)] (kc (some true) rfl kn) (by kernel_rfl) (fun E85 hK86 hE87 => ?_)
    refine WP.cond_true (hK86 43 (some true) rfl) ?_
    refine WP.sr ?_
    refine WL.c (Sure.none rfl) rfl (C.call0 rfl cl4 ) (Fnc.mono (law_alive ) ?_)
    rintro _ w88 ⟨rfl, hx89⟩
    have hx90 : Ext [b64] w w88 := hx82.trans (Ext.any (Y := [b64]) hx89)
    refine WL.m rfl ?_
    refine WL.nil ?_
    refine WP.ret ?_
    refine resOf.c1 rfl (v := .bool (true)) rfl ?_
    exact ⟨(bool_eq (by first | rfl | exact (seats_end hMids hmore (by assumption) (by assumption) (by assumption) (by omega)).elim)), ((hx90).done (geCons hge_b64_w geNil))⟩
  refine WL.my rfl rfl ?_
  refine WL.y (.bool (decide (id < 1))) rfl (V.cmp (x := .tmp 37) rfl h1 rfl rfl) ?_
  refine WL.k (a := false) rfl rfl ?_
  refine WL.vbp (c := id < 1) (Sure.none rfl) rfl (V.move rfl rfl) (fun hc94 => ?_) (fun hc94 => ?_)
  · refine WL.skips [(40, some true)] [(43, some true)] (kc (some true) rfl kn) (by kernel_rfl) (fun E95 hK96 hE97 => ?_)
    refine WP.cond_true (hK96 43 (some true) rfl) ?_
    refine WP.sr ?_
    refine WL.c (Sure.none rfl) rfl (C.call0 rfl cl4 ) (Fnc.mono (law_alive ) ?_)
    rintro _ w98 ⟨rfl, hx99⟩
    have hx100 : Ext [b64] w w98 := hx82.trans (Ext.any (Y := [b64]) hx99)
    refine WL.m rfl ?_
    refine WL.nil ?_
    refine WP.ret ?_
    refine resOf.c1 rfl (v := .bool (true)) rfl ?_
    exact ⟨(bool_eq (by first | rfl | exact (seats_end hMids hmore (by assumption) (by assumption) (by assumption) (by omega)).elim)), ((hx100).done (geCons hge_b64_w geNil))⟩
  refine WL.my rfl rfl ?_
  refine WL.y (.bool (decide (id > 64))) rfl (V.cmp (x := .tmp 41) rfl h1 rfl rfl) ?_
  refine WL.k (a := false) rfl rfl ?_
  refine WL.nil ?_
  refine WP.condp (t := id > 64) rfl (fun hc104 => ?_) (fun hc104 => ?_)
  · refine WP.sr ?_
    refine WL.c (Sure.none rfl) rfl (C.call0 rfl cl4 ) (Fnc.mono (law_alive ) ?_)
    rintro _ w105 ⟨rfl, hx106⟩
    have hx107 : Ext [b64] w w105 := hx82.trans (Ext.any (Y := [b64]) hx106)
    refine WL.m rfl ?_
    refine WL.nil ?_
    refine WP.ret ?_
    refine resOf.c1 rfl (v := .bool (true)) rfl ?_
    exact ⟨(bool_eq (by first | rfl | exact (seats_end hMids hmore (by assumption) (by assumption) (by assumption) (by omega)).elim)), ((hx107).done (geCons hge_b64_w geNil))⟩
  refine WP.skip ?_
  refine WP.sr ?_
  have hmay := law_z (b := vmayB (newP 1 1 members)) (by assumption)
  have hmem : (newR 1 1 members).Members = members := by rw [← newR_t hmay]; rfl
  have hM64 : (newR 1 1 members).Members.length ≤ 64 := by rw [hmem]; omega
  have hMids : idsB (newR 1 1 members).Members = true := by rw [hmem]; exact may_ids hmay
  refine WL.m rfl ?_
  refine WL.nil ?_
  refine WP.seq ?_
  refine WP.sr ?_
  refine WL.m rfl ?_
  refine WL.nil ?_
  refine WP.block ?_
  have hsz113 : w.heap.size ≤ w79.heap.size := hx82.size
  have hsz114 : w65.heap.size ≤ w79.heap.size := hx83.size
  refine WP.loop (σ := Nat) (fun k E111 w112 => E111 0 = v_members ∧ E111 1 = .int .i64 (id) ∧ E111 2 = v_a ∧ E111 3 = v_b ∧ E111 8 = .bool (false) ∧ E111 9 = .pointer (some ⟨b64, 0, none⟩) ∧ E111 10 = .int .i64 (if vmayB (newP 1 1 members) then 0 else 2) ∧ E111 12 = .int .i64 ((k : Int)) ∧ E111 27 = .bool (decide (((b).length : Int) > 100)) ∧ E111 43 = .bool (decide (id > 64)) ∧ Ext [b64] w79 w112 ∧ Box w112 b64 30 [.int .i64 ((newR 1 1 members).Id), v33, .int .u64 ((newR 1 1 members).Term), .int .i64 ((newR 1 1 members).Vote), .int .u8 ((newR 1 1 members).Role), .int .i64 ((newR 1 1 members).Lead), .int .u64 ((newR 1 1 members).Base), .int .u64 ((newR 1 1 members).BaseTerm), v35, .string ((newR 1 1 members).Snap), v37, .int .u64 ((newR 1 1 members).Commit), .int .i64 ((newR 1 1 members).Idle), .int .i64 ((newR 1 1 members).Wait), v39, v41, .int .u64 ((newR 1 1 members).Round), v43] ∧ (Owns (intR .i64) 3 w79.heap.size (b64 :: X) w112 (E111 11) (((newR 1 1 members).Members.take k).filter (fun m => !ieq m id)) ∧ (∀ g, (E111 11).ownBlock = some g → g ∉ (b64 :: X))) ∧ k ≤ (newR 1 1 members).Members.length) (fun k => (newR 1 1 members).Members.length - k) (0) ?_ ?_
  · exact ⟨h0, h1, h2, h3, rfl, rfl, rfl, (int_eq (by omega)), rfl, rfl, Ext.refl _ _, hb81, ⟨(Owns.castE (by simp) Owns.nil), (nil_block rfl)⟩, (by omega)⟩
  rintro k E111 w112 ⟨h0_115, h1_115, h2_115, h3_115, h8_115, h9_115, h10_115, h12_115, h27_115, h43_115, hx115, hbb64_115, ⟨ho11_115, ho11_115n⟩, hi0_115⟩
  have hx116 : Ext [b64] w w112 := hx82.trans hx115
  have hx117 : Ext [b64] w65 w112 := hx83.trans hx115
  have hx118 : Ext [b64] w79 w112 := hx115
  have hfl := filter_take_le (fun m => !ieq m id) (newR 1 1 members).Members k
  refine WP.seq ?_
  refine WP.sr ?_
  refine WL.m rfl ?_
  refine WL.f (x := .tmp 9) (v33) fl30_1 h9_115 p22 (hbb64_115.cell rfl) ?_
  obtain ⟨a119, c120, hv121⟩ := hl72.shape
  refine WL.z (.int .i64 ((((newR 1 1 members).Members).length : Int))) (V.lenSlice rfl rfl u22 (Eq.trans (b := v33) rfl hv121)) ?_
  refine WL.z (.bool (decide ((k : Int) < (((newR 1 1 members).Members).length : Int)))) (V.cmp (x := .tmp 45) rfl h12_115 rfl rfl) ?_
  refine WL.nil ?_
  refine WP.condp (t := (k : Int) < (((newR 1 1 members).Members).length : Int)) rfl (fun hc122 => ?_) (fun hc122 => ?_)
  · refine WP.skip ?_
    refine WP.seq ?_
    refine WP.block ?_
    refine WP.sr ?_
    refine WL.f (x := .tmp 9) (v33) fl30_1 h9_115 p22 (hbb64_115.cell rfl) ?_
    refine WL.m rfl ?_
    have hlt131 : k < ((newR 1 1 members).Members).length := by first | omega | (simp at *; omega)
    obtain ⟨b123, k124, c125, cs126, hv127, hnb128, hr129, hat130⟩ := (hl72.ext (Ext.pre hx117)).get (i := k) (x := (((newR 1 1 members).Members).getD k 0)) (getD_some hlt131 _)
    obtain ⟨rfl, hin132⟩ := hr129
    have hin132 := inK_i64 hin132
    refine WL.z (.pointer (some ⟨b123, k124 + k * 1, none⟩)) (V.indexAddr (i := .tmp 54) (m := k) (j := (k : Int)) rfl u22 s3 (Eq.trans (b := v33) rfl hv127) h12_115 rfl hlt131) ?_
    refine WL.z (.int .i64 ((((newR 1 1 members).Members).getD k 0))) (V.load rfl p3 rfl (hat130.cell (j := 0) rfl)) ?_
    refine WL.m rfl ?_
    refine WL.z (.bool (decide ((((newR 1 1 members).Members).getD k 0) ≠ id))) (V.cmp (y := .tmp 57) rfl rfl h1_115 rfl) ?_
    refine WL.nil ?_
    refine WP.condp (t := (((newR 1 1 members).Members).getD k 0) ≠ id) rfl (fun hc133 => ?_) (fun hc133 => ?_)
    rotate_left
    · refine WP.skip ?_
      refine WP.region ?_
      refine WL.m rfl ?_
      refine WL.z (.int .i64 ((k : Int) + 1)) (V.arith (x := .tmp 50) rfl h12_115 rfl rfl (wrap_i64 (by omega) (by omega))) ?_
      refine WL.m rfl ?_
      refine WL.nil ?_
      exact ⟨k + 1, ⟨h0_115, h1_115, h2_115, h3_115, h8_115, h9_115, h10_115, (int_eq (by omega)), h27_115, h43_115, hx118, hbb64_115, ⟨(Owns.castE (by rw [filter_take (by omega)]; revert hc4 hc14 hc24 hc84 hc94 hc104 hc122 hc133; simp +contextual [ieq]) ho11_115), ho11_115n⟩, (by omega)⟩, (by omega)⟩
    refine WP.region ?_
    refine WL.m rfl ?_
    refine WL.f (x := .tmp 9) (v33) fl30_1 h9_115 p22 (hbb64_115.cell rfl) ?_
    refine WL.m rfl ?_
    refine WL.z (.pointer (some ⟨b123, k124 + k * 1, none⟩)) (V.indexAddr (i := .tmp 62) (m := k) (j := (k : Int)) rfl u22 s3 (Eq.trans (b := v33) rfl hv127) h12_115 rfl hlt131) ?_
    refine WL.z (.int .i64 ((((newR 1 1 members).Members).getD k 0))) (V.load rfl p3 rfl (hat130.cell (j := 0) rfl)) ?_
    refine WL.lit (R := (intR .i64)) (X := (b64 :: X)) (vs := [.int .i64 ((((newR 1 1 members).Members).getD k 0))]) (xs := [(((newR 1 1 members).Members).getD k 0)]) (Sure.none rfl) rfl rfl u22 e3 (by show 0 < (1 : Nat); decide) (by show _ * (1 : Nat) ≤ 1024; decide) rfl rfl rfl (by intro i v x hv hx; match i, hv, hx with | 0, rfl, rfl => exact ⟨rfl, inK_i64' (by omega)⟩ | i + 1, hv, _ => simp at hv) (fun v134 w135 hx136 ho137 hlit138 => ?_)
    have hno139 : ∀ g, (v134).ownBlock = some g → g ∉ (b64 :: X) := by intro g hg hm; have h1 := hlit138 g hg; have h2 := (inCons hbb64_115.lt (inMono hX hx116.size)) g hm; omega
    have hsz140 : w.heap.size ≤ w112.heap.size := hx116.size
    have hsz141 : w65.heap.size ≤ w112.heap.size := hx117.size
    have hx142 : Ext [b64] w w135 := hx116.trans (Ext.any (Y := [b64]) hx136)
    have hx144 : Ext [b64] w79 w135 := hx118.trans (Ext.any (Y := [b64]) hx136)
    have hb146 := hbb64_115.ext hx136 (by simp)
    have ho147 := ho11_115.keep hx136 (by intro g hg hm; simp at hm) (by simp)
    have ho148 := ho137.low (B' := w112.heap.size) (Nat.le_refl _)
    refine WL.appendOwn (R := (intR .i64)) (X := (b64 :: X)) (B := w79.heap.size) (xs := ((newR 1 1 members).Members.take k).filter (fun m => !ieq m id)) (ys := [(((newR 1 1 members).Members).getD k 0)]) (Sure.none rfl) rfl rfl u22 e3 rfl (by show 0 < (1 : Nat); decide) rfl rfl ho147 (Owns.sl' ho148 hno139) (fun g hg => Owns.sl' (Owns.flat (flat_int _) ho148) (fun gs hgs hm => (List.mem_cons.1 hm).elim (fun h => by have h1 := hlit138 gs hgs; have h2 := (ho11_115.lt g hg).2; omega) (fun h => hno139 gs hgs h))) hx144.size (by simp only [List.length_cons, List.length_nil]; omega) (by simp only [List.length_cons, List.length_nil, maxLen]; omega) (fun v149 w150 ho151 hg152 hf153 => ?_)
    have hno154 := after_no hf153 ho11_115n (inCons hb146.lt (inMono hX hx142.size))
    have hx157 := Ext.ownB (hx144) hg152 (fun k hk => (Owns.lt ho147 k hk).1) (Nat.le_refl _)
    have hb158 := hb146.grown hg152 (fun g hg e => ho11_115n g hg (by simp [e]))
    refine WL.m rfl ?_
    refine WL.nil ?_
    refine WP.region ?_
    refine WL.m rfl ?_
    refine WL.z (.int .i64 ((k : Int) + 1)) (V.arith (x := .tmp 50) rfl h12_115 rfl rfl (wrap_i64 (by omega) (by omega))) ?_
    refine WL.m rfl ?_
    refine WL.nil ?_
    exact ⟨k + 1, ⟨h0_115, h1_115, h2_115, h3_115, h8_115, h9_115, h10_115, (int_eq (by omega)), h27_115, h43_115, hx157, hb158, ⟨(Owns.castE (by rw [filter_take (by omega)]; revert hc4 hc14 hc24 hc84 hc94 hc104 hc122 hc133; simp +contextual [ieq]) ho151), hno154⟩, (by omega)⟩, (by omega)⟩
  refine WP.exit ?_
  refine WP.seq ?_
  refine WP.sr ?_
  refine WL.m rfl ?_
  obtain ⟨a159, c160, hv161⟩ := ho11_115.shape
  refine WL.z (.int .i64 (((((newR 1 1 members).Members.take k).filter (fun m => !ieq m id)).length : Int))) (V.lenSlice rfl rfl u22 (Eq.trans (b := E111 11) rfl hv161)) ?_
  refine WL.f (x := .tmp 9) (v33) fl30_1 h9_115 p22 (hbb64_115.cell rfl) ?_
  refine WL.z (.int .i64 ((((newR 1 1 members).Members).length : Int))) (V.lenSlice rfl rfl u22 (Eq.trans (b := v33) rfl hv121)) ?_
  refine WL.z (.bool (decide (((((newR 1 1 members).Members.take k).filter (fun m => !ieq m id)).length : Int) = (((newR 1 1 members).Members).length : Int)))) (V.cmp rfl rfl rfl rfl) ?_
  refine WL.nil ?_
  refine WP.condp (t := ((((newR 1 1 members).Members.take k).filter (fun m => !ieq m id)).length : Int) = (((newR 1 1 members).Members).length : Int)) rfl (fun hc162 => ?_) (fun hc162 => ?_)
  rotate_left
  · refine WP.skip ?_
    refine WP.seq ?_
    refine WP.sr ?_
    have hmore : ((newR 1 1 members).Members.take k).filter (fun m => !ieq m id) = moreOf (newR 1 1 members).Members id := more_f (by omega) (by assumption)
    have hmlen : (((newR 1 1 members).Members.take k).filter (fun m => !ieq m id)).length ≤ 65 := by have := filter_take_le (fun m => !ieq m id) (newR 1 1 members).Members k; omega
    have hl349 := Owns.sl' ho11_115 ho11_115n
    refine WL.m rfl ?_
    refine WL.z (.int .i64 (((((newR 1 1 members).Members.take k).filter (fun m => !ieq m id)).length : Int))) (V.lenSlice rfl rfl u22 (Eq.trans (b := E111 11) rfl hv161)) ?_
    refine WL.z (.bool (decide (((((newR 1 1 members).Members.take k).filter (fun m => !ieq m id)).length : Int) = 0))) (V.cmp rfl rfl rfl rfl) ?_
    refine WL.vbp (c := ((((newR 1 1 members).Members.take k).filter (fun m => !ieq m id)).length : Int) = 0) (Sure.none rfl) rfl (V.move rfl rfl) (fun hc350 => ?_) (fun hc350 => ?_)
    · refine WL.skips [(80, some true)] [(92, some true)] (kc (some true) rfl kn) (by kernel_rfl) (fun E351 hK352 hE353 => ?_)
      refine WP.cond_true (hK352 92 (some true) rfl) ?_
      refine WP.sr ?_
      refine WL.c (Sure.none rfl) rfl (C.call0 rfl cl4 ) (Fnc.mono (law_alive ) ?_)
      rintro _ w354 ⟨rfl, hx355⟩
      have hx356 : Ext [b64] w w354 := hx116.trans (Ext.any (Y := [b64]) hx355)
      refine WL.m rfl ?_
      refine WL.nil ?_
      refine WP.ret ?_
      refine resOf.c1 rfl (v := .bool (true)) rfl ?_
      exact ⟨(bool_eq (by first | rfl | exact (seats_end hMids hmore (by assumption) (by assumption) (by assumption) (by omega)).elim)), ((hx356).done (geCons hge_b64_w geNil))⟩
    refine WL.fy (x := .tmp 9) (v33) rfl fl30_1 h9_115 p22 (hbb64_115.cell rfl) ?_
    refine WL.my rfl rfl ?_
    refine WL.c (Sure.yes rfl rfl rfl) rfl (C.call2 (y := .tmp 83) rfl cl6 rfl h2_115) (Fnc.mono (vote_Majority (hl72.ext (Ext.pre hx117)) (hl70.ext (Ext.pre hx117)) (by omega)) ?_)
    rintro _ w362 ⟨rfl, hx363⟩
    have hx364 : Ext [b64] w w362 := hx116.trans (Ext.any (Y := [b64]) hx363)
    have hx365 : Ext [b64] w65 w362 := hx117.trans (Ext.any (Y := [b64]) hx363)
    have hx366 : Ext [b64] w79 w362 := hx118.trans (Ext.any (Y := [b64]) hx363)
    have hx367 : Ext [b64] w112 w362 := (Ext.any (Y := [b64]) hx363)
    have hb368 := hbb64_115.ext hx363 (by simp)
    refine WL.y (.bool (!(majB ((newR 1 1 members).Members) a))) rfl (V.not rfl rfl) ?_
    refine WL.k (a := false) rfl rfl ?_
    refine WL.vbn (c := majB ((newR 1 1 members).Members) a) (Sure.none rfl) rfl (V.move rfl rfl) (fun hc370 => ?_) (fun hc370 => ?_)
    · refine WL.skips [(87, some true)] [(92, some true)] (kc (some true) rfl kn) (by kernel_rfl) (fun E371 hK372 hE373 => ?_)
      refine WP.cond_true (hK372 92 (some true) rfl) ?_
      refine WP.sr ?_
      refine WL.c (Sure.none rfl) rfl (C.call0 rfl cl4 ) (Fnc.mono (law_alive ) ?_)
      rintro _ w374 ⟨rfl, hx375⟩
      have hx376 : Ext [b64] w w374 := hx364.trans (Ext.any (Y := [b64]) hx375)
      refine WL.m rfl ?_
      refine WL.nil ?_
      refine WP.ret ?_
      refine resOf.c1 rfl (v := .bool (true)) rfl ?_
      exact ⟨(bool_eq (by first | rfl | exact (seats_end hMids hmore (by assumption) (by assumption) (by assumption) (by omega)).elim)), ((hx376).done (geCons hge_b64_w geNil))⟩
    refine WL.my rfl rfl ?_
    refine WL.my rfl rfl ?_
    refine WL.c (Sure.yes rfl rfl rfl) rfl (C.call2 (y := .tmp 89) rfl cl6 rfl h3_115) (Fnc.mono (vote_Majority (hl349.ext (Ext.pre hx367)) (hl71.ext (Ext.pre hx365)) (by omega)) ?_)
    rintro _ w383 ⟨rfl, hx384⟩
    have hx385 : Ext [b64] w w383 := hx364.trans (Ext.any (Y := [b64]) hx384)
    have hx386 : Ext [b64] w65 w383 := hx365.trans (Ext.any (Y := [b64]) hx384)
    have hx387 : Ext [b64] w79 w383 := hx366.trans (Ext.any (Y := [b64]) hx384)
    have hx388 : Ext [b64] w112 w383 := hx367.trans (Ext.any (Y := [b64]) hx384)
    have hx389 : Ext [b64] w362 w383 := (Ext.any (Y := [b64]) hx384)
    have hb390 := hb368.ext hx384 (by simp)
    refine WL.y (.bool (!(majB (((newR 1 1 members).Members.take k).filter (fun m => !ieq m id)) b))) rfl (V.not rfl rfl) ?_
    refine WL.k (a := false) rfl rfl ?_
    refine WL.nil ?_
    refine WP.condn (t := majB (((newR 1 1 members).Members.take k).filter (fun m => !ieq m id)) b) rfl (fun hc392 => ?_) (fun hc392 => ?_)
    · refine WP.sr ?_
      refine WL.c (Sure.none rfl) rfl (C.call0 rfl cl4 ) (Fnc.mono (law_alive ) ?_)
      rintro _ w393 ⟨rfl, hx394⟩
      have hx395 : Ext [b64] w w393 := hx385.trans (Ext.any (Y := [b64]) hx394)
      refine WL.m rfl ?_
      refine WL.nil ?_
      refine WP.ret ?_
      refine resOf.c1 rfl (v := .bool (true)) rfl ?_
      exact ⟨(bool_eq (by first | rfl | exact (seats_end hMids hmore (by assumption) (by assumption) (by assumption) (by omega)).elim)), ((hx395).done (geCons hge_b64_w geNil))⟩
    refine WP.skip ?_
    refine WP.seq ?_
    refine WP.sr ?_
    refine WL.m rfl ?_
    refine WL.nil ?_
    refine WP.block ?_
    have hsz405 : w.heap.size ≤ w383.heap.size := hx385.size
    have hsz406 : w65.heap.size ≤ w383.heap.size := hx386.size
    have hsz407 : w79.heap.size ≤ w383.heap.size := hx387.size
    have hsz408 : w112.heap.size ≤ w383.heap.size := hx388.size
    have hsz409 : w362.heap.size ≤ w383.heap.size := hx389.size
    refine WP.loop (σ := Nat) (fun q E403 w404 => E403 0 = v_members ∧ E403 1 = .int .i64 (id) ∧ E403 2 = v_a ∧ E403 3 = v_b ∧ E403 9 = .pointer (some ⟨b64, 0, none⟩) ∧ E403 10 = .int .i64 (if vmayB (newP 1 1 members) then 0 else 2) ∧ E403 11 = E111 11 ∧ E403 12 = .int .i64 ((k : Int)) ∧ E403 13 = .int .i64 ((q : Int)) ∧ E403 27 = .bool (decide (((b).length : Int) > 100)) ∧ E403 43 = .bool (decide (id > 64)) ∧ E403 49 = .bool (decide ((k : Int) < (((newR 1 1 members).Members).length : Int))) ∧ E403 72 = .bool (decide (((((newR 1 1 members).Members.take k).filter (fun m => !ieq m id)).length : Int) = (((newR 1 1 members).Members).length : Int))) ∧ E403 92 = .bool (!(majB (((newR 1 1 members).Members.take k).filter (fun m => !ieq m id)) b)) ∧ Ext [b64] w383 w404 ∧ Box w404 b64 30 [.int .i64 ((newR 1 1 members).Id), v33, .int .u64 ((newR 1 1 members).Term), .int .i64 ((newR 1 1 members).Vote), .int .u8 ((newR 1 1 members).Role), .int .i64 ((newR 1 1 members).Lead), .int .u64 ((newR 1 1 members).Base), .int .u64 ((newR 1 1 members).BaseTerm), v35, .string ((newR 1 1 members).Snap), v37, .int .u64 ((newR 1 1 members).Commit), .int .i64 ((newR 1 1 members).Idle), .int .i64 ((newR 1 1 members).Wait), v39, v41, .int .u64 ((newR 1 1 members).Round), v43] ∧ q ≤ a.length ∧ ∀ j, j < q → (fun i => allB b.length (fun j => !pairB ((newR 1 1 members).Members) (((newR 1 1 members).Members.take k).filter (fun m => !ieq m id)) a b i j)) j = true) (fun q => a.length - q) (0) ?_ ?_
    · exact ⟨h0_115, h1_115, h2_115, h3_115, h9_115, h10_115, rfl, h12_115, (int_eq (by omega)), h27_115, h43_115, rfl, rfl, rfl, Ext.refl _ _, hb390, (by omega), (all_zero _)⟩
    rintro q E403 w404 ⟨h0_410, h1_410, h2_410, h3_410, h9_410, h10_410, h11_410, h12_410, h13_410, h27_410, h43_410, h49_410, h72_410, h92_410, hx410, hbb64_410, hi0_410, hi1_410⟩
    have hx411 : Ext [b64] w w404 := hx385.trans hx410
    have hx412 : Ext [b64] w65 w404 := hx386.trans hx410
    have hx413 : Ext [b64] w79 w404 := hx387.trans hx410
    have hx414 : Ext [b64] w112 w404 := hx388.trans hx410
    have hx415 : Ext [b64] w362 w404 := hx389.trans hx410
    have hx416 : Ext [b64] w383 w404 := hx410
    refine WP.seq ?_
    refine WP.sr ?_
    refine WL.m rfl ?_
    refine WL.m rfl ?_
    refine WL.z (.int .i64 (((a).length : Int))) (V.lenSlice (x := .tmp 95) rfl rfl u22 (Eq.trans (b := v_a) h2_410 hv13)) ?_
    refine WL.z (.bool (decide ((q : Int) < ((a).length : Int)))) (V.cmp (x := .tmp 94) rfl h13_410 rfl rfl) ?_
    refine WL.nil ?_
    refine WP.condp (t := (q : Int) < ((a).length : Int)) rfl (fun hc417 => ?_) (fun hc417 => ?_)
    rotate_left
    · refine WP.exit ?_
      refine WP.sr ?_
      refine WL.m rfl ?_
      refine WL.nil ?_
      refine WP.ret ?_
      refine resOf.c1 rfl (v := .bool (false)) rfl ?_
      exact ⟨(bool_eq (by first | rfl | exact (seats_end hMids hmore (by assumption) (by assumption) (by assumption) (by omega)).elim)), ((hx411).done (geCons hge_b64_w geNil))⟩
    refine WP.skip ?_
    refine WP.seq ?_
    refine WP.block ?_
    refine WP.sr ?_
    refine WL.m rfl ?_
    refine WL.nil ?_
    refine WP.block ?_
    have hsz420 : w.heap.size ≤ w404.heap.size := hx411.size
    have hsz421 : w65.heap.size ≤ w404.heap.size := hx412.size
    have hsz422 : w79.heap.size ≤ w404.heap.size := hx413.size
    have hsz423 : w112.heap.size ≤ w404.heap.size := hx414.size
    have hsz424 : w362.heap.size ≤ w404.heap.size := hx415.size
    have hsz425 : w383.heap.size ≤ w404.heap.size := hx416.size
    refine WP.loop (σ := Nat) (fun r E418 w419 => E418 0 = v_members ∧ E418 1 = .int .i64 (id) ∧ E418 2 = v_a ∧ E418 3 = v_b ∧ E418 9 = .pointer (some ⟨b64, 0, none⟩) ∧ E418 10 = .int .i64 (if vmayB (newP 1 1 members) then 0 else 2) ∧ E418 11 = E111 11 ∧ E418 12 = .int .i64 ((k : Int)) ∧ E418 13 = .int .i64 ((q : Int)) ∧ E418 14 = .int .i64 ((r : Int)) ∧ E418 27 = .bool (decide (((b).length : Int) > 100)) ∧ E418 43 = .bool (decide (id > 64)) ∧ E418 49 = .bool (decide ((k : Int) < (((newR 1 1 members).Members).length : Int))) ∧ E418 72 = .bool (decide (((((newR 1 1 members).Members.take k).filter (fun m => !ieq m id)).length : Int) = (((newR 1 1 members).Members).length : Int))) ∧ E418 92 = .bool (!(majB (((newR 1 1 members).Members.take k).filter (fun m => !ieq m id)) b)) ∧ E418 97 = .bool (decide ((q : Int) < ((a).length : Int))) ∧ Ext [b64] w404 w419 ∧ Box w419 b64 30 [.int .i64 ((newR 1 1 members).Id), v33, .int .u64 ((newR 1 1 members).Term), .int .i64 ((newR 1 1 members).Vote), .int .u8 ((newR 1 1 members).Role), .int .i64 ((newR 1 1 members).Lead), .int .u64 ((newR 1 1 members).Base), .int .u64 ((newR 1 1 members).BaseTerm), v35, .string ((newR 1 1 members).Snap), v37, .int .u64 ((newR 1 1 members).Commit), .int .i64 ((newR 1 1 members).Idle), .int .i64 ((newR 1 1 members).Wait), v39, v41, .int .u64 ((newR 1 1 members).Round), v43] ∧ r ≤ b.length ∧ ∀ j, j < r → (fun j => !pairB ((newR 1 1 members).Members) (((newR 1 1 members).Members.take k).filter (fun m => !ieq m id)) a b q j) j = true) (fun r => b.length - r) (0) ?_ ?_
    · exact ⟨h0_410, h1_410, h2_410, h3_410, h9_410, h10_410, h11_410, h12_410, h13_410, (int_eq (by omega)), h27_410, h43_410, h49_410, h72_410, h92_410, rfl, Ext.refl _ _, hbb64_410, (by omega), (all_zero _)⟩
    rintro r E418 w419 ⟨h0_426, h1_426, h2_426, h3_426, h9_426, h10_426, h11_426, h12_426, h13_426, h14_426, h27_426, h43_426, h49_426, h72_426, h92_426, h97_426, hx426, hbb64_426, hi0_426, hi1_426⟩
    have hx427 : Ext [b64] w w419 := hx411.trans hx426
    have hx428 : Ext [b64] w65 w419 := hx412.trans hx426
    have hx430 : Ext [b64] w112 w419 := hx414.trans hx426
    have hx432 : Ext [b64] w383 w419 := hx416.trans hx426
    have hx433 : Ext [b64] w404 w419 := hx426
    refine WP.seq ?_
    refine WP.sr ?_
    refine WL.m rfl ?_
    refine WL.m rfl ?_
    refine WL.z (.int .i64 (((b).length : Int))) (V.lenSlice (x := .tmp 101) rfl rfl u22 (Eq.trans (b := v_b) h3_426 hv23)) ?_
    refine WL.z (.bool (decide ((r : Int) < ((b).length : Int)))) (V.cmp (x := .tmp 100) rfl h14_426 rfl rfl) ?_
    refine WL.nil ?_
    refine WP.condp (t := (r : Int) < ((b).length : Int)) rfl (fun hc434 => ?_) (fun hc434 => ?_)
    rotate_left
    · refine WP.exit ?_
      refine WP.region ?_
      refine WL.m rfl ?_
      refine WL.z (.int .i64 ((q : Int) + 1)) (V.arith (x := .tmp 98) rfl h13_426 rfl rfl (wrap_i64 (by omega) (by omega))) ?_
      refine WL.m rfl ?_
      refine WL.nil ?_
      exact ⟨q + 1, ⟨h0_426, h1_426, h2_426, h3_426, h9_426, h10_426, h11_426, h12_426, (int_eq (by omega)), h27_426, h43_426, h49_426, h72_426, h92_426, hx432, hbb64_426, (by omega), (all_step (by assumption) (by exact allB_true (by assumption) (by omega)))⟩, (by omega)⟩
    refine WP.skip ?_
    refine WP.seq ?_
    refine WP.block ?_
    refine WP.seq ?_
    refine WP.quiet mo (by kernel_rfl) ?_
    refine WQ.m rfl ?_
    refine WQ.m rfl ?_
    have hlt443 : q < (a).length := by first | omega | (simp at *; omega)
    obtain ⟨b435, k436, c437, cs438, hv439, hnb440, hr441, hat442⟩ := (hl70.ext (Ext.pre hx428)).get (i := q) (x := (a.getD q 0)) (getD_some hlt443 _)
    obtain ⟨rfl, hin444⟩ := hr441
    have hin444 := inK_i64 hin444
    refine WQ.z (.pointer (some ⟨b435, k436 + q * 1, none⟩)) (fun w' hw => V.indexAddr (x := .tmp 106) (i := .tmp 107) (m := q) (j := (q : Int)) rfl u22 s3 (Eq.trans (b := v_a) h2_426 hv439) h13_426 rfl hlt443) ?_
    refine WQ.z (.int .i64 ((a.getD q 0))) (fun w' hw => V.load rfl p3 rfl ((hat442.ext hw (by simp)).cell (j := 0) rfl)) ?_
    refine WQ.m rfl ?_
    refine WQ.m rfl ?_
    have hlt453 : r < (b).length := by first | omega | (simp at *; omega)
    obtain ⟨b445, k446, c447, cs448, hv449, hnb450, hr451, hat452⟩ := (hl71.ext (Ext.pre hx428)).get (i := r) (x := (b.getD r 0)) (getD_some hlt453 _)
    obtain ⟨rfl, hin454⟩ := hr451
    have hin454 := inK_i64 hin454
    refine WQ.z (.pointer (some ⟨b445, k446 + r * 1, none⟩)) (fun w' hw => V.indexAddr (x := .tmp 110) (i := .tmp 111) (m := r) (j := (r : Int)) rfl u22 s3 (Eq.trans (b := v_b) h3_426 hv449) h14_426 rfl hlt453) ?_
    refine WQ.z (.int .i64 ((b.getD r 0))) (fun w' hw => V.load rfl p3 rfl ((hat452.ext hw (by simp)).cell (j := 0) rfl)) ?_
    refine WQ.z (.bool (decide ((a.getD q 0) = (b.getD r 0)))) (fun w' hw => V.cmp rfl rfl rfl rfl) ?_
    refine WQ.vbp (c := (a.getD q 0) = (b.getD r 0)) (Sure.none rfl) rfl (fun w' hw => V.move rfl rfl) (fun hc455 => ?_) (fun hc455 => ?_)
    rotate_left
    · refine WQ.skips [(115, some false)] [(131, some false)] (kc (some false) rfl kn) (by kernel_rfl) (fun E495 hK496 hE497 w498 hq499 => ?_)
      have hx506 : Ext [b64] w404 w498 := hx433.trans (Ext.any (Y := [b64]) hq499)
      have hb508 := hbb64_426.ext hq499 (by simp)
      refine WP.cond_false (hK496 131 (some false) rfl) ?_
      refine WP.skip ?_
      refine WP.region ?_
      refine WL.m rfl ?_
      refine WL.z (.int .i64 ((r : Int) + 1)) (V.arith (x := .tmp 104) rfl ((hE497 14 rfl).trans h14_426) rfl rfl (wrap_i64 (by omega) (by omega))) ?_
      refine WL.m rfl ?_
      refine WL.nil ?_
      exact ⟨r + 1, ⟨((hE497 0 rfl).trans h0_426), ((hE497 1 rfl).trans h1_426), ((hE497 2 rfl).trans h2_426), ((hE497 3 rfl).trans h3_426), ((hE497 9 rfl).trans h9_426), ((hE497 10 rfl).trans h10_426), ((hE497 11 rfl).trans h11_426), ((hE497 12 rfl).trans h12_426), ((hE497 13 rfl).trans h13_426), (int_eq (by omega)), ((hE497 27 rfl).trans h27_426), ((hE497 43 rfl).trans h43_426), ((hE497 49 rfl).trans h49_426), ((hE497 72 rfl).trans h72_426), ((hE497 92 rfl).trans h92_426), ((hE497 97 rfl).trans h97_426), hx506, hb508, (by omega), (all_step (by assumption) (by first | assumption | grind [pairB, ieq]))⟩, (by omega)⟩
    refine WQ.fy (x := .tmp 9) (v33) rfl fl30_1 h9_426 p22 (fun w' hw => (hbb64_426.ext hw (by simp)).cell rfl) ?_
    refine WQ.my rfl rfl ?_
    refine WQ.my rfl rfl ?_
    refine WQ.y (.pointer (some ⟨b435, k436 + q * 1, none⟩)) rfl (fun w' hw => V.indexAddr (x := .tmp 118) (i := .tmp 119) (m := q) (j := (q : Int)) rfl u22 s3 (Eq.trans (b := v_a) h2_426 hv439) h13_426 rfl hlt443) ?_
    refine WQ.y (.int .i64 ((a.getD q 0))) rfl (fun w' hw => V.load rfl p3 rfl ((hat442.ext hw (by simp)).cell (j := 0) rfl)) ?_
    refine WQ.c (u := .bool (hasB ((newR 1 1 members).Members) (a.getD q 0))) (Sure.yes rfl rfl rfl) rfl (fun w' hw => C.call2 rfl cl7 rfl rfl) (fun w' hw => (ref_Has ((hl72.ext (Ext.pre hx428)).ext (Ext.any hw)) (a.getD q 0))) ?_
    refine WQ.k (a := true) rfl rfl ?_
    refine WQ.vb (c := hasB ((newR 1 1 members).Members) (a.getD q 0)) (Sure.none rfl) rfl (fun w' hw => V.move rfl rfl) (fun hc456 => ?_) (fun hc456 => ?_)
    rotate_left
    · refine WQ.skips [(124, some false)] [(131, some false)] (kc (some false) rfl kn) (by kernel_rfl) (fun E481 hK482 hE483 w484 hq485 => ?_)
      have hx492 : Ext [b64] w404 w484 := hx433.trans (Ext.any (Y := [b64]) hq485)
      have hb494 := hbb64_426.ext hq485 (by simp)
      refine WP.cond_false (hK482 131 (some false) rfl) ?_
      refine WP.skip ?_
      refine WP.region ?_
      refine WL.m rfl ?_
      refine WL.z (.int .i64 ((r : Int) + 1)) (V.arith (x := .tmp 104) rfl ((hE483 14 rfl).trans h14_426) rfl rfl (wrap_i64 (by omega) (by omega))) ?_
      refine WL.m rfl ?_
      refine WL.nil ?_
      exact ⟨r + 1, ⟨((hE483 0 rfl).trans h0_426), ((hE483 1 rfl).trans h1_426), ((hE483 2 rfl).trans h2_426), ((hE483 3 rfl).trans h3_426), ((hE483 9 rfl).trans h9_426), ((hE483 10 rfl).trans h10_426), ((hE483 11 rfl).trans h11_426), ((hE483 12 rfl).trans h12_426), ((hE483 13 rfl).trans h13_426), (int_eq (by omega)), ((hE483 27 rfl).trans h27_426), ((hE483 43 rfl).trans h43_426), ((hE483 49 rfl).trans h49_426), ((hE483 72 rfl).trans h72_426), ((hE483 92 rfl).trans h92_426), ((hE483 97 rfl).trans h97_426), hx492, hb494, (by omega), (all_step (by assumption) (by first | assumption | grind [pairB, ieq]))⟩, (by omega)⟩
    refine WQ.my rfl rfl ?_
    refine WQ.my rfl rfl ?_
    refine WQ.my rfl rfl ?_
    refine WQ.y (.pointer (some ⟨b435, k436 + q * 1, none⟩)) rfl (fun w' hw => V.indexAddr (x := .tmp 126) (i := .tmp 127) (m := q) (j := (q : Int)) rfl u22 s3 (Eq.trans (b := v_a) h2_426 hv439) h13_426 rfl hlt443) ?_
    refine WQ.y (.int .i64 ((a.getD q 0))) rfl (fun w' hw => V.load rfl p3 rfl ((hat442.ext hw (by simp)).cell (j := 0) rfl)) ?_
    refine WQ.c (u := .bool (hasB (((newR 1 1 members).Members.take k).filter (fun m => !ieq m id)) (a.getD q 0))) (Sure.yes rfl rfl rfl) rfl (fun w' hw => C.call2 (x := .tmp 125) rfl cl7 h11_426 rfl) (fun w' hw => (ref_Has ((hl349.ext (Ext.pre hx430)).ext (Ext.any hw)) (a.getD q 0))) ?_
    refine WQ.k (a := true) rfl rfl ?_
    refine WQ.nil (fun w457 hq458 => ?_)
    have hx459 : Ext [b64] w w457 := hx427.trans (Ext.any (Y := [b64]) hq458)
    have hx465 : Ext [b64] w404 w457 := hx433.trans (Ext.any (Y := [b64]) hq458)
    have hb467 := hbb64_426.ext hq458 (by simp)
    refine WP.cond (t := hasB (((newR 1 1 members).Members.take k).filter (fun m => !ieq m id)) (a.getD q 0)) rfl (fun hc468 => ?_) (fun hc468 => ?_)
    rotate_left
    · refine WP.skip ?_
      refine WP.region ?_
      refine WL.m rfl ?_
      refine WL.z (.int .i64 ((r : Int) + 1)) (V.arith (x := .tmp 104) rfl h14_426 rfl rfl (wrap_i64 (by omega) (by omega))) ?_
      refine WL.m rfl ?_
      refine WL.nil ?_
      exact ⟨r + 1, ⟨h0_426, h1_426, h2_426, h3_426, h9_426, h10_426, h11_426, h12_426, h13_426, (int_eq (by omega)), h27_426, h43_426, h49_426, h72_426, h92_426, h97_426, hx465, hb467, (by omega), (all_step (by assumption) (by first | assumption | grind [pairB, ieq]))⟩, (by omega)⟩
    refine WP.sr ?_
    refine WL.c (Sure.none rfl) rfl (C.call0 rfl cl4 ) (Fnc.mono (law_alive ) ?_)
    rintro _ w469 ⟨rfl, hx470⟩
    have hx471 : Ext [b64] w w469 := hx459.trans (Ext.any (Y := [b64]) hx470)
    refine WL.m rfl ?_
    refine WL.nil ?_
    refine WP.ret ?_
    refine resOf.c1 rfl (v := .bool (true)) rfl ?_
    exact ⟨(bool_eq (by first | rfl | exact (seats_end hMids hmore (by assumption) (by assumption) (by assumption) (by omega)).elim)), ((hx471).done (geCons hge_b64_w geNil))⟩
  refine WP.region ?_
  refine WL.m rfl ?_
  refine WL.z (.int .i64 (id)) (V.move (x := .tmp 1) rfl h1_115) ?_
  refine WL.lit (R := (intR .i64)) (X := (b64 :: X)) (vs := [.int .i64 (id)]) (xs := [id]) (Sure.none rfl) rfl rfl u22 e3 (by show 0 < (1 : Nat); decide) (by show _ * (1 : Nat) ≤ 1024; decide) rfl rfl rfl (by intro i v x hv hx; match i, hv, hx with | 0, rfl, rfl => exact ⟨rfl, inK_i64' (by omega)⟩ | i + 1, hv, _ => simp at hv) (fun v163 w164 hx165 ho166 hlit167 => ?_)
  have hno168 : ∀ g, (v163).ownBlock = some g → g ∉ (b64 :: X) := by intro g hg hm; have h1 := hlit167 g hg; have h2 := (inCons hbb64_115.lt (inMono hX hx116.size)) g hm; omega
  have hx169 : Ext [b64] w w164 := hx116.trans (Ext.any (Y := [b64]) hx165)
  have hx170 : Ext [b64] w65 w164 := hx117.trans (Ext.any (Y := [b64]) hx165)
  have hx171 : Ext [b64] w79 w164 := hx118.trans (Ext.any (Y := [b64]) hx165)
  have hb173 := hbb64_115.ext hx165 (by simp)
  have ho174 := ho11_115.keep hx165 (by intro g hg hm; simp at hm) (by simp)
  have ho175 := ho166.low (B' := w112.heap.size) (Nat.le_refl _)
  refine WL.appendOwn (R := (intR .i64)) (X := (b64 :: X)) (B := w79.heap.size) (xs := ((newR 1 1 members).Members.take k).filter (fun m => !ieq m id)) (ys := [id]) (Sure.none rfl) rfl rfl u22 e3 rfl (by show 0 < (1 : Nat); decide) rfl rfl ho174 (Owns.sl' ho175 hno168) (fun g hg => Owns.sl' (Owns.flat (flat_int _) ho175) (fun gs hgs hm => (List.mem_cons.1 hm).elim (fun h => by have h1 := hlit167 gs hgs; have h2 := (ho11_115.lt g hg).2; omega) (fun h => hno168 gs hgs h))) hx171.size (by simp only [List.length_cons, List.length_nil]; omega) (by simp only [List.length_cons, List.length_nil, maxLen]; omega) (fun v176 w177 ho178 hg179 hf180 => ?_)
  have hno181 := after_no hf180 ho11_115n (inCons hb173.lt (inMono hX hx169.size))
  have hx182 := Ext.ownB (hx169) hg179 (fun k hk => (Owns.lt ho174 k hk).1) hsz113
  have hx183 := Ext.ownB (hx170) hg179 (fun k hk => (Owns.lt ho174 k hk).1) hsz114
  have hx184 := Ext.ownB (hx171) hg179 (fun k hk => (Owns.lt ho174 k hk).1) (Nat.le_refl _)
  have hb185 := hb173.grown hg179 (fun g hg e => ho11_115n g hg (by simp [e]))
  refine WL.m rfl ?_
  refine WL.nil ?_
  refine WP.seq ?_
  refine WP.sr ?_
  have hmore : (((newR 1 1 members).Members.take k).filter (fun m => !ieq m id)) ++ ([id]) = moreOf (newR 1 1 members).Members id := more_t (by omega) (by assumption)
  have hmlen : ((((newR 1 1 members).Members.take k).filter (fun m => !ieq m id)) ++ ([id])).length ≤ 65 := by have := filter_take_le (fun m => !ieq m id) (newR 1 1 members).Members k; simp only [List.length_append, List.length_cons, List.length_nil]; omega
  have hl186 := Owns.sl' ho178 hno181
  refine WL.m rfl ?_
  obtain ⟨a187, c188, hv189⟩ := hl186.shape
  refine WL.z (.int .i64 ((((((newR 1 1 members).Members.take k).filter (fun m => !ieq m id)) ++ ([id])).length : Int))) (V.lenSlice rfl rfl u22 (Eq.trans (b := v176) rfl hv189)) ?_
  refine WL.z (.bool (decide ((((((newR 1 1 members).Members.take k).filter (fun m => !ieq m id)) ++ ([id])).length : Int) = 0))) (V.cmp rfl rfl rfl rfl) ?_
  refine WL.vbp (c := (((((newR 1 1 members).Members.take k).filter (fun m => !ieq m id)) ++ ([id])).length : Int) = 0) (Sure.none rfl) rfl (V.move rfl rfl) (fun hc190 => ?_) (fun hc190 => ?_)
  · refine WL.skips [(80, some true)] [(92, some true)] (kc (some true) rfl kn) (by kernel_rfl) (fun E191 hK192 hE193 => ?_)
    refine WP.cond_true (hK192 92 (some true) rfl) ?_
    refine WP.sr ?_
    refine WL.c (Sure.none rfl) rfl (C.call0 rfl cl4 ) (Fnc.mono (law_alive ) ?_)
    rintro _ w194 ⟨rfl, hx195⟩
    have hx196 : Ext [b64] w w194 := hx182.trans (Ext.any (Y := [b64]) hx195)
    refine WL.m rfl ?_
    refine WL.nil ?_
    refine WP.ret ?_
    refine resOf.c1 rfl (v := .bool (true)) rfl ?_
    exact ⟨(bool_eq (by first | rfl | exact (seats_end hMids hmore (by assumption) (by assumption) (by assumption) (by omega)).elim)), ((hx196).done (geCons hge_b64_w geNil))⟩
  refine WL.fy (x := .tmp 9) (v33) rfl fl30_1 h9_115 p22 (hb185.cell rfl) ?_
  refine WL.my rfl rfl ?_
  refine WL.c (Sure.yes rfl rfl rfl) rfl (C.call2 (y := .tmp 83) rfl cl6 rfl h2_115) (Fnc.mono (vote_Majority (hl72.ext (Ext.pre hx183)) (hl70.ext (Ext.pre hx183)) (by omega)) ?_)
  rintro _ w202 ⟨rfl, hx203⟩
  have hx204 : Ext [b64] w w202 := hx182.trans (Ext.any (Y := [b64]) hx203)
  have hx205 : Ext [b64] w65 w202 := hx183.trans (Ext.any (Y := [b64]) hx203)
  have hx206 : Ext [b64] w79 w202 := hx184.trans (Ext.any (Y := [b64]) hx203)
  have hx207 : Ext [b64] w177 w202 := (Ext.any (Y := [b64]) hx203)
  have hb208 := hb185.ext hx203 (by simp)
  refine WL.y (.bool (!(majB ((newR 1 1 members).Members) a))) rfl (V.not rfl rfl) ?_
  refine WL.k (a := false) rfl rfl ?_
  refine WL.vbn (c := majB ((newR 1 1 members).Members) a) (Sure.none rfl) rfl (V.move rfl rfl) (fun hc210 => ?_) (fun hc210 => ?_)
  · refine WL.skips [(87, some true)] [(92, some true)] (kc (some true) rfl kn) (by kernel_rfl) (fun E211 hK212 hE213 => ?_)
    refine WP.cond_true (hK212 92 (some true) rfl) ?_
    refine WP.sr ?_
    refine WL.c (Sure.none rfl) rfl (C.call0 rfl cl4 ) (Fnc.mono (law_alive ) ?_)
    rintro _ w214 ⟨rfl, hx215⟩
    have hx216 : Ext [b64] w w214 := hx204.trans (Ext.any (Y := [b64]) hx215)
    refine WL.m rfl ?_
    refine WL.nil ?_
    refine WP.ret ?_
    refine resOf.c1 rfl (v := .bool (true)) rfl ?_
    exact ⟨(bool_eq (by first | rfl | exact (seats_end hMids hmore (by assumption) (by assumption) (by assumption) (by omega)).elim)), ((hx216).done (geCons hge_b64_w geNil))⟩
  refine WL.my rfl rfl ?_
  refine WL.my rfl rfl ?_
  refine WL.c (Sure.yes rfl rfl rfl) rfl (C.call2 (y := .tmp 89) rfl cl6 rfl h3_115) (Fnc.mono (vote_Majority (hl186.ext (Ext.pre hx207)) (hl71.ext (Ext.pre hx205)) (by omega)) ?_)
  rintro _ w223 ⟨rfl, hx224⟩
  have hx225 : Ext [b64] w w223 := hx204.trans (Ext.any (Y := [b64]) hx224)
  have hx226 : Ext [b64] w65 w223 := hx205.trans (Ext.any (Y := [b64]) hx224)
  have hx227 : Ext [b64] w79 w223 := hx206.trans (Ext.any (Y := [b64]) hx224)
  have hx228 : Ext [b64] w177 w223 := hx207.trans (Ext.any (Y := [b64]) hx224)
  have hx229 : Ext [b64] w202 w223 := (Ext.any (Y := [b64]) hx224)
  have hb230 := hb208.ext hx224 (by simp)
  refine WL.y (.bool (!(majB ((((newR 1 1 members).Members.take k).filter (fun m => !ieq m id)) ++ ([id])) b))) rfl (V.not rfl rfl) ?_
  refine WL.k (a := false) rfl rfl ?_
  refine WL.nil ?_
  refine WP.condn (t := majB ((((newR 1 1 members).Members.take k).filter (fun m => !ieq m id)) ++ ([id])) b) rfl (fun hc232 => ?_) (fun hc232 => ?_)
  · refine WP.sr ?_
    refine WL.c (Sure.none rfl) rfl (C.call0 rfl cl4 ) (Fnc.mono (law_alive ) ?_)
    rintro _ w233 ⟨rfl, hx234⟩
    have hx235 : Ext [b64] w w233 := hx225.trans (Ext.any (Y := [b64]) hx234)
    refine WL.m rfl ?_
    refine WL.nil ?_
    refine WP.ret ?_
    refine resOf.c1 rfl (v := .bool (true)) rfl ?_
    exact ⟨(bool_eq (by first | rfl | exact (seats_end hMids hmore (by assumption) (by assumption) (by assumption) (by omega)).elim)), ((hx235).done (geCons hge_b64_w geNil))⟩
  refine WP.skip ?_
  refine WP.seq ?_
  refine WP.sr ?_
  refine WL.m rfl ?_
  refine WL.nil ?_
  refine WP.block ?_
  have hsz245 : w.heap.size ≤ w223.heap.size := hx225.size
  have hsz246 : w65.heap.size ≤ w223.heap.size := hx226.size
  have hsz247 : w79.heap.size ≤ w223.heap.size := hx227.size
  have hsz248 : w177.heap.size ≤ w223.heap.size := hx228.size
  have hsz249 : w202.heap.size ≤ w223.heap.size := hx229.size
  refine WP.loop (σ := Nat) (fun q E243 w244 => E243 0 = v_members ∧ E243 1 = .int .i64 (id) ∧ E243 2 = v_a ∧ E243 3 = v_b ∧ E243 9 = .pointer (some ⟨b64, 0, none⟩) ∧ E243 10 = .int .i64 (if vmayB (newP 1 1 members) then 0 else 2) ∧ E243 11 = v176 ∧ E243 12 = .int .i64 ((k : Int)) ∧ E243 13 = .int .i64 ((q : Int)) ∧ E243 27 = .bool (decide (((b).length : Int) > 100)) ∧ E243 43 = .bool (decide (id > 64)) ∧ E243 49 = .bool (decide ((k : Int) < (((newR 1 1 members).Members).length : Int))) ∧ E243 72 = .bool (decide (((((newR 1 1 members).Members.take k).filter (fun m => !ieq m id)).length : Int) = (((newR 1 1 members).Members).length : Int))) ∧ E243 92 = .bool (!(majB ((((newR 1 1 members).Members.take k).filter (fun m => !ieq m id)) ++ ([id])) b)) ∧ Ext [b64] w223 w244 ∧ Box w244 b64 30 [.int .i64 ((newR 1 1 members).Id), v33, .int .u64 ((newR 1 1 members).Term), .int .i64 ((newR 1 1 members).Vote), .int .u8 ((newR 1 1 members).Role), .int .i64 ((newR 1 1 members).Lead), .int .u64 ((newR 1 1 members).Base), .int .u64 ((newR 1 1 members).BaseTerm), v35, .string ((newR 1 1 members).Snap), v37, .int .u64 ((newR 1 1 members).Commit), .int .i64 ((newR 1 1 members).Idle), .int .i64 ((newR 1 1 members).Wait), v39, v41, .int .u64 ((newR 1 1 members).Round), v43] ∧ q ≤ a.length ∧ ∀ j, j < q → (fun i => allB b.length (fun j => !pairB ((newR 1 1 members).Members) ((((newR 1 1 members).Members.take k).filter (fun m => !ieq m id)) ++ [id]) a b i j)) j = true) (fun q => a.length - q) (0) ?_ ?_
  · exact ⟨h0_115, h1_115, h2_115, h3_115, h9_115, h10_115, rfl, h12_115, (int_eq (by omega)), h27_115, h43_115, rfl, rfl, rfl, Ext.refl _ _, hb230, (by omega), (all_zero _)⟩
  rintro q E243 w244 ⟨h0_250, h1_250, h2_250, h3_250, h9_250, h10_250, h11_250, h12_250, h13_250, h27_250, h43_250, h49_250, h72_250, h92_250, hx250, hbb64_250, hi0_250, hi1_250⟩
  have hx251 : Ext [b64] w w244 := hx225.trans hx250
  have hx252 : Ext [b64] w65 w244 := hx226.trans hx250
  have hx253 : Ext [b64] w79 w244 := hx227.trans hx250
  have hx254 : Ext [b64] w177 w244 := hx228.trans hx250
  have hx255 : Ext [b64] w202 w244 := hx229.trans hx250
  have hx256 : Ext [b64] w223 w244 := hx250
  refine WP.seq ?_
  refine WP.sr ?_
  refine WL.m rfl ?_
  refine WL.m rfl ?_
  refine WL.z (.int .i64 (((a).length : Int))) (V.lenSlice (x := .tmp 95) rfl rfl u22 (Eq.trans (b := v_a) h2_250 hv13)) ?_
  refine WL.z (.bool (decide ((q : Int) < ((a).length : Int)))) (V.cmp (x := .tmp 94) rfl h13_250 rfl rfl) ?_
  refine WL.nil ?_
  refine WP.condp (t := (q : Int) < ((a).length : Int)) rfl (fun hc257 => ?_) (fun hc257 => ?_)
  rotate_left
  · refine WP.exit ?_
    refine WP.sr ?_
    refine WL.m rfl ?_
    refine WL.nil ?_
    refine WP.ret ?_
    refine resOf.c1 rfl (v := .bool (false)) rfl ?_
    exact ⟨(bool_eq (by first | rfl | exact (seats_end hMids hmore (by assumption) (by assumption) (by assumption) (by omega)).elim)), ((hx251).done (geCons hge_b64_w geNil))⟩
  refine WP.skip ?_
  refine WP.seq ?_
  refine WP.block ?_
  refine WP.sr ?_
  refine WL.m rfl ?_
  refine WL.nil ?_
  refine WP.block ?_
  have hsz260 : w.heap.size ≤ w244.heap.size := hx251.size
  have hsz261 : w65.heap.size ≤ w244.heap.size := hx252.size
  have hsz262 : w79.heap.size ≤ w244.heap.size := hx253.size
  have hsz263 : w177.heap.size ≤ w244.heap.size := hx254.size
  have hsz264 : w202.heap.size ≤ w244.heap.size := hx255.size
  have hsz265 : w223.heap.size ≤ w244.heap.size := hx256.size
  refine WP.loop (σ := Nat) (fun r E258 w259 => E258 0 = v_members ∧ E258 1 = .int .i64 (id) ∧ E258 2 = v_a ∧ E258 3 = v_b ∧ E258 9 = .pointer (some ⟨b64, 0, none⟩) ∧ E258 10 = .int .i64 (if vmayB (newP 1 1 members) then 0 else 2) ∧ E258 11 = v176 ∧ E258 12 = .int .i64 ((k : Int)) ∧ E258 13 = .int .i64 ((q : Int)) ∧ E258 14 = .int .i64 ((r : Int)) ∧ E258 27 = .bool (decide (((b).length : Int) > 100)) ∧ E258 43 = .bool (decide (id > 64)) ∧ E258 49 = .bool (decide ((k : Int) < (((newR 1 1 members).Members).length : Int))) ∧ E258 72 = .bool (decide (((((newR 1 1 members).Members.take k).filter (fun m => !ieq m id)).length : Int) = (((newR 1 1 members).Members).length : Int))) ∧ E258 92 = .bool (!(majB ((((newR 1 1 members).Members.take k).filter (fun m => !ieq m id)) ++ ([id])) b)) ∧ E258 97 = .bool (decide ((q : Int) < ((a).length : Int))) ∧ Ext [b64] w244 w259 ∧ Box w259 b64 30 [.int .i64 ((newR 1 1 members).Id), v33, .int .u64 ((newR 1 1 members).Term), .int .i64 ((newR 1 1 members).Vote), .int .u8 ((newR 1 1 members).Role), .int .i64 ((newR 1 1 members).Lead), .int .u64 ((newR 1 1 members).Base), .int .u64 ((newR 1 1 members).BaseTerm), v35, .string ((newR 1 1 members).Snap), v37, .int .u64 ((newR 1 1 members).Commit), .int .i64 ((newR 1 1 members).Idle), .int .i64 ((newR 1 1 members).Wait), v39, v41, .int .u64 ((newR 1 1 members).Round), v43] ∧ r ≤ b.length ∧ ∀ j, j < r → (fun j => !pairB ((newR 1 1 members).Members) ((((newR 1 1 members).Members.take k).filter (fun m => !ieq m id)) ++ [id]) a b q j) j = true) (fun r => b.length - r) (0) ?_ ?_
  · exact ⟨h0_250, h1_250, h2_250, h3_250, h9_250, h10_250, h11_250, h12_250, h13_250, (int_eq (by omega)), h27_250, h43_250, h49_250, h72_250, h92_250, rfl, Ext.refl _ _, hbb64_250, (by omega), (all_zero _)⟩
  rintro r E258 w259 ⟨h0_266, h1_266, h2_266, h3_266, h9_266, h10_266, h11_266, h12_266, h13_266, h14_266, h27_266, h43_266, h49_266, h72_266, h92_266, h97_266, hx266, hbb64_266, hi0_266, hi1_266⟩
  have hx267 : Ext [b64] w w259 := hx251.trans hx266
  have hx268 : Ext [b64] w65 w259 := hx252.trans hx266
  have hx270 : Ext [b64] w177 w259 := hx254.trans hx266
  have hx272 : Ext [b64] w223 w259 := hx256.trans hx266
  have hx273 : Ext [b64] w244 w259 := hx266
  refine WP.seq ?_
  refine WP.sr ?_
  refine WL.m rfl ?_
  refine WL.m rfl ?_
  refine WL.z (.int .i64 (((b).length : Int))) (V.lenSlice (x := .tmp 101) rfl rfl u22 (Eq.trans (b := v_b) h3_266 hv23)) ?_
  refine WL.z (.bool (decide ((r : Int) < ((b).length : Int)))) (V.cmp (x := .tmp 100) rfl h14_266 rfl rfl) ?_
  refine WL.nil ?_
  refine WP.condp (t := (r : Int) < ((b).length : Int)) rfl (fun hc274 => ?_) (fun hc274 => ?_)
  rotate_left
  · refine WP.exit ?_
    refine WP.region ?_
    refine WL.m rfl ?_
    refine WL.z (.int .i64 ((q : Int) + 1)) (V.arith (x := .tmp 98) rfl h13_266 rfl rfl (wrap_i64 (by omega) (by omega))) ?_
    refine WL.m rfl ?_
    refine WL.nil ?_
    exact ⟨q + 1, ⟨h0_266, h1_266, h2_266, h3_266, h9_266, h10_266, h11_266, h12_266, (int_eq (by omega)), h27_266, h43_266, h49_266, h72_266, h92_266, hx272, hbb64_266, (by omega), (all_step (by assumption) (by exact allB_true (by assumption) (by omega)))⟩, (by omega)⟩
  refine WP.skip ?_
  refine WP.seq ?_
  refine WP.block ?_
  refine WP.seq ?_
  refine WP.quiet mo (by kernel_rfl) ?_
  refine WQ.m rfl ?_
  refine WQ.m rfl ?_
  have hlt283 : q < (a).length := by first | omega | (simp at *; omega)
  obtain ⟨b275, k276, c277, cs278, hv279, hnb280, hr281, hat282⟩ := (hl70.ext (Ext.pre hx268)).get (i := q) (x := (a.getD q 0)) (getD_some hlt283 _)
  obtain ⟨rfl, hin284⟩ := hr281
  have hin284 := inK_i64 hin284
  refine WQ.z (.pointer (some ⟨b275, k276 + q * 1, none⟩)) (fun w' hw => V.indexAddr (x := .tmp 106) (i := .tmp 107) (m := q) (j := (q : Int)) rfl u22 s3 (Eq.trans (b := v_a) h2_266 hv279) h13_266 rfl hlt283) ?_
  refine WQ.z (.int .i64 ((a.getD q 0))) (fun w' hw => V.load rfl p3 rfl ((hat282.ext hw (by simp)).cell (j := 0) rfl)) ?_
  refine WQ.m rfl ?_
  refine WQ.m rfl ?_
  have hlt293 : r < (b).length := by first | omega | (simp at *; omega)
  obtain ⟨b285, k286, c287, cs288, hv289, hnb290, hr291, hat292⟩ := (hl71.ext (Ext.pre hx268)).get (i := r) (x := (b.getD r 0)) (getD_some hlt293 _)
  obtain ⟨rfl, hin294⟩ := hr291
  have hin294 := inK_i64 hin294
  refine WQ.z (.pointer (some ⟨b285, k286 + r * 1, none⟩)) (fun w' hw => V.indexAddr (x := .tmp 110) (i := .tmp 111) (m := r) (j := (r : Int)) rfl u22 s3 (Eq.trans (b := v_b) h3_266 hv289) h14_266 rfl hlt293) ?_
  refine WQ.z (.int .i64 ((b.getD r 0))) (fun w' hw => V.load rfl p3 rfl ((hat292.ext hw (by simp)).cell (j := 0) rfl)) ?_
  refine WQ.z (.bool (decide ((a.getD q 0) = (b.getD r 0)))) (fun w' hw => V.cmp rfl rfl rfl rfl) ?_
  refine WQ.vbp (c := (a.getD q 0) = (b.getD r 0)) (Sure.none rfl) rfl (fun w' hw => V.move rfl rfl) (fun hc295 => ?_) (fun hc295 => ?_)
  rotate_left
  · refine WQ.skips [(115, some false)] [(131, some false)] (kc (some false) rfl kn) (by kernel_rfl) (fun E335 hK336 hE337 w338 hq339 => ?_)
    have hx346 : Ext [b64] w244 w338 := hx273.trans (Ext.any (Y := [b64]) hq339)
    have hb348 := hbb64_266.ext hq339 (by simp)
    refine WP.cond_false (hK336 131 (some false) rfl) ?_
    refine WP.skip ?_
    refine WP.region ?_
    refine WL.m rfl ?_
    refine WL.z (.int .i64 ((r : Int) + 1)) (V.arith (x := .tmp 104) rfl ((hE337 14 rfl).trans h14_266) rfl rfl (wrap_i64 (by omega) (by omega))) ?_
    refine WL.m rfl ?_
    refine WL.nil ?_
    exact ⟨r + 1, ⟨((hE337 0 rfl).trans h0_266), ((hE337 1 rfl).trans h1_266), ((hE337 2 rfl).trans h2_266), ((hE337 3 rfl).trans h3_266), ((hE337 9 rfl).trans h9_266), ((hE337 10 rfl).trans h10_266), ((hE337 11 rfl).trans h11_266), ((hE337 12 rfl).trans h12_266), ((hE337 13 rfl).trans h13_266), (int_eq (by omega)), ((hE337 27 rfl).trans h27_266), ((hE337 43 rfl).trans h43_266), ((hE337 49 rfl).trans h49_266), ((hE337 72 rfl).trans h72_266), ((hE337 92 rfl).trans h92_266), ((hE337 97 rfl).trans h97_266), hx346, hb348, (by omega), (all_step (by assumption) (by first | assumption | grind [pairB, ieq]))⟩, (by omega)⟩
  refine WQ.fy (x := .tmp 9) (v33) rfl fl30_1 h9_266 p22 (fun w' hw => (hbb64_266.ext hw (by simp)).cell rfl) ?_
  refine WQ.my rfl rfl ?_
  refine WQ.my rfl rfl ?_
  refine WQ.y (.pointer (some ⟨b275, k276 + q * 1, none⟩)) rfl (fun w' hw => V.indexAddr (x := .tmp 118) (i := .tmp 119) (m := q) (j := (q : Int)) rfl u22 s3 (Eq.trans (b := v_a) h2_266 hv279) h13_266 rfl hlt283) ?_
  refine WQ.y (.int .i64 ((a.getD q 0))) rfl (fun w' hw => V.load rfl p3 rfl ((hat282.ext hw (by simp)).cell (j := 0) rfl)) ?_
  refine WQ.c (u := .bool (hasB ((newR 1 1 members).Members) (a.getD q 0))) (Sure.yes rfl rfl rfl) rfl (fun w' hw => C.call2 rfl cl7 rfl rfl) (fun w' hw => (ref_Has ((hl72.ext (Ext.pre hx268)).ext (Ext.any hw)) (a.getD q 0))) ?_
  refine WQ.k (a := true) rfl rfl ?_
  refine WQ.vb (c := hasB ((newR 1 1 members).Members) (a.getD q 0)) (Sure.none rfl) rfl (fun w' hw => V.move rfl rfl) (fun hc296 => ?_) (fun hc296 => ?_)
  rotate_left
  · refine WQ.skips [(124, some false)] [(131, some false)] (kc (some false) rfl kn) (by kernel_rfl) (fun E321 hK322 hE323 w324 hq325 => ?_)
    have hx332 : Ext [b64] w244 w324 := hx273.trans (Ext.any (Y := [b64]) hq325)
    have hb334 := hbb64_266.ext hq325 (by simp)
    refine WP.cond_false (hK322 131 (some false) rfl) ?_
    refine WP.skip ?_
    refine WP.region ?_
    refine WL.m rfl ?_
    refine WL.z (.int .i64 ((r : Int) + 1)) (V.arith (x := .tmp 104) rfl ((hE323 14 rfl).trans h14_266) rfl rfl (wrap_i64 (by omega) (by omega))) ?_
    refine WL.m rfl ?_
    refine WL.nil ?_
    exact ⟨r + 1, ⟨((hE323 0 rfl).trans h0_266), ((hE323 1 rfl).trans h1_266), ((hE323 2 rfl).trans h2_266), ((hE323 3 rfl).trans h3_266), ((hE323 9 rfl).trans h9_266), ((hE323 10 rfl).trans h10_266), ((hE323 11 rfl).trans h11_266), ((hE323 12 rfl).trans h12_266), ((hE323 13 rfl).trans h13_266), (int_eq (by omega)), ((hE323 27 rfl).trans h27_266), ((hE323 43 rfl).trans h43_266), ((hE323 49 rfl).trans h49_266), ((hE323 72 rfl).trans h72_266), ((hE323 92 rfl).trans h92_266), ((hE323 97 rfl).trans h97_266), hx332, hb334, (by omega), (all_step (by assumption) (by first | assumption | grind [pairB, ieq]))⟩, (by omega)⟩
  refine WQ.my rfl rfl ?_
  refine WQ.my rfl rfl ?_
  refine WQ.my rfl rfl ?_
  refine WQ.y (.pointer (some ⟨b275, k276 + q * 1, none⟩)) rfl (fun w' hw => V.indexAddr (x := .tmp 126) (i := .tmp 127) (m := q) (j := (q : Int)) rfl u22 s3 (Eq.trans (b := v_a) h2_266 hv279) h13_266 rfl hlt283) ?_
  refine WQ.y (.int .i64 ((a.getD q 0))) rfl (fun w' hw => V.load rfl p3 rfl ((hat282.ext hw (by simp)).cell (j := 0) rfl)) ?_
  refine WQ.c (u := .bool (hasB ((((newR 1 1 members).Members.take k).filter (fun m => !ieq m id)) ++ ([id])) (a.getD q 0))) (Sure.yes rfl rfl rfl) rfl (fun w' hw => C.call2 (x := .tmp 125) rfl cl7 h11_266 rfl) (fun w' hw => (ref_Has ((hl186.ext (Ext.pre hx270)).ext (Ext.any hw)) (a.getD q 0))) ?_
  refine WQ.k (a := true) rfl rfl ?_
  refine WQ.nil (fun w297 hq298 => ?_)
  have hx299 : Ext [b64] w w297 := hx267.trans (Ext.any (Y := [b64]) hq298)
  have hx305 : Ext [b64] w244 w297 := hx273.trans (Ext.any (Y := [b64]) hq298)
  have hb307 := hbb64_266.ext hq298 (by simp)
  refine WP.cond (t := hasB ((((newR 1 1 members).Members.take k).filter (fun m => !ieq m id)) ++ ([id])) (a.getD q 0)) rfl (fun hc308 => ?_) (fun hc308 => ?_)
  rotate_left
  · refine WP.skip ?_
    refine WP.region ?_
    refine WL.m rfl ?_
    refine WL.z (.int .i64 ((r : Int) + 1)) (V.arith (x := .tmp 104) rfl h14_266 rfl rfl (wrap_i64 (by omega) (by omega))) ?_
    refine WL.m rfl ?_
    refine WL.nil ?_
    exact ⟨r + 1, ⟨h0_266, h1_266, h2_266, h3_266, h9_266, h10_266, h11_266, h12_266, h13_266, (int_eq (by omega)), h27_266, h43_266, h49_266, h72_266, h92_266, h97_266, hx305, hb307, (by omega), (all_step (by assumption) (by first | assumption | grind [pairB, ieq]))⟩, (by omega)⟩
  refine WP.sr ?_
  refine WL.c (Sure.none rfl) rfl (C.call0 rfl cl4 ) (Fnc.mono (law_alive ) ?_)
  rintro _ w309 ⟨rfl, hx310⟩
  have hx311 : Ext [b64] w w309 := hx299.trans (Ext.any (Y := [b64]) hx310)
  refine WL.m rfl ?_
  refine WL.nil ?_
  refine WP.ret ?_
  refine resOf.c1 rfl (v := .bool (true)) rfl ?_
  exact ⟨(bool_eq (by first | rfl | exact (seats_end hMids hmore (by assumption) (by assumption) (by assumption) (by omega)).elim)), ((hx311).done (geCons hge_b64_w geNil))⟩

theorem rd3 {H : Type} {enc : TypeId × Value → H} : Rd enc Try.prog 3 (intR .i64) (fun (_ : Int) => True) := Rd.int u3
theorem rd22 {H : Type} {enc : TypeId × Value → H} : Rd enc Try.prog 22 (slR (intR .i64) (by show (1 : Nat) ≠ 0; decide)) (fun (xs : List Int) => xs.length * 8 ≤ reachBytes ∧ ∀ (i : Nat) (x : Int), xs[i]? = some x → (fun (_ : Int) => True) x) := Rd.slice u22 (by kernel_rfl) (by show (1 : Nat) ≠ 0; decide) (by kernel_rfl) rd3
end Go.Proofs.Ytkcnljgennehaaa.T
