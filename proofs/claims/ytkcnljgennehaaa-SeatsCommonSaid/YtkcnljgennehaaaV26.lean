import Derived.Test.YtkcnljgennehaaaV23
namespace Go.Proofs.Ytkcnljgennehaaa.T
open W Go.RowKit
set_option maxRecDepth 100000
set_option maxHeartbeats 400000

def newP (n wait : Int) (l : List Int) : PeerD := { Id := n, Members := l, Term := 0, Vote := 0, Role := 0, Lead := 0, Base := 0, BaseTerm := 0, BaseMembers := l, Snap := ByteArray.mk #[], Log := [], Commit := 0, Idle := 0, Wait := wait, Votes := [], Follows := [], Round := 0, Reads := [] }
def moreF (l : List Int) (id : Int) (k : Nat) : List Int := (l.take k).filter (fun m => !ieq m id)
def moreOf (l : List Int) (id : Int) : List Int := if (moreF l id l.length).length = l.length then moreF l id l.length ++ [id] else moreF l id l.length
theorem nodup_le {l m : List Int} (h : l.Nodup) (hs : ∀ x ∈ l, x ∈ m) : l.length ≤ m.length := by
  induction l generalizing m with
  | nil => simp
  | cons x r ih =>
    have hx : x ∈ m := hs x (by simp)
    have hn := List.nodup_cons.1 h
    have := ih hn.2 (m := m.erase x) fun y hy => by
      have hne : y ≠ x := by intro e; subst e; exact hn.1 hy
      exact (List.mem_erase_of_ne hne).2 (hs y (by simp [hy]))
    rw [List.length_erase_of_mem hx] at this
    have hp : 0 < m.length := List.length_pos_of_mem hx
    simp only [List.length_cons]; omega
theorem ids_lt {l : List Int} (h : idsB l = true) : ∀ j i, i < j → j < l.length → l.getD i 0 < l.getD j 0
  | 0, i, hi, _ => by omega
  | j + 1, i, hi, hj => by
    have h1 := allB_iff.1 h (j + 1) hj
    simp only [okAt, Bool.and_eq_true, Bool.or_eq_true, decide_eq_true_eq, Nat.add_sub_cancel] at h1
    have h2 : l.getD j 0 < l.getD (j + 1) 0 := by
      rcases h1.2 with h | h
      · omega
      · exact h
    rcases Nat.lt_or_ge i j with h3 | h3
    · exact Int.lt_trans (ids_lt h j i h3 (by omega)) h2
    · obtain rfl : i = j := by omega
      exact h2
theorem ids_nodup {l : List Int} (h : idsB l = true) : l.Nodup := by
  unfold List.Nodup
  rw [List.pairwise_iff_getElem]
  intro i j hi hj hij he
  have := ids_lt h j i hij hj
  rw [List.getD_eq_getElem?_getD, List.getD_eq_getElem?_getD, List.getElem?_eq_getElem hi, List.getElem?_eq_getElem hj] at this
  simp only [Option.getD_some] at this
  omega
theorem hasB_iff {l : List Int} {x : Int} : hasB l x = true ↔ x ∈ l := by
  simp only [hasB, ieq, List.any_eq_true, decide_eq_true_eq]
  exact ⟨fun ⟨y, hy, e⟩ => e ▸ hy, fun h => ⟨x, h, rfl⟩⟩
theorem common {l a b : List Int} {id : Int} (hl : idsB l = true) (ha : majB l a = true) (hb : majB (moreOf l id) b = true) : ∃ x, x ∈ a ∧ x ∈ b ∧ hasB l x = true ∧ hasB (moreOf l id) x = true := by
  have hn := ids_nodup hl
  simp only [majB, cntIn, List.take_length, decide_eq_true_eq] at ha hb
  apply Classical.byContradiction
  intro hno
  have hfn : (moreF l id l.length).Nodup := by rw [moreF, List.take_length]; exact hn.filter _
  have hfm : ∀ x, x ∈ moreF l id l.length ↔ x ∈ l ∧ x ≠ id := by intro x; simp [moreF, ieq]
  have hmn : (moreOf l id).Nodup := by
    unfold moreOf
    split
    · rw [List.nodup_append]
      refine ⟨hfn, by simp, ?_⟩
      intro x hx y hy e
      simp only [List.mem_singleton] at hy
      subst hy; subst e
      exact ((hfm _).1 hx).2 rfl
    · exact hfn
  have hAB : ((l.filter (hasB a)) ++ ((moreOf l id).filter (hasB b))).Nodup := by
    rw [List.nodup_append]
    refine ⟨hn.filter _, hmn.filter _, ?_⟩
    intro x hx y hy e
    subst e
    simp only [List.mem_filter] at hx hy
    exact hno ⟨x, hasB_iff.1 hx.2, hasB_iff.1 hy.2, hasB_iff.2 hx.1, hasB_iff.2 hy.1⟩
  by_cases hc : (moreF l id l.length).length = l.length
  · have hm : moreOf l id = moreF l id l.length ++ [id] := by rw [moreOf, if_pos hc]
    rw [hm] at hAB hb
    have h1 := nodup_le hAB (m := l ++ [id]) (by
      intro x hx
      simp only [List.mem_append, List.mem_filter, List.mem_singleton] at hx ⊢
      rcases hx with hx | ⟨hx | hx, _⟩
      · exact .inl hx.1
      · exact .inl ((hfm x).1 hx).1
      · exact .inr hx)
    simp only [List.length_append, List.length_singleton] at h1 hb
    omega
  · have hm : moreOf l id = moreF l id l.length := by rw [moreOf, if_neg hc]
    rw [hm] at hAB hb
    have h1 := nodup_le hAB (m := l) (by
      intro x hx
      simp only [List.mem_append, List.mem_filter] at hx
      rcases hx with hx | hx
      · exact hx.1
      · exact ((hfm x).1 hx.1).1)
    have h2 := nodup_le hn (m := id :: moreF l id l.length) (by
      intro x hx
      by_cases e : x = id
      · simp [e]
      · exact List.mem_cons_of_mem _ ((hfm x).2 ⟨hx, e⟩))
    simp only [List.length_append, List.length_cons] at h1 h2
    omega

def zeroP : PeerD := newP 0 0 []
def newR (n wait : Int) (l : List Int) : PeerD := if vmayB (newP n wait l) = true then newP n wait l else zeroP
theorem newR_t {n wait : Int} {l : List Int} (h : vmayB (newP n wait l) = true) : newP n wait l = newR n wait l := by rw [newR, if_pos h]
theorem newR_f {n wait : Int} {l : List Int} (h : vmayB (newP n wait l) = false) : zeroP = newR n wait l := by rw [newR, h]; rfl
theorem pick_t {b : Bool} (h : b = true) : (0 : Int) = if b = true then 0 else 2 := by rw [h]; rfl
theorem pick_f {b : Bool} (h : b = false) : (2 : Int) = if b = true then 0 else 2 := by rw [h]; rfl
theorem fits_new {n wait : Int} {l : List Int} (h : l.length ≤ 17592186044416) : Fits (newP n wait l) :=
  ⟨h, h, by simp [newP], by simp [newP], by simp [newP], by simp [newP], by simp [newP], by simp [newP]⟩

set_option maxHeartbeats 2000000 in
theorem vote_New {w : World} {X : List Nat} (n : Int) (wait : Int) {v_l : Value} {l : List Int} (h_l : Sl (intR .i64) X w v_l l) (hb : l.length ≤ 17592186044416) (hn : -9223372036854775808 ≤ n ∧ n ≤ 9223372036854775807) (hw : -9223372036854775808 ≤ wait ∧ wait ≤ 9223372036854775807) (hX : ∀ x ∈ X, x < w.heap.size) : Fnc Try.prog 5 #[.int .i64 (n), .int .i64 (wait), v_l] w (fun v w' => ∃ (u0 : List Value), v = .tuple #[.agg u0.toArray, .int .i64 (if vmayB (newP n wait l) then 0 else 2)] ∧ peerR.rd X w' u0 (newR n wait l) ∧ Ext [] w w') := by
  have hle_l := h_l.le'
  have hFn := fits_new (n := n) (wait := wait) hb
  refine Fnc.of_WP (n := 21) Try.func5 rfl Try.ntmps5 (by simp) ?_
  intro E hE
  have h0 : E 0 = .int .i64 (n) := hE 0 (by simp)
  have h1 : E 1 = .int .i64 (wait) := hE 1 (by simp)
  have h2 : E 2 = v_l := hE 2 (by simp)
  clear hE
  refine WP.sr ?_
  refine WL.alloc (cs := [.int .i64 (0), .slice none 0 0, .int .u64 (0), .int .i64 (0), .int .u8 (0), .int .i64 (0), .int .u64 (0), .int .u64 (0), .slice none 0 0, .string (ByteArray.mk #[]), .slice none 0 0, .int .u64 (0), .int .i64 (0), .int .i64 (0), .slice none 0 0, .slice none 0 0, .int .u64 (0), .slice none 0 0]) (Sure.none rfl) rfl rfl z30 rfl (fun b1 w2 hx3 he4 hb5 => ?_)
  have hl6 := (Sl.new (b := b1) (by show (1 : Nat) ≠ 0; decide) h_l (by omega)).ext (Ext.any hx3)
  have hx7 : Ext [b1] _ _ := (Ext.refl _ _).trans (Ext.any hx3)
  have hge_b1_w : w.heap.size ≤ b1 := by have := Nat.le_refl w.heap.size; omega
  refine WL.m rfl ?_
  refine WL.nil ?_
  refine WP.sr ?_
  refine WL.m rfl ?_
  refine WL.m rfl ?_
  refine WL.m rfl ?_
  refine WL.c (Sure.none rfl) rfl (C.call1 (x := .tmp 11) rfl cl12 h2) (Fnc.mono (sl_clone_int hl6 (by omega) (X := (b1 :: X)) (inCons hb5.lt (inMono hX hx7.size))) ?_)
  rintro v10 w8 ⟨_, rfl, hl11, hx9⟩
  have hx12 : Ext [b1] w w8 := hx7.trans (Ext.any (Y := [b1]) hx9)
  have hx13 : Ext [b1] w2 w8 := (Ext.any (Y := [b1]) hx9)
  have hb14 := hb5.ext hx9 (by simp)
  refine WL.m rfl ?_
  refine WL.c (Sure.none rfl) rfl (C.call1 (x := .tmp 13) rfl cl12 h2) (Fnc.mono (sl_clone_int (hl6.ext (Ext.pre hx13)) (by omega) (X := (b1 :: X)) (inCons hb14.lt (inMono hX hx12.size))) ?_)
  rintro v17 w15 ⟨_, rfl, hl18, hx16⟩
  have hx19 : Ext [b1] w w15 := hx12.trans (Ext.any (Y := [b1]) hx16)
  have hx21 : Ext [b1] w8 w15 := (Ext.any (Y := [b1]) hx16)
  have hb22 := hb14.ext hx16 (by simp)
  obtain ⟨a23, c24, hv25⟩ := hl11.shape
  obtain ⟨a26, c27, hv28⟩ := hl18.shape
  refine WL.z (.agg #[.int .i64 (n), v10, .int .u64 (0), .int .i64 (0), .int .u8 (0), .int .i64 (0), .int .u64 (0), .int .u64 (0), v17, .string (ByteArray.mk #[]), .slice none 0 0, .int .u64 (0), .int .i64 (0), .int .i64 (wait), .slice none 0 0, .slice none 0 0, .int .u64 (0), .slice none 0 0]) (V.build1 (L := [(0, .int .i64 (n)), (13, .int .i64 (wait)), (1, v10), (8, v17)]) rfl (psCons h0 (psCons h1 (psCons rfl (psCons rfl rfl)))) (by rw [hv25, hv28]; exact bu30_6546b8e4 _ _ _ _ _ _ _ _)) ?_
  refine WL.alloc (cs := [.int .i64 (0), .slice none 0 0, .int .u64 (0), .int .i64 (0), .int .u8 (0), .int .i64 (0), .int .u64 (0), .int .u64 (0), .slice none 0 0, .string (ByteArray.mk #[]), .slice none 0 0, .int .u64 (0), .int .i64 (0), .int .i64 (0), .slice none 0 0, .slice none 0 0, .int .u64 (0), .slice none 0 0]) (Sure.none rfl) rfl rfl z30 rfl (fun b29 w30 hx31 he32 hb33 => ?_)
  have hlt_b1_b29 : b1 < b29 := by have := hb22.lt; omega
  have hb34 := hb22.ext hx31 (by simp)
  have hl36 := (Sl.new (b := b29) (by show (1 : Nat) ≠ 0; decide) (hl11.ext (Ext.pre hx21)) (by omega)).ext (Ext.any hx31)
  have hl37 := (Sl.new (b := b29) (by show (1 : Nat) ≠ 0; decide) hl18 (by omega)).ext (Ext.any hx31)
  have hx38 : Ext [b29, b1] _ _ := (Ext.cons hx19).trans (Ext.any hx31)
  have hge_b29_w : w.heap.size ≤ b29 := by have := hx19.size; omega
  refine WL.storeAgg (vs := [.int .i64 (n), v10, .int .u64 (0), .int .i64 (0), .int .u8 (0), .int .i64 (0), .int .u64 (0), .int .u64 (0), v17, .string (ByteArray.mk #[]), .slice none 0 0, .int .u64 (0), .int .i64 (0), .int .i64 (wait), .slice none 0 0, .slice none 0 0, .int .u64 (0), .slice none 0 0]) (Sure.none rfl) rfl rfl s30 rfl rfl rfl (by intro u hu; simp only [List.mem_cons, List.not_mem_nil, or_false] at hu; rcases hu with rfl | rfl | rfl | rfl | rfl | rfl | rfl | rfl | rfl | rfl | rfl | rfl | rfl | rfl | rfl | rfl | rfl | rfl <;> first | rfl | exact Sl.one (by assumption)) hb33 (by show (0 : Nat) + 18 ≤ 18; decide) (fun w39 hs40 hb41 => ?_)
  replace hb41 : Box w39 b29 30 [.int .i64 (n), v10, .int .u64 (0), .int .i64 (0), .int .u8 (0), .int .i64 (0), .int .u64 (0), .int .u64 (0), v17, .string (ByteArray.mk #[]), .slice none 0 0, .int .u64 (0), .int .i64 (0), .int .i64 (wait), .slice none 0 0, .slice none 0 0, .int .u64 (0), .slice none 0 0] := hb41
  have hb42 := hb34.ext hs40 (by simp; omega)
  have hx43 : Ext [b29, b1] w w39 := hx38.trans (hs40.mono (by simp))
  have hx44 : Ext [b29, b1] w30 w39 := (hs40.mono (by simp))
  refine WL.nil ?_
  refine WP.seq ?_
  refine WP.sr ?_
  refine WL.z (.agg #[.int .i64 (n), v10, .int .u64 (0), .int .i64 (0), .int .u8 (0), .int .i64 (0), .int .u64 (0), .int .u64 (0), v17, .string (ByteArray.mk #[]), .slice none 0 0, .int .u64 (0), .int .i64 (0), .int .i64 (wait), .slice none 0 0, .slice none 0 0, .int .u64 (0), .slice none 0 0]) (V.loadAgg (cs := [.int .i64 (n), v10, .int .u64 (0), .int .i64 (0), .int .u8 (0), .int .i64 (0), .int .u64 (0), .int .u64 (0), v17, .string (ByteArray.mk #[]), .slice none 0 0, .int .u64 (0), .int .i64 (0), .int .i64 (wait), .slice none 0 0, .slice none 0 0, .int .u64 (0), .slice none 0 0]) rfl a30 rfl (At.box hb41) rfl) ?_
  refine WL.c (Sure.none rfl) rfl (C.call1 rfl cl13 rfl) (Fnc.mono (vote_may (p := ({ Id := n, Members := l, Term := 0, Vote := 0, Role := 0, Lead := 0, Base := 0, BaseTerm := 0, BaseMembers := l, Snap := (ByteArray.mk #[]), Log := [], Commit := 0, Idle := 0, Wait := wait, Votes := [], Follows := [], Round := 0, Reads := [] } : PeerD)) ⟨v10, v17, .slice none 0 0, .slice none 0 0, .slice none 0 0, .slice none 0 0, rfl, (hl36.ext (Ext.pre hx44)), (hl37.ext (Ext.pre hx44)), Sl.nil, Sl.nil, Sl.nil, Sl.nil, ⟨(inK_i64' (n := n) (by omega)), (inK_u64' (n := 0) (by omega)), (inK_i64' (n := 0) (by omega)), (inK_u8' (n := 0) (by omega)), (inK_i64' (n := 0) (by omega)), (inK_u64' (n := 0) (by omega)), (inK_u64' (n := 0) (by omega)), (Nat.zero_le _), (inK_u64' (n := 0) (by omega)), (inK_i64' (n := 0) (by omega)), (inK_i64' (n := wait) (by omega)), (inK_u64' (n := 0) (by omega))⟩⟩ (inCons hb41.lt (inCons hb42.lt (inMono hX hx43.size))) (by assumption)) ?_)
  rintro _ w45 ⟨rfl, hx46⟩
  have hx47 : Ext [b29, b1] w w45 := hx43.trans (Ext.any (Y := [b29, b1]) hx46)
  have hx48 : Ext [b29, b1] w30 w45 := hx44.trans (Ext.any (Y := [b29, b1]) hx46)
  have hb50 := hb42.ext hx46 (by simp)
  have hb51 := hb41.ext hx46 (by simp)
  refine WL.z (.bool (!(vmayB ({ Id := n, Members := l, Term := 0, Vote := 0, Role := 0, Lead := 0, Base := 0, BaseTerm := 0, BaseMembers := l, Snap := (ByteArray.mk #[]), Log := [], Commit := 0, Idle := 0, Wait := wait, Votes := [], Follows := [], Round := 0, Reads := [] } : PeerD)))) (V.not rfl rfl) ?_
  refine WL.nil ?_
  refine WP.condn (t := vmayB ({ Id := n, Members := l, Term := 0, Vote := 0, Role := 0, Lead := 0, Base := 0, BaseTerm := 0, BaseMembers := l, Snap := (ByteArray.mk #[]), Log := [], Commit := 0, Idle := 0, Wait := wait, Votes := [], Follows := [], Round := 0, Reads := [] } : PeerD)) rfl (fun hc52 => ?_) (fun hc52 => ?_)
  · refine WP.sr ?_
    refine WL.z (.agg #[.int .i64 (0), .slice none 0 0, .int .u64 (0), .int .i64 (0), .int .u8 (0), .int .i64 (0), .int .u64 (0), .int .u64 (0), .slice none 0 0, .string (ByteArray.mk #[]), .slice none 0 0, .int .u64 (0), .int .i64 (0), .int .i64 (0), .slice none 0 0, .slice none 0 0, .int .u64 (0), .slice none 0 0]) (V.build1 (L := []) rfl rfl bu30_d7517139) ?_
    refine WL.storeAgg (vs := [.int .i64 (0), .slice none 0 0, .int .u64 (0), .int .i64 (0), .int .u8 (0), .int .i64 (0), .int .u64 (0), .int .u64 (0), .slice none 0 0, .string (ByteArray.mk #[]), .slice none 0 0, .int .u64 (0), .int .i64 (0), .int .i64 (0), .slice none 0 0, .slice none 0 0, .int .u64 (0), .slice none 0 0]) (Sure.none rfl) rfl rfl s30 rfl rfl rfl (by intro u hu; simp only [List.mem_cons, List.not_mem_nil, or_false] at hu; rcases hu with rfl | rfl | rfl | rfl | rfl | rfl | rfl | rfl | rfl | rfl | rfl | rfl | rfl | rfl | rfl | rfl | rfl | rfl <;> first | rfl | exact Sl.one (by assumption)) hb50 (by show (0 : Nat) + 18 ≤ 18; decide) (fun w53 hs54 hb55 => ?_)
    replace hb55 : Box w53 b1 30 [.int .i64 (0), .slice none 0 0, .int .u64 (0), .int .i64 (0), .int .u8 (0), .int .i64 (0), .int .u64 (0), .int .u64 (0), .slice none 0 0, .string (ByteArray.mk #[]), .slice none 0 0, .int .u64 (0), .int .i64 (0), .int .i64 (0), .slice none 0 0, .slice none 0 0, .int .u64 (0), .slice none 0 0] := hb55
    have hx57 : Ext [b29, b1] w w53 := hx47.trans (hs54.mono (by simp))
    refine WL.m rfl ?_
    refine WL.nil ?_
    refine WP.ret ?_
    refine resOf.c2 rfl (v := .agg #[.int .i64 (0), .slice none 0 0, .int .u64 (0), .int .i64 (0), .int .u8 (0), .int .i64 (0), .int .u64 (0), .int .u64 (0), .slice none 0 0, .string (ByteArray.mk #[]), .slice none 0 0, .int .u64 (0), .int .i64 (0), .int .i64 (0), .slice none 0 0, .slice none 0 0, .int .u64 (0), .slice none 0 0]) ⟨_, _, rfl, run_loadVar_agg a30 (At.box hb55) rfl⟩ (v' := .int .i64 (2)) rfl ?_
    exact ⟨[.int .i64 (0), .slice none 0 0, .int .u64 (0), .int .i64 (0), .int .u8 (0), .int .i64 (0), .int .u64 (0), .int .u64 (0), .slice none 0 0, .string (ByteArray.mk #[]), .slice none 0 0, .int .u64 (0), .int .i64 (0), .int .i64 (0), .slice none 0 0, .slice none 0 0, .int .u64 (0), .slice none 0 0], (tup2 rfl (int_eq (by first | exact pick_t (b := vmayB (newP n wait l)) (by assumption) | exact pick_f (b := vmayB (newP n wait l)) (by assumption)))), (Rep.base (O := [b29, b1]) (castRd (R := peerR) (show (({ Id := 0, Members := [], Term := 0, Vote := 0, Role := 0, Lead := 0, Base := 0, BaseTerm := 0, BaseMembers := [], Snap := (ByteArray.mk #[]), Log := [], Commit := 0, Idle := 0, Wait := 0, Votes := [], Follows := [], Round := 0, Reads := [] } : PeerD) : PeerD) = newR n wait l from (by first | exact newR_t (by assumption) | exact newR_f (by assumption))) ⟨.slice none 0 0, .slice none 0 0, .slice none 0 0, .slice none 0 0, .slice none 0 0, .slice none 0 0, rfl, Sl.nil, Sl.nil, Sl.nil, Sl.nil, Sl.nil, Sl.nil, ⟨(inK_i64' (n := 0) (by omega)), (inK_u64' (n := 0) (by omega)), (inK_i64' (n := 0) (by omega)), (inK_u8' (n := 0) (by omega)), (inK_i64' (n := 0) (by omega)), (inK_u64' (n := 0) (by omega)), (inK_u64' (n := 0) (by omega)), (Nat.zero_le _), (inK_u64' (n := 0) (by omega)), (inK_i64' (n := 0) (by omega)), (inK_i64' (n := 0) (by omega)), (inK_u64' (n := 0) (by omega))⟩⟩)), ((hx57).done (geCons hge_b29_w (geCons hge_b1_w geNil)))⟩
  refine WP.skip ?_
  refine WP.sr ?_
  refine WL.z (.agg #[.int .i64 (n), v10, .int .u64 (0), .int .i64 (0), .int .u8 (0), .int .i64 (0), .int .u64 (0), .int .u64 (0), v17, .string (ByteArray.mk #[]), .slice none 0 0, .int .u64 (0), .int .i64 (0), .int .i64 (wait), .slice none 0 0, .slice none 0 0, .int .u64 (0), .slice none 0 0]) (V.loadAgg (cs := [.int .i64 (n), v10, .int .u64 (0), .int .i64 (0), .int .u8 (0), .int .i64 (0), .int .u64 (0), .int .u64 (0), v17, .string (ByteArray.mk #[]), .slice none 0 0, .int .u64 (0), .int .i64 (0), .int .i64 (wait), .slice none 0 0, .slice none 0 0, .int .u64 (0), .slice none 0 0]) rfl a30 rfl (At.box hb51) rfl) ?_
  refine WL.storeAgg (vs := [.int .i64 (n), v10, .int .u64 (0), .int .i64 (0), .int .u8 (0), .int .i64 (0), .int .u64 (0), .int .u64 (0), v17, .string (ByteArray.mk #[]), .slice none 0 0, .int .u64 (0), .int .i64 (0), .int .i64 (wait), .slice none 0 0, .slice none 0 0, .int .u64 (0), .slice none 0 0]) (Sure.none rfl) rfl rfl s30 rfl rfl rfl (by intro u hu; simp only [List.mem_cons, List.not_mem_nil, or_false] at hu; rcases hu with rfl | rfl | rfl | rfl | rfl | rfl | rfl | rfl | rfl | rfl | rfl | rfl | rfl | rfl | rfl | rfl | rfl | rfl <;> first | rfl | exact Sl.one (by assumption)) hb50 (by show (0 : Nat) + 18 ≤ 18; decide) (fun w61 hs62 hb63 => ?_)
  replace hb63 : Box w61 b1 30 [.int .i64 (n), v10, .int .u64 (0), .int .i64 (0), .int .u8 (0), .int .i64 (0), .int .u64 (0), .int .u64 (0), v17, .string (ByteArray.mk #[]), .slice none 0 0, .int .u64 (0), .int .i64 (0), .int .i64 (wait), .slice none 0 0, .slice none 0 0, .int .u64 (0), .slice none 0 0] := hb63
  have hx65 : Ext [b29, b1] w w61 := hx47.trans (hs62.mono (by simp))
  have hx66 : Ext [b29, b1] w30 w61 := hx48.trans (hs62.mono (by simp))
  refine WL.m rfl ?_
  refine WL.nil ?_
  refine WP.ret ?_
  refine resOf.c2 rfl (v := .agg #[.int .i64 (n), v10, .int .u64 (0), .int .i64 (0), .int .u8 (0), .int .i64 (0), .int .u64 (0), .int .u64 (0), v17, .string (ByteArray.mk #[]), .slice none 0 0, .int .u64 (0), .int .i64 (0), .int .i64 (wait), .slice none 0 0, .slice none 0 0, .int .u64 (0), .slice none 0 0]) ⟨_, _, rfl, run_loadVar_agg a30 (At.box hb63) rfl⟩ (v' := .int .i64 (0)) rfl ?_
  exact ⟨[.int .i64 (n), v10, .int .u64 (0), .int .i64 (0), .int .u8 (0), .int .i64 (0), .int .u64 (0), .int .u64 (0), v17, .string (ByteArray.mk #[]), .slice none 0 0, .int .u64 (0), .int .i64 (0), .int .i64 (wait), .slice none 0 0, .slice none 0 0, .int .u64 (0), .slice none 0 0], (tup2 rfl (int_eq (by first | exact pick_t (b := vmayB (newP n wait l)) (by assumption) | exact pick_f (b := vmayB (newP n wait l)) (by assumption)))), (Rep.base (O := [b29, b1]) (castRd (R := peerR) (show (({ Id := n, Members := l, Term := 0, Vote := 0, Role := 0, Lead := 0, Base := 0, BaseTerm := 0, BaseMembers := l, Snap := (ByteArray.mk #[]), Log := [], Commit := 0, Idle := 0, Wait := wait, Votes := [], Follows := [], Round := 0, Reads := [] } : PeerD) : PeerD) = newR n wait l from (by first | exact newR_t (by assumption) | exact newR_f (by assumption))) ⟨v10, v17, .slice none 0 0, .slice none 0 0, .slice none 0 0, .slice none 0 0, rfl, (hl36.ext (Ext.pre hx66)), (hl37.ext (Ext.pre hx66)), Sl.nil, Sl.nil, Sl.nil, Sl.nil, ⟨(inK_i64' (n := n) (by omega)), (inK_u64' (n := 0) (by omega)), (inK_i64' (n := 0) (by omega)), (inK_u8' (n := 0) (by omega)), (inK_i64' (n := 0) (by omega)), (inK_u64' (n := 0) (by omega)), (inK_u64' (n := 0) (by omega)), (Nat.zero_le _), (inK_u64' (n := 0) (by omega)), (inK_i64' (n := 0) (by omega)), (inK_i64' (n := wait) (by omega)), (inK_u64' (n := 0) (by omega))⟩⟩)), ((hx65).done (geCons hge_b29_w (geCons hge_b1_w geNil)))⟩

end Go.Proofs.Ytkcnljgennehaaa.T
