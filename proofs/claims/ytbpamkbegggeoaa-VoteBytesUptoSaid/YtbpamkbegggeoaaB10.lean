/- My texts, cut to what this claim needs and merged. -/
import Derived.Test.YtbpamkbegggeoaaB9
import Derived.Test.YtbpamkbegggeoaaB8
import Derived.Test.YtbpamkbegggeoaaB2
namespace Go.Proofs.Ytbpamkbegggeoaa.X1
open T W Go.RowKit
set_option maxRecDepth 100000
set_option maxHeartbeats 400000
theorem cl60 : Callable Try.prog 60 := ⟨Try.f60, Try.func60, by kernel_rfl, rfl⟩
theorem cl61 : Callable Try.prog 61 := ⟨Try.f61, Try.func61, by kernel_rfl, rfl⟩
theorem cl65 : Callable Try.prog 65 := ⟨Try.f65, Try.func65, by kernel_rfl, rfl⟩
theorem s32 : Sized Try.prog 32 12 := by unfold Sized; kernel_rfl
theorem a32 : Aggr Try.prog 32 12 := ⟨⟨_, by kernel_rfl, .inl ⟨structFields Try.prog 32, rfl⟩⟩, s32⟩
theorem cl12 : Callable Try.prog 12 := ⟨Try.f12, Try.func12, by kernel_rfl, rfl⟩
theorem z104 : W.Zero Try.prog 104 (.agg #[.pointer none, .slice none 0 0]) := by unfold W.Zero; kernel_rfl
theorem bu108_2b56949c (x0 : Int) (x1 : Int) (x2 : Int) (x3 : Int) (x4 : Int) (x5 : Int) (x6 : Int) : Try.prog.built 108 [(0, .int .u64 x0), (1, .int .u64 x1), (2, .int .u64 x2), (3, .int .u64 x3), (4, .int .u64 x4), (5, .int .u64 x5), (6, .int .u64 x6)] = some #[.int .u64 x0, .int .u64 x1, .int .u64 x2, .int .u64 x3, .int .u64 x4, .int .u64 x5, .int .u64 x6] := by kernel_rfl
theorem u108 : Try.prog.underlying 108 = some (.array 7 23) := by kernel_rfl
theorem s23 : Sized Try.prog 23 1 := by unfold Sized; kernel_rfl
theorem z90 : W.Zero Try.prog 90 (.agg #[.int .u64 (0), .int .u8 (0), .string (ByteArray.mk #[]), .slice none 0 0]) := by unfold W.Zero; kernel_rfl
theorem cl63 : Callable Try.prog 63 := ⟨Try.f63, Try.func63, by kernel_rfl, rfl⟩
theorem cl64 : Callable Try.prog 64 := ⟨Try.f64, Try.func64, by kernel_rfl, rfl⟩
def hdrL (m : MsgD) : List Int := [m.From, m.To, m.Term, m.Index, m.LogTerm, m.Commit, m.Round]
def hdrK (m : MsgD) : Nat → ByteArray
  | 0 => strOfNums [m.Kind]
  | k + 1 => hdrK m k ++ numB ((hdrL m).getD k 0)
theorem hdrK_size (m : MsgD) : ∀ k, (hdrK m k).size ≤ 1 + 9 * k
  | 0 => by show (strOfNums [m.Kind]).size ≤ 1; rw [strOfNums_size]; exact Nat.le_refl _
  | k + 1 => by
    have h1 := hdrK_size m k
    have h2 := numB_size ((hdrL m).getD k 0)
    simp only [hdrK, ByteArray.size_append]; omega
theorem hdrK_all (m : MsgD) : hdrK m 7 = hdrB m := rfl
def okI (b : Bool) : Int := if b = true then 1 else 0
theorem okI_in (b : Bool) : 0 ≤ okI b ∧ okI b ≤ 1 := by cases b <;> decide
theorem okB_str (b : Bool) : strOfNums [okI b] = okB b := by cases b <;> rfl
theorem hdrB_pos (m : MsgD) : 0 < (hdrB m).size := by
  have h0 : (strOfNums [m.Kind]).size = 1 := strOfNums_size _
  simp only [hdrB, ByteArray.size_append]; omega
theorem bytesK_pos (m : MsgD) : ∀ k, 0 < (bytesK m k).size
  | 0 => by have := hdrB_pos m; simp only [bytesK, ByteArray.size_append]; omega
  | k + 1 => by have := bytesK_pos m k; simp only [bytesK, ByteArray.size_append]; omega
theorem may_of {m : MsgD} (h : ¬ (if mayMsgB m = true then (0 : Int) else 2) ≠ 0) : mayMsgB m = true := by
  by_cases e : mayMsgB m = true
  · exact e
  · rw [if_neg e] at h; omega
theorem may_no {m : MsgD} (h : (if mayMsgB m = true then (0 : Int) else 2) ≠ 0) : mayMsgB m = false := by
  cases e : mayMsgB m with
  | false => rfl
  | true => rw [e] at h; simp at h
theorem hdrL_in {a b c d e f g : Int} (ha : 0 ≤ a ∧ a < 18446744073709551616) (hb : 0 ≤ b ∧ b < 18446744073709551616) (hc : 0 ≤ c ∧ c < 18446744073709551616) (hd : 0 ≤ d ∧ d < 18446744073709551616) (he : 0 ≤ e ∧ e < 18446744073709551616) (hf : 0 ≤ f ∧ f < 18446744073709551616) (hg : 0 ≤ g ∧ g < 18446744073709551616) (k : Nat) :
    0 ≤ ([a, b, c, d, e, f, g] : List Int).getD k 0 ∧ ([a, b, c, d, e, f, g] : List Int).getD k 0 < 18446744073709551616 := by
  match k with
  | 0 => exact ha
  | 1 => exact hb
  | 2 => exact hc
  | 3 => exact hd
  | 4 => exact he
  | 5 => exact hf
  | 6 => exact hg
  | k + 7 => simp
set_option maxHeartbeats 8000000 in
theorem vote_Bytes {w : World} {X : List Nat} {m : MsgD} {c_m : List Value} (h_m : msgR.rd X w c_m m) (hsz : MsgSz m) : Fnc Try.prog 22 #[.agg c_m.toArray] w (fun v w' => v = .tuple #[.string (if mayMsgB m = true then bytesB m else ByteArray.mk #[]), .int .i64 (if mayMsgB m = true then 0 else 2)] ∧ Ext [] w w') := by
  obtain ⟨v1, v3, rfl, hl2, hl4, hk5⟩ := h_m
  obtain ⟨hin6, hin7, hin8, hin9, hin10, hin11, hin12, hin13, hin14⟩ := (show MsgD.InR m from hk5)
  have hin6 := inK_u8 hin6
  have hin7 := inK_i64 hin7
  have hin8 := inK_i64 hin8
  have hin9 := inK_u64 hin9
  have hin10 := inK_u64 hin10
  have hin11 := inK_u64 hin11
  have hin12 := inK_u64 hin12
  have hin13 := inK_u64 hin13
  have hle15 := hl2.le'
  have hle16 := hl4.le'
  refine Fnc.of_WP (n := 85) Try.func22 rfl Try.ntmps22 (by simp) ?_
  intro E hE
  have h0 : E 0 = .agg #[.int .u8 (m.Kind), .int .i64 (m.From), .int .i64 (m.To), .int .u64 (m.Term), .int .u64 (m.Index), .int .u64 (m.LogTerm), .int .u64 (m.Commit), .int .u64 (m.Round), .bool (m.Ok), v1, v3, .string (m.Snap)] := hE 0 (by simp)
  clear hE
  refine WP.sr ?_
  refine WL.box (x := .tmp 0) (cs := [.int .u8 (m.Kind), .int .i64 (m.From), .int .i64 (m.To), .int .u64 (m.Term), .int .u64 (m.Index), .int .u64 (m.LogTerm), .int .u64 (m.Commit), .int .u64 (m.Round), .bool (m.Ok), v1, v3, .string (m.Snap)]) (Sure.none rfl) rfl rfl h0 rfl (fun b17 w18 hx19 he20 hb21 => ?_)
  have hl22 := (Sl.new (b := b17) (by show (4 : Nat) ≠ 0; decide) hl2 (by omega)).ext (Ext.any hx19)
  have hl23 := (Sl.new (b := b17) (by show (1 : Nat) ≠ 0; decide) hl4 (by omega)).ext (Ext.any hx19)
  have hx24 : Ext [b17] _ _ := (Ext.refl _ _).trans (Ext.any hx19)
  have hge_b17_w : w.heap.size ≤ b17 := by have := Nat.le_refl w.heap.size; omega
  refine WL.m rfl ?_
  refine WL.m rfl ?_
  refine WL.nil ?_
  refine WP.seq ?_
  refine WP.sr ?_
  refine WL.z (.agg #[.int .u8 (m.Kind), .int .i64 (m.From), .int .i64 (m.To), .int .u64 (m.Term), .int .u64 (m.Index), .int .u64 (m.LogTerm), .int .u64 (m.Commit), .int .u64 (m.Round), .bool (m.Ok), v1, v3, .string (m.Snap)]) (V.loadAgg (cs := [.int .u8 (m.Kind), .int .i64 (m.From), .int .i64 (m.To), .int .u64 (m.Term), .int .u64 (m.Index), .int .u64 (m.LogTerm), .int .u64 (m.Commit), .int .u64 (m.Round), .bool (m.Ok), v1, v3, .string (m.Snap)]) rfl a32 rfl (At.box hb21) rfl) ?_
  refine WL.c (Sure.none rfl) rfl (C.call1 rfl cl12 rfl) (Fnc.mono (vote_MayMsg (m := m) ⟨v1, v3, rfl, hl22, hl23, hk5⟩) ?_)
  rintro _ w25 ⟨rfl, hx26⟩
  have hx27 : Ext [b17] w w25 := hx24.trans (Ext.any (Y := [b17]) hx26)
  have hx28 : Ext [b17] w18 w25 := (Ext.any (Y := [b17]) hx26)
  have hb29 := hb21.ext hx26 (by simp)
  refine WL.m rfl ?_
  refine WL.nil ?_
  refine WP.sr ?_
  refine WL.m rfl ?_
  refine WL.z (.bool (decide ((if mayMsgB m = true then (0 : Int) else 2) ≠ 0))) (V.cmp rfl rfl rfl rfl) ?_
  refine WL.nil ?_
  refine WP.condp (t := (if mayMsgB m = true then (0 : Int) else 2) ≠ 0) rfl (fun hc30 => ?_) (fun hc30 => ?_)
  · refine WP.sr ?_
    refine WL.m rfl ?_
    refine WL.m rfl ?_
    refine WL.m rfl ?_
    refine WL.nil ?_
    refine WP.ret ?_
    refine resOf.c2 rfl (v := .string (ByteArray.mk #[])) rfl (v' := .int .i64 (if mayMsgB m = true then (0 : Int) else 2)) rfl ?_
    exact ⟨(tup2 (str_eq (by first | (rw [if_neg (by rw [may_no (by assumption)]; decide)]; done) | (rw [if_pos hmm]; done) | (rw [if_pos hmm, bytesB, ByteArray.append_assoc, show k = m.Entries.length from by omega]; done))) (int_eq (by first | (rw [if_neg (by rw [may_no (by assumption)]; decide)]; done) | (rw [if_pos hmm]; done) | (rw [if_pos hmm, bytesB, ByteArray.append_assoc, show k = m.Entries.length from by omega]; done)))), ((hx27).done (geCons hge_b17_w geNil))⟩
  refine WP.skip ?_
  refine WP.sr ?_
  have hmm : mayMsgB m = true := may_of hc30
  have hok := msg_ok hmm
  have hzm : (ByteArray.mk #[]).size = 0 := rfl
  have hz1 := numB_size (m.Entries.length : Int)
  have hz2 := okI_in m.Ok
  have hz3 := textB_size m.Snap
  have hz4 := numbersB_size m.Members
  have hze := hok.fr
  have hzf := hok.to
  have hzg := hok.en
  have hzh := hok.me.1
  have hzi := hsz.snap
  have hzj := hdrB_size m
  have hzk := bytesK_pos m m.Entries.length
  refine WL.alloc (cs := [.pointer none, .slice none 0 0]) (Sure.none rfl) rfl rfl z104 rfl (fun b31 w32 hx33 he34 hb35 => ?_)
  have hlt_b17_b31 : b17 < b31 := by have := hb29.lt; omega
  have hb36 := hb29.ext hx33 (by simp)
  have hl37 := (Sl.new (b := b31) (by show (4 : Nat) ≠ 0; decide) (hl22.ext (Ext.pre hx28)) (by omega)).ext (Ext.any hx33)
  have hl38 := (Sl.new (b := b31) (by show (1 : Nat) ≠ 0; decide) (hl23.ext (Ext.pre hx28)) (by omega)).ext (Ext.any hx33)
  have hx39 : Ext [b31, b17] _ _ := (Ext.cons hx27).trans (Ext.any hx33)
  have hge_b31_w : w.heap.size ≤ b31 := by have := hx27.size; omega
  have hbl40 : Bld 104 5 w32.heap.size [b31, b17] w32 b31 (ByteArray.mk #[]) := Bld.zero hb35 (inCons hb35.lt (inCons hb36.lt (fun x hx => by cases hx)))
  have hsz41 : w.heap.size ≤ w32.heap.size := hx39.size
  refine WL.nil ?_
  refine WP.sr ?_
  refine WL.f (.int .u8 (m.Kind)) fl32_0 rfl p30 (hb36.cell rfl) ?_
  refine WL.c (Sure.none rfl) rfl (C.call2 rfl cl60 rfl rfl) (Fnc.mono (sb_WriteByte hbl40 m.Kind (by omega) (by first | omega | (simp only [ByteArray.size_append, strOfNums_size, List.length_cons, List.length_nil]; omega)) (Nat.le_refl _)) ?_)
  rintro _ w42 ⟨rfl, hbl43, Y44, hY45, hh46⟩
  have hx47 : Ext [b31, b17] w w42 := Ext.hid hx39 hY45 hh46 hsz41 (by simp)
  have hx48 : Ext [b31, b17] w32 w42 := Ext.hid (Ext.refl [] _ |>.any) hY45 hh46 (Nat.le_refl _) (by simp)
  have hb49 := Box.hid hb36 hY45 hh46 (by omega) (by simp)
  refine WL.nil ?_
  refine WP.seq ?_
  refine WP.sr ?_
  refine WL.f (.int .i64 (m.From)) fl32_1 rfl p3 (hb49.cell rfl) ?_
  refine WL.z (.int .u64 (m.From)) (V.convInt rfl u3 u23 rfl (wrap_u64 (by omega) (by omega))) ?_
  refine WL.f (.int .i64 (m.To)) fl32_2 rfl p3 (hb49.cell rfl) ?_
  refine WL.z (.int .u64 (m.To)) (V.convInt rfl u3 u23 rfl (wrap_u64 (by omega) (by omega))) ?_
  refine WL.f (.int .u64 (m.Term)) fl32_3 rfl p23 (hb49.cell rfl) ?_
  refine WL.f (.int .u64 (m.Index)) fl32_4 rfl p23 (hb49.cell rfl) ?_
  refine WL.f (.int .u64 (m.LogTerm)) fl32_5 rfl p23 (hb49.cell rfl) ?_
  refine WL.f (.int .u64 (m.Commit)) fl32_6 rfl p23 (hb49.cell rfl) ?_
  refine WL.f (.int .u64 (m.Round)) fl32_7 rfl p23 (hb49.cell rfl) ?_
  refine WL.z (.agg #[.int .u64 (m.From), .int .u64 (m.To), .int .u64 (m.Term), .int .u64 (m.Index), .int .u64 (m.LogTerm), .int .u64 (m.Commit), .int .u64 (m.Round)]) (V.build1 (L := [(0, .int .u64 (m.From)), (1, .int .u64 (m.To)), (2, .int .u64 (m.Term)), (3, .int .u64 (m.Index)), (4, .int .u64 (m.LogTerm)), (5, .int .u64 (m.Commit)), (6, .int .u64 (m.Round))]) rfl (psCons rfl (psCons rfl (psCons rfl (psCons rfl (psCons rfl (psCons rfl (psCons rfl rfl))))))) (bu108_2b56949c m.From m.To m.Term m.Index m.LogTerm m.Commit m.Round)) ?_
  refine WL.m rfl ?_
  refine WL.nil ?_
  refine WP.block ?_
  have hsz52 : w.heap.size ≤ w42.heap.size := hx47.size
  have hsz53 : w32.heap.size ≤ w42.heap.size := hx48.size
  refine WP.loop (σ := Nat) (fun g E50 w51 => E50 0 = .agg #[.int .u8 (m.Kind), .int .i64 (m.From), .int .i64 (m.To), .int .u64 (m.Term), .int .u64 (m.Index), .int .u64 (m.LogTerm), .int .u64 (m.Commit), .int .u64 (m.Round), .bool (m.Ok), v1, v3, .string (m.Snap)] ∧ E50 1 = .pointer (some ⟨b17, 0, none⟩) ∧ E50 2 = .string (ByteArray.mk #[]) ∧ E50 3 = .int .i64 (0) ∧ E50 4 = .int .i64 (if mayMsgB m = true then (0 : Int) else 2) ∧ E50 5 = .pointer (some ⟨b31, 0, none⟩) ∧ E50 14 = .bool (decide ((if mayMsgB m = true then (0 : Int) else 2) ≠ 0)) ∧ E50 35 = .agg #[.int .u64 (m.From), .int .u64 (m.To), .int .u64 (m.Term), .int .u64 (m.Index), .int .u64 (m.LogTerm), .int .u64 (m.Commit), .int .u64 (m.Round)] ∧ E50 36 = .int .i64 ((g : Int)) ∧ Ext [b31, b17] w w51 ∧ Ext [b31, b17] w32 w51 ∧ Bld 104 5 w32.heap.size [b31, b17] w51 b31 (hdrK m g) ∧ Box w51 b17 32 [.int .u8 (m.Kind), .int .i64 (m.From), .int .i64 (m.To), .int .u64 (m.Term), .int .u64 (m.Index), .int .u64 (m.LogTerm), .int .u64 (m.Commit), .int .u64 (m.Round), .bool (m.Ok), v1, v3, .string (m.Snap)] ∧ g ≤ 7) (fun g => 7 - g) (0) ?_ ?_
  · exact ⟨h0, rfl, rfl, rfl, rfl, rfl, rfl, rfl, (int_eq (by omega)), hx47, hx48, (Bld.cast hbl43 (by exact mk_app _)), hb49, (by omega)⟩
  rintro g E50 w51 ⟨h0_54, h1_54, h2_54, h3_54, h4_54, h5_54, h14_54, h35_54, h36_54, hx54_0, hx54_1, hbl54, hbb17_54, hi0_54⟩
  have hbk := hdrK_size m g
  have hnk := numB_size (([m.From, m.To, m.Term, m.Index, m.LogTerm, m.Commit, m.Round] : List Int).getD g 0)
  have hnl : 0 ≤ ([m.From, m.To, m.Term, m.Index, m.LogTerm, m.Commit, m.Round] : List Int).getD g 0 ∧ ([m.From, m.To, m.Term, m.Index, m.LogTerm, m.Commit, m.Round] : List Int).getD g 0 < 18446744073709551616 := hdrL_in ⟨by omega, by omega⟩ ⟨by omega, by omega⟩ ⟨by omega, by omega⟩ ⟨by omega, by omega⟩ ⟨by omega, by omega⟩ ⟨by omega, by omega⟩ ⟨by omega, by omega⟩ g
  refine WP.sr ?_
  refine WL.z (.bool (decide ((g : Int) < 7))) (V.cmp (x := .tmp 36) rfl h36_54 rfl rfl) ?_
  refine WL.nil ?_
  refine WP.seq ?_
  refine WP.condp (t := (g : Int) < 7) rfl (fun hc55 => ?_) (fun hc55 => ?_)
  · refine WP.skip ?_
    refine WP.seq ?_
    refine WP.block ?_
    refine WP.sr ?_
    refine WL.z (.int .u64 (([m.From, m.To, m.Term, m.Index, m.LogTerm, m.Commit, m.Round] : List Int).getD g 0)) (V.indexVal (x := .tmp 35) (i := .tmp 36) (m := g) rfl u108 p23 s23 h35_54 h36_54 (by omega) (by omega) (show ((([m.From, m.To, m.Term, m.Index, m.LogTerm, m.Commit, m.Round] : List Int).map (Value.int .u64)).toArray)[g]? = _ from arr_get (by show _ < (7 : Nat); omega))) ?_
    refine WL.m rfl ?_
    refine WL.nil ?_
    refine WP.region ?_
    refine WL.m rfl ?_
    refine WL.c (Sure.none rfl) rfl (C.call1 rfl cl62 rfl) (Fnc.mono (code_Num (([m.From, m.To, m.Term, m.Index, m.LogTerm, m.Commit, m.Round] : List Int).getD g 0) (by omega)) ?_)
    rintro _ w56 ⟨rfl, hx57⟩
    have hx58 : Ext [b31, b17] w w56 := hx54_0.trans (Ext.any (Y := [b31, b17]) hx57)
    have hx59 : Ext [b31, b17] w32 w56 := hx54_1.trans (Ext.any (Y := [b31, b17]) hx57)
    have hb61 := hbb17_54.ext hx57 (by simp)
    have hbl62 := hbl54.keep hx57
    refine WL.c (Sure.none rfl) rfl (C.call2 (x := .tmp 5) rfl cl61 h5_54 rfl) (Fnc.mono (sb_WriteString hbl62 (numB (([m.From, m.To, m.Term, m.Index, m.LogTerm, m.Commit, m.Round] : List Int).getD g 0)) (by first | omega | (simp only [ByteArray.size_append, strOfNums_size, List.length_cons, List.length_nil]; omega)) hx59.size) ?_)
    rintro _ w63 ⟨rfl, hbl64, Y65, hY66, hh67⟩
    have hx68 : Ext [b31, b17] w w63 := Ext.hid hx58 hY66 hh67 hsz41 (by simp)
    have hx69 : Ext [b31, b17] w32 w63 := Ext.hid hx59 hY66 hh67 (Nat.le_refl _) (by simp)
    have hb70 := Box.hid hb61 hY66 hh67 (by omega) (by simp)
    refine WL.nil ?_
    refine WP.region ?_
    refine WL.z (.int .i64 ((g : Int) + 1)) (V.arith (x := .tmp 36) rfl h36_54 rfl rfl (wrap_i64 (by omega) (by omega))) ?_
    refine WL.m rfl ?_
    refine WL.nil ?_
    exact ⟨g + 1, ⟨h0_54, h1_54, h2_54, h3_54, h4_54, h5_54, h14_54, h35_54, (int_eq (by omega)), hx68, hx69, (Bld.cast hbl64 (by rfl)), hb70, (by omega)⟩, (by omega)⟩
  refine WP.exit ?_
  refine WP.sr ?_
  refine WL.m rfl ?_
  refine WL.nil ?_
  have hsz73 : w.heap.size ≤ w51.heap.size := hx54_0.size
  have hsz74 : w32.heap.size ≤ w51.heap.size := hx54_1.size
  refine WP.seq_cut (fun E71 w72 => E71 0 = .agg #[.int .u8 (m.Kind), .int .i64 (m.From), .int .i64 (m.To), .int .u64 (m.Term), .int .u64 (m.Index), .int .u64 (m.LogTerm), .int .u64 (m.Commit), .int .u64 (m.Round), .bool (m.Ok), v1, v3, .string (m.Snap)] ∧ E71 1 = .pointer (some ⟨b17, 0, none⟩) ∧ E71 4 = .int .i64 (if mayMsgB m = true then (0 : Int) else 2) ∧ E71 5 = .pointer (some ⟨b31, 0, none⟩) ∧ E71 14 = .bool (decide ((if mayMsgB m = true then (0 : Int) else 2) ≠ 0)) ∧ E71 35 = .agg #[.int .u64 (m.From), .int .u64 (m.To), .int .u64 (m.Term), .int .u64 (m.Index), .int .u64 (m.LogTerm), .int .u64 (m.Commit), .int .u64 (m.Round)] ∧ E71 36 = .int .i64 ((g : Int)) ∧ E71 37 = .bool (decide ((g : Int) < 7)) ∧ E71 8 = .int .u8 (okI m.Ok) ∧ Ext [b31, b17] w w72 ∧ Ext [b31, b17] w32 w72 ∧ Bld 104 5 w32.heap.size [b31, b17] w72 b31 ((hdrK m g)) ∧ Box w72 b17 32 [.int .u8 (m.Kind), .int .i64 (m.From), .int .i64 (m.To), .int .u64 (m.Term), .int .u64 (m.Index), .int .u64 (m.LogTerm), .int .u64 (m.Commit), .int .u64 (m.Round), .bool (m.Ok), v1, v3, .string (m.Snap)]) ?_ ?_
  · refine WP.sr ?_
    refine WL.f (x := .tmp 1) (.bool (m.Ok)) fl32_8 h1_54 p4 (hbb17_54.cell rfl) ?_
    refine WL.nil ?_
    refine WP.cond (t := m.Ok) rfl (fun hc75 => ?_) (fun hc75 => ?_)
    rotate_left
    · refine WP.skip ?_
      exact ⟨h0_54, h1_54, h4_54, h5_54, h14_54, h35_54, h36_54, rfl, (int_eq (by first | (rw [okI, if_pos (by assumption)]; done) | (rw [okI, if_neg (by simp [*])]; done))), hx54_0, hx54_1, hbl54, hbb17_54⟩
    refine WP.region ?_
    refine WL.m rfl ?_
    refine WL.nil ?_
    exact ⟨h0_54, h1_54, h4_54, h5_54, h14_54, h35_54, h36_54, rfl, (int_eq (by first | (rw [okI, if_pos (by assumption)]; done) | (rw [okI, if_neg (by simp [*])]; done))), hx54_0, hx54_1, hbl54, hbb17_54⟩
  rintro E71 w72 ⟨h0_76, h1_76, h4_76, h5_76, h14_76, h35_76, h36_76, h37_76, h8_76, hx76_0, hx76_1, hbl76, hbb17_76⟩
  refine WP.sr ?_
  refine WL.m rfl ?_
  refine WL.c (Sure.none rfl) rfl (C.call2 (x := .tmp 5) (y := .tmp 45) rfl cl60 h5_76 h8_76) (Fnc.mono (sb_WriteByte hbl76 (okI m.Ok) (by omega) (by first | omega | (simp only [ByteArray.size_append, strOfNums_size, List.length_cons, List.length_nil]; omega)) hx76_1.size) ?_)
  rintro _ w77 ⟨rfl, hbl78, Y79, hY80, hh81⟩
  have hx82 : Ext [b31, b17] w w77 := Ext.hid hx76_0 hY80 hh81 hsz41 (by simp)
  have hx83 : Ext [b31, b17] w32 w77 := Ext.hid hx76_1 hY80 hh81 (Nat.le_refl _) (by simp)
  have hb84 := Box.hid hbb17_76 hY80 hh81 (by omega) (by simp)
  refine WL.nil ?_
  refine WP.sr ?_
  refine WL.f (x := .tmp 1) (v1) fl32_9 h1_76 p25 (hb84.cell rfl) ?_
  obtain ⟨a85, c86, hv87⟩ := hl37.shape
  refine WL.z (.int .i64 (((m.Entries).length : Int))) (V.lenSlice rfl rfl u25 (Eq.trans (b := v1) rfl hv87)) ?_
  refine WL.z (.int .u64 (((m.Entries).length : Int))) (V.convInt rfl u3 u23 rfl (wrap_u64 (by omega) (by omega))) ?_
  refine WL.c (Sure.none rfl) rfl (C.call1 rfl cl62 rfl) (Fnc.mono (code_Num ((m.Entries).length : Int) (by omega)) ?_)
  rintro _ w88 ⟨rfl, hx89⟩
  have hx90 : Ext [b31, b17] w w88 := hx82.trans (Ext.any (Y := [b31, b17]) hx89)
  have hx91 : Ext [b31, b17] w32 w88 := hx83.trans (Ext.any (Y := [b31, b17]) hx89)
  have hb93 := hb84.ext hx89 (by simp)
  have hbl94 := hbl78.keep hx89
  refine WL.c (Sure.none rfl) rfl (C.call2 (x := .tmp 5) rfl cl61 h5_76 rfl) (Fnc.mono (sb_WriteString hbl94 (numB ((m.Entries).length : Int)) (by first | omega | (simp only [ByteArray.size_append, strOfNums_size, List.length_cons, List.length_nil]; omega)) hx91.size) ?_)
  rintro _ w95 ⟨rfl, hbl96, Y97, hY98, hh99⟩
  have hx100 : Ext [b31, b17] w w95 := Ext.hid hx90 hY98 hh99 hsz41 (by simp)
  have hx101 : Ext [b31, b17] w32 w95 := Ext.hid hx91 hY98 hh99 (Nat.le_refl _) (by simp)
  have hb102 := Box.hid hb93 hY98 hh99 (by omega) (by simp)
  refine WL.nil ?_
  refine WP.seq ?_
  refine WP.sr ?_
  refine WL.f (x := .tmp 1) (v1) fl32_9 h1_76 p25 (hb102.cell rfl) ?_
  refine WL.z (.int .i64 (((m.Entries).length : Int))) (V.lenSlice rfl rfl u25 (Eq.trans (b := v1) rfl hv87)) ?_
  refine WL.m rfl ?_
  refine WL.nil ?_
  refine WP.block ?_
  have hsz105 : w.heap.size ≤ w95.heap.size := hx100.size
  have hsz106 : w32.heap.size ≤ w95.heap.size := hx101.size
  refine WP.loop (σ := Nat) (fun k E103 w104 => E103 0 = .agg #[.int .u8 (m.Kind), .int .i64 (m.From), .int .i64 (m.To), .int .u64 (m.Term), .int .u64 (m.Index), .int .u64 (m.LogTerm), .int .u64 (m.Commit), .int .u64 (m.Round), .bool (m.Ok), v1, v3, .string (m.Snap)] ∧ E103 1 = .pointer (some ⟨b17, 0, none⟩) ∧ E103 4 = .int .i64 (if mayMsgB m = true then (0 : Int) else 2) ∧ E103 5 = .pointer (some ⟨b31, 0, none⟩) ∧ E103 8 = .int .u8 (okI m.Ok) ∧ E103 14 = .bool (decide ((if mayMsgB m = true then (0 : Int) else 2) ≠ 0)) ∧ E103 35 = .agg #[.int .u64 (m.From), .int .u64 (m.To), .int .u64 (m.Term), .int .u64 (m.Index), .int .u64 (m.LogTerm), .int .u64 (m.Commit), .int .u64 (m.Round)] ∧ E103 36 = .int .i64 ((g : Int)) ∧ E103 37 = .bool (decide ((g : Int) < 7)) ∧ E103 54 = v1 ∧ E103 55 = .int .i64 (((m.Entries).length : Int)) ∧ E103 56 = .int .i64 ((k : Int)) ∧ Ext [b31, b17] w w104 ∧ Ext [b31, b17] w32 w104 ∧ Bld 104 5 w32.heap.size [b31, b17] w104 b31 (bytesK m k) ∧ Box w104 b17 32 [.int .u8 (m.Kind), .int .i64 (m.From), .int .i64 (m.To), .int .u64 (m.Term), .int .u64 (m.Index), .int .u64 (m.LogTerm), .int .u64 (m.Commit), .int .u64 (m.Round), .bool (m.Ok), v1, v3, .string (m.Snap)] ∧ k ≤ m.Entries.length) (fun k => m.Entries.length - k) (0) ?_ ?_
  · exact ⟨h0_76, h1_76, h4_76, h5_76, h8_76, h14_76, h35_76, h36_76, h37_76, rfl, rfl, (int_eq (by omega)), hx100, hx101, (Bld.cast hbl96 (by (have hke : g = 7 := (by omega)); subst hke; rw [hdrK_all, okB_str]; rfl)), hb102, (by omega)⟩
  rintro k E103 w104 ⟨h0_107, h1_107, h4_107, h5_107, h8_107, h14_107, h35_107, h36_107, h37_107, h54_107, h55_107, h56_107, hx107_0, hx107_1, hbl107, hbb17_107, hi0_107⟩
  have hbk := bytesK_size hok hsz k
  have hkp := bytesK_pos m k
  have hdk := hsz.data k
  have hlk := fun h => (hok.em k h).1
  have hz5 := numB_size (m.Entries.getD k default).Term
  have hz6 := textB_size (m.Entries.getD k default).Data
  have hz7 := numbersB_size (m.Entries.getD k default).Members
  refine WP.sr ?_
  refine WL.z (.bool (decide ((k : Int) < ((m.Entries).length : Int)))) (V.cmp (x := .tmp 56) (y := .tmp 55) rfl h56_107 h55_107 rfl) ?_
  refine WL.nil ?_
  refine WP.seq ?_
  refine WP.condp (t := (k : Int) < ((m.Entries).length : Int)) rfl (fun hc108 => ?_) (fun hc108 => ?_)
  rotate_left
  · refine WP.exit ?_
    refine WP.seq ?_
    refine WP.anyB 7 (BI 104 5 w32.heap.size [b31, b17] w104 b31 (bytesK m k) ((numbersB m.Members) ++ (textB m.Snap))) [.pointer (some ⟨b17, 10, none⟩), v3, .string (numbersB m.Members), .pointer (some ⟨b17, 11, none⟩), .string (m.Snap), .string (textB m.Snap), .string ((numbersB m.Members) ++ (textB m.Snap)), .tuple #[.int .i64 ((((numbersB m.Members) ++ (textB m.Snap)).size : Int)), .nilIface]] mo (by kernel_rfl) (by kernel_rfl) (by kernel_rfl) (by kernel_rfl) (fun d => BI.start hbl107 d) ⟨?_, ?_, ?_, ?_, ?_, ?_, ?_, ?_, trivial⟩ ?_
    · intro f E' w' hI hm hE hp
      obtain ⟨⟨Y, hY, hh⟩, hbl⟩ := id hI
      exact ⟨Sure.none rfl, .inl ⟨.pointer (some ⟨b17, 10, none⟩), w', OpV.x (by exact V.fieldAddr (x := .tmp 1) rfl fl32_10 ((hE 1 (by kernel_rfl)).trans h1_107)), by cases f <;> exact hI, rfl⟩⟩
    · intro f E' w' hI hm hE hp
      obtain ⟨⟨Y, hY, hh⟩, hbl⟩ := id hI
      have hq_b17 := Box.hid hbb17_107 hY hh (by omega) (by simp)
      have p_0 : E' 76 = (.pointer (some ⟨b17, 10, none⟩) : Value) := hp 0 (by kernel_rfl) _ _ rfl rfl
      exact ⟨Sure.none rfl, .inl ⟨v3, w', OpV.x (by exact V.load (x := .tmp 76) rfl p22 p_0 (hq_b17.cell rfl)), by cases f <;> exact hI, rfl⟩⟩
    · intro f E' w' hI hm hE hp
      obtain ⟨⟨Y, hY, hh⟩, hbl⟩ := id hI
      have hq_w32 : Ext [b31, b17] w32 w' := Ext.hid hx107_1 hY hh (Nat.le_refl _) (by simp)
      have p_1 : E' 77 = (v3 : Value) := hp 1 (by kernel_rfl) _ _ rfl rfl
      exact ⟨Sure.none rfl, .inr ⟨_, _, C.call1 (x := .tmp 77) rfl cl64 p_1, Fnc.mono (vote_numbers (hl38.ext (Ext.pre hq_w32)) (by omega) (by first | assumption | exact fun j hj => (hok.me.2 j hj).1 | exact fun j hj => ((hok.em k (by omega)).2 j hj).1)) (fun v w'' h => ⟨by cases f <;> exact BI.keep hI h.2, by rw [h.1]; rfl⟩)⟩⟩
    · intro f E' w' hI hm hE hp
      obtain ⟨⟨Y, hY, hh⟩, hbl⟩ := id hI
      exact ⟨Sure.none rfl, .inl ⟨.pointer (some ⟨b17, 11, none⟩), w', OpV.x (by exact V.fieldAddr (x := .tmp 1) rfl fl32_11 ((hE 1 (by kernel_rfl)).trans h1_107)), by cases f <;> exact hI, rfl⟩⟩
    · intro f E' w' hI hm hE hp
      obtain ⟨⟨Y, hY, hh⟩, hbl⟩ := id hI
      have hq_b17 := Box.hid hbb17_107 hY hh (by omega) (by simp)
      have p_3 : E' 79 = (.pointer (some ⟨b17, 11, none⟩) : Value) := hp 3 (by kernel_rfl) _ _ rfl rfl
      exact ⟨Sure.none rfl, .inl ⟨.string (m.Snap), w', OpV.x (by exact V.load (x := .tmp 79) rfl p9 p_3 (hq_b17.cell rfl)), by cases f <;> exact hI, rfl⟩⟩
    · intro f E' w' hI hm hE hp
      obtain ⟨⟨Y, hY, hh⟩, hbl⟩ := id hI
      have p_4 : E' 80 = (.string (m.Snap) : Value) := hp 4 (by kernel_rfl) _ _ rfl rfl
      exact ⟨Sure.none rfl, .inr ⟨_, _, C.call1 (x := .tmp 80) rfl cl63 p_4, Fnc.mono (code_Text m.Snap (by omega)) (fun v w'' h => ⟨by cases f <;> exact BI.keep hI h.2, by rw [h.1]; rfl⟩)⟩⟩
    · intro f E' w' hI hm hE hp
      obtain ⟨⟨Y, hY, hh⟩, hbl⟩ := id hI
      have p_2 : E' 78 = (.string (numbersB m.Members) : Value) := hp 2 (by kernel_rfl) _ _ rfl rfl
      have p_5 : E' 81 = (.string (textB m.Snap) : Value) := hp 5 (by kernel_rfl) _ _ rfl rfl
      exact ⟨Sure.none rfl, .inl ⟨.string ((numbersB m.Members) ++ (textB m.Snap)), w', OpV.x (by exact V.sadd (x := .tmp 78) (y := .tmp 81) rfl p_2 p_5 (by first | omega | (simp only [ByteArray.size_append]; omega))), by cases f <;> exact hI, rfl⟩⟩
    · intro f E' w' hI hm hE hp
      obtain rfl := hm rfl
      obtain ⟨⟨Y, hY, hh⟩, hbl⟩ := id hI
      replace hbl : Bld 104 5 w32.heap.size [b31, b17] w' b31 (bytesK m k) := hbl
      have hq_w32 : Ext [b31, b17] w32 w' := Ext.hid hx107_1 hY hh (Nat.le_refl _) (by simp)
      have p_6 : E' 82 = (.string ((numbersB m.Members) ++ (textB m.Snap)) : Value) := hp 6 (by kernel_rfl) _ _ rfl rfl
      exact ⟨Sure.none rfl, .inr ⟨_, _, C.call2 (x := .tmp 5) (y := .tmp 82) rfl cl61 ((hE 5 (by kernel_rfl)).trans h5_107) p_6, Fnc.mono (sb_WriteString hbl ((numbersB m.Members) ++ (textB m.Snap)) (by first | omega | (simp only [ByteArray.size_append, strOfNums_size, List.length_cons, List.length_nil]; omega)) hq_w32.size) (fun v w'' ⟨e_, hb_, Y', hY', hh'⟩ => ⟨BI.write hI hY' hh' hb_, by subst e_; rfl⟩)⟩⟩
    · rintro E185 w186 ⟨⟨Y189, hY190, hh191⟩, hbl192⟩ hE187 hp188
      replace hbl192 : Bld 104 5 w32.heap.size [b31, b17] w186 b31 ((bytesK m k) ++ ((numbersB m.Members) ++ (textB m.Snap))) := hbl192
      have hx193 : Ext [b31, b17] w w186 := Ext.hid hx107_0 hY190 hh191 hsz41 (by simp)
      refine WP.sr ?_
      refine WL.c (Sure.none rfl) rfl (C.call1 (x := .tmp 5) rfl cl65 ((hE187 5 (by kernel_rfl)).trans h5_107)) (Fnc.mono (sb_String hbl192 (by first | omega | (simp only [ByteArray.size_append, strOfNums_size, List.length_cons, List.length_nil]; omega))) ?_)
      rintro _ w196 ⟨rfl, Y198, hY199, hh200⟩
      have hx201 : Ext [b31, b17] w w196 := Ext.hid hx193 hY199 hh200 hsz41 (by simp)
      refine WL.m rfl ?_
      refine WL.m rfl ?_
      refine WL.nil ?_
      refine WP.ret ?_
      refine resOf.c2 rfl (v := .string (((bytesK m k) ++ ((numbersB m.Members) ++ (textB m.Snap))))) rfl (v' := .int .i64 (0)) rfl ?_
      exact ⟨(tup2 (str_eq (by first | (rw [if_neg (by rw [may_no (by assumption)]; decide)]; done) | (rw [if_pos hmm]; done) | (rw [if_pos hmm, bytesB, ByteArray.append_assoc, show k = m.Entries.length from by omega]; done))) (int_eq (by first | (rw [if_neg (by rw [may_no (by assumption)]; decide)]; done) | (rw [if_pos hmm]; done) | (rw [if_pos hmm, bytesB, ByteArray.append_assoc, show k = m.Entries.length from by omega]; done)))), ((hx201).done (geCons hge_b31_w (geCons hge_b17_w geNil)))⟩
  refine WP.skip ?_
  refine WP.seq ?_
  refine WP.block ?_
  refine WP.sr ?_
  have hlt117 : k < (m.Entries).length := by first | omega | (simp at *; omega)
  obtain ⟨b109, k110, c111, cs112, hv113, hnb114, hr115, hat116⟩ := hl37.get (i := k) (x := (m.Entries.getD k default)) (getD_some hlt117 _)
  obtain ⟨v118, rfl, hl119, hk120⟩ := hr115
  obtain ⟨hin121, hin122, hin123⟩ := (show EntryD.InR (m.Entries.getD k default) from hk120)
  have hin121 := inK_u64 hin121
  have hin122 := inK_u8 hin122
  have hle124 := hl119.le'
  have hat125 := hat116.ext hx107_1 (fun hm => hnb114 (mem_pre (O := [b31, b17]) (X := X) hm))
  refine WL.z (.pointer (some ⟨b109, k110 + k * 4, none⟩)) (V.indexAddr (x := .tmp 54) (i := .tmp 56) (m := k) (j := (k : Int)) rfl u25 s90 (Eq.trans (b := v1) h54_107 hv113) h56_107 rfl hlt117) ?_
  refine WL.z (.agg #[.int .u64 ((m.Entries.getD k default).Term), .int .u8 ((m.Entries.getD k default).Kind), .string ((m.Entries.getD k default).Data), v118]) (V.loadAgg (cs := [.int .u64 ((m.Entries.getD k default).Term), .int .u8 ((m.Entries.getD k default).Kind), .string ((m.Entries.getD k default).Data), v118]) rfl a90 rfl hat125 rfl) ?_
  refine WL.alloc (cs := [.int .u64 (0), .int .u8 (0), .string (ByteArray.mk #[]), .slice none 0 0]) (Sure.none rfl) rfl rfl z90 rfl (fun b126 w127 hx128 he129 hb130 => ?_)
  have hlt_b17_b126 : b17 < b126 := by have := hbb17_107.lt; omega
  have hb131 := hbb17_107.ext hx128 (by simp)
  have hlt_b31_b126 : b31 < b126 := by have := hbl107.lt; omega
  have hbl132 := hbl107.new hx128 (c := b126) (by omega) hb130.lt
  have hl135 := Sl.new (b := b126) (by show (1 : Nat) ≠ 0; decide) hl119 (by have := hx107_1.size; omega)
  have hx136 : Ext [b126, b31, b17] _ _ := (Ext.cons hx107_0).trans (Ext.any hx128)
  have hx137 : Ext [b126, b31, b17] _ _ := (Ext.cons hx107_1).trans (Ext.any hx128)
  have hge_b126_w : w.heap.size ≤ b126 := by have := hx107_0.size; omega
  have hge_b126_w32 : w32.heap.size ≤ b126 := by have := hx107_1.size; omega
  refine WL.storeAgg (vs := [.int .u64 ((m.Entries.getD k default).Term), .int .u8 ((m.Entries.getD k default).Kind), .string ((m.Entries.getD k default).Data), v118]) (Sure.none rfl) rfl rfl s90 rfl rfl rfl (by intro u hu; simp only [List.mem_cons, List.not_mem_nil, or_false] at hu; rcases hu with rfl | rfl | rfl | rfl <;> first | rfl | exact Sl.one (by assumption)) hb130 (by show (0 : Nat) + 4 ≤ 4; decide) (fun w138 hs139 hb140 => ?_)
  replace hb140 : Box w138 b126 90 [.int .u64 ((m.Entries.getD k default).Term), .int .u8 ((m.Entries.getD k default).Kind), .string ((m.Entries.getD k default).Data), v118] := hb140
  have hb141 := hb131.ext hs139 (by simp; omega)
  have hx142 : Ext [b126, b31, b17] w w138 := hx136.trans (hs139.mono (by simp))
  have hx143 : Ext [b126, b31, b17] w32 w138 := hx137.trans (hs139.mono (by simp))
  have hbl145 := hbl132.ext hs139 (by simp; omega) (by intro y hy; rw [List.mem_singleton] at hy; subst hy; simp)
  refine WL.nil ?_
  refine WP.sr ?_
  refine WL.f (.int .u64 ((m.Entries.getD k default).Term)) fl90_0 rfl p23 (hb140.cell rfl) ?_
  refine WL.c (Sure.none rfl) rfl (C.call1 rfl cl62 rfl) (Fnc.mono (code_Num ((m.Entries.getD k default).Term) (by omega)) ?_)
  rintro _ w146 ⟨rfl, hx147⟩
  have hx148 : Ext [b126, b31, b17] w w146 := hx142.trans (Ext.any (Y := [b126, b31, b17]) hx147)
  have hx149 : Ext [b126, b31, b17] w32 w146 := hx143.trans (Ext.any (Y := [b126, b31, b17]) hx147)
  have hb152 := hb141.ext hx147 (by simp)
  have hb153 := hb140.ext hx147 (by simp)
  have hbl154 := hbl145.keep hx147
  refine WL.c (Sure.none rfl) rfl (C.call2 (x := .tmp 5) rfl cl61 h5_107 rfl) (Fnc.mono (sb_WriteString hbl154 (numB ((m.Entries.getD k default).Term)) (by first | omega | (simp only [ByteArray.size_append, strOfNums_size, List.length_cons, List.length_nil]; omega)) hx149.size) ?_)
  rintro _ w155 ⟨rfl, hbl156, Y157, hY158, hh159⟩
  have hx160 : Ext [b126, b31, b17] w w155 := Ext.hid hx148 hY158 hh159 hsz41 (by simp)
  have hx161 : Ext [b126, b31, b17] w32 w155 := Ext.hid hx149 hY158 hh159 (Nat.le_refl _) (by simp)
  have hb162 := Box.hid hb152 hY158 hh159 (by omega) (by simp)
  have hb163 := Box.hid hb153 hY158 hh159 (by omega) (by simp)
  refine WL.nil ?_
  refine WP.sr ?_
  refine WL.f (.int .u8 ((m.Entries.getD k default).Kind)) fl90_1 rfl p88 (hb163.cell rfl) ?_
  refine WL.c (Sure.none rfl) rfl (C.call2 (x := .tmp 5) rfl cl60 h5_107 rfl) (Fnc.mono (sb_WriteByte hbl156 ((m.Entries.getD k default).Kind) (by omega) (by first | omega | (simp only [ByteArray.size_append, strOfNums_size, List.length_cons, List.length_nil]; omega)) hx161.size) ?_)
  rintro _ w164 ⟨rfl, hbl165, Y166, hY167, hh168⟩
  have hx169 : Ext [b126, b31, b17] w w164 := Ext.hid hx160 hY167 hh168 hsz41 (by simp)
  have hx170 : Ext [b126, b31, b17] w32 w164 := Ext.hid hx161 hY167 hh168 (Nat.le_refl _) (by simp)
  have hb171 := Box.hid hb162 hY167 hh168 (by omega) (by simp)
  have hb172 := Box.hid hb163 hY167 hh168 (by omega) (by simp)
  refine WL.nil ?_
  refine WP.anyB 7 (BI 104 5 w32.heap.size [b126, b31, b17] w164 b31 (((bytesK m k) ++ (numB ((m.Entries.getD k default).Term))) ++ strOfNums [(m.Entries.getD k default).Kind]) ((textB ((m.Entries.getD k default).Data)) ++ (numbersB ((m.Entries.getD k default).Members)))) [.pointer (some ⟨b126, 2, none⟩), .string ((m.Entries.getD k default).Data), .string (textB ((m.Entries.getD k default).Data)), .pointer (some ⟨b126, 3, none⟩), v118, .string (numbersB ((m.Entries.getD k default).Members)), .string ((textB ((m.Entries.getD k default).Data)) ++ (numbersB ((m.Entries.getD k default).Members))), .tuple #[.int .i64 ((((textB ((m.Entries.getD k default).Data)) ++ (numbersB ((m.Entries.getD k default).Members))).size : Int)), .nilIface]] mo (by kernel_rfl) (by kernel_rfl) (by kernel_rfl) (by kernel_rfl) (fun d => BI.start hbl165 d) ⟨?_, ?_, ?_, ?_, ?_, ?_, ?_, ?_, trivial⟩ ?_
  · intro f E' w' hI hm hE hp
    obtain ⟨⟨Y, hY, hh⟩, hbl⟩ := id hI
    exact ⟨Sure.none rfl, .inl ⟨.pointer (some ⟨b126, 2, none⟩), w', OpV.x (by exact V.fieldAddr (x := .tmp 10) rfl fl90_2 ((hE 10 (by kernel_rfl)).trans rfl)), by cases f <;> exact hI, rfl⟩⟩
  · intro f E' w' hI hm hE hp
    obtain ⟨⟨Y, hY, hh⟩, hbl⟩ := id hI
    have hq_b126 := Box.hid hb172 hY hh (by omega) (by simp)
    have p_0 : E' 67 = (.pointer (some ⟨b126, 2, none⟩) : Value) := hp 0 (by kernel_rfl) _ _ rfl rfl
    exact ⟨Sure.none rfl, .inl ⟨.string ((m.Entries.getD k default).Data), w', OpV.x (by exact V.load (x := .tmp 67) rfl p9 p_0 (hq_b126.cell rfl)), by cases f <;> exact hI, rfl⟩⟩
  · intro f E' w' hI hm hE hp
    obtain ⟨⟨Y, hY, hh⟩, hbl⟩ := id hI
    have p_1 : E' 68 = (.string ((m.Entries.getD k default).Data) : Value) := hp 1 (by kernel_rfl) _ _ rfl rfl
    exact ⟨Sure.none rfl, .inr ⟨_, _, C.call1 (x := .tmp 68) rfl cl63 p_1, Fnc.mono (code_Text ((m.Entries.getD k default).Data) (by omega)) (fun v w'' h => ⟨by cases f <;> exact BI.keep hI h.2, by rw [h.1]; rfl⟩)⟩⟩
  · intro f E' w' hI hm hE hp
    obtain ⟨⟨Y, hY, hh⟩, hbl⟩ := id hI
    exact ⟨Sure.none rfl, .inl ⟨.pointer (some ⟨b126, 3, none⟩), w', OpV.x (by exact V.fieldAddr (x := .tmp 10) rfl fl90_3 ((hE 10 (by kernel_rfl)).trans rfl)), by cases f <;> exact hI, rfl⟩⟩
  · intro f E' w' hI hm hE hp
    obtain ⟨⟨Y, hY, hh⟩, hbl⟩ := id hI
    have hq_b126 := Box.hid hb172 hY hh (by omega) (by simp)
    have p_3 : E' 70 = (.pointer (some ⟨b126, 3, none⟩) : Value) := hp 3 (by kernel_rfl) _ _ rfl rfl
    exact ⟨Sure.none rfl, .inl ⟨v118, w', OpV.x (by exact V.load (x := .tmp 70) rfl p22 p_3 (hq_b126.cell rfl)), by cases f <;> exact hI, rfl⟩⟩
  · intro f E' w' hI hm hE hp
    obtain ⟨⟨Y, hY, hh⟩, hbl⟩ := id hI
    have hq_w32 : Ext [b126, b31, b17] w32 w' := Ext.hid hx170 hY hh (Nat.le_refl _) (by simp)
    have p_4 : E' 71 = (v118 : Value) := hp 4 (by kernel_rfl) _ _ rfl rfl
    exact ⟨Sure.none rfl, .inr ⟨_, _, C.call1 (x := .tmp 71) rfl cl64 p_4, Fnc.mono (vote_numbers (hl135.ext (Ext.pre hq_w32)) (by omega) (by first | assumption | exact fun j hj => (hok.me.2 j hj).1 | exact fun j hj => ((hok.em k (by omega)).2 j hj).1)) (fun v w'' h => ⟨by cases f <;> exact BI.keep hI h.2, by rw [h.1]; rfl⟩)⟩⟩
  · intro f E' w' hI hm hE hp
    obtain ⟨⟨Y, hY, hh⟩, hbl⟩ := id hI
    have p_2 : E' 69 = (.string (textB ((m.Entries.getD k default).Data)) : Value) := hp 2 (by kernel_rfl) _ _ rfl rfl
    have p_5 : E' 72 = (.string (numbersB ((m.Entries.getD k default).Members)) : Value) := hp 5 (by kernel_rfl) _ _ rfl rfl
    exact ⟨Sure.none rfl, .inl ⟨.string ((textB ((m.Entries.getD k default).Data)) ++ (numbersB ((m.Entries.getD k default).Members))), w', OpV.x (by exact V.sadd (x := .tmp 69) (y := .tmp 72) rfl p_2 p_5 (by first | omega | (simp only [ByteArray.size_append]; omega))), by cases f <;> exact hI, rfl⟩⟩
  · intro f E' w' hI hm hE hp
    obtain rfl := hm rfl
    obtain ⟨⟨Y, hY, hh⟩, hbl⟩ := id hI
    replace hbl : Bld 104 5 w32.heap.size [b126, b31, b17] w' b31 (((bytesK m k) ++ (numB ((m.Entries.getD k default).Term))) ++ strOfNums [(m.Entries.getD k default).Kind]) := hbl
    have hq_w32 : Ext [b126, b31, b17] w32 w' := Ext.hid hx170 hY hh (Nat.le_refl _) (by simp)
    have p_6 : E' 73 = (.string ((textB ((m.Entries.getD k default).Data)) ++ (numbersB ((m.Entries.getD k default).Members))) : Value) := hp 6 (by kernel_rfl) _ _ rfl rfl
    exact ⟨Sure.none rfl, .inr ⟨_, _, C.call2 (x := .tmp 5) (y := .tmp 73) rfl cl61 ((hE 5 (by kernel_rfl)).trans h5_107) p_6, Fnc.mono (sb_WriteString hbl ((textB ((m.Entries.getD k default).Data)) ++ (numbersB ((m.Entries.getD k default).Members))) (by first | omega | (simp only [ByteArray.size_append, strOfNums_size, List.length_cons, List.length_nil]; omega)) hq_w32.size) (fun v w'' ⟨e_, hb_, Y', hY', hh'⟩ => ⟨BI.write hI hY' hh' hb_, by subst e_; rfl⟩)⟩⟩
  · rintro E173 w174 ⟨⟨Y177, hY178, hh179⟩, hbl180⟩ hE175 hp176
    replace hbl180 : Bld 104 5 w32.heap.size [b126, b31, b17] w174 b31 ((((bytesK m k) ++ (numB ((m.Entries.getD k default).Term))) ++ strOfNums [(m.Entries.getD k default).Kind]) ++ ((textB ((m.Entries.getD k default).Data)) ++ (numbersB ((m.Entries.getD k default).Members)))) := hbl180
    have hx181 : Ext [b126, b31, b17] w w174 := Ext.hid hx169 hY178 hh179 hsz41 (by simp)
    have hx182 : Ext [b126, b31, b17] w32 w174 := Ext.hid hx170 hY178 hh179 (Nat.le_refl _) (by simp)
    have hb183 := Box.hid hb171 hY178 hh179 (by omega) (by simp)
    refine WP.region ?_
    refine WL.z (.int .i64 ((k : Int) + 1)) (V.arith (x := .tmp 56) rfl ((hE175 56 (by kernel_rfl)).trans h56_107) rfl rfl (wrap_i64 (by omega) (by omega))) ?_
    refine WL.m rfl ?_
    refine WL.nil ?_
    exact ⟨k + 1, ⟨((hE175 0 (by kernel_rfl)).trans h0_107), ((hE175 1 (by kernel_rfl)).trans h1_107), ((hE175 4 (by kernel_rfl)).trans h4_107), ((hE175 5 (by kernel_rfl)).trans h5_107), ((hE175 8 (by kernel_rfl)).trans h8_107), ((hE175 14 (by kernel_rfl)).trans h14_107), ((hE175 35 (by kernel_rfl)).trans h35_107), ((hE175 36 (by kernel_rfl)).trans h36_107), ((hE175 37 (by kernel_rfl)).trans h37_107), ((hE175 54 (by kernel_rfl)).trans h54_107), ((hE175 55 (by kernel_rfl)).trans h55_107), (int_eq (by omega)), (Ext.drop hx181 hge_b126_w), (Ext.drop hx182 hge_b126_w32), (Bld.cast (Bld.mono hbl180 (by simp +contextual)) (by simp only [bytesK, entB, ByteArray.append_assoc])), hb183, (by omega)⟩, (by omega)⟩
end Go.Proofs.Ytbpamkbegggeoaa.X1
namespace Go.Proofs.Ytbpamkbegggeoaa.X1
open T W Go.RowKit
set_option maxRecDepth 100000
set_option maxHeartbeats 400000
theorem cl67 : Callable Try.prog 67 := ⟨Try.f67, Try.func67, by kernel_rfl, rfl⟩
theorem e3 : Elem Try.prog 3 (.int .i64 (0)) 1 8 := by unfold Elem; kernel_rfl
theorem cl72 : Callable Try.prog 72 := ⟨Try.f72, Try.func72, by kernel_rfl, rfl⟩
theorem wrap_i64_in (n : Int) : -9223372036854775808 ≤ IntKind.i64.wrap n ∧ IntKind.i64.wrap n ≤ 9223372036854775807 := by
  simp only [IntKind.wrap, IntKind.signed, IntKind.bits]
  constructor
  · simp; split <;> omega
  · simp; split <;> omega
section
variable {σ α : Type}
def itS (nx : σ → σ) (s : σ) : Nat → σ
  | 0 => s
  | k + 1 => nx (itS nx s k)
def itL (nx : σ → σ) (val : σ → α) (s : σ) : Nat → List α
  | 0 => []
  | k + 1 => itL nx val s k ++ [val (itS nx s k)]
def itE (nx : σ → σ) (bad : σ → Bool) (s : σ) : Nat → Nat → Nat
  | 0, k => k
  | f + 1, k => if bad (itS nx s k) = true then k else itE nx bad s f (k + 1)
theorem itL_len (nx : σ → σ) (val : σ → α) (s : σ) : ∀ k, (itL nx val s k).length = k
  | 0 => rfl
  | k + 1 => by rw [itL, List.length_append, itL_len nx val s k]; rfl
theorem itE_go {nx : σ → σ} {bad : σ → Bool} {s : σ} {k : Nat} : ∀ (f k0 : Nat), k0 ≤ k → k ≤ k0 + f → (∀ j, k0 ≤ j → j < k → bad (itS nx s j) = false) → (k = k0 + f ∨ bad (itS nx s k) = true) → itE nx bad s f k0 = k
  | 0, k0, h1, h2, _, _ => by rw [itE]; omega
  | f + 1, k0, h1, h2, h3, h4 => by
    rw [itE]
    by_cases e : k0 = k
    · subst e
      rcases h4 with h4 | h4
      · omega
      · rw [if_pos h4]
    · rw [if_neg (by rw [h3 k0 (Nat.le_refl _) (by omega)]; decide)]
      exact itE_go f (k0 + 1) (by omega) (by omega) (fun j hj hk => h3 j (by omega) hk) (h4.imp (by omega) id)
theorem itE_at {nx : σ → σ} {bad : σ → Bool} {s : σ} {n k : Nat} (h1 : ∀ j, j < k → bad (itS nx s j) = false) (h2 : k ≤ n) (h3 : k = n ∨ bad (itS nx s k) = true) : itE nx bad s n 0 = k :=
  itE_go n 0 (Nat.zero_le _) (by omega) (fun j _ hj => h1 j hj) (h3.imp (by omega) id)
theorem bad_step {p : Nat → Bool} {k : Nat} (h : ∀ j, j < k → p j = false) (hk : p k = false) : ∀ j, j < k + 1 → p j = false := fun j hj => by
  rcases Nat.lt_or_ge j k with h1 | h1
  · exact h j h1
  · obtain rfl : j = k := by omega
    exact hk
end
theorem extract_size (s : ByteArray) (a b : Nat) (h : b ≤ s.size) : (s.extract a b).size = b - a := by
  rw [ByteArray.size_extract]; omega
theorem rnE_ok {s : ByteArray} (h : rnE s = 0) : 0 < s.size ∧ 0 ≤ rnN s ∧ rnN s ≤ 8 ∧ 1 + rnN s ≤ (s.size : Int) := by
  have h0 : 0 ≤ rnN s := by unfold rnN; omega
  unfold rnE at h
  split at h
  · omega
  · split at h
    · omega
    · split at h
      · omega
      · exact ⟨by omega, h0, by omega, by omega⟩
theorem rnR_lt {s : ByteArray} (h : rnE s = 0) : (rnR s).size + 1 ≤ s.size := by
  have := rnE_ok h
  rw [rnR, if_pos h, extract_size _ _ _ (Nat.le_refl _)]
  omega
theorem numP_le (r : VRD) : (numP r).s.size ≤ r.s.size := rnR_le _
theorem numP_lt {r : VRD} (h : (numP r).bad = false) : (numP r).s.size + 1 ≤ r.s.size := by
  have : rnE r.s = 0 := by
    have : ¬ rnE r.s ≠ 0 := by intro e; simp [numP, e] at h
    omega
  exact rnR_lt this
theorem rNumP_le (r : RRD) (m : Int) : (rNumP r m).S.size ≤ r.S.size := by
  simp only [rNumP]; split
  · exact Nat.le_refl _
  · exact rnR_le _
theorem rNumP_lt {r : RRD} {m : Int} (h : (rNumP r m).Bad = false) : (rNumP r m).S.size + 1 ≤ r.S.size := by
  have h1 : rNumNo r.S m = false := by simp only [rNumP, Bool.or_eq_false_iff] at h; exact h.2
  have h2 : rnE r.S = 0 := by
    simp only [rNumNo, Bool.or_eq_false_iff, decide_eq_false_iff_not] at h1
    omega
  simp only [rNumP, h1, Bool.false_eq_true, if_false]
  exact rnR_lt h2
theorem rNumV_in (r : RRD) (m : Int) : 0 ≤ rNumV r m ∧ rNumV r m ≤ 18446744073709551615 := by
  unfold rNumV; split
  · omega
  · exact rnX_in _
theorem it_le {nx : VRD → VRD} (h : ∀ r, (nx r).s.size ≤ r.s.size) (r : VRD) : ∀ k, (itS nx r k).s.size ≤ r.s.size
  | 0 => Nat.le_refl _
  | k + 1 => Nat.le_trans (h _) (it_le h r k)
theorem it_use {nx : VRD → VRD} (h : ∀ r, (nx r).bad = false → (nx r).s.size + 1 ≤ r.s.size) (r : VRD) : ∀ k, (∀ j, j < k → (itS nx r j).bad = false) → (itS nx r k).bad = false → (itS nx r k).s.size + k ≤ r.s.size
  | 0, _, _ => Nat.le_refl _
  | k + 1, h1, h2 => by
    have h3 := it_use h r k (fun j hj => h1 j (by omega)) (h1 k (by omega))
    have h4 := h (itS nx r k) h2
    show (nx (itS nx r k)).s.size + (k + 1) ≤ r.s.size
    omega
theorem itR_le {nx : RRD → RRD} (h : ∀ r, (nx r).S.size ≤ r.S.size) (r : RRD) : ∀ k, (itS nx r k).S.size ≤ r.S.size
  | 0 => Nat.le_refl _
  | k + 1 => Nat.le_trans (h _) (itR_le h r k)
theorem itR_use {nx : RRD → RRD} (h : ∀ r, (nx r).Bad = false → (nx r).S.size + 1 ≤ r.S.size) (r : RRD) : ∀ k, (∀ j, j < k → (itS nx r j).Bad = false) → (itS nx r k).Bad = false → (itS nx r k).S.size + k ≤ r.S.size
  | 0, _, _ => Nat.le_refl _
  | k + 1, h1, h2 => by
    have h3 := itR_use h r k (fun j hj => h1 j (by omega)) (h1 k (by omega))
    have h4 := h (itS nx r k) h2
    show (nx (itS nx r k)).S.size + (k + 1) ≤ r.S.size
    omega
def vVal (r : VRD) : Int := IntKind.i64.wrap (rnX r.s)
def vN (r : VRD) : Nat := itE numP VRD.bad (numP r) (rnX r.s).toNat 0
def intsV (r : VRD) : List Int := itL numP vVal (numP r) (vN r)
def intsP (r : VRD) : VRD := itS numP (numP r) (vN r)
def rNx (r : RRD) : RRD := rNumP r 1048576
def rVal (r : RRD) : Int := IntKind.i64.wrap (rNumV r 1048576)
def rN (r : RRD) : Nat := itE rNx RRD.Bad (rNx r) (rNumV r 1048576).toNat 0
def rIntsV (r : RRD) : List Int := itL rNx rVal (rNx r) (rN r)
def rIntsP (r : RRD) : RRD := itS rNx (rNx r) (rN r)
theorem rNx_le (r : RRD) : (rNx r).S.size ≤ r.S.size := rNumP_le r _
theorem intsP_le (r : VRD) : (intsP r).s.size ≤ r.s.size := Nat.le_trans (it_le numP_le _ _) (numP_le _)
theorem rIntsP_le (r : RRD) : (rIntsP r).S.size ≤ r.S.size := Nat.le_trans (itR_le (fun r => rNumP_le r _) _ _) (rNumP_le _ _)
theorem vN_at {r : VRD} {k : Nat} (h1 : ∀ j, j < k → (itS numP (numP r) j).bad = false) (h2 : (k : Int) ≤ rnX r.s) (h3 : rnX r.s = (k : Int) ∨ (itS numP (numP r) k).bad = true) : vN r = k := itE_at h1 (by omega) (h3.imp (by omega) id)
theorem rN_at {r : RRD} {k : Nat} (h1 : ∀ j, j < k → (itS rNx (rNx r) j).Bad = false) (h2 : (k : Int) ≤ rNumV r 1048576) (h3 : rNumV r 1048576 = (k : Int) ∨ (itS rNx (rNx r) k).Bad = true) : rN r = k := itE_at h1 (by omega) (h3.imp (by omega) id)
set_option maxHeartbeats 4000000 in
theorem vr_ints {w : World} {X : List Nat} {b_r : Nat} {r : VRD} (h_r : Box w b_r 117 [.string (r.s), .bool (r.bad)]) (hk_r : VRD.InR r) (hs : r.s.size ≤ 1073741824) (hX : ∀ x ∈ X, x < w.heap.size) : Fnc Try.prog 69 #[.pointer (some ⟨b_r, 0, none⟩)] w (fun v w' => ∃ (u0 : Value), v = u0 ∧ Sl (intR .i64) X w' u0 (intsV r) ∧ Box w' b_r 117 [.string ((intsP r).s), .bool ((intsP r).bad)] ∧ Ext [b_r] w w') := by
  have hin_r : VRD.InR r := hk_r
  simp only [VRD.InR, maxLen] at hin_r
  have hrx := rnX_in r.s
  have hnp0 := numP_le r
  refine Fnc.of_WP (n := 25) Try.func69 rfl Try.ntmps69 (by simp) ?_
  intro E hE
  have h0 : E 0 = .pointer (some ⟨b_r, 0, none⟩) := hE 0 (by simp)
  clear hE
  refine WP.sr ?_
  refine WL.m rfl ?_
  refine WL.nil ?_
  refine WP.sr ?_
  refine WL.m rfl ?_
  refine WL.nil ?_
  refine WP.seq ?_
  refine WP.sr ?_
  refine WL.m rfl ?_
  refine WL.c (Sure.none rfl) rfl (C.call1 (x := .tmp 5) rfl cl67 h0) (Fnc.mono (vr_num (r := ({ s := r.s, bad := r.bad } : VRD)) h_r (by show (r.s).size ≤ maxLen; simp only [maxLen]; omega)) ?_)
  rintro _ w1 ⟨rfl, hb3, hx2⟩
  have hle4 := numP_le ({ s := r.s, bad := r.bad } : VRD)
  have hx5 : Ext [b_r] w w1 := (hx2.mono (by simp))
  refine WL.m rfl ?_
  refine WL.nil ?_
  refine WP.block ?_
  have hsz8 : w.heap.size ≤ w1.heap.size := hx5.size
  refine WP.loop (σ := Nat) (fun k E6 w7 => E6 0 = .pointer (some ⟨b_r, 0, none⟩) ∧ E6 2 = .slice none 0 0 ∧ E6 4 = .int .u64 (rnX r.s - (k : Int)) ∧ Ext [b_r] w1 w7 ∧ Box w7 b_r 117 [.string ((itS numP (numP r) k).s), .bool ((itS numP (numP r) k).bad)] ∧ (Owns (intR .i64) 3 w1.heap.size (b_r :: X) w7 (E6 3) (itL numP vVal (numP r) k) ∧ (∀ g, (E6 3).ownBlock = some g → g ∉ (b_r :: X))) ∧ (k : Int) ≤ rnX r.s ∧ ∀ j, j < k → (itS numP (numP r) j).bad = false) (fun k => (rnX r.s).toNat - k) (0) ?_ ?_
  · exact ⟨h0, rfl, (int_eq (by omega)), Ext.refl _ _, hb3, ⟨(Owns.castE (by rfl) Owns.nil), (nil_block rfl)⟩, (by omega), (fun j hj => by omega)⟩
  rintro k E6 w7 ⟨h0_9, h2_9, h4_9, hx9, hbb_r_9, ⟨ho3_9, ho3_9n⟩, hi0_9, hi1_9⟩
  have hx10 : Ext [b_r] w w7 := hx5.trans hx9
  have hx11 : Ext [b_r] w1 w7 := hx9
  have hle0 := it_le numP_le (numP r) k
  have hrk := rnX_in (itS numP (numP r) k).s
  refine WP.seq ?_
  refine WP.sr ?_
  refine WL.m rfl ?_
  refine WL.z (.bool (decide ((rnX r.s - (k : Int)) > 0))) (V.cmp (x := .tmp 7) rfl h4_9 rfl rfl) ?_
  refine WL.vbp (c := (rnX r.s - (k : Int)) > 0) (Sure.none rfl) rfl (V.move rfl rfl) (fun hc12 => ?_) (fun hc12 => ?_)
  rotate_left
  · refine WL.skips [(9, some false)] [(15, some false)] (kc (some false) rfl kn) (by kernel_rfl) (fun E48 hK49 hE50 => ?_)
    refine WP.cond_false (hK49 15 (some false) rfl) ?_
    refine WP.exit ?_
    refine WP.sr ?_
    refine WL.m rfl ?_
    refine WL.m rfl ?_
    refine WL.nil ?_
    refine WP.ret ?_
    refine resOf.c1 rfl (v := E6 3) (hE50 3 rfl) ?_
    exact ⟨E6 3, rfl, (castSl (by rw [intsV, (vN_at (by assumption) (by omega) (by first | exact .inl (by omega) | exact .inr (by assumption)))]) (Sl.base (O := [b_r]) (Owns.sl' ho3_9 ho3_9n))), (Box.cast (by rw [intsP, (vN_at (by assumption) (by omega) (by first | exact .inl (by omega) | exact .inr (by assumption)))]) hbb_r_9), hx10⟩
  refine WL.my rfl rfl ?_
  refine WL.y (.pointer (some ⟨b_r, 0, none⟩)) rfl (V.nilCheck (x := .tmp 10) rfl h0_9) ?_
  refine WL.fy (.bool ((itS numP (numP r) k).bad)) rfl fl117_1 rfl p4 (hbb_r_9.cell rfl) ?_
  refine WL.y (.bool (!((itS numP (numP r) k).bad))) rfl (V.not rfl rfl) ?_
  refine WL.k (a := true) rfl rfl ?_
  refine WL.nil ?_
  refine WP.condn (t := (itS numP (numP r) k).bad) rfl (fun hc13 => ?_) (fun hc13 => ?_)
  rotate_left
  · refine WP.exit ?_
    refine WP.sr ?_
    refine WL.m rfl ?_
    refine WL.m rfl ?_
    refine WL.nil ?_
    refine WP.ret ?_
    refine resOf.c1 rfl (v := E6 3) rfl ?_
    exact ⟨E6 3, rfl, (castSl (by rw [intsV, (vN_at (by assumption) (by omega) (by first | exact .inl (by omega) | exact .inr (by assumption)))]) (Sl.base (O := [b_r]) (Owns.sl' ho3_9 ho3_9n))), (Box.cast (by rw [intsP, (vN_at (by assumption) (by omega) (by first | exact .inl (by omega) | exact .inr (by assumption)))]) hbb_r_9), hx10⟩
  refine WP.skip ?_
  refine WP.seq ?_
  refine WP.block ?_
  refine WP.region ?_
  refine WL.m rfl ?_
  refine WL.m rfl ?_
  refine WL.c (Sure.none rfl) rfl (C.call1 (x := .tmp 19) rfl cl67 h0_9) (Fnc.mono (vr_num (r := ({ s := (itS numP (numP r) k).s, bad := (itS numP (numP r) k).bad } : VRD)) hbb_r_9 (by show ((itS numP (numP r) k).s).size ≤ maxLen; simp only [maxLen]; omega)) ?_)
  rintro _ w14 ⟨rfl, hb16, hx15⟩
  have hle17 := numP_le ({ s := (itS numP (numP r) k).s, bad := (itS numP (numP r) k).bad } : VRD)
  have hx18 : Ext [b_r] w w14 := hx10.trans (hx15.mono (by simp))
  have hx19 : Ext [b_r] w1 w14 := hx11.trans (hx15.mono (by simp))
  have hx20 : Ext [b_r] w7 w14 := (hx15.mono (by simp))
  have ho21 := Owns.keep (Y := [b_r]) ho3_9 (hx15.mono (by simp)) (fun g hg hm => ho3_9n g hg (mem_pre (O := [b_r]) (X := X) hm)) (fun b hb => mem_pre (O := [b_r]) (X := X) hb)
  have hwr22 := wrap_i64_in (rnX ({ s := (itS numP (numP r) k).s, bad := (itS numP (numP r) k).bad } : VRD).s)
  refine WL.z (.int .i64 (IntKind.i64.wrap (rnX ({ s := (itS numP (numP r) k).s, bad := (itS numP (numP r) k).bad } : VRD).s))) (V.convInt rfl u23 u3 rfl rfl) ?_
  refine WL.lit (R := (intR .i64)) (X := (b_r :: X)) (vs := [.int .i64 (IntKind.i64.wrap (rnX ({ s := (itS numP (numP r) k).s, bad := (itS numP (numP r) k).bad } : VRD).s))]) (xs := [(IntKind.i64.wrap (rnX ({ s := (itS numP (numP r) k).s, bad := (itS numP (numP r) k).bad } : VRD).s))]) (Sure.none rfl) rfl rfl u22 e3 (by show 0 < (1 : Nat); decide) (by show _ * (1 : Nat) ≤ 1024; decide) rfl rfl rfl (by intro i v x hv hx; match i, hv, hx with | 0, rfl, rfl => exact ⟨rfl, inK_i64' (by omega)⟩ | i + 1, hv, _ => simp at hv) (fun v23 w24 hx25 ho26 hlit27 => ?_)
  have hno28 : ∀ g, (v23).ownBlock = some g → g ∉ (b_r :: X) := by intro g hg hm; have h1 := hlit27 g hg; have h2 := (inCons hb16.lt (inMono hX hx18.size)) g hm; omega
  have hsz29 : w.heap.size ≤ w14.heap.size := hx18.size
  have hsz30 : w1.heap.size ≤ w14.heap.size := hx19.size
  have hsz31 : w7.heap.size ≤ w14.heap.size := hx20.size
  have hx32 : Ext [b_r] w w24 := hx18.trans (Ext.any (Y := [b_r]) hx25)
  have hx33 : Ext [b_r] w1 w24 := hx19.trans (Ext.any (Y := [b_r]) hx25)
  have hb36 := hb16.ext hx25 (by simp)
  have ho37 := ho21.keep hx25 (by intro g hg hm; simp at hm) (by simp)
  have ho38 := ho26.low (B' := w14.heap.size) (Nat.le_refl _)
  refine WL.appendOwn (R := (intR .i64)) (X := (b_r :: X)) (B := w1.heap.size) (xs := itL numP vVal (numP r) k) (ys := [(IntKind.i64.wrap (rnX ({ s := (itS numP (numP r) k).s, bad := (itS numP (numP r) k).bad } : VRD).s))]) (Sure.none rfl) rfl rfl u22 e3 rfl (by show 0 < (1 : Nat); decide) rfl rfl ho37 (Owns.sl' ho38 hno28) (fun g hg => Owns.sl' (Owns.flat (flat_int _) ho38) (fun gs hgs hm => (List.mem_cons.1 hm).elim (fun h => by have h1 := hlit27 gs hgs; have h2 := (ho21.lt g hg).2; omega) (fun h => hno28 gs hgs h))) hx33.size (by have hu := it_use (fun _ h => numP_lt h) (numP r) k (by assumption) (by assumption); have hnp := numP_le r; simp only [List.length_cons, List.length_nil, itL_len, maxLen]; omega) (by have hu := it_use (fun _ h => numP_lt h) (numP r) k (by assumption) (by assumption); have hnp := numP_le r; simp only [List.length_cons, List.length_nil, itL_len, maxLen]; omega) (fun v39 w40 ho41 hg42 hf43 => ?_)
  have hno44 := after_no hf43 ho3_9n (inCons hb36.lt (inMono hX hx32.size))
  have hx46 := Ext.ownB (hx33) hg42 (fun k hk => (Owns.lt ho37 k hk).1) (Nat.le_refl _)
  have hb47 := hb36.grown hg42 (fun g hg e => ho3_9n g hg (by simp [e]))
  refine WL.m rfl ?_
  refine WL.nil ?_
  refine WP.region ?_
  refine WL.m rfl ?_
  refine WL.z (.int .u64 ((rnX r.s - (k : Int)) - 1)) (V.arith (x := .tmp 16) rfl h4_9 rfl rfl (wrap_u64 (by omega) (by omega))) ?_
  refine WL.m rfl ?_
  refine WL.nil ?_
  exact ⟨k + 1, ⟨h0_9, h2_9, (int_eq (by omega)), hx46, hb47, ⟨(Owns.castE (by rfl) ho41), hno44⟩, (by omega), (bad_step (by assumption) (by assumption))⟩, (by omega)⟩
set_option maxHeartbeats 4000000 in
theorem rr_Ints {w : World} {X : List Nat} {b_r : Nat} {r : RRD} (h_r : Box w b_r 124 [.string (r.S), .bool (r.Bad)]) (hk_r : RRD.InR r) (hs : r.S.size ≤ 1073741824) (hX : ∀ x ∈ X, x < w.heap.size) : Fnc Try.prog 74 #[.pointer (some ⟨b_r, 0, none⟩)] w (fun v w' => ∃ (u0 : Value), v = u0 ∧ Sl (intR .i64) X w' u0 (rIntsV r) ∧ Box w' b_r 124 [.string ((rIntsP r).S), .bool ((rIntsP r).Bad)] ∧ Ext [b_r] w w') := by
  have hin_r : RRD.InR r := hk_r
  simp only [RRD.InR, maxLen] at hin_r
  have hrx := rNumV_in r 1048576
  have hnp0 := rNx_le r
  refine Fnc.of_WP (n := 27) Try.func74 rfl Try.ntmps74 (by simp) ?_
  intro E hE
  have h0 : E 0 = .pointer (some ⟨b_r, 0, none⟩) := hE 0 (by simp)
  clear hE
  refine WP.sr ?_
  refine WL.m rfl ?_
  refine WL.nil ?_
  refine WP.sr ?_
  refine WL.m rfl ?_
  refine WL.nil ?_
  refine WP.sr ?_
  refine WL.m rfl ?_
  refine WL.c (Sure.none rfl) rfl (C.call2 (x := .tmp 6) rfl cl72 h0 rfl) (Fnc.mono (rr_Num (r := ({ S := r.S, Bad := r.Bad } : RRD)) h_r (by show (r.S).size ≤ maxLen; simp only [maxLen]; omega) 1048576) ?_)
  rintro _ w1 ⟨rfl, hb3, hx2⟩
  have hle4 := rNumP_le ({ S := r.S, Bad := r.Bad } : RRD) 1048576
  have hx5 : Ext [b_r] w w1 := (hx2.mono (by simp))
  refine WL.m rfl ?_
  refine WL.nil ?_
  refine WP.seq ?_
  refine WP.sr ?_
  refine WL.m rfl ?_
  refine WL.nil ?_
  refine WP.block ?_
  have hsz8 : w.heap.size ≤ w1.heap.size := hx5.size
  refine WP.loop (σ := Nat) (fun k E6 w7 => E6 0 = .pointer (some ⟨b_r, 0, none⟩) ∧ E6 2 = .slice none 0 0 ∧ E6 4 = .int .u64 (rNumV r 1048576) ∧ E6 5 = .int .u64 ((k : Int)) ∧ Ext [b_r] w1 w7 ∧ Box w7 b_r 124 [.string ((itS rNx (rNx r) k).S), .bool ((itS rNx (rNx r) k).Bad)] ∧ (Owns (intR .i64) 3 w1.heap.size (b_r :: X) w7 (E6 3) (itL rNx rVal (rNx r) k) ∧ (∀ g, (E6 3).ownBlock = some g → g ∉ (b_r :: X))) ∧ (k : Int) ≤ rNumV r 1048576 ∧ ∀ j, j < k → (itS rNx (rNx r) j).Bad = false) (fun k => (rNumV r 1048576).toNat - k) (0) ?_ ?_
  · exact ⟨h0, rfl, (int_eq (by omega)), (int_eq (by omega)), Ext.refl _ _, hb3, ⟨(Owns.castE (by rfl) Owns.nil), (nil_block rfl)⟩, (by omega), (fun j hj => by omega)⟩
  rintro k E6 w7 ⟨h0_9, h2_9, h4_9, h5_9, hx9, hbb_r_9, ⟨ho3_9, ho3_9n⟩, hi0_9, hi1_9⟩
  have hx10 : Ext [b_r] w w7 := hx5.trans hx9
  have hx11 : Ext [b_r] w1 w7 := hx9
  have hle0 := itR_le rNx_le (rNx r) k
  have hrk := rNumV_in (itS rNx (rNx r) k) 1048576
  refine WP.seq ?_
  refine WP.sr ?_
  refine WL.m rfl ?_
  refine WL.m rfl ?_
  refine WL.z (.bool (decide ((k : Int) < (rNumV r 1048576)))) (V.cmp (x := .tmp 8) (y := .tmp 9) rfl h5_9 h4_9 rfl) ?_
  refine WL.vbp (c := (k : Int) < (rNumV r 1048576)) (Sure.none rfl) rfl (V.move rfl rfl) (fun hc12 => ?_) (fun hc12 => ?_)
  rotate_left
  · refine WL.skips [(11, some false)] [(17, some false)] (kc (some false) rfl kn) (by kernel_rfl) (fun E48 hK49 hE50 => ?_)
    refine WP.cond_false (hK49 17 (some false) rfl) ?_
    refine WP.exit ?_
    refine WP.sr ?_
    refine WL.m rfl ?_
    refine WL.m rfl ?_
    refine WL.nil ?_
    refine WP.ret ?_
    refine resOf.c1 rfl (v := E6 3) (hE50 3 rfl) ?_
    exact ⟨E6 3, rfl, (castSl (by rw [rIntsV, (rN_at (by assumption) (by omega) (by first | exact .inl (by omega) | exact .inr (by assumption)))]) (Sl.base (O := [b_r]) (Owns.sl' ho3_9 ho3_9n))), (Box.cast (by rw [rIntsP, (rN_at (by assumption) (by omega) (by first | exact .inl (by omega) | exact .inr (by assumption)))]) hbb_r_9), hx10⟩
  refine WL.my rfl rfl ?_
  refine WL.y (.pointer (some ⟨b_r, 0, none⟩)) rfl (V.nilCheck (x := .tmp 12) rfl h0_9) ?_
  refine WL.fy (.bool ((itS rNx (rNx r) k).Bad)) rfl fl124_1 rfl p4 (hbb_r_9.cell rfl) ?_
  refine WL.y (.bool (!((itS rNx (rNx r) k).Bad))) rfl (V.not rfl rfl) ?_
  refine WL.k (a := true) rfl rfl ?_
  refine WL.nil ?_
  refine WP.condn (t := (itS rNx (rNx r) k).Bad) rfl (fun hc13 => ?_) (fun hc13 => ?_)
  rotate_left
  · refine WP.exit ?_
    refine WP.sr ?_
    refine WL.m rfl ?_
    refine WL.m rfl ?_
    refine WL.nil ?_
    refine WP.ret ?_
    refine resOf.c1 rfl (v := E6 3) rfl ?_
    exact ⟨E6 3, rfl, (castSl (by rw [rIntsV, (rN_at (by assumption) (by omega) (by first | exact .inl (by omega) | exact .inr (by assumption)))]) (Sl.base (O := [b_r]) (Owns.sl' ho3_9 ho3_9n))), (Box.cast (by rw [rIntsP, (rN_at (by assumption) (by omega) (by first | exact .inl (by omega) | exact .inr (by assumption)))]) hbb_r_9), hx10⟩
  refine WP.skip ?_
  refine WP.seq ?_
  refine WP.block ?_
  refine WP.region ?_
  refine WL.m rfl ?_
  refine WL.m rfl ?_
  refine WL.c (Sure.none rfl) rfl (C.call2 (x := .tmp 21) rfl cl72 h0_9 rfl) (Fnc.mono (rr_Num (r := ({ S := (itS rNx (rNx r) k).S, Bad := (itS rNx (rNx r) k).Bad } : RRD)) hbb_r_9 (by show ((itS rNx (rNx r) k).S).size ≤ maxLen; simp only [maxLen]; omega) 1048576) ?_)
  rintro _ w14 ⟨rfl, hb16, hx15⟩
  have hle17 := rNumP_le ({ S := (itS rNx (rNx r) k).S, Bad := (itS rNx (rNx r) k).Bad } : RRD) 1048576
  have hx18 : Ext [b_r] w w14 := hx10.trans (hx15.mono (by simp))
  have hx19 : Ext [b_r] w1 w14 := hx11.trans (hx15.mono (by simp))
  have hx20 : Ext [b_r] w7 w14 := (hx15.mono (by simp))
  have ho21 := Owns.keep (Y := [b_r]) ho3_9 (hx15.mono (by simp)) (fun g hg hm => ho3_9n g hg (mem_pre (O := [b_r]) (X := X) hm)) (fun b hb => mem_pre (O := [b_r]) (X := X) hb)
  have hwr22 := wrap_i64_in (rNumV ({ S := (itS rNx (rNx r) k).S, Bad := (itS rNx (rNx r) k).Bad } : RRD) 1048576)
  refine WL.z (.int .i64 (IntKind.i64.wrap (rNumV ({ S := (itS rNx (rNx r) k).S, Bad := (itS rNx (rNx r) k).Bad } : RRD) 1048576))) (V.convInt rfl u23 u3 rfl rfl) ?_
  refine WL.lit (R := (intR .i64)) (X := (b_r :: X)) (vs := [.int .i64 (IntKind.i64.wrap (rNumV ({ S := (itS rNx (rNx r) k).S, Bad := (itS rNx (rNx r) k).Bad } : RRD) 1048576))]) (xs := [(IntKind.i64.wrap (rNumV ({ S := (itS rNx (rNx r) k).S, Bad := (itS rNx (rNx r) k).Bad } : RRD) 1048576))]) (Sure.none rfl) rfl rfl u22 e3 (by show 0 < (1 : Nat); decide) (by show _ * (1 : Nat) ≤ 1024; decide) rfl rfl rfl (by intro i v x hv hx; match i, hv, hx with | 0, rfl, rfl => exact ⟨rfl, inK_i64' (by omega)⟩ | i + 1, hv, _ => simp at hv) (fun v23 w24 hx25 ho26 hlit27 => ?_)
  have hno28 : ∀ g, (v23).ownBlock = some g → g ∉ (b_r :: X) := by intro g hg hm; have h1 := hlit27 g hg; have h2 := (inCons hb16.lt (inMono hX hx18.size)) g hm; omega
  have hsz29 : w.heap.size ≤ w14.heap.size := hx18.size
  have hsz30 : w1.heap.size ≤ w14.heap.size := hx19.size
  have hsz31 : w7.heap.size ≤ w14.heap.size := hx20.size
  have hx32 : Ext [b_r] w w24 := hx18.trans (Ext.any (Y := [b_r]) hx25)
  have hx33 : Ext [b_r] w1 w24 := hx19.trans (Ext.any (Y := [b_r]) hx25)
  have hb36 := hb16.ext hx25 (by simp)
  have ho37 := ho21.keep hx25 (by intro g hg hm; simp at hm) (by simp)
  have ho38 := ho26.low (B' := w14.heap.size) (Nat.le_refl _)
  refine WL.appendOwn (R := (intR .i64)) (X := (b_r :: X)) (B := w1.heap.size) (xs := itL rNx rVal (rNx r) k) (ys := [(IntKind.i64.wrap (rNumV ({ S := (itS rNx (rNx r) k).S, Bad := (itS rNx (rNx r) k).Bad } : RRD) 1048576))]) (Sure.none rfl) rfl rfl u22 e3 rfl (by show 0 < (1 : Nat); decide) rfl rfl ho37 (Owns.sl' ho38 hno28) (fun g hg => Owns.sl' (Owns.flat (flat_int _) ho38) (fun gs hgs hm => (List.mem_cons.1 hm).elim (fun h => by have h1 := hlit27 gs hgs; have h2 := (ho21.lt g hg).2; omega) (fun h => hno28 gs hgs h))) hx33.size (by have hu := itR_use (fun _ h => rNumP_lt h) (rNx r) k (by assumption) (by assumption); have hnp : (rNx r).S.size ≤ r.S.size := rNumP_le r _; simp only [List.length_cons, List.length_nil, itL_len, maxLen]; omega) (by have hu := itR_use (fun _ h => rNumP_lt h) (rNx r) k (by assumption) (by assumption); have hnp : (rNx r).S.size ≤ r.S.size := rNumP_le r _; simp only [List.length_cons, List.length_nil, itL_len, maxLen]; omega) (fun v39 w40 ho41 hg42 hf43 => ?_)
  have hno44 := after_no hf43 ho3_9n (inCons hb36.lt (inMono hX hx32.size))
  have hx46 := Ext.ownB (hx33) hg42 (fun k hk => (Owns.lt ho37 k hk).1) (Nat.le_refl _)
  have hb47 := hb36.grown hg42 (fun g hg e => ho3_9n g hg (by simp [e]))
  refine WL.m rfl ?_
  refine WL.nil ?_
  refine WP.region ?_
  refine WL.m rfl ?_
  refine WL.z (.int .u64 ((k : Int) + 1)) (V.arith (x := .tmp 18) rfl h5_9 rfl rfl (wrap_u64 (by omega) (by omega))) ?_
  refine WL.m rfl ?_
  refine WL.nil ?_
  exact ⟨k + 1, ⟨h0_9, h2_9, (Eq.trans h4_9 (int_eq (by omega))), (int_eq (by omega)), hx46, hb47, ⟨(Owns.castE (by rfl) ho41), hno44⟩, (by omega), (bad_step (by assumption) (by assumption))⟩, (by omega)⟩
end Go.Proofs.Ytbpamkbegggeoaa.X1
namespace Go.Proofs.Ytbpamkbegggeoaa.X1
open T W Go.RowKit
set_option maxRecDepth 100000
set_option maxHeartbeats 400000
theorem cl71 : Callable Try.prog 71 := ⟨Try.f71, Try.func71, by kernel_rfl, rfl⟩
theorem s88 : Sized Try.prog 88 1 := by unfold Sized; kernel_rfl
theorem cl75 : Callable Try.prog 75 := ⟨Try.f75, Try.func75, by kernel_rfl, rfl⟩
theorem cl74 : Callable Try.prog 74 := ⟨Try.f74, Try.func74, by kernel_rfl, rfl⟩
theorem s22 : Sized Try.prog 22 1 := by unfold Sized; kernel_rfl
theorem tlS_le (s : ByteArray) : (tlS s).size ≤ s.size := by
  unfold tlS; split
  · exact Nat.le_refl _
  · exact extract_le _ _ _
theorem rtR_le (s : ByteArray) : (rtR s).size ≤ s.size := by
  unfold rtR; split
  · exact Nat.le_trans (extract_le _ _ _) (rnR_le s)
  · exact Nat.zero_le _
theorem rtT_le (s : ByteArray) : (rtT s).size ≤ s.size := by
  unfold rtT; split
  · exact Nat.le_trans (extract_le _ _ _) (rnR_le s)
  · exact Nat.zero_le _
theorem hdV_in (s : ByteArray) : 0 ≤ hdV s ∧ hdV s ≤ 255 := by
  unfold hdV; split
  · omega
  · unfold rnN; have := (s.data.getD 0 0).toNat_lt; omega
theorem octP_le (r : VRD) : (octP r).s.size ≤ r.s.size := tlS_le _
theorem textP_le (r : VRD) : (textP r).s.size ≤ r.s.size := rtR_le _
theorem rOctP_le (r : RRD) : (rOctP r).S.size ≤ r.S.size := tlS_le _
theorem rTextP_le (r : RRD) : (rTextP r).S.size ≤ r.S.size := by
  simp only [rTextP]; split
  · exact Nat.le_refl _
  · exact rtR_le _
theorem rTextV_le (r : RRD) : (rTextV r).size ≤ r.S.size := by
  unfold rTextV; split
  · exact Nat.zero_le _
  · exact rtT_le _
def vEntV (r : VRD) : EntryD := { Term := rnX r.s, Kind := hdV (numP r).s, Data := rtT (octP (numP r)).s, Members := intsV (textP (octP (numP r))) }
def vEntP (r : VRD) : VRD := intsP (textP (octP (numP r)))
def rEntV (r : RRD) : EntryD := { Term := rNumV r 18446744073709551615, Kind := hdV (rNumP r 18446744073709551615).S, Data := rTextV (rOctP (rNumP r 18446744073709551615)), Members := rIntsV (rTextP (rOctP (rNumP r 18446744073709551615))) }
def rEntP (r : RRD) : RRD := rIntsP (rTextP (rOctP (rNumP r 18446744073709551615)))
theorem vEntP_le (r : VRD) : (vEntP r).s.size ≤ r.s.size := Nat.le_trans (intsP_le _) (Nat.le_trans (textP_le _) (Nat.le_trans (octP_le _) (numP_le _)))
theorem rEntP_le (r : RRD) : (rEntP r).S.size ≤ r.S.size := Nat.le_trans (rIntsP_le _) (Nat.le_trans (rTextP_le _) (Nat.le_trans (rOctP_le _) (rNumP_le _ _)))
theorem maxLen_le {n : Nat} (h : n ≤ 1073741824) : n ≤ maxLen := by simp only [maxLen]; omega
theorem vEntV_in (r : VRD) (h : r.s.size ≤ 1073741824) : (vEntV r).InR :=
  ⟨inK_u64' (rnX_in r.s), inK_u8' (hdV_in (numP r).s), maxLen_le (Nat.le_trans (rtT_le _) (Nat.le_trans (octP_le _) (Nat.le_trans (numP_le _) h)))⟩
theorem rEntV_in (r : RRD) (h : r.S.size ≤ 1073741824) : (rEntV r).InR :=
  ⟨inK_u64' (rNumV_in r 18446744073709551615), inK_u8' (hdV_in (rNumP r 18446744073709551615).S), maxLen_le (Nat.le_trans (rTextV_le _) (Nat.le_trans (rOctP_le _) (Nat.le_trans (rNumP_le _ _) h)))⟩
set_option maxHeartbeats 2000000 in
theorem rr_Entry {w : World} {X : List Nat} {b_r : Nat} {r : RRD} (h_r : Box w b_r 124 [.string (r.S), .bool (r.Bad)]) (hk_r : RRD.InR r) (hs : r.S.size ≤ 1073741824) (hX : ∀ x ∈ X, x < w.heap.size) : Fnc Try.prog 73 #[.pointer (some ⟨b_r, 0, none⟩)] w (fun v w' => ∃ (u0 : List Value), v = .agg u0.toArray ∧ entryR.rd X w' u0 (rEntV r) ∧ Box w' b_r 124 [.string ((rEntP r).S), .bool ((rEntP r).Bad)] ∧ Ext [b_r] w w') := by
  have hin_r : RRD.InR r := hk_r
  simp only [RRD.InR, maxLen] at hin_r
  refine Fnc.of_WP (n := 17) Try.func73 rfl Try.ntmps73 (by simp) ?_
  intro E hE
  have h0 : E 0 = .pointer (some ⟨b_r, 0, none⟩) := hE 0 (by simp)
  clear hE
  refine WP.sr ?_
  refine WL.alloc (cs := [.int .u64 (0), .int .u8 (0), .string (ByteArray.mk #[]), .slice none 0 0]) (Sure.none rfl) rfl rfl z90 rfl (fun b1 w2 hx3 he4 hb5 => ?_)
  have hlt_b_r_b1 : b_r < b1 := by have := h_r.lt; omega
  have hb6 := h_r.ext hx3 (by simp)
  have hx7 : Ext [b1, b_r] _ _ := (Ext.refl _ _).trans (Ext.any hx3)
  have hge_b1_w : w.heap.size ≤ b1 := by have := Nat.le_refl w.heap.size; omega
  refine WL.nil ?_
  refine WP.sr ?_
  refine WL.alloc (cs := [.int .u64 (0), .int .u8 (0), .string (ByteArray.mk #[]), .slice none 0 0]) (Sure.none rfl) rfl rfl z90 rfl (fun b8 w9 hx10 he11 hb12 => ?_)
  have hlt_b_r_b8 : b_r < b8 := by have := hb6.lt; omega
  have hb13 := hb6.ext hx10 (by simp)
  have hlt_b1_b8 : b1 < b8 := by have := hb5.lt; omega
  have hb14 := hb5.ext hx10 (by simp)
  have hx15 : Ext [b8, b1, b_r] _ _ := (Ext.cons hx7).trans (Ext.any hx10)
  have hge_b8_w : w.heap.size ≤ b8 := by have := hx7.size; omega
  refine WL.nil ?_
  refine WP.sr ?_
  refine WL.m rfl ?_
  refine WL.c (Sure.none rfl) rfl (C.call2 (x := .tmp 4) rfl cl72 h0 rfl) (Fnc.mono (rr_Num (r := ({ S := r.S, Bad := r.Bad } : RRD)) hb13 (by show (r.S).size ≤ maxLen; simp only [maxLen]; omega) 18446744073709551615) ?_)
  rintro _ w16 ⟨rfl, hb18, hx17⟩
  have hb19 := hb14.ext hx17 (by simp; omega)
  have hb20 := hb12.ext hx17 (by simp; omega)
  have hle21 := rNumP_le ({ S := r.S, Bad := r.Bad } : RRD) 18446744073709551615
  have hx22 : Ext [b8, b1, b_r] w w16 := hx15.trans (hx17.mono (by simp))
  refine WL.z (.pointer (some ⟨b8, 0, none⟩)) (V.fieldAddr rfl fl90_0 rfl) ?_
  refine WL.store (Sure.none rfl) rfl rfl s23 rfl rfl rfl hb20 (by show (0 : Nat) < 4; decide) (fun w24 hs25 hb26 => ?_)
  replace hb26 : Box w24 b8 90 [.int .u64 (rNumV ({ S := r.S, Bad := r.Bad } : RRD) 18446744073709551615), .int .u8 (0), .string (ByteArray.mk #[]), .slice none 0 0] := hb26
  have hb27 := hb18.ext hs25 (by simp; omega)
  have hb28 := hb19.ext hs25 (by simp; omega)
  have hx29 : Ext [b8, b1, b_r] w w24 := hx22.trans (hs25.mono (by simp))
  refine WL.nil ?_
  refine WP.sr ?_
  refine WL.m rfl ?_
  refine WL.c (Sure.none rfl) rfl (C.call1 (x := .tmp 7) rfl cl71 h0) (Fnc.mono (rr_Byte (r := (rNumP ({ S := r.S, Bad := r.Bad } : RRD) 18446744073709551615)) hb27 (by show ((rNumP ({ S := r.S, Bad := r.Bad } : RRD) 18446744073709551615).S).size ≤ maxLen; simp only [maxLen]; omega)) ?_)
  rintro _ w32 ⟨rfl, hb34, hx33⟩
  have hb35 := hb28.ext hx33 (by simp; omega)
  have hb36 := hb26.ext hx33 (by simp; omega)
  have hle37 := rOctP_le (rNumP ({ S := r.S, Bad := r.Bad } : RRD) 18446744073709551615)
  have hx38 : Ext [b8, b1, b_r] w w32 := hx29.trans (hx33.mono (by simp))
  refine WL.z (.pointer (some ⟨b8, 1, none⟩)) (V.fieldAddr rfl fl90_1 rfl) ?_
  refine WL.store (Sure.none rfl) rfl rfl s88 rfl rfl rfl hb36 (by show (1 : Nat) < 4; decide) (fun w42 hs43 hb44 => ?_)
  replace hb44 : Box w42 b8 90 [.int .u64 (rNumV ({ S := r.S, Bad := r.Bad } : RRD) 18446744073709551615), .int .u8 (hdV (rNumP ({ S := r.S, Bad := r.Bad } : RRD) 18446744073709551615).S), .string (ByteArray.mk #[]), .slice none 0 0] := hb44
  have hb45 := hb34.ext hs43 (by simp; omega)
  have hb46 := hb35.ext hs43 (by simp; omega)
  have hx47 : Ext [b8, b1, b_r] w w42 := hx38.trans (hs43.mono (by simp))
  refine WL.nil ?_
  refine WP.sr ?_
  refine WL.m rfl ?_
  refine WL.c (Sure.none rfl) rfl (C.call1 (x := .tmp 10) rfl cl75 h0) (Fnc.mono (rr_Text (r := (rOctP (rNumP ({ S := r.S, Bad := r.Bad } : RRD) 18446744073709551615))) hb45 (by show ((rOctP (rNumP ({ S := r.S, Bad := r.Bad } : RRD) 18446744073709551615)).S).size ≤ maxLen; simp only [maxLen]; omega)) ?_)
  rintro _ w52 ⟨rfl, hb54, hx53⟩
  have hb55 := hb46.ext hx53 (by simp; omega)
  have hb56 := hb44.ext hx53 (by simp; omega)
  have hle57 := rTextP_le (rOctP (rNumP ({ S := r.S, Bad := r.Bad } : RRD) 18446744073709551615))
  have hx58 : Ext [b8, b1, b_r] w w52 := hx47.trans (hx53.mono (by simp))
  refine WL.z (.pointer (some ⟨b8, 2, none⟩)) (V.fieldAddr rfl fl90_2 rfl) ?_
  refine WL.store (Sure.none rfl) rfl rfl s9 rfl rfl rfl hb56 (by show (2 : Nat) < 4; decide) (fun w64 hs65 hb66 => ?_)
  replace hb66 : Box w64 b8 90 [.int .u64 (rNumV ({ S := r.S, Bad := r.Bad } : RRD) 18446744073709551615), .int .u8 (hdV (rNumP ({ S := r.S, Bad := r.Bad } : RRD) 18446744073709551615).S), .string (rTextV (rOctP (rNumP ({ S := r.S, Bad := r.Bad } : RRD) 18446744073709551615))), .slice none 0 0] := hb66
  have hb67 := hb54.ext hs65 (by simp; omega)
  have hb68 := hb55.ext hs65 (by simp; omega)
  have hx69 : Ext [b8, b1, b_r] w w64 := hx58.trans (hs65.mono (by simp))
  refine WL.nil ?_
  refine WP.sr ?_
  refine WL.m rfl ?_
  refine WL.c (Sure.none rfl) rfl (C.call1 (x := .tmp 13) rfl cl74 h0) (Fnc.mono (rr_Ints (r := (rTextP (rOctP (rNumP ({ S := r.S, Bad := r.Bad } : RRD) 18446744073709551615)))) hb67 (by show ((rTextP (rOctP (rNumP ({ S := r.S, Bad := r.Bad } : RRD) 18446744073709551615))).S).size ≤ maxLen; simp only [maxLen]; omega) (by omega) (X := (b8 :: (b1 :: (b_r :: X)))) (inCons hb66.lt (inCons hb68.lt (inCons hb67.lt (inMono hX hx69.size))))) ?_)
  rintro v78 w76 ⟨_, rfl, hl79, hb80, hx77⟩
  have hb81 := hb68.ext hx77 (by simp; omega)
  have hb82 := hb66.ext hx77 (by simp; omega)
  have hle83 := rIntsP_le (rTextP (rOctP (rNumP ({ S := r.S, Bad := r.Bad } : RRD) 18446744073709551615)))
  have hx84 : Ext [b8, b1, b_r] w w76 := hx69.trans (hx77.mono (by simp))
  refine WL.z (.pointer (some ⟨b8, 3, none⟩)) (V.fieldAddr rfl fl90_3 rfl) ?_
  refine WL.store (Sure.none rfl) rfl rfl s22 rfl rfl hl79.one hb82 (by show (3 : Nat) < 4; decide) (fun w92 hs93 hb94 => ?_)
  replace hb94 : Box w92 b8 90 [.int .u64 (rNumV ({ S := r.S, Bad := r.Bad } : RRD) 18446744073709551615), .int .u8 (hdV (rNumP ({ S := r.S, Bad := r.Bad } : RRD) 18446744073709551615).S), .string (rTextV (rOctP (rNumP ({ S := r.S, Bad := r.Bad } : RRD) 18446744073709551615))), v78] := hb94
  have hb95 := hb80.ext hs93 (by simp; omega)
  have hb96 := hb81.ext hs93 (by simp; omega)
  have hx97 : Ext [b8, b1, b_r] w w92 := hx84.trans (hs93.mono (by simp))
  have hx105 : Ext [b8, b1, b_r] w76 w92 := (hs93.mono (by simp))
  refine WL.nil ?_
  refine WP.sr ?_
  have hag106 : ((rEntV r)).InR := rEntV_in r hs
  refine WL.z (.agg #[.int .u64 (rNumV ({ S := r.S, Bad := r.Bad } : RRD) 18446744073709551615), .int .u8 (hdV (rNumP ({ S := r.S, Bad := r.Bad } : RRD) 18446744073709551615).S), .string (rTextV (rOctP (rNumP ({ S := r.S, Bad := r.Bad } : RRD) 18446744073709551615))), v78]) (V.loadAgg (cs := [.int .u64 (rNumV ({ S := r.S, Bad := r.Bad } : RRD) 18446744073709551615), .int .u8 (hdV (rNumP ({ S := r.S, Bad := r.Bad } : RRD) 18446744073709551615).S), .string (rTextV (rOctP (rNumP ({ S := r.S, Bad := r.Bad } : RRD) 18446744073709551615))), v78]) rfl a90 rfl (At.box hb94) rfl) ?_
  refine WL.storeAgg (vs := [.int .u64 (rNumV ({ S := r.S, Bad := r.Bad } : RRD) 18446744073709551615), .int .u8 (hdV (rNumP ({ S := r.S, Bad := r.Bad } : RRD) 18446744073709551615).S), .string (rTextV (rOctP (rNumP ({ S := r.S, Bad := r.Bad } : RRD) 18446744073709551615))), v78]) (Sure.none rfl) rfl rfl s90 rfl rfl rfl (by intro u hu; simp only [List.mem_cons, List.not_mem_nil, or_false] at hu; rcases hu with rfl | rfl | rfl | rfl <;> first | rfl | exact Sl.one (by assumption)) hb96 (by show (0 : Nat) + 4 ≤ 4; decide) (fun w107 hs108 hb109 => ?_)
  replace hb109 : Box w107 b1 90 [.int .u64 (rNumV ({ S := r.S, Bad := r.Bad } : RRD) 18446744073709551615), .int .u8 (hdV (rNumP ({ S := r.S, Bad := r.Bad } : RRD) 18446744073709551615).S), .string (rTextV (rOctP (rNumP ({ S := r.S, Bad := r.Bad } : RRD) 18446744073709551615))), v78] := hb109
  have hb110 := hb95.ext hs108 (by simp; omega)
  have hx112 : Ext [b8, b1, b_r] w w107 := hx97.trans (hs108.mono (by simp))
  have hx120 : Ext [b8, b1, b_r] w76 w107 := hx105.trans (hs108.mono (by simp))
  refine WL.nil ?_
  refine WP.ret ?_
  refine resOf.c1 rfl (v := .agg #[.int .u64 (rNumV ({ S := r.S, Bad := r.Bad } : RRD) 18446744073709551615), .int .u8 (hdV (rNumP ({ S := r.S, Bad := r.Bad } : RRD) 18446744073709551615).S), .string (rTextV (rOctP (rNumP ({ S := r.S, Bad := r.Bad } : RRD) 18446744073709551615))), v78]) ⟨_, _, rfl, run_loadVar_agg a90 (At.box hb109) rfl⟩ ?_
  exact ⟨[.int .u64 (rNumV ({ S := r.S, Bad := r.Bad } : RRD) 18446744073709551615), .int .u8 (hdV (rNumP ({ S := r.S, Bad := r.Bad } : RRD) 18446744073709551615).S), .string (rTextV (rOctP (rNumP ({ S := r.S, Bad := r.Bad } : RRD) 18446744073709551615))), v78], rfl, (Rep.base (O := [b8, b1, b_r]) (castRd (R := entryR) (show ((rEntV r) : EntryD) = rEntV r from (by rfl)) ⟨v78, rfl, (hl79.ext (Ext.pre hx120)), hag106⟩)), (Box.cast (by rfl) hb110), (Ext.drop (Ext.drop hx112 hge_b8_w) hge_b1_w)⟩
theorem sl_ClipE {w : World} {X : List Nat} {v_xs : Value} {xs : List EntryD} (h_xs : Sl entryR X w v_xs xs) (hX : ∀ x ∈ X, x < w.heap.size) : Fnc Try.prog 70 #[v_xs] w (fun v w' => ∃ (u0 : Value), v = u0 ∧ Sl entryR X w' u0 (xs) ∧ Ext [] w w') := by
  have hle_xs := h_xs.le'
  refine Fnc.of_WP (n := 9) Try.func70 rfl Try.ntmps70 (by simp) ?_
  intro E hE
  have h0 : E 0 = v_xs := hE 0 (by simp)
  clear hE
  refine WP.sr ?_
  refine WL.m rfl ?_
  refine WL.nil ?_
  refine WP.sr ?_
  refine WL.m rfl ?_
  refine WL.m rfl ?_
  obtain ⟨a1, c2, hv3⟩ := h_xs.shape
  refine WL.z (.int .i64 (((xs).length : Int))) (V.lenSlice (x := .tmp 4) rfl rfl u25 (Eq.trans (b := v_xs) h0 hv3)) ?_
  refine WL.m rfl ?_
  refine WL.z (.int .i64 (((xs).length : Int))) (V.lenSlice (x := .tmp 6) rfl rfl u25 (Eq.trans (b := v_xs) h0 hv3)) ?_
  refine WL.vex (Sure.none rfl) rfl (V.clip (x := .tmp 3) rfl u25 s90 h0 h_xs rfl rfl) (fun v4 hl5 => ?_)
  refine WL.m rfl ?_
  refine WL.nil ?_
  refine WP.ret ?_
  refine resOf.c1 rfl (v := v4) rfl ?_
  exact ⟨v4, rfl, (castSl (by rfl) hl5), Ext.refl _ _⟩
end Go.Proofs.Ytbpamkbegggeoaa.X1
namespace Go.Proofs.Ytbpamkbegggeoaa.X1
open T W Go.RowKit
set_option maxRecDepth 100000
set_option maxHeartbeats 400000
theorem z32 : W.Zero Try.prog 32 (.agg #[.int .u8 (0), .int .i64 (0), .int .i64 (0), .int .u64 (0), .int .u64 (0), .int .u64 (0), .int .u64 (0), .int .u64 (0), .bool (false), .slice none 0 0, .slice none 0 0, .string (ByteArray.mk #[])]) := by unfold W.Zero; kernel_rfl
theorem bu117_4e9ad807 (x0 : ByteArray) : Try.prog.built 117 [(0, .string x0)] = some #[.string x0, .bool (false)] := by kernel_rfl
theorem cl66 : Callable Try.prog 66 := ⟨Try.f66, Try.func66, by kernel_rfl, rfl⟩
theorem bu32_a978cf4c (x0 : Int) (x1 : Int) (x2 : Int) (x3 : Int) (x4 : Int) (x5 : Int) (x6 : Int) (x7 : Int) (x8 : Bool) : Try.prog.built 32 [(0, .int .u8 x0), (1, .int .i64 x1), (2, .int .i64 x2), (3, .int .u64 x3), (4, .int .u64 x4), (5, .int .u64 x5), (6, .int .u64 x6), (7, .int .u64 x7), (8, .bool x8)] = some #[.int .u8 x0, .int .i64 x1, .int .i64 x2, .int .u64 x3, .int .u64 x4, .int .u64 x5, .int .u64 x6, .int .u64 x7, .bool x8, .slice none 0 0, .slice none 0 0, .string (ByteArray.mk #[])] := by kernel_rfl
theorem cl68 : Callable Try.prog 68 := ⟨Try.f68, Try.func68, by kernel_rfl, rfl⟩
theorem cl69 : Callable Try.prog 69 := ⟨Try.f69, Try.func69, by kernel_rfl, rfl⟩
theorem bu90_53e45328 (x0 : Int) (x1 : Int) (x2 : ByteArray) (x3 : Option Addr) (x4 : Nat) (x5 : Nat) : Try.prog.built 90 [(0, .int .u64 x0), (1, .int .u8 x1), (2, .string x2), (3, .slice x3 x4 x5)] = some #[.int .u64 x0, .int .u8 x1, .string x2, .slice x3 x4 x5] := by kernel_rfl
theorem e90 : Elem Try.prog 90 (.agg #[.int .u64 (0), .int .u8 (0), .string (ByteArray.mk #[]), .slice none 0 0]) 4 56 := by unfold Elem; kernel_rfl
theorem s25 : Sized Try.prog 25 1 := by unfold Sized; kernel_rfl
theorem cl22 : Callable Try.prog 22 := ⟨Try.f22, Try.func22, by kernel_rfl, rfl⟩
theorem bu32_d7517139  : Try.prog.built 32 [] = some #[.int .u8 (0), .int .i64 (0), .int .i64 (0), .int .u64 (0), .int .u64 (0), .int .u64 (0), .int .u64 (0), .int .u64 (0), .bool (false), .slice none 0 0, .slice none 0 0, .string (ByteArray.mk #[])] := by kernel_rfl
theorem cl70 : Callable Try.prog 70 := ⟨Try.f70, Try.func70, by kernel_rfl, rfl⟩
theorem itL_at {σ α : Type} [Inhabited α] (nx : σ → σ) (val : σ → α) (s : σ) : ∀ (n k : Nat), k < n → (itL nx val s n).getD k default = val (itS nx s k)
  | 0, k, h => by omega
  | n + 1, k, h => by
    rw [itL, List.getD_eq_getElem?_getD]
    rcases Nat.lt_or_ge k n with h1 | h1
    · rw [List.getElem?_append_left (by rw [itL_len]; exact h1), ← List.getD_eq_getElem?_getD]
      exact itL_at nx val s n k h1
    · obtain rfl : k = n := by omega
      rw [List.getElem?_append_right (by rw [itL_len]; exact Nat.le_refl _), itL_len, Nat.sub_self]; rfl
def zeroMsg : MsgD := { Kind := 0, From := 0, To := 0, Term := 0, Index := 0, LogTerm := 0, Commit := 0, Round := 0, Ok := false, Entries := [], Members := [], Snap := ByteArray.mk #[] }
def v0 (s : ByteArray) : VRD := { s := s, bad := false }
def v1 (s : ByteArray) : VRD := octP (v0 s)
def v2 (s : ByteArray) : VRD := numP (v1 s)
def v3 (s : ByteArray) : VRD := numP (v2 s)
def v4 (s : ByteArray) : VRD := numP (v3 s)
def v5 (s : ByteArray) : VRD := numP (v4 s)
def v6 (s : ByteArray) : VRD := numP (v5 s)
def v7 (s : ByteArray) : VRD := numP (v6 s)
def v8 (s : ByteArray) : VRD := numP (v7 s)
def v9 (s : ByteArray) : VRD := octP (v8 s)
def v10 (s : ByteArray) : VRD := numP (v9 s)
theorem v9_le (s : ByteArray) : (v9 s).s.size ≤ s.size :=
  Nat.le_trans (octP_le _) (Nat.le_trans (numP_le _) (Nat.le_trans (numP_le _) (Nat.le_trans (numP_le _) (Nat.le_trans (numP_le _) (Nat.le_trans (numP_le _) (Nat.le_trans (numP_le _) (Nat.le_trans (numP_le _) (octP_le _))))))))
theorem v10_le (s : ByteArray) : (v10 s).s.size ≤ s.size := Nat.le_trans (numP_le _) (v9_le s)
def vEs (s : ByteArray) (k : Nat) : List EntryD := itL vEntP vEntV (v10 s) k
def vEr (s : ByteArray) (k : Nat) : VRD := itS vEntP (v10 s) k
theorem vEr_le (s : ByteArray) (k : Nat) : (vEr s k).s.size ≤ s.size := Nat.le_trans (it_le vEntP_le _ _) (v10_le s)
theorem or_no {a b : Bool} (h : (a || b) = false) : a = false := by cases a <;> simp_all
theorem numP_no {r : VRD} (h : (numP r).bad = false) : r.bad = false := or_no h
theorem octP_no {r : VRD} (h : (octP r).bad = false) : r.bad = false := or_no h
theorem textP_no {r : VRD} (h : (textP r).bad = false) : r.bad = false := or_no h
theorem itS_no {nx : VRD → VRD} (hn : ∀ {r}, (nx r).bad = false → r.bad = false) (r : VRD) : ∀ k, (itS nx r k).bad = false → r.bad = false
  | 0, h => h
  | k + 1, h => itS_no hn r k (hn h)
theorem intsP_no {r : VRD} (h : (intsP r).bad = false) : r.bad = false := numP_no (itS_no numP_no _ _ h)
theorem vEntP_no {r : VRD} (h : (vEntP r).bad = false) : (numP r).bad = false := octP_no (textP_no (intsP_no h))
theorem vEntP_lt {r : VRD} (h : (vEntP r).bad = false) : (vEntP r).s.size + 1 ≤ r.s.size :=
  Nat.le_trans (Nat.add_le_add_right (Nat.le_trans (intsP_le _) (Nat.le_trans (textP_le _) (octP_le _))) 1) (numP_lt (vEntP_no h))
theorem vEr_use {s : ByteArray} {k : Nat} (h1 : ∀ j, j < k → (vEr s j).bad = false) (h2 : (vEr s k).bad = false) : (vEr s k).s.size + k ≤ s.size :=
  Nat.le_trans (it_use (fun _ h => vEntP_lt h) (v10 s) k h1 h2) (v10_le s)
def vI (s : ByteArray) (k : Nat) : VRD := intsP (vEr s k)
def vA (s : ByteArray) (k : Nat) : VRD := numP (vEr s k)
def vB (s : ByteArray) (k : Nat) : VRD := octP (vA s k)
def vC (s : ByteArray) (k : Nat) : VRD := textP (vB s k)
def vMsgK (s : ByteArray) (k : Nat) : MsgD := { Kind := hdV ({ s := s, bad := false } : VRD).s, From := IntKind.i64.wrap (rnX (v1 s).s), To := IntKind.i64.wrap (rnX (v2 s).s), Term := rnX (v3 s).s, Index := rnX (v4 s).s, LogTerm := rnX (v5 s).s, Commit := rnX (v6 s).s, Round := rnX (v7 s).s, Ok := decide (hdV (v8 s).s = 1), Entries := vEs s k, Members := intsV (vEr s k), Snap := rtT (vI s k).s }
theorem vMsgK_rd {X : List Nat} {w : World} {cs : List Value} {s : ByteArray} {k : Nat} (h : msgR.rd X w cs ({ Kind := hdV ({ s := s, bad := false } : VRD).s, From := IntKind.i64.wrap (rnX (v1 s).s), To := IntKind.i64.wrap (rnX (v2 s).s), Term := rnX (v3 s).s, Index := rnX (v4 s).s, LogTerm := rnX (v5 s).s, Commit := rnX (v6 s).s, Round := rnX (v7 s).s, Ok := decide (hdV (v8 s).s = 1), Entries := vEs s k, Members := intsV (vEr s k), Snap := rtT (vI s k).s } : MsgD)) : msgR.rd X w cs (vMsgK s k) := h
def vEnd (s : ByteArray) (k : Nat) : VRD := textP (vI s k)
def vEN (s : ByteArray) : Nat := itE vEntP VRD.bad (v10 s) (rnX (v9 s).s).toNat 0
theorem vEN_at {s : ByteArray} {k : Nat} (h1 : ∀ j, j < k → (vEr s j).bad = false) (h2 : (k : Int) ≤ rnX (v9 s).s) (h3 : rnX (v9 s).s = (k : Int) ∨ (vEr s k).bad = true) : vEN s = k := itE_at h1 (by omega) (h3.imp (by omega) id)
def vMsg (s : ByteArray) : MsgD := vMsgK s (vEN s)
def vOk (s : ByteArray) : Bool := !(vEnd s (vEN s)).bad && mayMsgB (vMsg s) && seqB (bytesB (vMsg s)) s
def vRead (s : ByteArray) : MsgD := if vOk s = true then vMsg s else zeroMsg
theorem vMsgK_in (s : ByteArray) (k : Nat) (h : s.size ≤ 1073741824) : (vMsgK s k).InR := by
  simp only [MsgD.InR, vMsgK]
  exact ⟨inK_u8' (hdV_in (v0 s).s), inK_i64' (wrap_i64_in (rnX (v1 s).s)), inK_i64' (wrap_i64_in (rnX (v2 s).s)), inK_u64' (rnX_in (v3 s).s), inK_u64' (rnX_in (v4 s).s), inK_u64' (rnX_in (v5 s).s), inK_u64' (rnX_in (v6 s).s), inK_u64' (rnX_in (v7 s).s), maxLen_le (Nat.le_trans (rtT_le (vI s k).s) (Nat.le_trans (intsP_le (vEr s k)) (Nat.le_trans (vEr_le s k) h)))⟩
theorem vMsgK_sz (s : ByteArray) (k : Nat) (h : s.size ≤ 1073741824) : MsgSz (vMsgK s k) := by
  refine ⟨fun j hj => ?_, Nat.le_trans (rtT_le (vI s k).s) (Nat.le_trans (intsP_le (vEr s k)) (Nat.le_trans (vEr_le s k) h))⟩
  show ((vEs s k).getD j default).Data.size ≤ _
  rw [vEs, itL_at _ _ _ _ _ (by rw [show (vMsgK s k).Entries = itL vEntP vEntV (v10 s) k from rfl, itL_len] at hj; exact hj)]
  exact Nat.le_trans (rtT_le _) (Nat.le_trans (octP_le _) (Nat.le_trans (numP_le _) (Nat.le_trans (vEr_le s j) h)))
theorem vRead_yes {s : ByteArray} {k : Nat} (hk : vEN s = k) (h1 : (vEnd s k).bad = false) (h2 : ¬ (if mayMsgB (vMsgK s k) = true then (0 : Int) else 2) ≠ 0) (h3 : seqB (if mayMsgB (vMsgK s k) = true then bytesB (vMsgK s k) else ByteArray.mk #[]) s = true) : vOk s = true := by
  have hm := may_of h2
  rw [if_pos hm] at h3
  subst hk
  simp only [vOk, vMsg, h1, hm, h3]; rfl
theorem vRead_no1 {s : ByteArray} {k : Nat} (hk : vEN s = k) (h1 : (vEnd s k).bad = true) : vOk s = false := by
  subst hk; simp only [vOk, h1]; rfl
theorem vRead_no2 {s : ByteArray} {k : Nat} (hk : vEN s = k) (h2 : (if mayMsgB (vMsgK s k) = true then (0 : Int) else 2) ≠ 0) : vOk s = false := by
  have hm := may_no h2
  subst hk; simp only [vOk, vMsg, hm]; simp
theorem vRead_no3 {s : ByteArray} {k : Nat} (hk : vEN s = k) (h3 : seqB (if mayMsgB (vMsgK s k) = true then bytesB (vMsgK s k) else ByteArray.mk #[]) s = false) : vOk s = false := by
  subst hk
  cases hm : mayMsgB (vMsgK s (vEN s)) with
  | false => simp only [vOk, vMsg, hm]; simp
  | true => rw [if_pos hm] at h3; simp only [vOk, vMsg, h3]; simp
theorem vRead_is {s : ByteArray} {k : Nat} (hk : vEN s = k) (h : vOk s = true) : vMsgK s k = vRead s := by rw [vRead, if_pos h, vMsg, hk]
theorem vRead_zero {s : ByteArray} (h : vOk s = false) : zeroMsg = vRead s := by rw [vRead, if_neg (by rw [h]; decide)]
set_option maxHeartbeats 16000000 in
theorem vote_Read {w : World} {X : List Nat} (s : ByteArray) (hs : s.size ≤ 1073741824) (hX : ∀ x ∈ X, x < w.heap.size) : Fnc Try.prog 23 #[.string (s)] w (fun v w' => ∃ (u0 : List Value), v = .tuple #[.agg u0.toArray, .int .i64 (if vOk s = true then 0 else 2)] ∧ msgR.rd X w' u0 (vRead s) ∧ Ext [] w w') := by
  have hrx9 := rnX_in (v9 s).s
  refine Fnc.of_WP (n := 91) Try.func23 rfl Try.ntmps23 (by simp) ?_
  intro E hE
  have h0 : E 0 = .string (s) := hE 0 (by simp)
  clear hE
  refine WP.sr ?_
  refine WL.alloc (cs := [.int .u8 (0), .int .i64 (0), .int .i64 (0), .int .u64 (0), .int .u64 (0), .int .u64 (0), .int .u64 (0), .int .u64 (0), .bool (false), .slice none 0 0, .slice none 0 0, .string (ByteArray.mk #[])]) (Sure.none rfl) rfl rfl z32 rfl (fun b1 w2 hx3 he4 hb5 => ?_)
  have hx6 : Ext [b1] _ _ := (Ext.refl _ _).trans (Ext.any hx3)
  have hge_b1_w : w.heap.size ≤ b1 := by have := Nat.le_refl w.heap.size; omega
  refine WL.m rfl ?_
  refine WL.nil ?_
  refine WP.sr ?_
  refine WL.m rfl ?_
  refine WL.z (.agg #[.string (s), .bool (false)]) (V.build1 (L := [(0, .string (s))]) rfl (psCons h0 rfl) (bu117_4e9ad807 s)) ?_
  refine WL.box (cs := [.string (s), .bool (false)]) (Sure.none rfl) rfl rfl rfl rfl (fun b7 w8 hx9 he10 hb11 => ?_)
  have hlt_b1_b7 : b1 < b7 := by have := hb5.lt; omega
  have hb12 := hb5.ext hx9 (by simp)
  have hx13 : Ext [b7, b1] _ _ := (Ext.cons hx6).trans (Ext.any hx9)
  have hge_b7_w : w.heap.size ≤ b7 := by have := hx6.size; omega
  refine WL.m rfl ?_
  refine WL.nil ?_
  refine WP.sr ?_
  refine WL.m rfl ?_
  refine WL.c (Sure.none rfl) rfl (C.call1 rfl cl66 rfl) (Fnc.mono (vr_octet (r := ({ s := s, bad := false } : VRD)) hb11 (by show (s).size ≤ maxLen; simp only [maxLen]; omega)) ?_)
  rintro _ w14 ⟨rfl, hb16, hx15⟩
  have hb17 := hb12.ext hx15 (by simp; omega)
  have hb18 : Box w14 b7 117 [.string ((v1 s).s), .bool ((v1 s).bad)] := hb16
  have hle19 : (v1 s).s.size ≤ (s).size := octP_le ({ s := s, bad := false } : VRD)
  have hx20 : Ext [b7, b1] w w14 := hx13.trans (hx15.mono (by simp))
  refine WL.m rfl ?_
  refine WL.c (Sure.none rfl) rfl (C.call1 rfl cl67 rfl) (Fnc.mono (vr_num (r := (v1 s)) hb18 (by show ((v1 s).s).size ≤ maxLen; simp only [maxLen]; omega)) ?_)
  rintro _ w22 ⟨rfl, hb24, hx23⟩
  have hb25 := hb17.ext hx23 (by simp; omega)
  have hb26 : Box w22 b7 117 [.string ((v2 s).s), .bool ((v2 s).bad)] := hb24
  have hle27 : (v2 s).s.size ≤ ((v1 s).s).size := numP_le (v1 s)
  have hx28 : Ext [b7, b1] w w22 := hx20.trans (hx23.mono (by simp))
  have hwr31 := wrap_i64_in (rnX (v1 s).s)
  refine WL.z (.int .i64 (IntKind.i64.wrap (rnX (v1 s).s))) (V.convInt rfl u23 u3 rfl rfl) ?_
  refine WL.m rfl ?_
  refine WL.c (Sure.none rfl) rfl (C.call1 rfl cl67 rfl) (Fnc.mono (vr_num (r := (v2 s)) hb26 (by show ((v2 s).s).size ≤ maxLen; simp only [maxLen]; omega)) ?_)
  rintro _ w32 ⟨rfl, hb34, hx33⟩
  have hb35 := hb25.ext hx33 (by simp; omega)
  have hb36 : Box w32 b7 117 [.string ((v3 s).s), .bool ((v3 s).bad)] := hb34
  have hle37 : (v3 s).s.size ≤ ((v2 s).s).size := numP_le (v2 s)
  have hx38 : Ext [b7, b1] w w32 := hx28.trans (hx33.mono (by simp))
  have hwr42 := wrap_i64_in (rnX (v2 s).s)
  refine WL.z (.int .i64 (IntKind.i64.wrap (rnX (v2 s).s))) (V.convInt rfl u23 u3 rfl rfl) ?_
  refine WL.m rfl ?_
  refine WL.c (Sure.none rfl) rfl (C.call1 rfl cl67 rfl) (Fnc.mono (vr_num (r := (v3 s)) hb36 (by show ((v3 s).s).size ≤ maxLen; simp only [maxLen]; omega)) ?_)
  rintro _ w43 ⟨rfl, hb45, hx44⟩
  have hb46 := hb35.ext hx44 (by simp; omega)
  have hb47 : Box w43 b7 117 [.string ((v4 s).s), .bool ((v4 s).bad)] := hb45
  have hle48 : (v4 s).s.size ≤ ((v3 s).s).size := numP_le (v3 s)
  have hx49 : Ext [b7, b1] w w43 := hx38.trans (hx44.mono (by simp))
  refine WL.m rfl ?_
  refine WL.c (Sure.none rfl) rfl (C.call1 rfl cl67 rfl) (Fnc.mono (vr_num (r := (v4 s)) hb47 (by show ((v4 s).s).size ≤ maxLen; simp only [maxLen]; omega)) ?_)
  rintro _ w54 ⟨rfl, hb56, hx55⟩
  have hb57 := hb46.ext hx55 (by simp; omega)
  have hb58 : Box w54 b7 117 [.string ((v5 s).s), .bool ((v5 s).bad)] := hb56
  have hle59 : (v5 s).s.size ≤ ((v4 s).s).size := numP_le (v4 s)
  have hx60 : Ext [b7, b1] w w54 := hx49.trans (hx55.mono (by simp))
  refine WL.m rfl ?_
  refine WL.c (Sure.none rfl) rfl (C.call1 rfl cl67 rfl) (Fnc.mono (vr_num (r := (v5 s)) hb58 (by show ((v5 s).s).size ≤ maxLen; simp only [maxLen]; omega)) ?_)
  rintro _ w66 ⟨rfl, hb68, hx67⟩
  have hb69 := hb57.ext hx67 (by simp; omega)
  have hb70 : Box w66 b7 117 [.string ((v6 s).s), .bool ((v6 s).bad)] := hb68
  have hle71 : (v6 s).s.size ≤ ((v5 s).s).size := numP_le (v5 s)
  have hx72 : Ext [b7, b1] w w66 := hx60.trans (hx67.mono (by simp))
  refine WL.m rfl ?_
  refine WL.c (Sure.none rfl) rfl (C.call1 rfl cl67 rfl) (Fnc.mono (vr_num (r := (v6 s)) hb70 (by show ((v6 s).s).size ≤ maxLen; simp only [maxLen]; omega)) ?_)
  rintro _ w79 ⟨rfl, hb81, hx80⟩
  have hb82 := hb69.ext hx80 (by simp; omega)
  have hb83 : Box w79 b7 117 [.string ((v7 s).s), .bool ((v7 s).bad)] := hb81
  have hle84 : (v7 s).s.size ≤ ((v6 s).s).size := numP_le (v6 s)
  have hx85 : Ext [b7, b1] w w79 := hx72.trans (hx80.mono (by simp))
  refine WL.m rfl ?_
  refine WL.c (Sure.none rfl) rfl (C.call1 rfl cl67 rfl) (Fnc.mono (vr_num (r := (v7 s)) hb83 (by show ((v7 s).s).size ≤ maxLen; simp only [maxLen]; omega)) ?_)
  rintro _ w93 ⟨rfl, hb95, hx94⟩
  have hb96 := hb82.ext hx94 (by simp; omega)
  have hb97 : Box w93 b7 117 [.string ((v8 s).s), .bool ((v8 s).bad)] := hb95
  have hle98 : (v8 s).s.size ≤ ((v7 s).s).size := numP_le (v7 s)
  have hx99 : Ext [b7, b1] w w93 := hx85.trans (hx94.mono (by simp))
  refine WL.m rfl ?_
  refine WL.c (Sure.none rfl) rfl (C.call1 rfl cl66 rfl) (Fnc.mono (vr_octet (r := (v8 s)) hb97 (by show ((v8 s).s).size ≤ maxLen; simp only [maxLen]; omega)) ?_)
  rintro _ w108 ⟨rfl, hb110, hx109⟩
  have hb111 := hb96.ext hx109 (by simp; omega)
  have hb112 : Box w108 b7 117 [.string ((v9 s).s), .bool ((v9 s).bad)] := hb110
  have hle113 : (v9 s).s.size ≤ ((v8 s).s).size := octP_le (v8 s)
  have hx114 : Ext [b7, b1] w w108 := hx99.trans (hx109.mono (by simp))
  refine WL.z (.bool (decide ((hdV (v8 s).s) = 1))) (V.cmp rfl rfl rfl rfl) ?_
  refine WL.z (.agg #[.int .u8 (hdV ({ s := s, bad := false } : VRD).s), .int .i64 (IntKind.i64.wrap (rnX (v1 s).s)), .int .i64 (IntKind.i64.wrap (rnX (v2 s).s)), .int .u64 (rnX (v3 s).s), .int .u64 (rnX (v4 s).s), .int .u64 (rnX (v5 s).s), .int .u64 (rnX (v6 s).s), .int .u64 (rnX (v7 s).s), .bool (decide ((hdV (v8 s).s) = 1)), .slice none 0 0, .slice none 0 0, .string (ByteArray.mk #[])]) (V.build1 (L := [(0, .int .u8 (hdV ({ s := s, bad := false } : VRD).s)), (1, .int .i64 (IntKind.i64.wrap (rnX (v1 s).s))), (2, .int .i64 (IntKind.i64.wrap (rnX (v2 s).s))), (3, .int .u64 (rnX (v3 s).s)), (4, .int .u64 (rnX (v4 s).s)), (5, .int .u64 (rnX (v5 s).s)), (6, .int .u64 (rnX (v6 s).s)), (7, .int .u64 (rnX (v7 s).s)), (8, .bool (decide ((hdV (v8 s).s) = 1)))]) rfl (psCons rfl (psCons rfl (psCons rfl (psCons rfl (psCons rfl (psCons rfl (psCons rfl (psCons rfl (psCons rfl rfl))))))))) (bu32_a978cf4c (hdV ({ s := s, bad := false } : VRD).s) (IntKind.i64.wrap (rnX (v1 s).s)) (IntKind.i64.wrap (rnX (v2 s).s)) (rnX (v3 s).s) (rnX (v4 s).s) (rnX (v5 s).s) (rnX (v6 s).s) (rnX (v7 s).s) (decide ((hdV (v8 s).s) = 1)))) ?_
  refine WL.alloc (cs := [.int .u8 (0), .int .i64 (0), .int .i64 (0), .int .u64 (0), .int .u64 (0), .int .u64 (0), .int .u64 (0), .int .u64 (0), .bool (false), .slice none 0 0, .slice none 0 0, .string (ByteArray.mk #[])]) (Sure.none rfl) rfl rfl z32 rfl (fun b124 w125 hx126 he127 hb128 => ?_)
  have hlt_b1_b124 : b1 < b124 := by have := hb111.lt; omega
  have hb129 := hb111.ext hx126 (by simp)
  have hlt_b7_b124 : b7 < b124 := by have := hb112.lt; omega
  have hb130 := hb112.ext hx126 (by simp)
  have hx131 : Ext [b124, b7, b1] _ _ := (Ext.cons hx114).trans (Ext.any hx126)
  have hge_b124_w : w.heap.size ≤ b124 := by have := hx114.size; omega
  refine WL.storeAgg (vs := [.int .u8 (hdV ({ s := s, bad := false } : VRD).s), .int .i64 (IntKind.i64.wrap (rnX (v1 s).s)), .int .i64 (IntKind.i64.wrap (rnX (v2 s).s)), .int .u64 (rnX (v3 s).s), .int .u64 (rnX (v4 s).s), .int .u64 (rnX (v5 s).s), .int .u64 (rnX (v6 s).s), .int .u64 (rnX (v7 s).s), .bool (decide ((hdV (v8 s).s) = 1)), .slice none 0 0, .slice none 0 0, .string (ByteArray.mk #[])]) (Sure.none rfl) rfl rfl s32 rfl rfl rfl (by intro u hu; simp only [List.mem_cons, List.not_mem_nil, or_false] at hu; rcases hu with rfl | rfl | rfl | rfl | rfl | rfl | rfl | rfl | rfl | rfl | rfl | rfl <;> first | rfl | exact Sl.one (by assumption)) hb128 (by show (0 : Nat) + 12 ≤ 12; decide) (fun w132 hs133 hb134 => ?_)
  replace hb134 : Box w132 b124 32 [.int .u8 (hdV ({ s := s, bad := false } : VRD).s), .int .i64 (IntKind.i64.wrap (rnX (v1 s).s)), .int .i64 (IntKind.i64.wrap (rnX (v2 s).s)), .int .u64 (rnX (v3 s).s), .int .u64 (rnX (v4 s).s), .int .u64 (rnX (v5 s).s), .int .u64 (rnX (v6 s).s), .int .u64 (rnX (v7 s).s), .bool (decide ((hdV (v8 s).s) = 1)), .slice none 0 0, .slice none 0 0, .string (ByteArray.mk #[])] := hb134
  have hb135 := hb129.ext hs133 (by simp; omega)
  have hb136 := hb130.ext hs133 (by simp; omega)
  have hx137 : Ext [b124, b7, b1] w w132 := hx131.trans (hs133.mono (by simp))
  have hx138 : Ext [b124, b7, b1] w125 w132 := (hs133.mono (by simp))
  refine WL.nil ?_
  refine WP.seq ?_
  refine WP.sr ?_
  refine WL.m rfl ?_
  refine WL.c (Sure.none rfl) rfl (C.call1 rfl cl67 rfl) (Fnc.mono (vr_num (r := (v9 s)) hb136 (by show ((v9 s).s).size ≤ maxLen; simp only [maxLen]; omega)) ?_)
  rintro _ w139 ⟨rfl, hb141, hx140⟩
  have hb142 := hb135.ext hx140 (by simp; omega)
  have hb143 := hb134.ext hx140 (by simp; omega)
  have hb144 : Box w139 b7 117 [.string ((v10 s).s), .bool ((v10 s).bad)] := hb141
  have hle145 : (v10 s).s.size ≤ ((v9 s).s).size := numP_le (v9 s)
  have hx146 : Ext [b124, b7, b1] w w139 := hx137.trans (hx140.mono (by simp))
  have hx147 : Ext [b124, b7, b1] w125 w139 := hx138.trans (hx140.mono (by simp))
  have hx148 : Ext [b124, b7, b1] w132 w139 := (hx140.mono (by simp))
  refine WL.m rfl ?_
  refine WL.nil ?_
  refine WP.block ?_
  have hsz151 : w.heap.size ≤ w139.heap.size := hx146.size
  have hsz152 : w125.heap.size ≤ w139.heap.size := hx147.size
  have hsz153 : w132.heap.size ≤ w139.heap.size := hx148.size
  refine WP.loop (σ := Nat × Value) (fun ⟨k, u⟩ E149 w150 => E149 0 = .string (s) ∧ E149 2 = .pointer (some ⟨b1, 0, none⟩) ∧ E149 3 = .int .i64 (0) ∧ E149 4 = .pointer (some ⟨b7, 0, none⟩) ∧ E149 5 = .pointer (some ⟨b124, 0, none⟩) ∧ E149 6 = .int .u64 (rnX (v9 s).s - (k : Int)) ∧ Ext [b124, b7, b1] w139 w150 ∧ Box w150 b1 32 [.int .u8 (0), .int .i64 (0), .int .i64 (0), .int .u64 (0), .int .u64 (0), .int .u64 (0), .int .u64 (0), .int .u64 (0), .bool (false), .slice none 0 0, .slice none 0 0, .string (ByteArray.mk #[])] ∧ Box w150 b7 117 [.string ((vEr s k).s), .bool ((vEr s k).bad)] ∧ Box w150 b124 32 [.int .u8 (hdV ({ s := s, bad := false } : VRD).s), .int .i64 (IntKind.i64.wrap (rnX (v1 s).s)), .int .i64 (IntKind.i64.wrap (rnX (v2 s).s)), .int .u64 (rnX (v3 s).s), .int .u64 (rnX (v4 s).s), .int .u64 (rnX (v5 s).s), .int .u64 (rnX (v6 s).s), .int .u64 (rnX (v7 s).s), .bool (decide ((hdV (v8 s).s) = 1)), u, .slice none 0 0, .string (ByteArray.mk #[])] ∧ (Owns entryR 90 w139.heap.size (b124 :: (b7 :: (b1 :: X))) w150 u (vEs s k) ∧ (∀ g, u.ownBlock = some g → g ∉ (b124 :: (b7 :: (b1 :: X))))) ∧ (k : Int) ≤ rnX (v9 s).s ∧ ∀ j, j < k → (vEr s j).bad = false) (fun ⟨k, u⟩ => (rnX (v9 s).s).toNat - k) ((0, .slice none 0 0)) ?_ ?_
  · exact ⟨h0, rfl, rfl, rfl, rfl, (int_eq (by omega)), Ext.refl _ _, hb142, hb144, hb143, ⟨(Owns.castE (by rfl) Owns.nil), (nil_block rfl)⟩, (by show ((0 : Nat) : Int) ≤ _; omega), (fun j hj => by omega)⟩
  rintro ⟨k, u⟩ E149 w150 ⟨h0_154, h2_154, h3_154, h4_154, h5_154, h6_154, hx154, hbb1_154, hbb7_154, hbb124_154, ⟨hob124_154, hob124_154n⟩, hi0_154, hi1_154⟩
  have hx155 : Ext [b124, b7, b1] w w150 := hx146.trans hx154
  have hx156 : Ext [b124, b7, b1] w125 w150 := hx147.trans hx154
  have hx157 : Ext [b124, b7, b1] w132 w150 := hx148.trans hx154
  have hx158 : Ext [b124, b7, b1] w139 w150 := hx154
  have hle0 := vEr_le s k
  have hrq1 := rnX_in (vEr s k).s
  have hrq2 := hdV_in (vA s k).s
  have hrq3 : (rtT (vB s k).s).size ≤ maxLen := maxLen_le (Nat.le_trans (rtT_le _) (Nat.le_trans (octP_le (vA s k)) (Nat.le_trans (numP_le (vEr s k)) (by omega))))
  refine WP.seq ?_
  refine WP.sr ?_
  refine WL.m rfl ?_
  refine WL.z (.bool (decide ((rnX (v9 s).s - (k : Int)) > 0))) (V.cmp (x := .tmp 36) rfl h6_154 rfl rfl) ?_
  refine WL.vbp (c := (rnX (v9 s).s - (k : Int)) > 0) (Sure.none rfl) rfl (V.move rfl rfl) (fun hc159 => ?_) (fun hc159 => ?_)
  rotate_left
  · refine WL.skips [(38, some false)] [(44, some false)] (kc (some false) rfl kn) (by kernel_rfl) (fun E509 hK510 hE511 => ?_)
    refine WP.cond_false (hK510 44 (some false) rfl) ?_
    refine WP.exit ?_
    refine WP.sr ?_
    have hkn : vEN s = k := vEN_at (by assumption) (by omega) (by first | exact .inl (by omega) | exact .inr (by assumption))
    refine WL.m rfl ?_
    refine WL.c (Sure.none rfl) rfl (C.call1 (x := .tmp 61) rfl cl69 ((hE511 4 rfl).trans h4_154)) (Fnc.mono (vr_ints (r := (vEr s k)) hbb7_154 (by show ((vEr s k).s).size ≤ maxLen; simp only [maxLen]; omega) (by omega) (X := (avoid u (b124 :: (b7 :: (b1 :: X))))) (avoid_in hob124_154 (inCons hbb124_154.lt (inCons hbb7_154.lt (inCons hbb1_154.lt (inMono hX hx155.size)))))) ?_)
    rintro v514 w512 ⟨_, rfl, hl515, hb516, hx513⟩
    have hb517 := hbb1_154.ext hx513 (by simp; omega)
    have hb518 := hbb124_154.ext hx513 (by simp; omega)
    have hb519 : Box w512 b7 117 [.string ((vI s k).s), .bool ((vI s k).bad)] := hb516
    have hle520 : (vI s k).s.size ≤ ((vEr s k).s).size := intsP_le (vEr s k)
    have hx521 : Ext [b124, b7, b1] w w512 := hx155.trans (hx513.mono (by simp))
    have ho526 := Owns.keep (Y := [b124, b7, b1]) hob124_154 (hx513.mono (by simp)) (fun g hg hm => hob124_154n g hg (mem_pre (O := [b124, b7, b1]) (X := X) hm)) (fun b hb => mem_pre (O := [b124, b7, b1]) (X := X) hb)
    have hl527 := Sl.mono (X := (b124 :: (b7 :: (b1 :: X)))) hl515 (fun b hb => avoid_mem hb)
    refine WL.m rfl ?_
    refine WL.c (Sure.none rfl) rfl (C.call1 (x := .tmp 63) rfl cl68 ((hE511 4 rfl).trans h4_154)) (Fnc.mono (vr_text (r := (vI s k)) hb519 (by show ((vI s k).s).size ≤ maxLen; simp only [maxLen]; omega)) ?_)
    rintro _ w528 ⟨rfl, hb530, hx529⟩
    have hb531 := hb517.ext hx529 (by simp; omega)
    have hb532 := hb518.ext hx529 (by simp; omega)
    have hb533 : Box w528 b7 117 [.string ((vEnd s k).s), .bool ((vEnd s k).bad)] := hb530
    have hle534 : (vEnd s k).s.size ≤ ((vI s k).s).size := textP_le (vI s k)
    have hx535 : Ext [b124, b7, b1] w w528 := hx521.trans (hx529.mono (by simp))
    have hx540 : Ext [b124, b7, b1] w512 w528 := (hx529.mono (by simp))
    have ho541 := Owns.keep (Y := [b124, b7, b1]) ho526 (hx529.mono (by simp)) (fun g hg hm => hob124_154n g hg (mem_pre (O := [b124, b7, b1]) (X := X) hm)) (fun b hb => mem_pre (O := [b124, b7, b1]) (X := X) hb)
    refine WL.z (.pointer (some ⟨b124, 10, none⟩)) (V.fieldAddr (x := .tmp 5) rfl fl32_10 ((hE511 5 rfl).trans h5_154)) ?_
    refine WL.store (Sure.none rfl) rfl rfl s22 rfl rfl hl527.one hb532 (by show (10 : Nat) < 12; decide) (fun w542 hs543 hb544 => ?_)
    replace hb544 : Box w542 b124 32 [.int .u8 (hdV ({ s := s, bad := false } : VRD).s), .int .i64 (IntKind.i64.wrap (rnX (v1 s).s)), .int .i64 (IntKind.i64.wrap (rnX (v2 s).s)), .int .u64 (rnX (v3 s).s), .int .u64 (rnX (v4 s).s), .int .u64 (rnX (v5 s).s), .int .u64 (rnX (v6 s).s), .int .u64 (rnX (v7 s).s), .bool (decide ((hdV (v8 s).s) = 1)), u, v514, .string (ByteArray.mk #[])] := hb544
    have hb545 := hb531.ext hs543 (by simp; omega)
    have hb546 := hb533.ext hs543 (by simp; omega)
    have hx547 : Ext [b124, b7, b1] w w542 := hx535.trans (hs543.mono (by simp))
    have hx552 : Ext [b124, b7, b1] w512 w542 := hx540.trans (hs543.mono (by simp))
    have ho554 := Owns.keep (Y := [b124, b7, b1]) ho541 (hs543.mono (by simp)) (fun g hg hm => hob124_154n g hg (mem_pre (O := [b124, b7, b1]) (X := X) hm)) (fun b hb => mem_pre (O := [b124, b7, b1]) (X := X) hb)
    refine WL.z (.pointer (some ⟨b124, 11, none⟩)) (V.fieldAddr (x := .tmp 5) rfl fl32_11 ((hE511 5 rfl).trans h5_154)) ?_
    refine WL.store (Sure.none rfl) rfl rfl s9 rfl rfl rfl hb544 (by show (11 : Nat) < 12; decide) (fun w555 hs556 hb557 => ?_)
    replace hb557 : Box w555 b124 32 [.int .u8 (hdV ({ s := s, bad := false } : VRD).s), .int .i64 (IntKind.i64.wrap (rnX (v1 s).s)), .int .i64 (IntKind.i64.wrap (rnX (v2 s).s)), .int .u64 (rnX (v3 s).s), .int .u64 (rnX (v4 s).s), .int .u64 (rnX (v5 s).s), .int .u64 (rnX (v6 s).s), .int .u64 (rnX (v7 s).s), .bool (decide ((hdV (v8 s).s) = 1)), u, v514, .string (rtT (vI s k).s)] := hb557
    have hb558 := hb545.ext hs556 (by simp; omega)
    have hb559 := hb546.ext hs556 (by simp; omega)
    have hx560 : Ext [b124, b7, b1] w w555 := hx547.trans (hs556.mono (by simp))
    have hx565 : Ext [b124, b7, b1] w512 w555 := hx552.trans (hs556.mono (by simp))
    have ho568 := Owns.keep (Y := [b124, b7, b1]) ho554 (hs556.mono (by simp)) (fun g hg hm => hob124_154n g hg (mem_pre (O := [b124, b7, b1]) (X := X) hm)) (fun b hb => mem_pre (O := [b124, b7, b1]) (X := X) hb)
    refine WL.nil ?_
    refine WP.seq ?_
    refine WP.sr ?_
    have hsz := vMsgK_sz s k hs
    have hag569 : ((vMsgK s k)).InR := vMsgK_in s k hs
    refine WL.z (.agg #[.int .u8 (hdV ({ s := s, bad := false } : VRD).s), .int .i64 (IntKind.i64.wrap (rnX (v1 s).s)), .int .i64 (IntKind.i64.wrap (rnX (v2 s).s)), .int .u64 (rnX (v3 s).s), .int .u64 (rnX (v4 s).s), .int .u64 (rnX (v5 s).s), .int .u64 (rnX (v6 s).s), .int .u64 (rnX (v7 s).s), .bool (decide ((hdV (v8 s).s) = 1)), u, v514, .string (rtT (vI s k).s)]) (V.loadAgg (x := .tmp 5) (cs := [.int .u8 (hdV ({ s := s, bad := false } : VRD).s), .int .i64 (IntKind.i64.wrap (rnX (v1 s).s)), .int .i64 (IntKind.i64.wrap (rnX (v2 s).s)), .int .u64 (rnX (v3 s).s), .int .u64 (rnX (v4 s).s), .int .u64 (rnX (v5 s).s), .int .u64 (rnX (v6 s).s), .int .u64 (rnX (v7 s).s), .bool (decide ((hdV (v8 s).s) = 1)), u, v514, .string (rtT (vI s k).s)]) rfl a32 ((hE511 5 rfl).trans h5_154) (At.box hb557) rfl) ?_
    refine WL.c (Sure.none rfl) rfl (C.call1 rfl cl22 rfl) (Fnc.mono (vote_Bytes (m := (vMsgK s k)) (vMsgK_rd ⟨u, v514, (by with_reducible rfl), (Owns.sl' ho568 hob124_154n), (hl527.ext (Ext.pre hx565)), hag569⟩) (by assumption)) ?_)
    rintro _ w570 ⟨rfl, hx571⟩
    have hx572 : Ext [b124, b7, b1] w w570 := hx560.trans (Ext.any (Y := [b124, b7, b1]) hx571)
    have hx577 : Ext [b124, b7, b1] w512 w570 := hx565.trans (Ext.any (Y := [b124, b7, b1]) hx571)
    have hb581 := hb558.ext hx571 (by simp)
    have hb582 := hb559.ext hx571 (by simp)
    have hb583 := hb557.ext hx571 (by simp)
    have ho584 := ho568.keep hx571 (by intro g hg hm; simp at hm) (by simp)
    refine WL.m rfl ?_
    refine WL.z (.string (if mayMsgB (vMsgK s k) = true then bytesB (vMsgK s k) else ByteArray.mk #[])) (V.extract rfl rfl rfl) ?_
    refine WL.z (.int .i64 (if mayMsgB (vMsgK s k) = true then 0 else 2)) (V.extract rfl rfl rfl) ?_
    refine WL.m rfl ?_
    refine WL.m rfl ?_
    refine WL.nil ?_
    refine WP.sr ?_
    refine WL.m rfl ?_
    refine WL.z (.pointer (some ⟨b7, 0, none⟩)) (V.nilCheck (x := .tmp 72) rfl ((hE511 4 rfl).trans h4_154)) ?_
    refine WL.f (.bool ((vEnd s k).bad)) fl117_1 rfl p4 (hb582.cell rfl) ?_
    refine WL.vb (c := (vEnd s k).bad) (Sure.none rfl) rfl (V.move rfl rfl) (fun hc585 => ?_) (fun hc585 => ?_)
    · refine WL.skips [(76, some true)] [(84, some true)] (kc (some true) rfl kn) (by kernel_rfl) (fun E586 hK587 hE588 => ?_)
      refine WP.cond_true (hK587 84 (some true) rfl) ?_
      refine WP.sr ?_
      have hvno : vOk s = false := vRead_no1 hkn hc585
      refine WL.z (.agg #[.int .u8 (0), .int .i64 (0), .int .i64 (0), .int .u64 (0), .int .u64 (0), .int .u64 (0), .int .u64 (0), .int .u64 (0), .bool (false), .slice none 0 0, .slice none 0 0, .string (ByteArray.mk #[])]) (V.build1 (L := []) rfl rfl bu32_d7517139) ?_
      refine WL.storeAgg (x := .tmp 2) (vs := [.int .u8 (0), .int .i64 (0), .int .i64 (0), .int .u64 (0), .int .u64 (0), .int .u64 (0), .int .u64 (0), .int .u64 (0), .bool (false), .slice none 0 0, .slice none 0 0, .string (ByteArray.mk #[])]) (Sure.none rfl) rfl rfl s32 ((hE588 2 rfl).trans ((hE511 2 rfl).trans h2_154)) rfl rfl (by intro u hu; simp only [List.mem_cons, List.not_mem_nil, or_false] at hu; rcases hu with rfl | rfl | rfl | rfl | rfl | rfl | rfl | rfl | rfl | rfl | rfl | rfl <;> first | rfl | exact Sl.one (by assumption)) hb581 (by show (0 : Nat) + 12 ≤ 12; decide) (fun w589 hs590 hb591 => ?_)
      replace hb591 : Box w589 b1 32 [.int .u8 (0), .int .i64 (0), .int .i64 (0), .int .u64 (0), .int .u64 (0), .int .u64 (0), .int .u64 (0), .int .u64 (0), .bool (false), .slice none 0 0, .slice none 0 0, .string (ByteArray.mk #[])] := hb591
      have hx594 : Ext [b124, b7, b1] w w589 := hx572.trans (hs590.mono (by simp))
      refine WL.m rfl ?_
      refine WL.nil ?_
      refine WP.ret ?_
      refine resOf.c2 rfl (v := .agg #[.int .u8 (0), .int .i64 (0), .int .i64 (0), .int .u64 (0), .int .u64 (0), .int .u64 (0), .int .u64 (0), .int .u64 (0), .bool (false), .slice none 0 0, .slice none 0 0, .string (ByteArray.mk #[])]) ⟨_, _, ((hE588 2 rfl).trans ((hE511 2 rfl).trans h2_154)), run_loadVar_agg a32 (At.box hb591) rfl⟩ (v' := .int .i64 (2)) rfl ?_
      exact ⟨[.int .u8 (0), .int .i64 (0), .int .i64 (0), .int .u64 (0), .int .u64 (0), .int .u64 (0), .int .u64 (0), .int .u64 (0), .bool (false), .slice none 0 0, .slice none 0 0, .string (ByteArray.mk #[])], (tup2 rfl (int_eq (by first | (rw [if_pos hvok]; done) | (rw [if_neg (by rw [hvno]; decide)]; done)))), (Rep.base (O := [b124, b7, b1]) (castRd (R := msgR) (show (({ Kind := 0, From := 0, To := 0, Term := 0, Index := 0, LogTerm := 0, Commit := 0, Round := 0, Ok := false, Entries := [], Members := [], Snap := (ByteArray.mk #[]) } : MsgD) : MsgD) = vRead s from (by first | exact vRead_zero hvno | exact vRead_is hkn hvok)) ⟨.slice none 0 0, .slice none 0 0, rfl, Sl.nil, Sl.nil, ⟨(inK_u8' (n := 0) (by omega)), (inK_i64' (n := 0) (by omega)), (inK_i64' (n := 0) (by omega)), (inK_u64' (n := 0) (by omega)), (inK_u64' (n := 0) (by omega)), (inK_u64' (n := 0) (by omega)), (inK_u64' (n := 0) (by omega)), (inK_u64' (n := 0) (by omega)), (Nat.zero_le _)⟩⟩)), ((hx594).done (geCons hge_b124_w (geCons hge_b7_w (geCons hge_b1_w geNil))))⟩
    refine WL.my rfl rfl ?_
    refine WL.y (.bool (decide ((if mayMsgB (vMsgK s k) = true then 0 else 2) ≠ 0))) rfl (V.cmp rfl rfl rfl rfl) ?_
    refine WL.k (a := false) rfl rfl ?_
    refine WL.vbp (c := (if mayMsgB (vMsgK s k) = true then 0 else 2) ≠ 0) (Sure.none rfl) rfl (V.move rfl rfl) (fun hc605 => ?_) (fun hc605 => ?_)
    · refine WL.skips [(80, some true)] [(84, some true)] (kc (some true) rfl kn) (by kernel_rfl) (fun E606 hK607 hE608 => ?_)
      refine WP.cond_true (hK607 84 (some true) rfl) ?_
      refine WP.sr ?_
      have hvno : vOk s = false := vRead_no2 hkn hc605
      refine WL.z (.agg #[.int .u8 (0), .int .i64 (0), .int .i64 (0), .int .u64 (0), .int .u64 (0), .int .u64 (0), .int .u64 (0), .int .u64 (0), .bool (false), .slice none 0 0, .slice none 0 0, .string (ByteArray.mk #[])]) (V.build1 (L := []) rfl rfl bu32_d7517139) ?_
      refine WL.storeAgg (x := .tmp 2) (vs := [.int .u8 (0), .int .i64 (0), .int .i64 (0), .int .u64 (0), .int .u64 (0), .int .u64 (0), .int .u64 (0), .int .u64 (0), .bool (false), .slice none 0 0, .slice none 0 0, .string (ByteArray.mk #[])]) (Sure.none rfl) rfl rfl s32 ((hE608 2 rfl).trans ((hE511 2 rfl).trans h2_154)) rfl rfl (by intro u hu; simp only [List.mem_cons, List.not_mem_nil, or_false] at hu; rcases hu with rfl | rfl | rfl | rfl | rfl | rfl | rfl | rfl | rfl | rfl | rfl | rfl <;> first | rfl | exact Sl.one (by assumption)) hb581 (by show (0 : Nat) + 12 ≤ 12; decide) (fun w609 hs610 hb611 => ?_)
      replace hb611 : Box w609 b1 32 [.int .u8 (0), .int .i64 (0), .int .i64 (0), .int .u64 (0), .int .u64 (0), .int .u64 (0), .int .u64 (0), .int .u64 (0), .bool (false), .slice none 0 0, .slice none 0 0, .string (ByteArray.mk #[])] := hb611
      have hx614 : Ext [b124, b7, b1] w w609 := hx572.trans (hs610.mono (by simp))
      refine WL.m rfl ?_
      refine WL.nil ?_
      refine WP.ret ?_
      refine resOf.c2 rfl (v := .agg #[.int .u8 (0), .int .i64 (0), .int .i64 (0), .int .u64 (0), .int .u64 (0), .int .u64 (0), .int .u64 (0), .int .u64 (0), .bool (false), .slice none 0 0, .slice none 0 0, .string (ByteArray.mk #[])]) ⟨_, _, ((hE608 2 rfl).trans ((hE511 2 rfl).trans h2_154)), run_loadVar_agg a32 (At.box hb611) rfl⟩ (v' := .int .i64 (2)) rfl ?_
      exact ⟨[.int .u8 (0), .int .i64 (0), .int .i64 (0), .int .u64 (0), .int .u64 (0), .int .u64 (0), .int .u64 (0), .int .u64 (0), .bool (false), .slice none 0 0, .slice none 0 0, .string (ByteArray.mk #[])], (tup2 rfl (int_eq (by first | (rw [if_pos hvok]; done) | (rw [if_neg (by rw [hvno]; decide)]; done)))), (Rep.base (O := [b124, b7, b1]) (castRd (R := msgR) (show (({ Kind := 0, From := 0, To := 0, Term := 0, Index := 0, LogTerm := 0, Commit := 0, Round := 0, Ok := false, Entries := [], Members := [], Snap := (ByteArray.mk #[]) } : MsgD) : MsgD) = vRead s from (by first | exact vRead_zero hvno | exact vRead_is hkn hvok)) ⟨.slice none 0 0, .slice none 0 0, rfl, Sl.nil, Sl.nil, ⟨(inK_u8' (n := 0) (by omega)), (inK_i64' (n := 0) (by omega)), (inK_i64' (n := 0) (by omega)), (inK_u64' (n := 0) (by omega)), (inK_u64' (n := 0) (by omega)), (inK_u64' (n := 0) (by omega)), (inK_u64' (n := 0) (by omega)), (inK_u64' (n := 0) (by omega)), (Nat.zero_le _)⟩⟩)), ((hx614).done (geCons hge_b124_w (geCons hge_b7_w (geCons hge_b1_w geNil))))⟩
    refine WL.my rfl rfl ?_
    refine WL.my rfl rfl ?_
    refine WL.y (.bool (!(seqB (if mayMsgB (vMsgK s k) = true then bytesB (vMsgK s k) else ByteArray.mk #[]) s))) rfl (V.scmp (y := .tmp 82) rfl rfl ((hE511 0 rfl).trans h0_154) rfl) ?_
    refine WL.k (a := false) rfl rfl ?_
    refine WL.nil ?_
    refine WP.condn (t := seqB (if mayMsgB (vMsgK s k) = true then bytesB (vMsgK s k) else ByteArray.mk #[]) s) rfl (fun hc625 => ?_) (fun hc625 => ?_)
    · refine WP.sr ?_
      have hvno : vOk s = false := vRead_no3 hkn hc625
      refine WL.z (.agg #[.int .u8 (0), .int .i64 (0), .int .i64 (0), .int .u64 (0), .int .u64 (0), .int .u64 (0), .int .u64 (0), .int .u64 (0), .bool (false), .slice none 0 0, .slice none 0 0, .string (ByteArray.mk #[])]) (V.build1 (L := []) rfl rfl bu32_d7517139) ?_
      refine WL.storeAgg (x := .tmp 2) (vs := [.int .u8 (0), .int .i64 (0), .int .i64 (0), .int .u64 (0), .int .u64 (0), .int .u64 (0), .int .u64 (0), .int .u64 (0), .bool (false), .slice none 0 0, .slice none 0 0, .string (ByteArray.mk #[])]) (Sure.none rfl) rfl rfl s32 ((hE511 2 rfl).trans h2_154) rfl rfl (by intro u hu; simp only [List.mem_cons, List.not_mem_nil, or_false] at hu; rcases hu with rfl | rfl | rfl | rfl | rfl | rfl | rfl | rfl | rfl | rfl | rfl | rfl <;> first | rfl | exact Sl.one (by assumption)) hb581 (by show (0 : Nat) + 12 ≤ 12; decide) (fun w626 hs627 hb628 => ?_)
      replace hb628 : Box w626 b1 32 [.int .u8 (0), .int .i64 (0), .int .i64 (0), .int .u64 (0), .int .u64 (0), .int .u64 (0), .int .u64 (0), .int .u64 (0), .bool (false), .slice none 0 0, .slice none 0 0, .string (ByteArray.mk #[])] := hb628
      have hx631 : Ext [b124, b7, b1] w w626 := hx572.trans (hs627.mono (by simp))
      refine WL.m rfl ?_
      refine WL.nil ?_
      refine WP.ret ?_
      refine resOf.c2 rfl (v := .agg #[.int .u8 (0), .int .i64 (0), .int .i64 (0), .int .u64 (0), .int .u64 (0), .int .u64 (0), .int .u64 (0), .int .u64 (0), .bool (false), .slice none 0 0, .slice none 0 0, .string (ByteArray.mk #[])]) ⟨_, _, ((hE511 2 rfl).trans h2_154), run_loadVar_agg a32 (At.box hb628) rfl⟩ (v' := .int .i64 (2)) rfl ?_
      exact ⟨[.int .u8 (0), .int .i64 (0), .int .i64 (0), .int .u64 (0), .int .u64 (0), .int .u64 (0), .int .u64 (0), .int .u64 (0), .bool (false), .slice none 0 0, .slice none 0 0, .string (ByteArray.mk #[])], (tup2 rfl (int_eq (by first | (rw [if_pos hvok]; done) | (rw [if_neg (by rw [hvno]; decide)]; done)))), (Rep.base (O := [b124, b7, b1]) (castRd (R := msgR) (show (({ Kind := 0, From := 0, To := 0, Term := 0, Index := 0, LogTerm := 0, Commit := 0, Round := 0, Ok := false, Entries := [], Members := [], Snap := (ByteArray.mk #[]) } : MsgD) : MsgD) = vRead s from (by first | exact vRead_zero hvno | exact vRead_is hkn hvok)) ⟨.slice none 0 0, .slice none 0 0, rfl, Sl.nil, Sl.nil, ⟨(inK_u8' (n := 0) (by omega)), (inK_i64' (n := 0) (by omega)), (inK_i64' (n := 0) (by omega)), (inK_u64' (n := 0) (by omega)), (inK_u64' (n := 0) (by omega)), (inK_u64' (n := 0) (by omega)), (inK_u64' (n := 0) (by omega)), (inK_u64' (n := 0) (by omega)), (Nat.zero_le _)⟩⟩)), ((hx631).done (geCons hge_b124_w (geCons hge_b7_w (geCons hge_b1_w geNil))))⟩
    refine WP.skip ?_
    refine WP.sr ?_
    have hvok : vOk s = true := vRead_yes hkn hc585 hc605 hc625
    refine WL.f (x := .tmp 5) (u) fl32_9 ((hE511 5 rfl).trans h5_154) p25 (hb583.cell rfl) ?_
    refine WL.c (Sure.none rfl) rfl (C.call1 rfl cl70 rfl) (Fnc.mono (sl_ClipE (Owns.sl' ho584 hob124_154n) (X := (b124 :: (b7 :: (b1 :: X)))) (inCons hb583.lt (inCons hb582.lt (inCons hb581.lt (inMono hX hx572.size))))) ?_)
    rintro v644 w642 ⟨_, rfl, hl645, hx643⟩
    have hx646 : Ext [b124, b7, b1] w w642 := hx572.trans (Ext.any (Y := [b124, b7, b1]) hx643)
    have hx651 : Ext [b124, b7, b1] w512 w642 := hx577.trans (Ext.any (Y := [b124, b7, b1]) hx643)
    have hb656 := hb581.ext hx643 (by simp)
    have hb658 := hb583.ext hx643 (by simp)
    refine WL.z (.pointer (some ⟨b124, 9, none⟩)) (V.fieldAddr (x := .tmp 5) rfl fl32_9 ((hE511 5 rfl).trans h5_154)) ?_
    refine WL.store (Sure.none rfl) rfl rfl s25 rfl rfl hl645.one hb658 (by show (9 : Nat) < 12; decide) (fun w660 hs661 hb662 => ?_)
    replace hb662 : Box w660 b124 32 [.int .u8 (hdV ({ s := s, bad := false } : VRD).s), .int .i64 (IntKind.i64.wrap (rnX (v1 s).s)), .int .i64 (IntKind.i64.wrap (rnX (v2 s).s)), .int .u64 (rnX (v3 s).s), .int .u64 (rnX (v4 s).s), .int .u64 (rnX (v5 s).s), .int .u64 (rnX (v6 s).s), .int .u64 (rnX (v7 s).s), .bool (decide ((hdV (v8 s).s) = 1)), v644, v514, .string (rtT (vI s k).s)] := hb662
    have hb663 := hb656.ext hs661 (by simp; omega)
    have hx665 : Ext [b124, b7, b1] w w660 := hx646.trans (hs661.mono (by simp))
    have hx670 : Ext [b124, b7, b1] w512 w660 := hx651.trans (hs661.mono (by simp))
    have hx675 : Ext [b124, b7, b1] w642 w660 := (hs661.mono (by simp))
    refine WL.nil ?_
    refine WP.sr ?_
    have hag677 : ((vMsgK s k)).InR := vMsgK_in s k hs
    refine WL.z (.agg #[.int .u8 (hdV ({ s := s, bad := false } : VRD).s), .int .i64 (IntKind.i64.wrap (rnX (v1 s).s)), .int .i64 (IntKind.i64.wrap (rnX (v2 s).s)), .int .u64 (rnX (v3 s).s), .int .u64 (rnX (v4 s).s), .int .u64 (rnX (v5 s).s), .int .u64 (rnX (v6 s).s), .int .u64 (rnX (v7 s).s), .bool (decide ((hdV (v8 s).s) = 1)), v644, v514, .string (rtT (vI s k).s)]) (V.loadAgg (x := .tmp 5) (cs := [.int .u8 (hdV ({ s := s, bad := false } : VRD).s), .int .i64 (IntKind.i64.wrap (rnX (v1 s).s)), .int .i64 (IntKind.i64.wrap (rnX (v2 s).s)), .int .u64 (rnX (v3 s).s), .int .u64 (rnX (v4 s).s), .int .u64 (rnX (v5 s).s), .int .u64 (rnX (v6 s).s), .int .u64 (rnX (v7 s).s), .bool (decide ((hdV (v8 s).s) = 1)), v644, v514, .string (rtT (vI s k).s)]) rfl a32 ((hE511 5 rfl).trans h5_154) (At.box hb662) rfl) ?_
    refine WL.storeAgg (x := .tmp 2) (vs := [.int .u8 (hdV ({ s := s, bad := false } : VRD).s), .int .i64 (IntKind.i64.wrap (rnX (v1 s).s)), .int .i64 (IntKind.i64.wrap (rnX (v2 s).s)), .int .u64 (rnX (v3 s).s), .int .u64 (rnX (v4 s).s), .int .u64 (rnX (v5 s).s), .int .u64 (rnX (v6 s).s), .int .u64 (rnX (v7 s).s), .bool (decide ((hdV (v8 s).s) = 1)), v644, v514, .string (rtT (vI s k).s)]) (Sure.none rfl) rfl rfl s32 ((hE511 2 rfl).trans h2_154) rfl rfl (by intro u hu; simp only [List.mem_cons, List.not_mem_nil, or_false] at hu; rcases hu with rfl | rfl | rfl | rfl | rfl | rfl | rfl | rfl | rfl | rfl | rfl | rfl <;> first | rfl | exact Sl.one (by assumption)) hb663 (by show (0 : Nat) + 12 ≤ 12; decide) (fun w678 hs679 hb680 => ?_)
    replace hb680 : Box w678 b1 32 [.int .u8 (hdV ({ s := s, bad := false } : VRD).s), .int .i64 (IntKind.i64.wrap (rnX (v1 s).s)), .int .i64 (IntKind.i64.wrap (rnX (v2 s).s)), .int .u64 (rnX (v3 s).s), .int .u64 (rnX (v4 s).s), .int .u64 (rnX (v5 s).s), .int .u64 (rnX (v6 s).s), .int .u64 (rnX (v7 s).s), .bool (decide ((hdV (v8 s).s) = 1)), v644, v514, .string (rtT (vI s k).s)] := hb680
    have hx683 : Ext [b124, b7, b1] w w678 := hx665.trans (hs679.mono (by simp))
    have hx688 : Ext [b124, b7, b1] w512 w678 := hx670.trans (hs679.mono (by simp))
    have hx693 : Ext [b124, b7, b1] w642 w678 := hx675.trans (hs679.mono (by simp))
    refine WL.m rfl ?_
    refine WL.nil ?_
    refine WP.ret ?_
    refine resOf.c2 rfl (v := .agg #[.int .u8 (hdV ({ s := s, bad := false } : VRD).s), .int .i64 (IntKind.i64.wrap (rnX (v1 s).s)), .int .i64 (IntKind.i64.wrap (rnX (v2 s).s)), .int .u64 (rnX (v3 s).s), .int .u64 (rnX (v4 s).s), .int .u64 (rnX (v5 s).s), .int .u64 (rnX (v6 s).s), .int .u64 (rnX (v7 s).s), .bool (decide ((hdV (v8 s).s) = 1)), v644, v514, .string (rtT (vI s k).s)]) ⟨_, _, ((hE511 2 rfl).trans h2_154), run_loadVar_agg a32 (At.box hb680) rfl⟩ (v' := .int .i64 (0)) rfl ?_
    exact ⟨[.int .u8 (hdV ({ s := s, bad := false } : VRD).s), .int .i64 (IntKind.i64.wrap (rnX (v1 s).s)), .int .i64 (IntKind.i64.wrap (rnX (v2 s).s)), .int .u64 (rnX (v3 s).s), .int .u64 (rnX (v4 s).s), .int .u64 (rnX (v5 s).s), .int .u64 (rnX (v6 s).s), .int .u64 (rnX (v7 s).s), .bool (decide ((hdV (v8 s).s) = 1)), v644, v514, .string (rtT (vI s k).s)], (tup2 rfl (int_eq (by first | (rw [if_pos hvok]; done) | (rw [if_neg (by rw [hvno]; decide)]; done)))), (Rep.base (O := [b124, b7, b1]) (castRd (R := msgR) (show ((vMsgK s k) : MsgD) = vRead s from (by first | exact vRead_zero hvno | exact vRead_is hkn hvok)) (vMsgK_rd ⟨v644, v514, (by with_reducible rfl), (hl645.ext (Ext.pre hx693)), (hl527.ext (Ext.pre hx688)), hag677⟩))), ((hx683).done (geCons hge_b124_w (geCons hge_b7_w (geCons hge_b1_w geNil))))⟩
  refine WL.my rfl rfl ?_
  refine WL.y (.pointer (some ⟨b7, 0, none⟩)) rfl (V.nilCheck (x := .tmp 39) rfl h4_154) ?_
  refine WL.fy (.bool ((vEr s k).bad)) rfl fl117_1 rfl p4 (hbb7_154.cell rfl) ?_
  refine WL.y (.bool (!((vEr s k).bad))) rfl (V.not rfl rfl) ?_
  refine WL.k (a := true) rfl rfl ?_
  refine WL.nil ?_
  refine WP.condn (t := (vEr s k).bad) rfl (fun hc160 => ?_) (fun hc160 => ?_)
  · refine WP.skip ?_
    refine WP.seq ?_
    refine WP.block ?_
    refine WP.anyS [3, 5, 7, 9, 10, 11, 12, 13, 14] 7 (fun w => Box w b124 32 [.int .u8 (hdV ({ s := s, bad := false } : VRD).s), .int .i64 (IntKind.i64.wrap (rnX (v1 s).s)), .int .i64 (IntKind.i64.wrap (rnX (v2 s).s)), .int .u64 (rnX (v3 s).s), .int .u64 (rnX (v4 s).s), .int .u64 (rnX (v5 s).s), .int .u64 (rnX (v6 s).s), .int .u64 (rnX (v7 s).s), .bool (decide ((hdV (v8 s).s) = 1)), u, .slice none 0 0, .string (ByteArray.mk #[])]) [(0, .pointer (some ⟨b124, 9, none⟩)), (1, u), (2, .pointer (some ⟨b7, 0, none⟩)), (4, .pointer (some ⟨b7, 0, none⟩)), (6, .pointer (some ⟨b7, 0, none⟩)), (8, .pointer (some ⟨b7, 0, none⟩))] mo (by kernel_rfl) (by kernel_rfl) (by kernel_rfl) (by kernel_rfl) ⟨⟨_, rfl, ?_⟩, ⟨_, rfl, ?_⟩, ⟨_, rfl, ?_⟩, ⟨_, rfl, ?_⟩, ⟨_, rfl, ?_⟩, ⟨_, rfl, ?_⟩, trivial⟩ ?_
    · intro E' w' hC hE hp
      have hq_b124 : Box w' b124 32 [.int .u8 (hdV ({ s := s, bad := false } : VRD).s), .int .i64 (IntKind.i64.wrap (rnX (v1 s).s)), .int .i64 (IntKind.i64.wrap (rnX (v2 s).s)), .int .u64 (rnX (v3 s).s), .int .u64 (rnX (v4 s).s), .int .u64 (rnX (v5 s).s), .int .u64 (rnX (v6 s).s), .int .u64 (rnX (v7 s).s), .bool (decide ((hdV (v8 s).s) = 1)), u, .slice none 0 0, .string (ByteArray.mk #[])] := hC
      exact ⟨Sure.none rfl, V.fieldAddr (x := .tmp 5) rfl fl32_9 ((hE 5 (by kernel_rfl)).trans h5_154)⟩
    · intro E' w' hC hE hp
      have hq_b124 : Box w' b124 32 [.int .u8 (hdV ({ s := s, bad := false } : VRD).s), .int .i64 (IntKind.i64.wrap (rnX (v1 s).s)), .int .i64 (IntKind.i64.wrap (rnX (v2 s).s)), .int .u64 (rnX (v3 s).s), .int .u64 (rnX (v4 s).s), .int .u64 (rnX (v5 s).s), .int .u64 (rnX (v6 s).s), .int .u64 (rnX (v7 s).s), .bool (decide ((hdV (v8 s).s) = 1)), u, .slice none 0 0, .string (ByteArray.mk #[])] := hC
      have p_0 : E' 47 = (.pointer (some ⟨b124, 9, none⟩) : Value) := hp 0 (by kernel_rfl) _ _ rfl rfl
      exact ⟨Sure.none rfl, V.load (x := .tmp 47) rfl p25 p_0 (hq_b124.cell rfl)⟩
    · intro E' w' hC hE hp
      have hq_b124 : Box w' b124 32 [.int .u8 (hdV ({ s := s, bad := false } : VRD).s), .int .i64 (IntKind.i64.wrap (rnX (v1 s).s)), .int .i64 (IntKind.i64.wrap (rnX (v2 s).s)), .int .u64 (rnX (v3 s).s), .int .u64 (rnX (v4 s).s), .int .u64 (rnX (v5 s).s), .int .u64 (rnX (v6 s).s), .int .u64 (rnX (v7 s).s), .bool (decide ((hdV (v8 s).s) = 1)), u, .slice none 0 0, .string (ByteArray.mk #[])] := hC
      exact ⟨Sure.none rfl, V.move (x := .tmp 4) rfl ((hE 4 (by kernel_rfl)).trans h4_154)⟩
    · intro E' w' hC hE hp
      have hq_b124 : Box w' b124 32 [.int .u8 (hdV ({ s := s, bad := false } : VRD).s), .int .i64 (IntKind.i64.wrap (rnX (v1 s).s)), .int .i64 (IntKind.i64.wrap (rnX (v2 s).s)), .int .u64 (rnX (v3 s).s), .int .u64 (rnX (v4 s).s), .int .u64 (rnX (v5 s).s), .int .u64 (rnX (v6 s).s), .int .u64 (rnX (v7 s).s), .bool (decide ((hdV (v8 s).s) = 1)), u, .slice none 0 0, .string (ByteArray.mk #[])] := hC
      exact ⟨Sure.none rfl, V.move (x := .tmp 4) rfl ((hE 4 (by kernel_rfl)).trans h4_154)⟩
    · intro E' w' hC hE hp
      have hq_b124 : Box w' b124 32 [.int .u8 (hdV ({ s := s, bad := false } : VRD).s), .int .i64 (IntKind.i64.wrap (rnX (v1 s).s)), .int .i64 (IntKind.i64.wrap (rnX (v2 s).s)), .int .u64 (rnX (v3 s).s), .int .u64 (rnX (v4 s).s), .int .u64 (rnX (v5 s).s), .int .u64 (rnX (v6 s).s), .int .u64 (rnX (v7 s).s), .bool (decide ((hdV (v8 s).s) = 1)), u, .slice none 0 0, .string (ByteArray.mk #[])] := hC
      exact ⟨Sure.none rfl, V.move (x := .tmp 4) rfl ((hE 4 (by kernel_rfl)).trans h4_154)⟩
    · intro E' w' hC hE hp
      have hq_b124 : Box w' b124 32 [.int .u8 (hdV ({ s := s, bad := false } : VRD).s), .int .i64 (IntKind.i64.wrap (rnX (v1 s).s)), .int .i64 (IntKind.i64.wrap (rnX (v2 s).s)), .int .u64 (rnX (v3 s).s), .int .u64 (rnX (v4 s).s), .int .u64 (rnX (v5 s).s), .int .u64 (rnX (v6 s).s), .int .u64 (rnX (v7 s).s), .bool (decide ((hdV (v8 s).s) = 1)), u, .slice none 0 0, .string (ByteArray.mk #[])] := hC
      exact ⟨Sure.none rfl, V.move (x := .tmp 4) rfl ((hE 4 (by kernel_rfl)).trans h4_154)⟩
    · intro Ec161 w162 hx163 hE164 hv165
      have hx166 : Ext [b124, b7, b1] w w162 := hx155.trans (Ext.any (Y := [b124, b7, b1]) hx163)
      have hx167 : Ext [b124, b7, b1] w125 w162 := hx156.trans (Ext.any (Y := [b124, b7, b1]) hx163)
      have hx168 : Ext [b124, b7, b1] w132 w162 := hx157.trans (Ext.any (Y := [b124, b7, b1]) hx163)
      have hx169 : Ext [b124, b7, b1] w139 w162 := hx158.trans (Ext.any (Y := [b124, b7, b1]) hx163)
      have hx170 : Ext [b124, b7, b1] w150 w162 := (Ext.any (Y := [b124, b7, b1]) hx163)
      have hb171 := hbb1_154.ext hx163 (by simp)
      have hb172 := hbb7_154.ext hx163 (by simp)
      have hb173 := hbb124_154.ext hx163 (by simp)
      have ho174 := hob124_154.keep hx163 (by intro g hg hm; simp at hm) (by simp)
      refine Chain.step rfl (fun _ => hb173) ?_
      intro E175 hE176 hp177
      refine WL.c (Sure.none rfl) rfl (C.call1 (x := .tmp 49) rfl cl67 ((hp177 2 (by kernel_rfl) 49 rfl).trans (hv165 2 _ 49 rfl rfl))) (Fnc.mono (vr_num (r := (vEr s k)) hb172 (by show ((vEr s k).s).size ≤ maxLen; simp only [maxLen]; omega)) ?_)
      rintro _ w178 ⟨rfl, hb180, hx179⟩
      have hb181 := hb171.ext hx179 (by simp; omega)
      have hb182 := hb173.ext hx179 (by simp; omega)
      have hb183 : Box w178 b7 117 [.string ((vA s k).s), .bool ((vA s k).bad)] := hb180
      have hle184 : (vA s k).s.size ≤ ((vEr s k).s).size := numP_le (vEr s k)
      have hx185 : Ext [b124, b7, b1] w w178 := hx166.trans (hx179.mono (by simp))
      have hx186 : Ext [b124, b7, b1] w125 w178 := hx167.trans (hx179.mono (by simp))
      have hx187 : Ext [b124, b7, b1] w132 w178 := hx168.trans (hx179.mono (by simp))
      have hx188 : Ext [b124, b7, b1] w139 w178 := hx169.trans (hx179.mono (by simp))
      have hx189 : Ext [b124, b7, b1] w150 w178 := hx170.trans (hx179.mono (by simp))
      have hx190 : Ext [b124, b7, b1] w162 w178 := (hx179.mono (by simp))
      have ho191 := Owns.keep (Y := [b124, b7, b1]) ho174 (hx179.mono (by simp)) (fun g hg hm => hob124_154n g hg (mem_pre (O := [b124, b7, b1]) (X := X) hm)) (fun b hb => mem_pre (O := [b124, b7, b1]) (X := X) hb)
      refine WL.nil ⟨_, rfl, ?_⟩
      refine Chain.step rfl (fun _ => hb182) ?_
      intro E192 hE193 hp194
      refine WL.c (Sure.none rfl) rfl (C.call1 (x := .tmp 51) rfl cl66 ((hp194 4 (by kernel_rfl) 51 rfl).trans (hv165 4 _ 51 rfl rfl))) (Fnc.mono (vr_octet (r := (vA s k)) hb183 (by show ((vA s k).s).size ≤ maxLen; simp only [maxLen]; omega)) ?_)
      rintro _ w195 ⟨rfl, hb197, hx196⟩
      have hb198 := hb181.ext hx196 (by simp; omega)
      have hb199 := hb182.ext hx196 (by simp; omega)
      have hb200 : Box w195 b7 117 [.string ((vB s k).s), .bool ((vB s k).bad)] := hb197
      have hle201 : (vB s k).s.size ≤ ((vA s k).s).size := octP_le (vA s k)
      have hx202 : Ext [b124, b7, b1] w w195 := hx185.trans (hx196.mono (by simp))
      have hx203 : Ext [b124, b7, b1] w125 w195 := hx186.trans (hx196.mono (by simp))
      have hx204 : Ext [b124, b7, b1] w132 w195 := hx187.trans (hx196.mono (by simp))
      have hx205 : Ext [b124, b7, b1] w139 w195 := hx188.trans (hx196.mono (by simp))
      have hx206 : Ext [b124, b7, b1] w150 w195 := hx189.trans (hx196.mono (by simp))
      have hx207 : Ext [b124, b7, b1] w162 w195 := hx190.trans (hx196.mono (by simp))
      have hx208 : Ext [b124, b7, b1] w178 w195 := (hx196.mono (by simp))
      have ho209 := Owns.keep (Y := [b124, b7, b1]) ho191 (hx196.mono (by simp)) (fun g hg hm => hob124_154n g hg (mem_pre (O := [b124, b7, b1]) (X := X) hm)) (fun b hb => mem_pre (O := [b124, b7, b1]) (X := X) hb)
      refine WL.nil ⟨_, rfl, ?_⟩
      refine Chain.step rfl (fun _ => hb199) ?_
      intro E210 hE211 hp212
      refine WL.c (Sure.none rfl) rfl (C.call1 (x := .tmp 53) rfl cl68 ((hp212 6 (by kernel_rfl) 53 rfl).trans (hv165 6 _ 53 rfl rfl))) (Fnc.mono (vr_text (r := (vB s k)) hb200 (by show ((vB s k).s).size ≤ maxLen; simp only [maxLen]; omega)) ?_)
      rintro _ w213 ⟨rfl, hb215, hx214⟩
      have hb216 := hb198.ext hx214 (by simp; omega)
      have hb217 := hb199.ext hx214 (by simp; omega)
      have hb218 : Box w213 b7 117 [.string ((vC s k).s), .bool ((vC s k).bad)] := hb215
      have hle219 : (vC s k).s.size ≤ ((vB s k).s).size := textP_le (vB s k)
      have hx220 : Ext [b124, b7, b1] w w213 := hx202.trans (hx214.mono (by simp))
      have hx221 : Ext [b124, b7, b1] w125 w213 := hx203.trans (hx214.mono (by simp))
      have hx222 : Ext [b124, b7, b1] w132 w213 := hx204.trans (hx214.mono (by simp))
      have hx223 : Ext [b124, b7, b1] w139 w213 := hx205.trans (hx214.mono (by simp))
      have hx224 : Ext [b124, b7, b1] w150 w213 := hx206.trans (hx214.mono (by simp))
      have hx225 : Ext [b124, b7, b1] w162 w213 := hx207.trans (hx214.mono (by simp))
      have hx226 : Ext [b124, b7, b1] w178 w213 := hx208.trans (hx214.mono (by simp))
      have hx227 : Ext [b124, b7, b1] w195 w213 := (hx214.mono (by simp))
      have ho228 := Owns.keep (Y := [b124, b7, b1]) ho209 (hx214.mono (by simp)) (fun g hg hm => hob124_154n g hg (mem_pre (O := [b124, b7, b1]) (X := X) hm)) (fun b hb => mem_pre (O := [b124, b7, b1]) (X := X) hb)
      refine WL.nil ⟨_, rfl, ?_⟩
      refine Chain.step rfl (fun _ => hb217) ?_
      intro E229 hE230 hp231
      refine WL.c (Sure.none rfl) rfl (C.call1 (x := .tmp 55) rfl cl69 ((hp231 8 (by kernel_rfl) 55 rfl).trans (hv165 8 _ 55 rfl rfl))) (Fnc.mono (vr_ints (r := (vC s k)) hb218 (by show ((vC s k).s).size ≤ maxLen; simp only [maxLen]; omega) (by omega) (X := (avoid u (b124 :: (b7 :: (b1 :: X))))) (avoid_in ho228 (inCons hb217.lt (inCons hb218.lt (inCons hb216.lt (inMono hX hx220.size)))))) ?_)
      rintro v234 w232 ⟨_, rfl, hl235, hb236, hx233⟩
      have hb237 := hb216.ext hx233 (by simp; omega)
      have hb238 := hb217.ext hx233 (by simp; omega)
      have hb239 : Box w232 b7 117 [.string ((vEr s (k + 1)).s), .bool ((vEr s (k + 1)).bad)] := hb236
      have hle240 : (vEr s (k + 1)).s.size ≤ ((vC s k).s).size := intsP_le (vC s k)
      have hx241 : Ext [b124, b7, b1] w w232 := hx220.trans (hx233.mono (by simp))
      have hx242 : Ext [b124, b7, b1] w125 w232 := hx221.trans (hx233.mono (by simp))
      have hx243 : Ext [b124, b7, b1] w132 w232 := hx222.trans (hx233.mono (by simp))
      have hx244 : Ext [b124, b7, b1] w139 w232 := hx223.trans (hx233.mono (by simp))
      have hx245 : Ext [b124, b7, b1] w150 w232 := hx224.trans (hx233.mono (by simp))
      have hx246 : Ext [b124, b7, b1] w162 w232 := hx225.trans (hx233.mono (by simp))
      have hx247 : Ext [b124, b7, b1] w178 w232 := hx226.trans (hx233.mono (by simp))
      have hx248 : Ext [b124, b7, b1] w195 w232 := hx227.trans (hx233.mono (by simp))
      have hx249 : Ext [b124, b7, b1] w213 w232 := (hx233.mono (by simp))
      have ho250 := Owns.keep (Y := [b124, b7, b1]) ho228 (hx233.mono (by simp)) (fun g hg hm => hob124_154n g hg (mem_pre (O := [b124, b7, b1]) (X := X) hm)) (fun b hb => mem_pre (O := [b124, b7, b1]) (X := X) hb)
      have hl251 := Sl.mono (X := (b124 :: (b7 :: (b1 :: X)))) hl235 (fun b hb => avoid_mem hb)
      refine WL.nil ⟨_, rfl, ?_⟩
      refine Chain.step rfl (fun _ => hb238) ?_
      intro E252 hE253 hp254
      obtain ⟨a255, c256, hv257⟩ := hl251.shape
      refine WL.z (.agg #[.int .u64 (rnX (vEr s k).s), .int .u8 (hdV (vA s k).s), .string (rtT (vB s k).s), v234]) (V.build1 (L := [(0, .int .u64 (rnX (vEr s k).s)), (1, .int .u8 (hdV (vA s k).s)), (2, .string (rtT (vB s k).s)), (3, v234)]) rfl (psCons ((hp254 3 (by kernel_rfl) 50 rfl).trans rfl) (psCons ((hp254 5 (by kernel_rfl) 52 rfl).trans rfl) (psCons ((hp254 7 (by kernel_rfl) 54 rfl).trans rfl) (psCons ((hp254 9 (by kernel_rfl) 56 rfl).trans rfl) rfl)))) (by rw [hv257]; exact bu90_53e45328 _ _ _ _ _ _)) ?_
      refine WL.nil ⟨_, rfl, ?_⟩
      refine Chain.step rfl (fun _ => hb238) ?_
      intro E258 hE259 hp260
      refine WL.lit (R := entryR) (X := (avoid (u) (b124 :: (b7 :: (b1 :: X))))) (vs := [.agg #[.int .u64 (rnX (vEr s k).s), .int .u8 (hdV (vA s k).s), .string (rtT (vB s k).s), v234]]) (xs := [({ Term := rnX (vEr s k).s, Kind := hdV (vA s k).s, Data := rtT (vB s k).s, Members := (intsV (vC s k)) } : EntryD)]) (Sure.none rfl) rfl rfl u25 e90 (by show 0 < (4 : Nat); decide) (by show _ * (4 : Nat) ≤ 1024; decide) (lit1 ((hp260 10 (by kernel_rfl) 57 rfl).trans rfl)) rfl rfl (by intro i v x hv hx; match i, hv, hx with | 0, rfl, rfl => exact ⟨v234, rfl, hl235, ⟨(inK_u64' (n := rnX (vEr s k).s) (by omega)), (inK_u8' (n := hdV (vA s k).s) (by omega)), (by show (rtT (vB s k).s).size ≤ maxLen; omega)⟩⟩ | i + 1, hv, _ => simp at hv) (fun v261 w262 hx263 ho264 hlit265 => ?_)
      have hno266 : ∀ g, (v261).ownBlock = some g → g ∉ (b124 :: (b7 :: (b1 :: X))) := by intro g hg hm; have h1 := hlit265 g hg; have h2 := (inCons hb238.lt (inCons hb239.lt (inCons hb237.lt (inMono hX hx241.size)))) g hm; omega
      have hsz267 : w.heap.size ≤ w232.heap.size := hx241.size
      have hsz268 : w125.heap.size ≤ w232.heap.size := hx242.size
      have hsz269 : w132.heap.size ≤ w232.heap.size := hx243.size
      have hsz270 : w139.heap.size ≤ w232.heap.size := hx244.size
      have hsz271 : w150.heap.size ≤ w232.heap.size := hx245.size
      have hsz272 : w162.heap.size ≤ w232.heap.size := hx246.size
      have hsz273 : w178.heap.size ≤ w232.heap.size := hx247.size
      have hsz274 : w195.heap.size ≤ w232.heap.size := hx248.size
      have hsz275 : w213.heap.size ≤ w232.heap.size := hx249.size
      have hx276 : Ext [b124, b7, b1] w w262 := hx241.trans (Ext.any (Y := [b124, b7, b1]) hx263)
      have hx279 : Ext [b124, b7, b1] w139 w262 := hx244.trans (Ext.any (Y := [b124, b7, b1]) hx263)
      have hb286 := hb237.ext hx263 (by simp)
      have hb287 := hb239.ext hx263 (by simp)
      have hb288 := hb238.ext hx263 (by simp)
      have ho289 := ho250.keep hx263 (by intro g hg hm; simp at hm) (by simp)
      have ho290 := ho264.low (B' := w232.heap.size) (Nat.le_refl _)
      refine WL.nil ⟨_, rfl, ?_⟩
      refine Chain.step rfl (fun _ => hb288) ?_
      intro E291 hE292 hp293
      have hno294 := avoid_no (T := u) (n := w232.heap.size) (fun g hg => Nat.le_of_eq (hlit265 g hg).symm) (fun g hg => (ho250.lt g hg).2) hno266
      refine WL.appendOwn (x := .tmp 48) (y := .tmp 58) (R := entryR) (X := (b124 :: (b7 :: (b1 :: X)))) (B := w139.heap.size) (xs := vEs s k) (ys := [({ Term := rnX (vEr s k).s, Kind := hdV (vA s k).s, Data := rtT (vB s k).s, Members := (intsV (vC s k)) } : EntryD)]) (Sure.none rfl) rfl rfl u25 e90 rfl (by show 0 < (4 : Nat); decide) ((hp293 1 (by kernel_rfl) 48 rfl).trans (hv165 1 _ 48 rfl rfl)) ((hp293 11 (by kernel_rfl) 58 rfl).trans rfl) ho289 (Owns.sl' (Owns.mono ho290 (fun b hb => avoid_mem hb)) hno266) (fun g hg => avoid_far (Owns.sl' ho290 hno294) hg) hx279.size (by have hu := vEr_use (s := s) (k := k) (by assumption) (by assumption); simp only [List.length_cons, List.length_nil, vEs, itL_len, maxLen]; omega) (by have hu := vEr_use (s := s) (k := k) (by assumption) (by assumption); simp only [List.length_cons, List.length_nil, vEs, itL_len, maxLen]; omega) (fun v295 w296 ho297 hg298 hf299 => ?_)
      have hno300 := after_no hf299 hob124_154n (inCons hb288.lt (inCons hb287.lt (inCons hb286.lt (inMono hX hx276.size))))
      have hx304 := Ext.ownB (hx279) hg298 (fun k hk => (Owns.lt ho289 k hk).1) (Nat.le_refl _)
      have hb305 := hb286.grown hg298 (fun g hg e => hob124_154n g hg (by simp [e]))
      have hb306 := hb287.grown hg298 (fun g hg e => hob124_154n g hg (by simp [e]))
      have hb307 := hb288.grown hg298 (fun g hg e => hob124_154n g hg (by simp [e]))
      refine WL.nil ⟨_, rfl, ?_⟩
      refine Chain.step rfl (fun _ => hb307) ?_
      intro E308 hE309 hp310
      refine WL.z (.pointer (some ⟨b124, 9, none⟩)) (V.fieldAddr (x := .tmp 5) rfl fl32_9 ((hE309 5 (by kernel_rfl)).trans ((hE164 5 (by kernel_rfl)).trans h5_154))) ?_
      refine WL.nil ⟨_, rfl, ?_⟩
      refine Chain.step rfl (fun h => absurd h (by decide)) ?_
      intro E311 hE312 hp313
      refine WL.store (x := .tmp 60) (y := .tmp 59) (Sure.none rfl) rfl rfl s25 ((hp313 13 (by kernel_rfl) 60 rfl).trans rfl) ((hp313 12 (by kernel_rfl) 59 rfl).trans rfl) (Owns.sl' ho297 hno300).one hb307 (by show (9 : Nat) < 12; decide) (fun w314 hs315 hb316 => ?_)
      replace hb316 : Box w314 b124 32 [.int .u8 (hdV ({ s := s, bad := false } : VRD).s), .int .i64 (IntKind.i64.wrap (rnX (v1 s).s)), .int .i64 (IntKind.i64.wrap (rnX (v2 s).s)), .int .u64 (rnX (v3 s).s), .int .u64 (rnX (v4 s).s), .int .u64 (rnX (v5 s).s), .int .u64 (rnX (v6 s).s), .int .u64 (rnX (v7 s).s), .bool (decide ((hdV (v8 s).s) = 1)), v295, .slice none 0 0, .string (ByteArray.mk #[])] := hb316
      have hb317 := hb305.ext hs315 (by simp; omega)
      have hb318 := hb306.ext hs315 (by simp; omega)
      have hx322 : Ext [b124, b7, b1] w139 w314 := hx304.trans (hs315.mono (by simp))
      have ho324 := Owns.keep (Y := [b124, b7, b1]) ho297 (hs315.mono (by simp)) (fun g hg hm => hno300 g hg (mem_pre (O := [b124, b7, b1]) (X := X) hm)) (fun b hb => mem_pre (O := [b124, b7, b1]) (X := X) hb)
      refine WL.nil ⟨_, rfl, ?_⟩
      refine WP.region ?_
      refine WL.m rfl ?_
      refine WL.z (.int .u64 ((rnX (v9 s).s - (k : Int)) - 1)) (V.arith (x := .tmp 45) rfl ((hE164 6 (by kernel_rfl)).trans h6_154) rfl rfl (wrap_u64 (by omega) (by omega))) ?_
      refine WL.m rfl ?_
      refine WL.nil ?_
      exact ⟨(k + 1, v295), ⟨((hE164 0 (by kernel_rfl)).trans h0_154), ((hE164 2 (by kernel_rfl)).trans h2_154), ((hE164 3 (by kernel_rfl)).trans h3_154), ((hE164 4 (by kernel_rfl)).trans h4_154), ((hE164 5 (by kernel_rfl)).trans h5_154), (int_eq (by omega)), hx322, hb317, hb318, hb316, ⟨(Owns.castE (by rfl) ho324), hno300⟩, (by omega), (bad_step (p := fun j => (vEr s j).bad) (by assumption) (by assumption))⟩, (by show _ - (k + 1) < _ - k; omega)⟩
  refine WP.exit ?_
  refine WP.sr ?_
  have hkn : vEN s = k := vEN_at (by assumption) (by omega) (by first | exact .inl (by omega) | exact .inr (by assumption))
  refine WL.m rfl ?_
  refine WL.c (Sure.none rfl) rfl (C.call1 (x := .tmp 61) rfl cl69 h4_154) (Fnc.mono (vr_ints (r := (vEr s k)) hbb7_154 (by show ((vEr s k).s).size ≤ maxLen; simp only [maxLen]; omega) (by omega) (X := (avoid u (b124 :: (b7 :: (b1 :: X))))) (avoid_in hob124_154 (inCons hbb124_154.lt (inCons hbb7_154.lt (inCons hbb1_154.lt (inMono hX hx155.size)))))) ?_)
  rintro v327 w325 ⟨_, rfl, hl328, hb329, hx326⟩
  have hb330 := hbb1_154.ext hx326 (by simp; omega)
  have hb331 := hbb124_154.ext hx326 (by simp; omega)
  have hb332 : Box w325 b7 117 [.string ((vI s k).s), .bool ((vI s k).bad)] := hb329
  have hle333 : (vI s k).s.size ≤ ((vEr s k).s).size := intsP_le (vEr s k)
  have hx334 : Ext [b124, b7, b1] w w325 := hx155.trans (hx326.mono (by simp))
  have ho339 := Owns.keep (Y := [b124, b7, b1]) hob124_154 (hx326.mono (by simp)) (fun g hg hm => hob124_154n g hg (mem_pre (O := [b124, b7, b1]) (X := X) hm)) (fun b hb => mem_pre (O := [b124, b7, b1]) (X := X) hb)
  have hl340 := Sl.mono (X := (b124 :: (b7 :: (b1 :: X)))) hl328 (fun b hb => avoid_mem hb)
  refine WL.m rfl ?_
  refine WL.c (Sure.none rfl) rfl (C.call1 (x := .tmp 63) rfl cl68 h4_154) (Fnc.mono (vr_text (r := (vI s k)) hb332 (by show ((vI s k).s).size ≤ maxLen; simp only [maxLen]; omega)) ?_)
  rintro _ w341 ⟨rfl, hb343, hx342⟩
  have hb344 := hb330.ext hx342 (by simp; omega)
  have hb345 := hb331.ext hx342 (by simp; omega)
  have hb346 : Box w341 b7 117 [.string ((vEnd s k).s), .bool ((vEnd s k).bad)] := hb343
  have hle347 : (vEnd s k).s.size ≤ ((vI s k).s).size := textP_le (vI s k)
  have hx348 : Ext [b124, b7, b1] w w341 := hx334.trans (hx342.mono (by simp))
  have hx353 : Ext [b124, b7, b1] w325 w341 := (hx342.mono (by simp))
  have ho354 := Owns.keep (Y := [b124, b7, b1]) ho339 (hx342.mono (by simp)) (fun g hg hm => hob124_154n g hg (mem_pre (O := [b124, b7, b1]) (X := X) hm)) (fun b hb => mem_pre (O := [b124, b7, b1]) (X := X) hb)
  refine WL.z (.pointer (some ⟨b124, 10, none⟩)) (V.fieldAddr (x := .tmp 5) rfl fl32_10 h5_154) ?_
  refine WL.store (Sure.none rfl) rfl rfl s22 rfl rfl hl340.one hb345 (by show (10 : Nat) < 12; decide) (fun w355 hs356 hb357 => ?_)
  replace hb357 : Box w355 b124 32 [.int .u8 (hdV ({ s := s, bad := false } : VRD).s), .int .i64 (IntKind.i64.wrap (rnX (v1 s).s)), .int .i64 (IntKind.i64.wrap (rnX (v2 s).s)), .int .u64 (rnX (v3 s).s), .int .u64 (rnX (v4 s).s), .int .u64 (rnX (v5 s).s), .int .u64 (rnX (v6 s).s), .int .u64 (rnX (v7 s).s), .bool (decide ((hdV (v8 s).s) = 1)), u, v327, .string (ByteArray.mk #[])] := hb357
  have hb358 := hb344.ext hs356 (by simp; omega)
  have hb359 := hb346.ext hs356 (by simp; omega)
  have hx360 : Ext [b124, b7, b1] w w355 := hx348.trans (hs356.mono (by simp))
  have hx365 : Ext [b124, b7, b1] w325 w355 := hx353.trans (hs356.mono (by simp))
  have ho367 := Owns.keep (Y := [b124, b7, b1]) ho354 (hs356.mono (by simp)) (fun g hg hm => hob124_154n g hg (mem_pre (O := [b124, b7, b1]) (X := X) hm)) (fun b hb => mem_pre (O := [b124, b7, b1]) (X := X) hb)
  refine WL.z (.pointer (some ⟨b124, 11, none⟩)) (V.fieldAddr (x := .tmp 5) rfl fl32_11 h5_154) ?_
  refine WL.store (Sure.none rfl) rfl rfl s9 rfl rfl rfl hb357 (by show (11 : Nat) < 12; decide) (fun w368 hs369 hb370 => ?_)
  replace hb370 : Box w368 b124 32 [.int .u8 (hdV ({ s := s, bad := false } : VRD).s), .int .i64 (IntKind.i64.wrap (rnX (v1 s).s)), .int .i64 (IntKind.i64.wrap (rnX (v2 s).s)), .int .u64 (rnX (v3 s).s), .int .u64 (rnX (v4 s).s), .int .u64 (rnX (v5 s).s), .int .u64 (rnX (v6 s).s), .int .u64 (rnX (v7 s).s), .bool (decide ((hdV (v8 s).s) = 1)), u, v327, .string (rtT (vI s k).s)] := hb370
  have hb371 := hb358.ext hs369 (by simp; omega)
  have hb372 := hb359.ext hs369 (by simp; omega)
  have hx373 : Ext [b124, b7, b1] w w368 := hx360.trans (hs369.mono (by simp))
  have hx378 : Ext [b124, b7, b1] w325 w368 := hx365.trans (hs369.mono (by simp))
  have ho381 := Owns.keep (Y := [b124, b7, b1]) ho367 (hs369.mono (by simp)) (fun g hg hm => hob124_154n g hg (mem_pre (O := [b124, b7, b1]) (X := X) hm)) (fun b hb => mem_pre (O := [b124, b7, b1]) (X := X) hb)
  refine WL.nil ?_
  refine WP.seq ?_
  refine WP.sr ?_
  have hsz := vMsgK_sz s k hs
  have hag382 : ((vMsgK s k)).InR := vMsgK_in s k hs
  refine WL.z (.agg #[.int .u8 (hdV ({ s := s, bad := false } : VRD).s), .int .i64 (IntKind.i64.wrap (rnX (v1 s).s)), .int .i64 (IntKind.i64.wrap (rnX (v2 s).s)), .int .u64 (rnX (v3 s).s), .int .u64 (rnX (v4 s).s), .int .u64 (rnX (v5 s).s), .int .u64 (rnX (v6 s).s), .int .u64 (rnX (v7 s).s), .bool (decide ((hdV (v8 s).s) = 1)), u, v327, .string (rtT (vI s k).s)]) (V.loadAgg (x := .tmp 5) (cs := [.int .u8 (hdV ({ s := s, bad := false } : VRD).s), .int .i64 (IntKind.i64.wrap (rnX (v1 s).s)), .int .i64 (IntKind.i64.wrap (rnX (v2 s).s)), .int .u64 (rnX (v3 s).s), .int .u64 (rnX (v4 s).s), .int .u64 (rnX (v5 s).s), .int .u64 (rnX (v6 s).s), .int .u64 (rnX (v7 s).s), .bool (decide ((hdV (v8 s).s) = 1)), u, v327, .string (rtT (vI s k).s)]) rfl a32 h5_154 (At.box hb370) rfl) ?_
  refine WL.c (Sure.none rfl) rfl (C.call1 rfl cl22 rfl) (Fnc.mono (vote_Bytes (m := (vMsgK s k)) (vMsgK_rd ⟨u, v327, (by with_reducible rfl), (Owns.sl' ho381 hob124_154n), (hl340.ext (Ext.pre hx378)), hag382⟩) (by assumption)) ?_)
  rintro _ w383 ⟨rfl, hx384⟩
  have hx385 : Ext [b124, b7, b1] w w383 := hx373.trans (Ext.any (Y := [b124, b7, b1]) hx384)
  have hx390 : Ext [b124, b7, b1] w325 w383 := hx378.trans (Ext.any (Y := [b124, b7, b1]) hx384)
  have hb394 := hb371.ext hx384 (by simp)
  have hb395 := hb372.ext hx384 (by simp)
  have hb396 := hb370.ext hx384 (by simp)
  have ho397 := ho381.keep hx384 (by intro g hg hm; simp at hm) (by simp)
  refine WL.m rfl ?_
  refine WL.z (.string (if mayMsgB (vMsgK s k) = true then bytesB (vMsgK s k) else ByteArray.mk #[])) (V.extract rfl rfl rfl) ?_
  refine WL.z (.int .i64 (if mayMsgB (vMsgK s k) = true then 0 else 2)) (V.extract rfl rfl rfl) ?_
  refine WL.m rfl ?_
  refine WL.m rfl ?_
  refine WL.nil ?_
  refine WP.sr ?_
  refine WL.m rfl ?_
  refine WL.z (.pointer (some ⟨b7, 0, none⟩)) (V.nilCheck (x := .tmp 72) rfl h4_154) ?_
  refine WL.f (.bool ((vEnd s k).bad)) fl117_1 rfl p4 (hb395.cell rfl) ?_
  refine WL.vb (c := (vEnd s k).bad) (Sure.none rfl) rfl (V.move rfl rfl) (fun hc398 => ?_) (fun hc398 => ?_)
  · refine WL.skips [(76, some true)] [(84, some true)] (kc (some true) rfl kn) (by kernel_rfl) (fun E399 hK400 hE401 => ?_)
    refine WP.cond_true (hK400 84 (some true) rfl) ?_
    refine WP.sr ?_
    have hvno : vOk s = false := vRead_no1 hkn hc398
    refine WL.z (.agg #[.int .u8 (0), .int .i64 (0), .int .i64 (0), .int .u64 (0), .int .u64 (0), .int .u64 (0), .int .u64 (0), .int .u64 (0), .bool (false), .slice none 0 0, .slice none 0 0, .string (ByteArray.mk #[])]) (V.build1 (L := []) rfl rfl bu32_d7517139) ?_
    refine WL.storeAgg (x := .tmp 2) (vs := [.int .u8 (0), .int .i64 (0), .int .i64 (0), .int .u64 (0), .int .u64 (0), .int .u64 (0), .int .u64 (0), .int .u64 (0), .bool (false), .slice none 0 0, .slice none 0 0, .string (ByteArray.mk #[])]) (Sure.none rfl) rfl rfl s32 ((hE401 2 rfl).trans h2_154) rfl rfl (by intro u hu; simp only [List.mem_cons, List.not_mem_nil, or_false] at hu; rcases hu with rfl | rfl | rfl | rfl | rfl | rfl | rfl | rfl | rfl | rfl | rfl | rfl <;> first | rfl | exact Sl.one (by assumption)) hb394 (by show (0 : Nat) + 12 ≤ 12; decide) (fun w402 hs403 hb404 => ?_)
    replace hb404 : Box w402 b1 32 [.int .u8 (0), .int .i64 (0), .int .i64 (0), .int .u64 (0), .int .u64 (0), .int .u64 (0), .int .u64 (0), .int .u64 (0), .bool (false), .slice none 0 0, .slice none 0 0, .string (ByteArray.mk #[])] := hb404
    have hx407 : Ext [b124, b7, b1] w w402 := hx385.trans (hs403.mono (by simp))
    refine WL.m rfl ?_
    refine WL.nil ?_
    refine WP.ret ?_
    refine resOf.c2 rfl (v := .agg #[.int .u8 (0), .int .i64 (0), .int .i64 (0), .int .u64 (0), .int .u64 (0), .int .u64 (0), .int .u64 (0), .int .u64 (0), .bool (false), .slice none 0 0, .slice none 0 0, .string (ByteArray.mk #[])]) ⟨_, _, ((hE401 2 rfl).trans h2_154), run_loadVar_agg a32 (At.box hb404) rfl⟩ (v' := .int .i64 (2)) rfl ?_
    exact ⟨[.int .u8 (0), .int .i64 (0), .int .i64 (0), .int .u64 (0), .int .u64 (0), .int .u64 (0), .int .u64 (0), .int .u64 (0), .bool (false), .slice none 0 0, .slice none 0 0, .string (ByteArray.mk #[])], (tup2 rfl (int_eq (by first | (rw [if_pos hvok]; done) | (rw [if_neg (by rw [hvno]; decide)]; done)))), (Rep.base (O := [b124, b7, b1]) (castRd (R := msgR) (show (({ Kind := 0, From := 0, To := 0, Term := 0, Index := 0, LogTerm := 0, Commit := 0, Round := 0, Ok := false, Entries := [], Members := [], Snap := (ByteArray.mk #[]) } : MsgD) : MsgD) = vRead s from (by first | exact vRead_zero hvno | exact vRead_is hkn hvok)) ⟨.slice none 0 0, .slice none 0 0, rfl, Sl.nil, Sl.nil, ⟨(inK_u8' (n := 0) (by omega)), (inK_i64' (n := 0) (by omega)), (inK_i64' (n := 0) (by omega)), (inK_u64' (n := 0) (by omega)), (inK_u64' (n := 0) (by omega)), (inK_u64' (n := 0) (by omega)), (inK_u64' (n := 0) (by omega)), (inK_u64' (n := 0) (by omega)), (Nat.zero_le _)⟩⟩)), ((hx407).done (geCons hge_b124_w (geCons hge_b7_w (geCons hge_b1_w geNil))))⟩
  refine WL.my rfl rfl ?_
  refine WL.y (.bool (decide ((if mayMsgB (vMsgK s k) = true then 0 else 2) ≠ 0))) rfl (V.cmp rfl rfl rfl rfl) ?_
  refine WL.k (a := false) rfl rfl ?_
  refine WL.vbp (c := (if mayMsgB (vMsgK s k) = true then 0 else 2) ≠ 0) (Sure.none rfl) rfl (V.move rfl rfl) (fun hc418 => ?_) (fun hc418 => ?_)
  · refine WL.skips [(80, some true)] [(84, some true)] (kc (some true) rfl kn) (by kernel_rfl) (fun E419 hK420 hE421 => ?_)
    refine WP.cond_true (hK420 84 (some true) rfl) ?_
    refine WP.sr ?_
    have hvno : vOk s = false := vRead_no2 hkn hc418
    refine WL.z (.agg #[.int .u8 (0), .int .i64 (0), .int .i64 (0), .int .u64 (0), .int .u64 (0), .int .u64 (0), .int .u64 (0), .int .u64 (0), .bool (false), .slice none 0 0, .slice none 0 0, .string (ByteArray.mk #[])]) (V.build1 (L := []) rfl rfl bu32_d7517139) ?_
    refine WL.storeAgg (x := .tmp 2) (vs := [.int .u8 (0), .int .i64 (0), .int .i64 (0), .int .u64 (0), .int .u64 (0), .int .u64 (0), .int .u64 (0), .int .u64 (0), .bool (false), .slice none 0 0, .slice none 0 0, .string (ByteArray.mk #[])]) (Sure.none rfl) rfl rfl s32 ((hE421 2 rfl).trans h2_154) rfl rfl (by intro u hu; simp only [List.mem_cons, List.not_mem_nil, or_false] at hu; rcases hu with rfl | rfl | rfl | rfl | rfl | rfl | rfl | rfl | rfl | rfl | rfl | rfl <;> first | rfl | exact Sl.one (by assumption)) hb394 (by show (0 : Nat) + 12 ≤ 12; decide) (fun w422 hs423 hb424 => ?_)
    replace hb424 : Box w422 b1 32 [.int .u8 (0), .int .i64 (0), .int .i64 (0), .int .u64 (0), .int .u64 (0), .int .u64 (0), .int .u64 (0), .int .u64 (0), .bool (false), .slice none 0 0, .slice none 0 0, .string (ByteArray.mk #[])] := hb424
    have hx427 : Ext [b124, b7, b1] w w422 := hx385.trans (hs423.mono (by simp))
    refine WL.m rfl ?_
    refine WL.nil ?_
    refine WP.ret ?_
    refine resOf.c2 rfl (v := .agg #[.int .u8 (0), .int .i64 (0), .int .i64 (0), .int .u64 (0), .int .u64 (0), .int .u64 (0), .int .u64 (0), .int .u64 (0), .bool (false), .slice none 0 0, .slice none 0 0, .string (ByteArray.mk #[])]) ⟨_, _, ((hE421 2 rfl).trans h2_154), run_loadVar_agg a32 (At.box hb424) rfl⟩ (v' := .int .i64 (2)) rfl ?_
    exact ⟨[.int .u8 (0), .int .i64 (0), .int .i64 (0), .int .u64 (0), .int .u64 (0), .int .u64 (0), .int .u64 (0), .int .u64 (0), .bool (false), .slice none 0 0, .slice none 0 0, .string (ByteArray.mk #[])], (tup2 rfl (int_eq (by first | (rw [if_pos hvok]; done) | (rw [if_neg (by rw [hvno]; decide)]; done)))), (Rep.base (O := [b124, b7, b1]) (castRd (R := msgR) (show (({ Kind := 0, From := 0, To := 0, Term := 0, Index := 0, LogTerm := 0, Commit := 0, Round := 0, Ok := false, Entries := [], Members := [], Snap := (ByteArray.mk #[]) } : MsgD) : MsgD) = vRead s from (by first | exact vRead_zero hvno | exact vRead_is hkn hvok)) ⟨.slice none 0 0, .slice none 0 0, rfl, Sl.nil, Sl.nil, ⟨(inK_u8' (n := 0) (by omega)), (inK_i64' (n := 0) (by omega)), (inK_i64' (n := 0) (by omega)), (inK_u64' (n := 0) (by omega)), (inK_u64' (n := 0) (by omega)), (inK_u64' (n := 0) (by omega)), (inK_u64' (n := 0) (by omega)), (inK_u64' (n := 0) (by omega)), (Nat.zero_le _)⟩⟩)), ((hx427).done (geCons hge_b124_w (geCons hge_b7_w (geCons hge_b1_w geNil))))⟩
  refine WL.my rfl rfl ?_
  refine WL.my rfl rfl ?_
  refine WL.y (.bool (!(seqB (if mayMsgB (vMsgK s k) = true then bytesB (vMsgK s k) else ByteArray.mk #[]) s))) rfl (V.scmp (y := .tmp 82) rfl rfl h0_154 rfl) ?_
  refine WL.k (a := false) rfl rfl ?_
  refine WL.nil ?_
  refine WP.condn (t := seqB (if mayMsgB (vMsgK s k) = true then bytesB (vMsgK s k) else ByteArray.mk #[]) s) rfl (fun hc438 => ?_) (fun hc438 => ?_)
  · refine WP.sr ?_
    have hvno : vOk s = false := vRead_no3 hkn hc438
    refine WL.z (.agg #[.int .u8 (0), .int .i64 (0), .int .i64 (0), .int .u64 (0), .int .u64 (0), .int .u64 (0), .int .u64 (0), .int .u64 (0), .bool (false), .slice none 0 0, .slice none 0 0, .string (ByteArray.mk #[])]) (V.build1 (L := []) rfl rfl bu32_d7517139) ?_
    refine WL.storeAgg (x := .tmp 2) (vs := [.int .u8 (0), .int .i64 (0), .int .i64 (0), .int .u64 (0), .int .u64 (0), .int .u64 (0), .int .u64 (0), .int .u64 (0), .bool (false), .slice none 0 0, .slice none 0 0, .string (ByteArray.mk #[])]) (Sure.none rfl) rfl rfl s32 h2_154 rfl rfl (by intro u hu; simp only [List.mem_cons, List.not_mem_nil, or_false] at hu; rcases hu with rfl | rfl | rfl | rfl | rfl | rfl | rfl | rfl | rfl | rfl | rfl | rfl <;> first | rfl | exact Sl.one (by assumption)) hb394 (by show (0 : Nat) + 12 ≤ 12; decide) (fun w439 hs440 hb441 => ?_)
    replace hb441 : Box w439 b1 32 [.int .u8 (0), .int .i64 (0), .int .i64 (0), .int .u64 (0), .int .u64 (0), .int .u64 (0), .int .u64 (0), .int .u64 (0), .bool (false), .slice none 0 0, .slice none 0 0, .string (ByteArray.mk #[])] := hb441
    have hx444 : Ext [b124, b7, b1] w w439 := hx385.trans (hs440.mono (by simp))
    refine WL.m rfl ?_
    refine WL.nil ?_
    refine WP.ret ?_
    refine resOf.c2 rfl (v := .agg #[.int .u8 (0), .int .i64 (0), .int .i64 (0), .int .u64 (0), .int .u64 (0), .int .u64 (0), .int .u64 (0), .int .u64 (0), .bool (false), .slice none 0 0, .slice none 0 0, .string (ByteArray.mk #[])]) ⟨_, _, h2_154, run_loadVar_agg a32 (At.box hb441) rfl⟩ (v' := .int .i64 (2)) rfl ?_
    exact ⟨[.int .u8 (0), .int .i64 (0), .int .i64 (0), .int .u64 (0), .int .u64 (0), .int .u64 (0), .int .u64 (0), .int .u64 (0), .bool (false), .slice none 0 0, .slice none 0 0, .string (ByteArray.mk #[])], (tup2 rfl (int_eq (by first | (rw [if_pos hvok]; done) | (rw [if_neg (by rw [hvno]; decide)]; done)))), (Rep.base (O := [b124, b7, b1]) (castRd (R := msgR) (show (({ Kind := 0, From := 0, To := 0, Term := 0, Index := 0, LogTerm := 0, Commit := 0, Round := 0, Ok := false, Entries := [], Members := [], Snap := (ByteArray.mk #[]) } : MsgD) : MsgD) = vRead s from (by first | exact vRead_zero hvno | exact vRead_is hkn hvok)) ⟨.slice none 0 0, .slice none 0 0, rfl, Sl.nil, Sl.nil, ⟨(inK_u8' (n := 0) (by omega)), (inK_i64' (n := 0) (by omega)), (inK_i64' (n := 0) (by omega)), (inK_u64' (n := 0) (by omega)), (inK_u64' (n := 0) (by omega)), (inK_u64' (n := 0) (by omega)), (inK_u64' (n := 0) (by omega)), (inK_u64' (n := 0) (by omega)), (Nat.zero_le _)⟩⟩)), ((hx444).done (geCons hge_b124_w (geCons hge_b7_w (geCons hge_b1_w geNil))))⟩
  refine WP.skip ?_
  refine WP.sr ?_
  have hvok : vOk s = true := vRead_yes hkn hc398 hc418 hc438
  refine WL.f (x := .tmp 5) (u) fl32_9 h5_154 p25 (hb396.cell rfl) ?_
  refine WL.c (Sure.none rfl) rfl (C.call1 rfl cl70 rfl) (Fnc.mono (sl_ClipE (Owns.sl' ho397 hob124_154n) (X := (b124 :: (b7 :: (b1 :: X)))) (inCons hb396.lt (inCons hb395.lt (inCons hb394.lt (inMono hX hx385.size))))) ?_)
  rintro v457 w455 ⟨_, rfl, hl458, hx456⟩
  have hx459 : Ext [b124, b7, b1] w w455 := hx385.trans (Ext.any (Y := [b124, b7, b1]) hx456)
  have hx464 : Ext [b124, b7, b1] w325 w455 := hx390.trans (Ext.any (Y := [b124, b7, b1]) hx456)
  have hb469 := hb394.ext hx456 (by simp)
  have hb471 := hb396.ext hx456 (by simp)
  refine WL.z (.pointer (some ⟨b124, 9, none⟩)) (V.fieldAddr (x := .tmp 5) rfl fl32_9 h5_154) ?_
  refine WL.store (Sure.none rfl) rfl rfl s25 rfl rfl hl458.one hb471 (by show (9 : Nat) < 12; decide) (fun w473 hs474 hb475 => ?_)
  replace hb475 : Box w473 b124 32 [.int .u8 (hdV ({ s := s, bad := false } : VRD).s), .int .i64 (IntKind.i64.wrap (rnX (v1 s).s)), .int .i64 (IntKind.i64.wrap (rnX (v2 s).s)), .int .u64 (rnX (v3 s).s), .int .u64 (rnX (v4 s).s), .int .u64 (rnX (v5 s).s), .int .u64 (rnX (v6 s).s), .int .u64 (rnX (v7 s).s), .bool (decide ((hdV (v8 s).s) = 1)), v457, v327, .string (rtT (vI s k).s)] := hb475
  have hb476 := hb469.ext hs474 (by simp; omega)
  have hx478 : Ext [b124, b7, b1] w w473 := hx459.trans (hs474.mono (by simp))
  have hx483 : Ext [b124, b7, b1] w325 w473 := hx464.trans (hs474.mono (by simp))
  have hx488 : Ext [b124, b7, b1] w455 w473 := (hs474.mono (by simp))
  refine WL.nil ?_
  refine WP.sr ?_
  have hag490 : ((vMsgK s k)).InR := vMsgK_in s k hs
  refine WL.z (.agg #[.int .u8 (hdV ({ s := s, bad := false } : VRD).s), .int .i64 (IntKind.i64.wrap (rnX (v1 s).s)), .int .i64 (IntKind.i64.wrap (rnX (v2 s).s)), .int .u64 (rnX (v3 s).s), .int .u64 (rnX (v4 s).s), .int .u64 (rnX (v5 s).s), .int .u64 (rnX (v6 s).s), .int .u64 (rnX (v7 s).s), .bool (decide ((hdV (v8 s).s) = 1)), v457, v327, .string (rtT (vI s k).s)]) (V.loadAgg (x := .tmp 5) (cs := [.int .u8 (hdV ({ s := s, bad := false } : VRD).s), .int .i64 (IntKind.i64.wrap (rnX (v1 s).s)), .int .i64 (IntKind.i64.wrap (rnX (v2 s).s)), .int .u64 (rnX (v3 s).s), .int .u64 (rnX (v4 s).s), .int .u64 (rnX (v5 s).s), .int .u64 (rnX (v6 s).s), .int .u64 (rnX (v7 s).s), .bool (decide ((hdV (v8 s).s) = 1)), v457, v327, .string (rtT (vI s k).s)]) rfl a32 h5_154 (At.box hb475) rfl) ?_
  refine WL.storeAgg (x := .tmp 2) (vs := [.int .u8 (hdV ({ s := s, bad := false } : VRD).s), .int .i64 (IntKind.i64.wrap (rnX (v1 s).s)), .int .i64 (IntKind.i64.wrap (rnX (v2 s).s)), .int .u64 (rnX (v3 s).s), .int .u64 (rnX (v4 s).s), .int .u64 (rnX (v5 s).s), .int .u64 (rnX (v6 s).s), .int .u64 (rnX (v7 s).s), .bool (decide ((hdV (v8 s).s) = 1)), v457, v327, .string (rtT (vI s k).s)]) (Sure.none rfl) rfl rfl s32 h2_154 rfl rfl (by intro u hu; simp only [List.mem_cons, List.not_mem_nil, or_false] at hu; rcases hu with rfl | rfl | rfl | rfl | rfl | rfl | rfl | rfl | rfl | rfl | rfl | rfl <;> first | rfl | exact Sl.one (by assumption)) hb476 (by show (0 : Nat) + 12 ≤ 12; decide) (fun w491 hs492 hb493 => ?_)
  replace hb493 : Box w491 b1 32 [.int .u8 (hdV ({ s := s, bad := false } : VRD).s), .int .i64 (IntKind.i64.wrap (rnX (v1 s).s)), .int .i64 (IntKind.i64.wrap (rnX (v2 s).s)), .int .u64 (rnX (v3 s).s), .int .u64 (rnX (v4 s).s), .int .u64 (rnX (v5 s).s), .int .u64 (rnX (v6 s).s), .int .u64 (rnX (v7 s).s), .bool (decide ((hdV (v8 s).s) = 1)), v457, v327, .string (rtT (vI s k).s)] := hb493
  have hx496 : Ext [b124, b7, b1] w w491 := hx478.trans (hs492.mono (by simp))
  have hx501 : Ext [b124, b7, b1] w325 w491 := hx483.trans (hs492.mono (by simp))
  have hx506 : Ext [b124, b7, b1] w455 w491 := hx488.trans (hs492.mono (by simp))
  refine WL.m rfl ?_
  refine WL.nil ?_
  refine WP.ret ?_
  refine resOf.c2 rfl (v := .agg #[.int .u8 (hdV ({ s := s, bad := false } : VRD).s), .int .i64 (IntKind.i64.wrap (rnX (v1 s).s)), .int .i64 (IntKind.i64.wrap (rnX (v2 s).s)), .int .u64 (rnX (v3 s).s), .int .u64 (rnX (v4 s).s), .int .u64 (rnX (v5 s).s), .int .u64 (rnX (v6 s).s), .int .u64 (rnX (v7 s).s), .bool (decide ((hdV (v8 s).s) = 1)), v457, v327, .string (rtT (vI s k).s)]) ⟨_, _, h2_154, run_loadVar_agg a32 (At.box hb493) rfl⟩ (v' := .int .i64 (0)) rfl ?_
  exact ⟨[.int .u8 (hdV ({ s := s, bad := false } : VRD).s), .int .i64 (IntKind.i64.wrap (rnX (v1 s).s)), .int .i64 (IntKind.i64.wrap (rnX (v2 s).s)), .int .u64 (rnX (v3 s).s), .int .u64 (rnX (v4 s).s), .int .u64 (rnX (v5 s).s), .int .u64 (rnX (v6 s).s), .int .u64 (rnX (v7 s).s), .bool (decide ((hdV (v8 s).s) = 1)), v457, v327, .string (rtT (vI s k).s)], (tup2 rfl (int_eq (by first | (rw [if_pos hvok]; done) | (rw [if_neg (by rw [hvno]; decide)]; done)))), (Rep.base (O := [b124, b7, b1]) (castRd (R := msgR) (show ((vMsgK s k) : MsgD) = vRead s from (by first | exact vRead_zero hvno | exact vRead_is hkn hvok)) (vMsgK_rd ⟨v457, v327, (by with_reducible rfl), (hl458.ext (Ext.pre hx506)), (hl340.ext (Ext.pre hx501)), hag490⟩))), ((hx496).done (geCons hge_b124_w (geCons hge_b7_w (geCons hge_b1_w geNil))))⟩
end Go.Proofs.Ytbpamkbegggeoaa.X1
