/- My texts, cut to what this claim needs and merged. -/
import Derived.Test.YtbpamkbegggeoaaB10
namespace Go.Proofs.Ytbpamkbegggeoaa.X1
open T W Go.RowKit
set_option maxRecDepth 100000
set_option maxHeartbeats 400000
theorem bu124_4e9ad807 (x0 : ByteArray) : Try.prog.built 124 [(0, .string x0)] = some #[.string x0, .bool (false)] := by kernel_rfl
theorem s30 : Sized Try.prog 30 1 := by unfold Sized; kernel_rfl
theorem cl73 : Callable Try.prog 73 := ⟨Try.f73, Try.func73, by kernel_rfl, rfl⟩
theorem cl13 : Callable Try.prog 13 := ⟨Try.f13, Try.func13, by kernel_rfl, rfl⟩
theorem cl26 : Callable Try.prog 26 := ⟨Try.f26, Try.func26, by kernel_rfl, rfl⟩
theorem rNumP_no {r : RRD} {m : Int} (h : (rNumP r m).Bad = false) : r.Bad = false := or_no h
theorem rOctP_no {r : RRD} (h : (rOctP r).Bad = false) : r.Bad = false := or_no h
theorem rTextP_no {r : RRD} (h : (rTextP r).Bad = false) : r.Bad = false := or_no h
theorem itS_rno {nx : RRD → RRD} (hn : ∀ {r}, (nx r).Bad = false → r.Bad = false) (r : RRD) : ∀ k, (itS nx r k).Bad = false → r.Bad = false
  | 0, h => h
  | k + 1, h => itS_rno hn r k (hn h)
theorem rIntsP_no {r : RRD} (h : (rIntsP r).Bad = false) : r.Bad = false := rNumP_no (itS_rno rNumP_no _ _ h)
theorem rEntP_no {r : RRD} (h : (rEntP r).Bad = false) : (rNumP r 18446744073709551615).Bad = false := rOctP_no (rTextP_no (rIntsP_no h))
theorem rEntP_lt {r : RRD} (h : (rEntP r).Bad = false) : (rEntP r).S.size + 1 ≤ r.S.size :=
  Nat.le_trans (Nat.add_le_add_right (Nat.le_trans (rIntsP_le _) (Nat.le_trans (rTextP_le _) (rOctP_le _))) 1) (rNumP_lt (rEntP_no h))
def r0 (s : ByteArray) : RRD := { S := s, Bad := false }
def r1 (s : ByteArray) : RRD := rOctP (r0 s)
def r2 (s : ByteArray) : RRD := rNumP (r1 s) 1048576
def r3 (s : ByteArray) : RRD := rNumP (r2 s) 1048576
def r4 (s : ByteArray) : RRD := rNumP (r3 s) 18446744073709551615
def r5 (s : ByteArray) : RRD := rNumP (r4 s) 18446744073709551615
def r6 (s : ByteArray) : RRD := rNumP (r5 s) 18446744073709551615
def r7 (s : ByteArray) : RRD := rNumP (r6 s) 18446744073709551615
def r8 (s : ByteArray) : RRD := rNumP (r7 s) 18446744073709551615
def r9 (s : ByteArray) : RRD := rOctP (r8 s)
def r10 (s : ByteArray) : RRD := rNumP (r9 s) 1048576
theorem r9_le (s : ByteArray) : (r9 s).S.size ≤ s.size :=
  Nat.le_trans (rOctP_le _) (Nat.le_trans (rNumP_le _ _) (Nat.le_trans (rNumP_le _ _) (Nat.le_trans (rNumP_le _ _) (Nat.le_trans (rNumP_le _ _) (Nat.le_trans (rNumP_le _ _) (Nat.le_trans (rNumP_le _ _) (Nat.le_trans (rNumP_le _ _) (rOctP_le _))))))))
theorem r10_le (s : ByteArray) : (r10 s).S.size ≤ s.size := Nat.le_trans (rNumP_le _ _) (r9_le s)
def rEs (s : ByteArray) (k : Nat) : List EntryD := itL rEntP rEntV (r10 s) k
def rEr (s : ByteArray) (k : Nat) : RRD := itS rEntP (r10 s) k
theorem rEr_le (s : ByteArray) (k : Nat) : (rEr s k).S.size ≤ s.size := Nat.le_trans (itR_le rEntP_le _ _) (r10_le s)
theorem rEr_use {s : ByteArray} {k : Nat} (h1 : ∀ j, j < k → (rEr s j).Bad = false) (h2 : (rEr s k).Bad = false) : (rEr s k).S.size + k ≤ s.size :=
  Nat.le_trans (itR_use (fun _ h => rEntP_lt h) (r10 s) k h1 h2) (r10_le s)
def rI (s : ByteArray) (k : Nat) : RRD := rIntsP (rEr s k)
def rMsgK (s : ByteArray) (k : Nat) : MsgD := { Kind := hdV ({ S := s, Bad := false } : RRD).S, From := IntKind.i64.wrap (rNumV (r1 s) 1048576), To := IntKind.i64.wrap (rNumV (r2 s) 1048576), Term := rNumV (r3 s) 18446744073709551615, Index := rNumV (r4 s) 18446744073709551615, LogTerm := rNumV (r5 s) 18446744073709551615, Commit := rNumV (r6 s) 18446744073709551615, Round := rNumV (r7 s) 18446744073709551615, Ok := decide (hdV (r8 s).S = 1), Entries := rEs s k, Members := rIntsV (rEr s k), Snap := rTextV (rI s k) }
theorem rMsgK_rd {X : List Nat} {w : World} {cs : List Value} {s : ByteArray} {k : Nat} (h : msgR.rd X w cs ({ Kind := hdV ({ S := s, Bad := false } : RRD).S, From := IntKind.i64.wrap (rNumV (r1 s) 1048576), To := IntKind.i64.wrap (rNumV (r2 s) 1048576), Term := rNumV (r3 s) 18446744073709551615, Index := rNumV (r4 s) 18446744073709551615, LogTerm := rNumV (r5 s) 18446744073709551615, Commit := rNumV (r6 s) 18446744073709551615, Round := rNumV (r7 s) 18446744073709551615, Ok := decide (hdV (r8 s).S = 1), Entries := rEs s k, Members := rIntsV (rEr s k), Snap := rTextV (rI s k) } : MsgD)) : msgR.rd X w cs (rMsgK s k) := h
def rEnd (s : ByteArray) (k : Nat) : RRD := rTextP (rI s k)
def rEN (s : ByteArray) : Nat := itE rEntP RRD.Bad (r10 s) (rNumV (r9 s) 1048576).toNat 0
theorem rEN_at {s : ByteArray} {k : Nat} (h1 : ∀ j, j < k → (rEr s j).Bad = false) (h2 : (k : Int) ≤ rNumV (r9 s) 1048576) (h3 : rNumV (r9 s) 1048576 = (k : Int) ∨ (rEr s k).Bad = true) : rEN s = k := itE_at h1 (by omega) (h3.imp (by omega) id)
def rMsg (s : ByteArray) : MsgD := rMsgK s (rEN s)
def rOk (s : ByteArray) : Bool := !(rEnd s (rEN s)).Bad && seqB (rEnd s (rEN s)).S (ByteArray.mk #[]) && refMayMsgB (rMsg s) && seqB (bytesB (rMsg s)) s
def rRead (s : ByteArray) : MsgD := if rOk s = true then rMsg s else zeroMsg
theorem rMsgK_in (s : ByteArray) (k : Nat) (h : s.size ≤ 1073741824) : (rMsgK s k).InR := by
  simp only [MsgD.InR, rMsgK]
  exact ⟨inK_u8' (hdV_in (r0 s).S), inK_i64' (wrap_i64_in (rNumV (r1 s) 1048576)), inK_i64' (wrap_i64_in (rNumV (r2 s) 1048576)), inK_u64' (rNumV_in (r3 s) _), inK_u64' (rNumV_in (r4 s) _), inK_u64' (rNumV_in (r5 s) _), inK_u64' (rNumV_in (r6 s) _), inK_u64' (rNumV_in (r7 s) _), maxLen_le (Nat.le_trans (rTextV_le (rI s k)) (Nat.le_trans (rIntsP_le (rEr s k)) (Nat.le_trans (rEr_le s k) h)))⟩
theorem rMsgK_sz (s : ByteArray) (k : Nat) (h : s.size ≤ 1073741824) : MsgSz (rMsgK s k) := by
  refine ⟨fun j hj => ?_, Nat.le_trans (rTextV_le (rI s k)) (Nat.le_trans (rIntsP_le (rEr s k)) (Nat.le_trans (rEr_le s k) h))⟩
  show ((rEs s k).getD j default).Data.size ≤ _
  rw [rEs, itL_at _ _ _ _ _ (by rw [show (rMsgK s k).Entries = itL rEntP rEntV (r10 s) k from rfl, itL_len] at hj; exact hj)]
  exact Nat.le_trans (rTextV_le _) (Nat.le_trans (rOctP_le _) (Nat.le_trans (rNumP_le _ _) (Nat.le_trans (rEr_le s j) h)))
theorem rMsgK_ok {s : ByteArray} {k : Nat} (hs : s.size ≤ 1073741824) (h : refMayMsgB (rMsgK s k) = true) : MsgOk (rMsgK s k) := msg_ok (by rw [← refMay_eq _ (rMsgK_in s k hs)]; exact h)
theorem rRead_yes {s : ByteArray} {k : Nat} (hk : rEN s = k) (h1 : (rEnd s k).Bad = false) (h2 : seqB (rEnd s k).S (ByteArray.mk #[]) = true) (h3 : refMayMsgB (rMsgK s k) = true) (h4 : seqB (bytesB (rMsgK s k)) s = true) : rOk s = true := by
  subst hk; simp only [rOk, rMsg, h1, h2, h3, h4]; rfl
theorem rRead_no1 {s : ByteArray} {k : Nat} (hk : rEN s = k) (h1 : (rEnd s k).Bad = true) : rOk s = false := by
  subst hk; simp only [rOk, h1]; rfl
theorem rRead_no2 {s : ByteArray} {k : Nat} (hk : rEN s = k) (h1 : seqB (rEnd s k).S (ByteArray.mk #[]) = false) : rOk s = false := by
  subst hk; simp only [rOk, h1]; simp
theorem rRead_no3 {s : ByteArray} {k : Nat} (hk : rEN s = k) (h1 : refMayMsgB (rMsgK s k) = false) : rOk s = false := by
  subst hk; simp only [rOk, rMsg, h1]; simp
theorem rRead_no4 {s : ByteArray} {k : Nat} (hk : rEN s = k) (h1 : seqB (bytesB (rMsgK s k)) s = false) : rOk s = false := by
  subst hk; simp only [rOk, rMsg, h1]; simp
theorem rRead_is {s : ByteArray} {k : Nat} (hk : rEN s = k) (h : rOk s = true) : rMsgK s k = rRead s := by rw [rRead, if_pos h, rMsg, hk]
theorem rRead_zero {s : ByteArray} (h : rOk s = false) : zeroMsg = rRead s := by rw [rRead, if_neg (by rw [h]; decide)]
set_option maxHeartbeats 16000000 in
theorem ref_Read {w : World} {X : List Nat} (s : ByteArray) (hs : s.size ≤ 1073741824) (hX : ∀ x ∈ X, x < w.heap.size) : Fnc Try.prog 24 #[.string (s)] w (fun v w' => ∃ (u0 : List Value), v = .tuple #[.agg u0.toArray, .int .i64 (if rOk s = true then 0 else 2)] ∧ msgR.rd X w' u0 (rRead s) ∧ Ext [] w w') := by
  have hrx9 := rNumV_in (r9 s) 1048576
  refine Fnc.of_WP (n := 92) Try.func24 rfl Try.ntmps24 (by simp) ?_
  intro E hE
  have h0 : E 0 = .string (s) := hE 0 (by simp)
  clear hE
  refine WP.sr ?_
  refine WL.alloc (cs := [.int .u8 (0), .int .i64 (0), .int .i64 (0), .int .u64 (0), .int .u64 (0), .int .u64 (0), .int .u64 (0), .int .u64 (0), .bool (false), .slice none 0 0, .slice none 0 0, .string (ByteArray.mk #[])]) (Sure.none rfl) rfl rfl z32 rfl (fun b1 w2 hx3 he4 hb5 => ?_)
  have hx6 : Ext [b1] _ _ := (Ext.refl _ _).trans (Ext.any hx3)
  have hge_b1_w : w.heap.size ≤ b1 := by have := Nat.le_refl w.heap.size; omega
  refine WL.m rfl ?_
  refine WL.nil ?_
  refine WP.sr ?_
  refine WL.m rfl ?_
  refine WL.z (.agg #[.string (s), .bool (false)]) (V.build1 (L := [(0, .string (s))]) rfl (psCons h0 rfl) (bu124_4e9ad807 s)) ?_
  refine WL.box (cs := [.string (s), .bool (false)]) (Sure.none rfl) rfl rfl rfl rfl (fun b7 w8 hx9 he10 hb11 => ?_)
  have hlt_b1_b7 : b1 < b7 := by have := hb5.lt; omega
  have hb12 := hb5.ext hx9 (by simp)
  have hx13 : Ext [b7, b1] _ _ := (Ext.cons hx6).trans (Ext.any hx9)
  have hge_b7_w : w.heap.size ≤ b7 := by have := hx6.size; omega
  refine WL.m rfl ?_
  refine WL.nil ?_
  refine WP.sr ?_
  refine WL.alloc (cs := [.int .u8 (0), .int .i64 (0), .int .i64 (0), .int .u64 (0), .int .u64 (0), .int .u64 (0), .int .u64 (0), .int .u64 (0), .bool (false), .slice none 0 0, .slice none 0 0, .string (ByteArray.mk #[])]) (Sure.none rfl) rfl rfl z32 rfl (fun b14 w15 hx16 he17 hb18 => ?_)
  have hlt_b1_b14 : b1 < b14 := by have := hb12.lt; omega
  have hb19 := hb12.ext hx16 (by simp)
  have hlt_b7_b14 : b7 < b14 := by have := hb11.lt; omega
  have hb20 := hb11.ext hx16 (by simp)
  have hx21 : Ext [b14, b7, b1] _ _ := (Ext.cons hx13).trans (Ext.any hx16)
  have hge_b14_w : w.heap.size ≤ b14 := by have := hx13.size; omega
  refine WL.nil ?_
  refine WP.sr ?_
  refine WL.m rfl ?_
  refine WL.c (Sure.none rfl) rfl (C.call1 rfl cl71 rfl) (Fnc.mono (rr_Byte (r := ({ S := s, Bad := false } : RRD)) hb20 (by show (s).size ≤ maxLen; simp only [maxLen]; omega)) ?_)
  rintro _ w22 ⟨rfl, hb24, hx23⟩
  have hb25 := hb19.ext hx23 (by simp; omega)
  have hb26 := hb18.ext hx23 (by simp; omega)
  have hb27 : Box w22 b7 124 [.string ((r1 s).S), .bool ((r1 s).Bad)] := hb24
  have hle28 : (r1 s).S.size ≤ (s).size := rOctP_le ({ S := s, Bad := false } : RRD)
  have hx29 : Ext [b14, b7, b1] w w22 := hx21.trans (hx23.mono (by simp))
  have hx30 : Ext [b14, b7, b1] w15 w22 := (hx23.mono (by simp))
  refine WL.z (.pointer (some ⟨b14, 0, none⟩)) (V.fieldAddr rfl fl32_0 rfl) ?_
  refine WL.store (Sure.none rfl) rfl rfl s30 rfl rfl rfl hb26 (by show (0 : Nat) < 12; decide) (fun w31 hs32 hb33 => ?_)
  replace hb33 : Box w31 b14 32 [.int .u8 (hdV ({ S := s, Bad := false } : RRD).S), .int .i64 (0), .int .i64 (0), .int .u64 (0), .int .u64 (0), .int .u64 (0), .int .u64 (0), .int .u64 (0), .bool (false), .slice none 0 0, .slice none 0 0, .string (ByteArray.mk #[])] := hb33
  have hb34 := hb25.ext hs32 (by simp; omega)
  have hb35 := hb27.ext hs32 (by simp; omega)
  have hx36 : Ext [b14, b7, b1] w w31 := hx29.trans (hs32.mono (by simp))
  have hx37 : Ext [b14, b7, b1] w15 w31 := hx30.trans (hs32.mono (by simp))
  have hx38 : Ext [b14, b7, b1] w22 w31 := (hs32.mono (by simp))
  refine WL.nil ?_
  refine WP.sr ?_
  refine WL.m rfl ?_
  refine WL.c (Sure.none rfl) rfl (C.call2 rfl cl72 rfl rfl) (Fnc.mono (rr_Num (r := (r1 s)) hb35 (by show ((r1 s).S).size ≤ maxLen; simp only [maxLen]; omega) 1048576) ?_)
  rintro _ w39 ⟨rfl, hb41, hx40⟩
  have hb42 := hb34.ext hx40 (by simp; omega)
  have hb43 := hb33.ext hx40 (by simp; omega)
  have hb44 : Box w39 b7 124 [.string ((r2 s).S), .bool ((r2 s).Bad)] := hb41
  have hle45 : (r2 s).S.size ≤ ((r1 s).S).size := rNumP_le (r1 s) 1048576
  have hx46 : Ext [b14, b7, b1] w w39 := hx36.trans (hx40.mono (by simp))
  have hx47 : Ext [b14, b7, b1] w15 w39 := hx37.trans (hx40.mono (by simp))
  have hx48 : Ext [b14, b7, b1] w22 w39 := hx38.trans (hx40.mono (by simp))
  have hx49 : Ext [b14, b7, b1] w31 w39 := (hx40.mono (by simp))
  have hwr50 := wrap_i64_in (rNumV (r1 s) 1048576)
  refine WL.z (.int .i64 (IntKind.i64.wrap (rNumV (r1 s) 1048576))) (V.convInt rfl u23 u3 rfl rfl) ?_
  refine WL.z (.pointer (some ⟨b14, 1, none⟩)) (V.fieldAddr rfl fl32_1 rfl) ?_
  refine WL.store (Sure.none rfl) rfl rfl s3 rfl rfl rfl hb43 (by show (1 : Nat) < 12; decide) (fun w51 hs52 hb53 => ?_)
  replace hb53 : Box w51 b14 32 [.int .u8 (hdV ({ S := s, Bad := false } : RRD).S), .int .i64 (IntKind.i64.wrap (rNumV (r1 s) 1048576)), .int .i64 (0), .int .u64 (0), .int .u64 (0), .int .u64 (0), .int .u64 (0), .int .u64 (0), .bool (false), .slice none 0 0, .slice none 0 0, .string (ByteArray.mk #[])] := hb53
  have hb54 := hb42.ext hs52 (by simp; omega)
  have hb55 := hb44.ext hs52 (by simp; omega)
  have hx56 : Ext [b14, b7, b1] w w51 := hx46.trans (hs52.mono (by simp))
  have hx57 : Ext [b14, b7, b1] w15 w51 := hx47.trans (hs52.mono (by simp))
  have hx58 : Ext [b14, b7, b1] w22 w51 := hx48.trans (hs52.mono (by simp))
  have hx59 : Ext [b14, b7, b1] w31 w51 := hx49.trans (hs52.mono (by simp))
  have hx60 : Ext [b14, b7, b1] w39 w51 := (hs52.mono (by simp))
  refine WL.nil ?_
  refine WP.sr ?_
  refine WL.m rfl ?_
  refine WL.c (Sure.none rfl) rfl (C.call2 rfl cl72 rfl rfl) (Fnc.mono (rr_Num (r := (r2 s)) hb55 (by show ((r2 s).S).size ≤ maxLen; simp only [maxLen]; omega) 1048576) ?_)
  rintro _ w61 ⟨rfl, hb63, hx62⟩
  have hb64 := hb54.ext hx62 (by simp; omega)
  have hb65 := hb53.ext hx62 (by simp; omega)
  have hb66 : Box w61 b7 124 [.string ((r3 s).S), .bool ((r3 s).Bad)] := hb63
  have hle67 : (r3 s).S.size ≤ ((r2 s).S).size := rNumP_le (r2 s) 1048576
  have hx68 : Ext [b14, b7, b1] w w61 := hx56.trans (hx62.mono (by simp))
  have hx69 : Ext [b14, b7, b1] w15 w61 := hx57.trans (hx62.mono (by simp))
  have hx70 : Ext [b14, b7, b1] w22 w61 := hx58.trans (hx62.mono (by simp))
  have hx71 : Ext [b14, b7, b1] w31 w61 := hx59.trans (hx62.mono (by simp))
  have hx72 : Ext [b14, b7, b1] w39 w61 := hx60.trans (hx62.mono (by simp))
  have hx73 : Ext [b14, b7, b1] w51 w61 := (hx62.mono (by simp))
  have hwr74 := wrap_i64_in (rNumV (r2 s) 1048576)
  refine WL.z (.int .i64 (IntKind.i64.wrap (rNumV (r2 s) 1048576))) (V.convInt rfl u23 u3 rfl rfl) ?_
  refine WL.z (.pointer (some ⟨b14, 2, none⟩)) (V.fieldAddr rfl fl32_2 rfl) ?_
  refine WL.store (Sure.none rfl) rfl rfl s3 rfl rfl rfl hb65 (by show (2 : Nat) < 12; decide) (fun w75 hs76 hb77 => ?_)
  replace hb77 : Box w75 b14 32 [.int .u8 (hdV ({ S := s, Bad := false } : RRD).S), .int .i64 (IntKind.i64.wrap (rNumV (r1 s) 1048576)), .int .i64 (IntKind.i64.wrap (rNumV (r2 s) 1048576)), .int .u64 (0), .int .u64 (0), .int .u64 (0), .int .u64 (0), .int .u64 (0), .bool (false), .slice none 0 0, .slice none 0 0, .string (ByteArray.mk #[])] := hb77
  have hb78 := hb64.ext hs76 (by simp; omega)
  have hb79 := hb66.ext hs76 (by simp; omega)
  have hx80 : Ext [b14, b7, b1] w w75 := hx68.trans (hs76.mono (by simp))
  have hx81 : Ext [b14, b7, b1] w15 w75 := hx69.trans (hs76.mono (by simp))
  have hx82 : Ext [b14, b7, b1] w22 w75 := hx70.trans (hs76.mono (by simp))
  have hx83 : Ext [b14, b7, b1] w31 w75 := hx71.trans (hs76.mono (by simp))
  have hx84 : Ext [b14, b7, b1] w39 w75 := hx72.trans (hs76.mono (by simp))
  have hx85 : Ext [b14, b7, b1] w51 w75 := hx73.trans (hs76.mono (by simp))
  have hx86 : Ext [b14, b7, b1] w61 w75 := (hs76.mono (by simp))
  refine WL.nil ?_
  refine WP.sr ?_
  refine WL.m rfl ?_
  refine WL.c (Sure.none rfl) rfl (C.call2 rfl cl72 rfl rfl) (Fnc.mono (rr_Num (r := (r3 s)) hb79 (by show ((r3 s).S).size ≤ maxLen; simp only [maxLen]; omega) 18446744073709551615) ?_)
  rintro _ w87 ⟨rfl, hb89, hx88⟩
  have hb90 := hb78.ext hx88 (by simp; omega)
  have hb91 := hb77.ext hx88 (by simp; omega)
  have hb92 : Box w87 b7 124 [.string ((r4 s).S), .bool ((r4 s).Bad)] := hb89
  have hle93 : (r4 s).S.size ≤ ((r3 s).S).size := rNumP_le (r3 s) 18446744073709551615
  have hx94 : Ext [b14, b7, b1] w w87 := hx80.trans (hx88.mono (by simp))
  have hx95 : Ext [b14, b7, b1] w15 w87 := hx81.trans (hx88.mono (by simp))
  have hx96 : Ext [b14, b7, b1] w22 w87 := hx82.trans (hx88.mono (by simp))
  have hx97 : Ext [b14, b7, b1] w31 w87 := hx83.trans (hx88.mono (by simp))
  have hx98 : Ext [b14, b7, b1] w39 w87 := hx84.trans (hx88.mono (by simp))
  have hx99 : Ext [b14, b7, b1] w51 w87 := hx85.trans (hx88.mono (by simp))
  have hx100 : Ext [b14, b7, b1] w61 w87 := hx86.trans (hx88.mono (by simp))
  have hx101 : Ext [b14, b7, b1] w75 w87 := (hx88.mono (by simp))
  refine WL.z (.pointer (some ⟨b14, 3, none⟩)) (V.fieldAddr rfl fl32_3 rfl) ?_
  refine WL.store (Sure.none rfl) rfl rfl s23 rfl rfl rfl hb91 (by show (3 : Nat) < 12; decide) (fun w102 hs103 hb104 => ?_)
  replace hb104 : Box w102 b14 32 [.int .u8 (hdV ({ S := s, Bad := false } : RRD).S), .int .i64 (IntKind.i64.wrap (rNumV (r1 s) 1048576)), .int .i64 (IntKind.i64.wrap (rNumV (r2 s) 1048576)), .int .u64 (rNumV (r3 s) 18446744073709551615), .int .u64 (0), .int .u64 (0), .int .u64 (0), .int .u64 (0), .bool (false), .slice none 0 0, .slice none 0 0, .string (ByteArray.mk #[])] := hb104
  have hb105 := hb90.ext hs103 (by simp; omega)
  have hb106 := hb92.ext hs103 (by simp; omega)
  have hx107 : Ext [b14, b7, b1] w w102 := hx94.trans (hs103.mono (by simp))
  have hx108 : Ext [b14, b7, b1] w15 w102 := hx95.trans (hs103.mono (by simp))
  have hx109 : Ext [b14, b7, b1] w22 w102 := hx96.trans (hs103.mono (by simp))
  have hx110 : Ext [b14, b7, b1] w31 w102 := hx97.trans (hs103.mono (by simp))
  have hx111 : Ext [b14, b7, b1] w39 w102 := hx98.trans (hs103.mono (by simp))
  have hx112 : Ext [b14, b7, b1] w51 w102 := hx99.trans (hs103.mono (by simp))
  have hx113 : Ext [b14, b7, b1] w61 w102 := hx100.trans (hs103.mono (by simp))
  have hx114 : Ext [b14, b7, b1] w75 w102 := hx101.trans (hs103.mono (by simp))
  have hx115 : Ext [b14, b7, b1] w87 w102 := (hs103.mono (by simp))
  refine WL.nil ?_
  refine WP.sr ?_
  refine WL.m rfl ?_
  refine WL.c (Sure.none rfl) rfl (C.call2 rfl cl72 rfl rfl) (Fnc.mono (rr_Num (r := (r4 s)) hb106 (by show ((r4 s).S).size ≤ maxLen; simp only [maxLen]; omega) 18446744073709551615) ?_)
  rintro _ w116 ⟨rfl, hb118, hx117⟩
  have hb119 := hb105.ext hx117 (by simp; omega)
  have hb120 := hb104.ext hx117 (by simp; omega)
  have hb121 : Box w116 b7 124 [.string ((r5 s).S), .bool ((r5 s).Bad)] := hb118
  have hle122 : (r5 s).S.size ≤ ((r4 s).S).size := rNumP_le (r4 s) 18446744073709551615
  have hx123 : Ext [b14, b7, b1] w w116 := hx107.trans (hx117.mono (by simp))
  have hx124 : Ext [b14, b7, b1] w15 w116 := hx108.trans (hx117.mono (by simp))
  have hx125 : Ext [b14, b7, b1] w22 w116 := hx109.trans (hx117.mono (by simp))
  have hx126 : Ext [b14, b7, b1] w31 w116 := hx110.trans (hx117.mono (by simp))
  have hx127 : Ext [b14, b7, b1] w39 w116 := hx111.trans (hx117.mono (by simp))
  have hx128 : Ext [b14, b7, b1] w51 w116 := hx112.trans (hx117.mono (by simp))
  have hx129 : Ext [b14, b7, b1] w61 w116 := hx113.trans (hx117.mono (by simp))
  have hx130 : Ext [b14, b7, b1] w75 w116 := hx114.trans (hx117.mono (by simp))
  have hx131 : Ext [b14, b7, b1] w87 w116 := hx115.trans (hx117.mono (by simp))
  have hx132 : Ext [b14, b7, b1] w102 w116 := (hx117.mono (by simp))
  refine WL.z (.pointer (some ⟨b14, 4, none⟩)) (V.fieldAddr rfl fl32_4 rfl) ?_
  refine WL.store (Sure.none rfl) rfl rfl s23 rfl rfl rfl hb120 (by show (4 : Nat) < 12; decide) (fun w133 hs134 hb135 => ?_)
  replace hb135 : Box w133 b14 32 [.int .u8 (hdV ({ S := s, Bad := false } : RRD).S), .int .i64 (IntKind.i64.wrap (rNumV (r1 s) 1048576)), .int .i64 (IntKind.i64.wrap (rNumV (r2 s) 1048576)), .int .u64 (rNumV (r3 s) 18446744073709551615), .int .u64 (rNumV (r4 s) 18446744073709551615), .int .u64 (0), .int .u64 (0), .int .u64 (0), .bool (false), .slice none 0 0, .slice none 0 0, .string (ByteArray.mk #[])] := hb135
  have hb136 := hb119.ext hs134 (by simp; omega)
  have hb137 := hb121.ext hs134 (by simp; omega)
  have hx138 : Ext [b14, b7, b1] w w133 := hx123.trans (hs134.mono (by simp))
  have hx139 : Ext [b14, b7, b1] w15 w133 := hx124.trans (hs134.mono (by simp))
  have hx140 : Ext [b14, b7, b1] w22 w133 := hx125.trans (hs134.mono (by simp))
  have hx141 : Ext [b14, b7, b1] w31 w133 := hx126.trans (hs134.mono (by simp))
  have hx142 : Ext [b14, b7, b1] w39 w133 := hx127.trans (hs134.mono (by simp))
  have hx143 : Ext [b14, b7, b1] w51 w133 := hx128.trans (hs134.mono (by simp))
  have hx144 : Ext [b14, b7, b1] w61 w133 := hx129.trans (hs134.mono (by simp))
  have hx145 : Ext [b14, b7, b1] w75 w133 := hx130.trans (hs134.mono (by simp))
  have hx146 : Ext [b14, b7, b1] w87 w133 := hx131.trans (hs134.mono (by simp))
  have hx147 : Ext [b14, b7, b1] w102 w133 := hx132.trans (hs134.mono (by simp))
  have hx148 : Ext [b14, b7, b1] w116 w133 := (hs134.mono (by simp))
  refine WL.nil ?_
  refine WP.sr ?_
  refine WL.m rfl ?_
  refine WL.c (Sure.none rfl) rfl (C.call2 rfl cl72 rfl rfl) (Fnc.mono (rr_Num (r := (r5 s)) hb137 (by show ((r5 s).S).size ≤ maxLen; simp only [maxLen]; omega) 18446744073709551615) ?_)
  rintro _ w149 ⟨rfl, hb151, hx150⟩
  have hb152 := hb136.ext hx150 (by simp; omega)
  have hb153 := hb135.ext hx150 (by simp; omega)
  have hb154 : Box w149 b7 124 [.string ((r6 s).S), .bool ((r6 s).Bad)] := hb151
  have hle155 : (r6 s).S.size ≤ ((r5 s).S).size := rNumP_le (r5 s) 18446744073709551615
  have hx156 : Ext [b14, b7, b1] w w149 := hx138.trans (hx150.mono (by simp))
  have hx157 : Ext [b14, b7, b1] w15 w149 := hx139.trans (hx150.mono (by simp))
  have hx158 : Ext [b14, b7, b1] w22 w149 := hx140.trans (hx150.mono (by simp))
  have hx159 : Ext [b14, b7, b1] w31 w149 := hx141.trans (hx150.mono (by simp))
  have hx160 : Ext [b14, b7, b1] w39 w149 := hx142.trans (hx150.mono (by simp))
  have hx161 : Ext [b14, b7, b1] w51 w149 := hx143.trans (hx150.mono (by simp))
  have hx162 : Ext [b14, b7, b1] w61 w149 := hx144.trans (hx150.mono (by simp))
  have hx163 : Ext [b14, b7, b1] w75 w149 := hx145.trans (hx150.mono (by simp))
  have hx164 : Ext [b14, b7, b1] w87 w149 := hx146.trans (hx150.mono (by simp))
  have hx165 : Ext [b14, b7, b1] w102 w149 := hx147.trans (hx150.mono (by simp))
  have hx166 : Ext [b14, b7, b1] w116 w149 := hx148.trans (hx150.mono (by simp))
  have hx167 : Ext [b14, b7, b1] w133 w149 := (hx150.mono (by simp))
  refine WL.z (.pointer (some ⟨b14, 5, none⟩)) (V.fieldAddr rfl fl32_5 rfl) ?_
  refine WL.store (Sure.none rfl) rfl rfl s23 rfl rfl rfl hb153 (by show (5 : Nat) < 12; decide) (fun w168 hs169 hb170 => ?_)
  replace hb170 : Box w168 b14 32 [.int .u8 (hdV ({ S := s, Bad := false } : RRD).S), .int .i64 (IntKind.i64.wrap (rNumV (r1 s) 1048576)), .int .i64 (IntKind.i64.wrap (rNumV (r2 s) 1048576)), .int .u64 (rNumV (r3 s) 18446744073709551615), .int .u64 (rNumV (r4 s) 18446744073709551615), .int .u64 (rNumV (r5 s) 18446744073709551615), .int .u64 (0), .int .u64 (0), .bool (false), .slice none 0 0, .slice none 0 0, .string (ByteArray.mk #[])] := hb170
  have hb171 := hb152.ext hs169 (by simp; omega)
  have hb172 := hb154.ext hs169 (by simp; omega)
  have hx173 : Ext [b14, b7, b1] w w168 := hx156.trans (hs169.mono (by simp))
  have hx174 : Ext [b14, b7, b1] w15 w168 := hx157.trans (hs169.mono (by simp))
  have hx175 : Ext [b14, b7, b1] w22 w168 := hx158.trans (hs169.mono (by simp))
  have hx176 : Ext [b14, b7, b1] w31 w168 := hx159.trans (hs169.mono (by simp))
  have hx177 : Ext [b14, b7, b1] w39 w168 := hx160.trans (hs169.mono (by simp))
  have hx178 : Ext [b14, b7, b1] w51 w168 := hx161.trans (hs169.mono (by simp))
  have hx179 : Ext [b14, b7, b1] w61 w168 := hx162.trans (hs169.mono (by simp))
  have hx180 : Ext [b14, b7, b1] w75 w168 := hx163.trans (hs169.mono (by simp))
  have hx181 : Ext [b14, b7, b1] w87 w168 := hx164.trans (hs169.mono (by simp))
  have hx182 : Ext [b14, b7, b1] w102 w168 := hx165.trans (hs169.mono (by simp))
  have hx183 : Ext [b14, b7, b1] w116 w168 := hx166.trans (hs169.mono (by simp))
  have hx184 : Ext [b14, b7, b1] w133 w168 := hx167.trans (hs169.mono (by simp))
  have hx185 : Ext [b14, b7, b1] w149 w168 := (hs169.mono (by simp))
  refine WL.nil ?_
  refine WP.sr ?_
  refine WL.m rfl ?_
  refine WL.c (Sure.none rfl) rfl (C.call2 rfl cl72 rfl rfl) (Fnc.mono (rr_Num (r := (r6 s)) hb172 (by show ((r6 s).S).size ≤ maxLen; simp only [maxLen]; omega) 18446744073709551615) ?_)
  rintro _ w186 ⟨rfl, hb188, hx187⟩
  have hb189 := hb171.ext hx187 (by simp; omega)
  have hb190 := hb170.ext hx187 (by simp; omega)
  have hb191 : Box w186 b7 124 [.string ((r7 s).S), .bool ((r7 s).Bad)] := hb188
  have hle192 : (r7 s).S.size ≤ ((r6 s).S).size := rNumP_le (r6 s) 18446744073709551615
  have hx193 : Ext [b14, b7, b1] w w186 := hx173.trans (hx187.mono (by simp))
  have hx194 : Ext [b14, b7, b1] w15 w186 := hx174.trans (hx187.mono (by simp))
  have hx195 : Ext [b14, b7, b1] w22 w186 := hx175.trans (hx187.mono (by simp))
  have hx196 : Ext [b14, b7, b1] w31 w186 := hx176.trans (hx187.mono (by simp))
  have hx197 : Ext [b14, b7, b1] w39 w186 := hx177.trans (hx187.mono (by simp))
  have hx198 : Ext [b14, b7, b1] w51 w186 := hx178.trans (hx187.mono (by simp))
  have hx199 : Ext [b14, b7, b1] w61 w186 := hx179.trans (hx187.mono (by simp))
  have hx200 : Ext [b14, b7, b1] w75 w186 := hx180.trans (hx187.mono (by simp))
  have hx201 : Ext [b14, b7, b1] w87 w186 := hx181.trans (hx187.mono (by simp))
  have hx202 : Ext [b14, b7, b1] w102 w186 := hx182.trans (hx187.mono (by simp))
  have hx203 : Ext [b14, b7, b1] w116 w186 := hx183.trans (hx187.mono (by simp))
  have hx204 : Ext [b14, b7, b1] w133 w186 := hx184.trans (hx187.mono (by simp))
  have hx205 : Ext [b14, b7, b1] w149 w186 := hx185.trans (hx187.mono (by simp))
  have hx206 : Ext [b14, b7, b1] w168 w186 := (hx187.mono (by simp))
  refine WL.z (.pointer (some ⟨b14, 6, none⟩)) (V.fieldAddr rfl fl32_6 rfl) ?_
  refine WL.store (Sure.none rfl) rfl rfl s23 rfl rfl rfl hb190 (by show (6 : Nat) < 12; decide) (fun w207 hs208 hb209 => ?_)
  replace hb209 : Box w207 b14 32 [.int .u8 (hdV ({ S := s, Bad := false } : RRD).S), .int .i64 (IntKind.i64.wrap (rNumV (r1 s) 1048576)), .int .i64 (IntKind.i64.wrap (rNumV (r2 s) 1048576)), .int .u64 (rNumV (r3 s) 18446744073709551615), .int .u64 (rNumV (r4 s) 18446744073709551615), .int .u64 (rNumV (r5 s) 18446744073709551615), .int .u64 (rNumV (r6 s) 18446744073709551615), .int .u64 (0), .bool (false), .slice none 0 0, .slice none 0 0, .string (ByteArray.mk #[])] := hb209
  have hb210 := hb189.ext hs208 (by simp; omega)
  have hb211 := hb191.ext hs208 (by simp; omega)
  have hx212 : Ext [b14, b7, b1] w w207 := hx193.trans (hs208.mono (by simp))
  have hx213 : Ext [b14, b7, b1] w15 w207 := hx194.trans (hs208.mono (by simp))
  have hx214 : Ext [b14, b7, b1] w22 w207 := hx195.trans (hs208.mono (by simp))
  have hx215 : Ext [b14, b7, b1] w31 w207 := hx196.trans (hs208.mono (by simp))
  have hx216 : Ext [b14, b7, b1] w39 w207 := hx197.trans (hs208.mono (by simp))
  have hx217 : Ext [b14, b7, b1] w51 w207 := hx198.trans (hs208.mono (by simp))
  have hx218 : Ext [b14, b7, b1] w61 w207 := hx199.trans (hs208.mono (by simp))
  have hx219 : Ext [b14, b7, b1] w75 w207 := hx200.trans (hs208.mono (by simp))
  have hx220 : Ext [b14, b7, b1] w87 w207 := hx201.trans (hs208.mono (by simp))
  have hx221 : Ext [b14, b7, b1] w102 w207 := hx202.trans (hs208.mono (by simp))
  have hx222 : Ext [b14, b7, b1] w116 w207 := hx203.trans (hs208.mono (by simp))
  have hx223 : Ext [b14, b7, b1] w133 w207 := hx204.trans (hs208.mono (by simp))
  have hx224 : Ext [b14, b7, b1] w149 w207 := hx205.trans (hs208.mono (by simp))
  have hx225 : Ext [b14, b7, b1] w168 w207 := hx206.trans (hs208.mono (by simp))
  have hx226 : Ext [b14, b7, b1] w186 w207 := (hs208.mono (by simp))
  refine WL.nil ?_
  refine WP.sr ?_
  refine WL.m rfl ?_
  refine WL.c (Sure.none rfl) rfl (C.call2 rfl cl72 rfl rfl) (Fnc.mono (rr_Num (r := (r7 s)) hb211 (by show ((r7 s).S).size ≤ maxLen; simp only [maxLen]; omega) 18446744073709551615) ?_)
  rintro _ w227 ⟨rfl, hb229, hx228⟩
  have hb230 := hb210.ext hx228 (by simp; omega)
  have hb231 := hb209.ext hx228 (by simp; omega)
  have hb232 : Box w227 b7 124 [.string ((r8 s).S), .bool ((r8 s).Bad)] := hb229
  have hle233 : (r8 s).S.size ≤ ((r7 s).S).size := rNumP_le (r7 s) 18446744073709551615
  have hx234 : Ext [b14, b7, b1] w w227 := hx212.trans (hx228.mono (by simp))
  have hx235 : Ext [b14, b7, b1] w15 w227 := hx213.trans (hx228.mono (by simp))
  have hx236 : Ext [b14, b7, b1] w22 w227 := hx214.trans (hx228.mono (by simp))
  have hx237 : Ext [b14, b7, b1] w31 w227 := hx215.trans (hx228.mono (by simp))
  have hx238 : Ext [b14, b7, b1] w39 w227 := hx216.trans (hx228.mono (by simp))
  have hx239 : Ext [b14, b7, b1] w51 w227 := hx217.trans (hx228.mono (by simp))
  have hx240 : Ext [b14, b7, b1] w61 w227 := hx218.trans (hx228.mono (by simp))
  have hx241 : Ext [b14, b7, b1] w75 w227 := hx219.trans (hx228.mono (by simp))
  have hx242 : Ext [b14, b7, b1] w87 w227 := hx220.trans (hx228.mono (by simp))
  have hx243 : Ext [b14, b7, b1] w102 w227 := hx221.trans (hx228.mono (by simp))
  have hx244 : Ext [b14, b7, b1] w116 w227 := hx222.trans (hx228.mono (by simp))
  have hx245 : Ext [b14, b7, b1] w133 w227 := hx223.trans (hx228.mono (by simp))
  have hx246 : Ext [b14, b7, b1] w149 w227 := hx224.trans (hx228.mono (by simp))
  have hx247 : Ext [b14, b7, b1] w168 w227 := hx225.trans (hx228.mono (by simp))
  have hx248 : Ext [b14, b7, b1] w186 w227 := hx226.trans (hx228.mono (by simp))
  have hx249 : Ext [b14, b7, b1] w207 w227 := (hx228.mono (by simp))
  refine WL.z (.pointer (some ⟨b14, 7, none⟩)) (V.fieldAddr rfl fl32_7 rfl) ?_
  refine WL.store (Sure.none rfl) rfl rfl s23 rfl rfl rfl hb231 (by show (7 : Nat) < 12; decide) (fun w250 hs251 hb252 => ?_)
  replace hb252 : Box w250 b14 32 [.int .u8 (hdV ({ S := s, Bad := false } : RRD).S), .int .i64 (IntKind.i64.wrap (rNumV (r1 s) 1048576)), .int .i64 (IntKind.i64.wrap (rNumV (r2 s) 1048576)), .int .u64 (rNumV (r3 s) 18446744073709551615), .int .u64 (rNumV (r4 s) 18446744073709551615), .int .u64 (rNumV (r5 s) 18446744073709551615), .int .u64 (rNumV (r6 s) 18446744073709551615), .int .u64 (rNumV (r7 s) 18446744073709551615), .bool (false), .slice none 0 0, .slice none 0 0, .string (ByteArray.mk #[])] := hb252
  have hb253 := hb230.ext hs251 (by simp; omega)
  have hb254 := hb232.ext hs251 (by simp; omega)
  have hx255 : Ext [b14, b7, b1] w w250 := hx234.trans (hs251.mono (by simp))
  have hx256 : Ext [b14, b7, b1] w15 w250 := hx235.trans (hs251.mono (by simp))
  have hx257 : Ext [b14, b7, b1] w22 w250 := hx236.trans (hs251.mono (by simp))
  have hx258 : Ext [b14, b7, b1] w31 w250 := hx237.trans (hs251.mono (by simp))
  have hx259 : Ext [b14, b7, b1] w39 w250 := hx238.trans (hs251.mono (by simp))
  have hx260 : Ext [b14, b7, b1] w51 w250 := hx239.trans (hs251.mono (by simp))
  have hx261 : Ext [b14, b7, b1] w61 w250 := hx240.trans (hs251.mono (by simp))
  have hx262 : Ext [b14, b7, b1] w75 w250 := hx241.trans (hs251.mono (by simp))
  have hx263 : Ext [b14, b7, b1] w87 w250 := hx242.trans (hs251.mono (by simp))
  have hx264 : Ext [b14, b7, b1] w102 w250 := hx243.trans (hs251.mono (by simp))
  have hx265 : Ext [b14, b7, b1] w116 w250 := hx244.trans (hs251.mono (by simp))
  have hx266 : Ext [b14, b7, b1] w133 w250 := hx245.trans (hs251.mono (by simp))
  have hx267 : Ext [b14, b7, b1] w149 w250 := hx246.trans (hs251.mono (by simp))
  have hx268 : Ext [b14, b7, b1] w168 w250 := hx247.trans (hs251.mono (by simp))
  have hx269 : Ext [b14, b7, b1] w186 w250 := hx248.trans (hs251.mono (by simp))
  have hx270 : Ext [b14, b7, b1] w207 w250 := hx249.trans (hs251.mono (by simp))
  have hx271 : Ext [b14, b7, b1] w227 w250 := (hs251.mono (by simp))
  refine WL.nil ?_
  refine WP.sr ?_
  refine WL.m rfl ?_
  refine WL.c (Sure.none rfl) rfl (C.call1 rfl cl71 rfl) (Fnc.mono (rr_Byte (r := (r8 s)) hb254 (by show ((r8 s).S).size ≤ maxLen; simp only [maxLen]; omega)) ?_)
  rintro _ w272 ⟨rfl, hb274, hx273⟩
  have hb275 := hb253.ext hx273 (by simp; omega)
  have hb276 := hb252.ext hx273 (by simp; omega)
  have hb277 : Box w272 b7 124 [.string ((r9 s).S), .bool ((r9 s).Bad)] := hb274
  have hle278 : (r9 s).S.size ≤ ((r8 s).S).size := rOctP_le (r8 s)
  have hx279 : Ext [b14, b7, b1] w w272 := hx255.trans (hx273.mono (by simp))
  have hx280 : Ext [b14, b7, b1] w15 w272 := hx256.trans (hx273.mono (by simp))
  have hx281 : Ext [b14, b7, b1] w22 w272 := hx257.trans (hx273.mono (by simp))
  have hx282 : Ext [b14, b7, b1] w31 w272 := hx258.trans (hx273.mono (by simp))
  have hx283 : Ext [b14, b7, b1] w39 w272 := hx259.trans (hx273.mono (by simp))
  have hx284 : Ext [b14, b7, b1] w51 w272 := hx260.trans (hx273.mono (by simp))
  have hx285 : Ext [b14, b7, b1] w61 w272 := hx261.trans (hx273.mono (by simp))
  have hx286 : Ext [b14, b7, b1] w75 w272 := hx262.trans (hx273.mono (by simp))
  have hx287 : Ext [b14, b7, b1] w87 w272 := hx263.trans (hx273.mono (by simp))
  have hx288 : Ext [b14, b7, b1] w102 w272 := hx264.trans (hx273.mono (by simp))
  have hx289 : Ext [b14, b7, b1] w116 w272 := hx265.trans (hx273.mono (by simp))
  have hx290 : Ext [b14, b7, b1] w133 w272 := hx266.trans (hx273.mono (by simp))
  have hx291 : Ext [b14, b7, b1] w149 w272 := hx267.trans (hx273.mono (by simp))
  have hx292 : Ext [b14, b7, b1] w168 w272 := hx268.trans (hx273.mono (by simp))
  have hx293 : Ext [b14, b7, b1] w186 w272 := hx269.trans (hx273.mono (by simp))
  have hx294 : Ext [b14, b7, b1] w207 w272 := hx270.trans (hx273.mono (by simp))
  have hx295 : Ext [b14, b7, b1] w227 w272 := hx271.trans (hx273.mono (by simp))
  have hx296 : Ext [b14, b7, b1] w250 w272 := (hx273.mono (by simp))
  refine WL.z (.bool (decide ((hdV (r8 s).S) = 1))) (V.cmp rfl rfl rfl rfl) ?_
  refine WL.z (.pointer (some ⟨b14, 8, none⟩)) (V.fieldAddr rfl fl32_8 rfl) ?_
  refine WL.store (Sure.none rfl) rfl rfl s4 rfl rfl rfl hb276 (by show (8 : Nat) < 12; decide) (fun w297 hs298 hb299 => ?_)
  replace hb299 : Box w297 b14 32 [.int .u8 (hdV ({ S := s, Bad := false } : RRD).S), .int .i64 (IntKind.i64.wrap (rNumV (r1 s) 1048576)), .int .i64 (IntKind.i64.wrap (rNumV (r2 s) 1048576)), .int .u64 (rNumV (r3 s) 18446744073709551615), .int .u64 (rNumV (r4 s) 18446744073709551615), .int .u64 (rNumV (r5 s) 18446744073709551615), .int .u64 (rNumV (r6 s) 18446744073709551615), .int .u64 (rNumV (r7 s) 18446744073709551615), .bool (decide ((hdV (r8 s).S) = 1)), .slice none 0 0, .slice none 0 0, .string (ByteArray.mk #[])] := hb299
  have hb300 := hb275.ext hs298 (by simp; omega)
  have hb301 := hb277.ext hs298 (by simp; omega)
  have hx302 : Ext [b14, b7, b1] w w297 := hx279.trans (hs298.mono (by simp))
  have hx303 : Ext [b14, b7, b1] w15 w297 := hx280.trans (hs298.mono (by simp))
  have hx304 : Ext [b14, b7, b1] w22 w297 := hx281.trans (hs298.mono (by simp))
  have hx305 : Ext [b14, b7, b1] w31 w297 := hx282.trans (hs298.mono (by simp))
  have hx306 : Ext [b14, b7, b1] w39 w297 := hx283.trans (hs298.mono (by simp))
  have hx307 : Ext [b14, b7, b1] w51 w297 := hx284.trans (hs298.mono (by simp))
  have hx308 : Ext [b14, b7, b1] w61 w297 := hx285.trans (hs298.mono (by simp))
  have hx309 : Ext [b14, b7, b1] w75 w297 := hx286.trans (hs298.mono (by simp))
  have hx310 : Ext [b14, b7, b1] w87 w297 := hx287.trans (hs298.mono (by simp))
  have hx311 : Ext [b14, b7, b1] w102 w297 := hx288.trans (hs298.mono (by simp))
  have hx312 : Ext [b14, b7, b1] w116 w297 := hx289.trans (hs298.mono (by simp))
  have hx313 : Ext [b14, b7, b1] w133 w297 := hx290.trans (hs298.mono (by simp))
  have hx314 : Ext [b14, b7, b1] w149 w297 := hx291.trans (hs298.mono (by simp))
  have hx315 : Ext [b14, b7, b1] w168 w297 := hx292.trans (hs298.mono (by simp))
  have hx316 : Ext [b14, b7, b1] w186 w297 := hx293.trans (hs298.mono (by simp))
  have hx317 : Ext [b14, b7, b1] w207 w297 := hx294.trans (hs298.mono (by simp))
  have hx318 : Ext [b14, b7, b1] w227 w297 := hx295.trans (hs298.mono (by simp))
  have hx319 : Ext [b14, b7, b1] w250 w297 := hx296.trans (hs298.mono (by simp))
  have hx320 : Ext [b14, b7, b1] w272 w297 := (hs298.mono (by simp))
  refine WL.nil ?_
  refine WP.sr ?_
  refine WL.m rfl ?_
  refine WL.c (Sure.none rfl) rfl (C.call2 rfl cl72 rfl rfl) (Fnc.mono (rr_Num (r := (r9 s)) hb301 (by show ((r9 s).S).size ≤ maxLen; simp only [maxLen]; omega) 1048576) ?_)
  rintro _ w321 ⟨rfl, hb323, hx322⟩
  have hb324 := hb300.ext hx322 (by simp; omega)
  have hb325 := hb299.ext hx322 (by simp; omega)
  have hb326 : Box w321 b7 124 [.string ((r10 s).S), .bool ((r10 s).Bad)] := hb323
  have hle327 : (r10 s).S.size ≤ ((r9 s).S).size := rNumP_le (r9 s) 1048576
  have hx328 : Ext [b14, b7, b1] w w321 := hx302.trans (hx322.mono (by simp))
  have hx329 : Ext [b14, b7, b1] w15 w321 := hx303.trans (hx322.mono (by simp))
  have hx330 : Ext [b14, b7, b1] w22 w321 := hx304.trans (hx322.mono (by simp))
  have hx331 : Ext [b14, b7, b1] w31 w321 := hx305.trans (hx322.mono (by simp))
  have hx332 : Ext [b14, b7, b1] w39 w321 := hx306.trans (hx322.mono (by simp))
  have hx333 : Ext [b14, b7, b1] w51 w321 := hx307.trans (hx322.mono (by simp))
  have hx334 : Ext [b14, b7, b1] w61 w321 := hx308.trans (hx322.mono (by simp))
  have hx335 : Ext [b14, b7, b1] w75 w321 := hx309.trans (hx322.mono (by simp))
  have hx336 : Ext [b14, b7, b1] w87 w321 := hx310.trans (hx322.mono (by simp))
  have hx337 : Ext [b14, b7, b1] w102 w321 := hx311.trans (hx322.mono (by simp))
  have hx338 : Ext [b14, b7, b1] w116 w321 := hx312.trans (hx322.mono (by simp))
  have hx339 : Ext [b14, b7, b1] w133 w321 := hx313.trans (hx322.mono (by simp))
  have hx340 : Ext [b14, b7, b1] w149 w321 := hx314.trans (hx322.mono (by simp))
  have hx341 : Ext [b14, b7, b1] w168 w321 := hx315.trans (hx322.mono (by simp))
  have hx342 : Ext [b14, b7, b1] w186 w321 := hx316.trans (hx322.mono (by simp))
  have hx343 : Ext [b14, b7, b1] w207 w321 := hx317.trans (hx322.mono (by simp))
  have hx344 : Ext [b14, b7, b1] w227 w321 := hx318.trans (hx322.mono (by simp))
  have hx345 : Ext [b14, b7, b1] w250 w321 := hx319.trans (hx322.mono (by simp))
  have hx346 : Ext [b14, b7, b1] w272 w321 := hx320.trans (hx322.mono (by simp))
  have hx347 : Ext [b14, b7, b1] w297 w321 := (hx322.mono (by simp))
  refine WL.m rfl ?_
  refine WL.nil ?_
  refine WP.seq ?_
  refine WP.sr ?_
  refine WL.m rfl ?_
  refine WL.nil ?_
  refine WP.block ?_
  have hsz350 : w.heap.size ≤ w321.heap.size := hx328.size
  have hsz351 : w15.heap.size ≤ w321.heap.size := hx329.size
  have hsz352 : w22.heap.size ≤ w321.heap.size := hx330.size
  have hsz353 : w31.heap.size ≤ w321.heap.size := hx331.size
  have hsz354 : w39.heap.size ≤ w321.heap.size := hx332.size
  have hsz355 : w51.heap.size ≤ w321.heap.size := hx333.size
  have hsz356 : w61.heap.size ≤ w321.heap.size := hx334.size
  have hsz357 : w75.heap.size ≤ w321.heap.size := hx335.size
  have hsz358 : w87.heap.size ≤ w321.heap.size := hx336.size
  have hsz359 : w102.heap.size ≤ w321.heap.size := hx337.size
  have hsz360 : w116.heap.size ≤ w321.heap.size := hx338.size
  have hsz361 : w133.heap.size ≤ w321.heap.size := hx339.size
  have hsz362 : w149.heap.size ≤ w321.heap.size := hx340.size
  have hsz363 : w168.heap.size ≤ w321.heap.size := hx341.size
  have hsz364 : w186.heap.size ≤ w321.heap.size := hx342.size
  have hsz365 : w207.heap.size ≤ w321.heap.size := hx343.size
  have hsz366 : w227.heap.size ≤ w321.heap.size := hx344.size
  have hsz367 : w250.heap.size ≤ w321.heap.size := hx345.size
  have hsz368 : w272.heap.size ≤ w321.heap.size := hx346.size
  have hsz369 : w297.heap.size ≤ w321.heap.size := hx347.size
  refine WP.loop (σ := Nat × Value) (fun ⟨k, u⟩ E348 w349 => E348 0 = .string (s) ∧ E348 2 = .pointer (some ⟨b1, 0, none⟩) ∧ E348 3 = .int .i64 (0) ∧ E348 4 = .pointer (some ⟨b7, 0, none⟩) ∧ E348 5 = .pointer (some ⟨b14, 0, none⟩) ∧ E348 6 = .int .u64 (rNumV (r9 s) 1048576) ∧ E348 7 = .int .u64 ((k : Int)) ∧ Ext [b14, b7, b1] w321 w349 ∧ Box w349 b1 32 [.int .u8 (0), .int .i64 (0), .int .i64 (0), .int .u64 (0), .int .u64 (0), .int .u64 (0), .int .u64 (0), .int .u64 (0), .bool (false), .slice none 0 0, .slice none 0 0, .string (ByteArray.mk #[])] ∧ Box w349 b7 124 [.string ((rEr s k).S), .bool ((rEr s k).Bad)] ∧ Box w349 b14 32 [.int .u8 (hdV ({ S := s, Bad := false } : RRD).S), .int .i64 (IntKind.i64.wrap (rNumV (r1 s) 1048576)), .int .i64 (IntKind.i64.wrap (rNumV (r2 s) 1048576)), .int .u64 (rNumV (r3 s) 18446744073709551615), .int .u64 (rNumV (r4 s) 18446744073709551615), .int .u64 (rNumV (r5 s) 18446744073709551615), .int .u64 (rNumV (r6 s) 18446744073709551615), .int .u64 (rNumV (r7 s) 18446744073709551615), .bool (decide ((hdV (r8 s).S) = 1)), u, .slice none 0 0, .string (ByteArray.mk #[])] ∧ (Owns entryR 90 w321.heap.size (b14 :: (b7 :: (b1 :: X))) w349 u (rEs s k) ∧ (∀ g, u.ownBlock = some g → g ∉ (b14 :: (b7 :: (b1 :: X))))) ∧ (k : Int) ≤ rNumV (r9 s) 1048576 ∧ ∀ j, j < k → (rEr s j).Bad = false) (fun ⟨k, u⟩ => (rNumV (r9 s) 1048576).toNat - k) ((0, .slice none 0 0)) ?_ ?_
  · exact ⟨h0, rfl, rfl, rfl, rfl, (int_eq (by omega)), (int_eq (by omega)), Ext.refl _ _, hb324, hb326, hb325, ⟨(Owns.castE (by rfl) Owns.nil), (nil_block rfl)⟩, (by show ((0 : Nat) : Int) ≤ _; omega), (fun j hj => by omega)⟩
  rintro ⟨k, u⟩ E348 w349 ⟨h0_370, h2_370, h3_370, h4_370, h5_370, h6_370, h7_370, hx370, hbb1_370, hbb7_370, hbb14_370, ⟨hob14_370, hob14_370n⟩, hi0_370, hi1_370⟩
  have hx371 : Ext [b14, b7, b1] w w349 := hx328.trans hx370
  have hx372 : Ext [b14, b7, b1] w15 w349 := hx329.trans hx370
  have hx373 : Ext [b14, b7, b1] w22 w349 := hx330.trans hx370
  have hx374 : Ext [b14, b7, b1] w31 w349 := hx331.trans hx370
  have hx375 : Ext [b14, b7, b1] w39 w349 := hx332.trans hx370
  have hx376 : Ext [b14, b7, b1] w51 w349 := hx333.trans hx370
  have hx377 : Ext [b14, b7, b1] w61 w349 := hx334.trans hx370
  have hx378 : Ext [b14, b7, b1] w75 w349 := hx335.trans hx370
  have hx379 : Ext [b14, b7, b1] w87 w349 := hx336.trans hx370
  have hx380 : Ext [b14, b7, b1] w102 w349 := hx337.trans hx370
  have hx381 : Ext [b14, b7, b1] w116 w349 := hx338.trans hx370
  have hx382 : Ext [b14, b7, b1] w133 w349 := hx339.trans hx370
  have hx383 : Ext [b14, b7, b1] w149 w349 := hx340.trans hx370
  have hx384 : Ext [b14, b7, b1] w168 w349 := hx341.trans hx370
  have hx385 : Ext [b14, b7, b1] w186 w349 := hx342.trans hx370
  have hx386 : Ext [b14, b7, b1] w207 w349 := hx343.trans hx370
  have hx387 : Ext [b14, b7, b1] w227 w349 := hx344.trans hx370
  have hx388 : Ext [b14, b7, b1] w250 w349 := hx345.trans hx370
  have hx389 : Ext [b14, b7, b1] w272 w349 := hx346.trans hx370
  have hx390 : Ext [b14, b7, b1] w297 w349 := hx347.trans hx370
  have hx391 : Ext [b14, b7, b1] w321 w349 := hx370
  have hle0 := rEr_le s k
  have hen0 := rEntV_in (rEr s k) (by omega)
  refine WP.seq ?_
  refine WP.sr ?_
  refine WL.m rfl ?_
  refine WL.m rfl ?_
  refine WL.z (.bool (decide ((k : Int) < (rNumV (r9 s) 1048576)))) (V.cmp (x := .tmp 43) (y := .tmp 44) rfl h7_370 h6_370 rfl) ?_
  refine WL.vbp (c := (k : Int) < (rNumV (r9 s) 1048576)) (Sure.none rfl) rfl (V.move rfl rfl) (fun hc392 => ?_) (fun hc392 => ?_)
  rotate_left
  · refine WL.skips [(46, some false)] [(52, some false)] (kc (some false) rfl kn) (by kernel_rfl) (fun E968 hK969 hE970 => ?_)
    refine WP.cond_false (hK969 52 (some false) rfl) ?_
    refine WP.exit ?_
    refine WP.sr ?_
    have hkn : rEN s = k := rEN_at (by assumption) (by omega) (by first | exact .inl (by omega) | exact .inr (by assumption))
    refine WL.m rfl ?_
    refine WL.c (Sure.none rfl) rfl (C.call1 (x := .tmp 62) rfl cl74 ((hE970 4 rfl).trans h4_370)) (Fnc.mono (rr_Ints (r := (rEr s k)) hbb7_370 (by show ((rEr s k).S).size ≤ maxLen; simp only [maxLen]; omega) (by omega) (X := (avoid u (b14 :: (b7 :: (b1 :: X))))) (avoid_in hob14_370 (inCons hbb14_370.lt (inCons hbb7_370.lt (inCons hbb1_370.lt (inMono hX hx371.size)))))) ?_)
    rintro v973 w971 ⟨_, rfl, hl974, hb975, hx972⟩
    have hb976 := hbb1_370.ext hx972 (by simp; omega)
    have hb977 := hbb14_370.ext hx972 (by simp; omega)
    have hb978 : Box w971 b7 124 [.string ((rI s k).S), .bool ((rI s k).Bad)] := hb975
    have hle979 : (rI s k).S.size ≤ ((rEr s k).S).size := rIntsP_le (rEr s k)
    have hx980 : Ext [b14, b7, b1] w w971 := hx371.trans (hx972.mono (by simp))
    have ho1002 := Owns.keep (Y := [b14, b7, b1]) hob14_370 (hx972.mono (by simp)) (fun g hg hm => hob14_370n g hg (mem_pre (O := [b14, b7, b1]) (X := X) hm)) (fun b hb => mem_pre (O := [b14, b7, b1]) (X := X) hb)
    have hl1003 := Sl.mono (X := (b14 :: (b7 :: (b1 :: X)))) hl974 (fun b hb => avoid_mem hb)
    refine WL.z (.pointer (some ⟨b14, 10, none⟩)) (V.fieldAddr (x := .tmp 5) rfl fl32_10 ((hE970 5 rfl).trans h5_370)) ?_
    refine WL.store (Sure.none rfl) rfl rfl s22 rfl rfl hl1003.one hb977 (by show (10 : Nat) < 12; decide) (fun w1004 hs1005 hb1006 => ?_)
    replace hb1006 : Box w1004 b14 32 [.int .u8 (hdV ({ S := s, Bad := false } : RRD).S), .int .i64 (IntKind.i64.wrap (rNumV (r1 s) 1048576)), .int .i64 (IntKind.i64.wrap (rNumV (r2 s) 1048576)), .int .u64 (rNumV (r3 s) 18446744073709551615), .int .u64 (rNumV (r4 s) 18446744073709551615), .int .u64 (rNumV (r5 s) 18446744073709551615), .int .u64 (rNumV (r6 s) 18446744073709551615), .int .u64 (rNumV (r7 s) 18446744073709551615), .bool (decide ((hdV (r8 s).S) = 1)), u, v973, .string (ByteArray.mk #[])] := hb1006
    have hb1007 := hb976.ext hs1005 (by simp; omega)
    have hb1008 := hb978.ext hs1005 (by simp; omega)
    have hx1009 : Ext [b14, b7, b1] w w1004 := hx980.trans (hs1005.mono (by simp))
    have hx1031 : Ext [b14, b7, b1] w971 w1004 := (hs1005.mono (by simp))
    have ho1032 := Owns.keep (Y := [b14, b7, b1]) ho1002 (hs1005.mono (by simp)) (fun g hg hm => hob14_370n g hg (mem_pre (O := [b14, b7, b1]) (X := X) hm)) (fun b hb => mem_pre (O := [b14, b7, b1]) (X := X) hb)
    refine WL.nil ?_
    refine WP.sr ?_
    refine WL.m rfl ?_
    refine WL.c (Sure.none rfl) rfl (C.call1 (x := .tmp 65) rfl cl75 ((hE970 4 rfl).trans h4_370)) (Fnc.mono (rr_Text (r := (rI s k)) hb1008 (by show ((rI s k).S).size ≤ maxLen; simp only [maxLen]; omega)) ?_)
    rintro _ w1033 ⟨rfl, hb1035, hx1034⟩
    have hb1036 := hb1007.ext hx1034 (by simp; omega)
    have hb1037 := hb1006.ext hx1034 (by simp; omega)
    have hb1038 : Box w1033 b7 124 [.string ((rEnd s k).S), .bool ((rEnd s k).Bad)] := hb1035
    have hle1039 : (rEnd s k).S.size ≤ ((rI s k).S).size := rTextP_le (rI s k)
    have hx1040 : Ext [b14, b7, b1] w w1033 := hx1009.trans (hx1034.mono (by simp))
    have hx1062 : Ext [b14, b7, b1] w971 w1033 := hx1031.trans (hx1034.mono (by simp))
    have ho1064 := Owns.keep (Y := [b14, b7, b1]) ho1032 (hx1034.mono (by simp)) (fun g hg hm => hob14_370n g hg (mem_pre (O := [b14, b7, b1]) (X := X) hm)) (fun b hb => mem_pre (O := [b14, b7, b1]) (X := X) hb)
    refine WL.z (.pointer (some ⟨b14, 11, none⟩)) (V.fieldAddr (x := .tmp 5) rfl fl32_11 ((hE970 5 rfl).trans h5_370)) ?_
    refine WL.store (Sure.none rfl) rfl rfl s9 rfl rfl rfl hb1037 (by show (11 : Nat) < 12; decide) (fun w1065 hs1066 hb1067 => ?_)
    replace hb1067 : Box w1065 b14 32 [.int .u8 (hdV ({ S := s, Bad := false } : RRD).S), .int .i64 (IntKind.i64.wrap (rNumV (r1 s) 1048576)), .int .i64 (IntKind.i64.wrap (rNumV (r2 s) 1048576)), .int .u64 (rNumV (r3 s) 18446744073709551615), .int .u64 (rNumV (r4 s) 18446744073709551615), .int .u64 (rNumV (r5 s) 18446744073709551615), .int .u64 (rNumV (r6 s) 18446744073709551615), .int .u64 (rNumV (r7 s) 18446744073709551615), .bool (decide ((hdV (r8 s).S) = 1)), u, v973, .string (rTextV (rI s k))] := hb1067
    have hb1068 := hb1036.ext hs1066 (by simp; omega)
    have hb1069 := hb1038.ext hs1066 (by simp; omega)
    have hx1070 : Ext [b14, b7, b1] w w1065 := hx1040.trans (hs1066.mono (by simp))
    have hx1092 : Ext [b14, b7, b1] w971 w1065 := hx1062.trans (hs1066.mono (by simp))
    have ho1095 := Owns.keep (Y := [b14, b7, b1]) ho1064 (hs1066.mono (by simp)) (fun g hg hm => hob14_370n g hg (mem_pre (O := [b14, b7, b1]) (X := X) hm)) (fun b hb => mem_pre (O := [b14, b7, b1]) (X := X) hb)
    refine WL.nil ?_
    refine WP.seq ?_
    refine WP.sr ?_
    have hsz := rMsgK_sz s k hs
    have hag1096 : ((rMsgK s k)).InR := rMsgK_in s k hs
    refine WL.m rfl ?_
    refine WL.z (.pointer (some ⟨b7, 0, none⟩)) (V.nilCheck (x := .tmp 68) rfl ((hE970 4 rfl).trans h4_370)) ?_
    refine WL.f (.bool ((rEnd s k).Bad)) fl124_1 rfl p4 (hb1069.cell rfl) ?_
    refine WL.vb (c := (rEnd s k).Bad) (Sure.none rfl) rfl (V.move rfl rfl) (fun hc1097 => ?_) (fun hc1097 => ?_)
    · refine WL.s (Shut.no rfl rfl rfl rfl) rfl ?_
      refine WL.s (Shut.no rfl rfl rfl rfl) rfl ?_
      refine WL.s (Shut.no rfl rfl rfl rfl) rfl ?_
      refine WL.s (Shut.no rfl rfl rfl rfl) rfl ?_
      refine WL.s (Shut.no rfl rfl rfl rfl) rfl ?_
      refine WL.k (a := true) rfl rfl ?_
      refine WL.m rfl ?_
      refine WL.s (Shut.no rfl rfl rfl rfl) rfl ?_
      refine WL.s (Shut.no rfl rfl rfl rfl) rfl ?_
      refine WL.s (Shut.no rfl rfl rfl rfl) rfl ?_
      refine WL.k (a := true) rfl rfl ?_
      refine WL.m rfl ?_
      refine WL.s (Shut.no rfl rfl rfl rfl) rfl ?_
      refine WL.s (Shut.no rfl rfl rfl rfl) rfl ?_
      refine WL.skips [(84, some true)] [(89, some true)] (kc (some true) rfl kn) (by kernel_rfl) (fun E1098 hK1099 hE1100 => ?_)
      refine WP.cond_true (hK1099 89 (some true) rfl) ?_
      refine WP.sr ?_
      have hvno : rOk s = false := rRead_no1 hkn hc1097
      refine WL.z (.agg #[.int .u8 (0), .int .i64 (0), .int .i64 (0), .int .u64 (0), .int .u64 (0), .int .u64 (0), .int .u64 (0), .int .u64 (0), .bool (false), .slice none 0 0, .slice none 0 0, .string (ByteArray.mk #[])]) (V.build1 (L := []) rfl rfl bu32_d7517139) ?_
      refine WL.storeAgg (x := .tmp 2) (vs := [.int .u8 (0), .int .i64 (0), .int .i64 (0), .int .u64 (0), .int .u64 (0), .int .u64 (0), .int .u64 (0), .int .u64 (0), .bool (false), .slice none 0 0, .slice none 0 0, .string (ByteArray.mk #[])]) (Sure.none rfl) rfl rfl s32 ((hE1100 2 rfl).trans ((hE970 2 rfl).trans h2_370)) rfl rfl (by intro u hu; simp only [List.mem_cons, List.not_mem_nil, or_false] at hu; rcases hu with rfl | rfl | rfl | rfl | rfl | rfl | rfl | rfl | rfl | rfl | rfl | rfl <;> first | rfl | exact Sl.one (by assumption)) hb1068 (by show (0 : Nat) + 12 ≤ 12; decide) (fun w1101 hs1102 hb1103 => ?_)
      replace hb1103 : Box w1101 b1 32 [.int .u8 (0), .int .i64 (0), .int .i64 (0), .int .u64 (0), .int .u64 (0), .int .u64 (0), .int .u64 (0), .int .u64 (0), .bool (false), .slice none 0 0, .slice none 0 0, .string (ByteArray.mk #[])] := hb1103
      have hx1106 : Ext [b14, b7, b1] w w1101 := hx1070.trans (hs1102.mono (by simp))
      refine WL.m rfl ?_
      refine WL.nil ?_
      refine WP.ret ?_
      refine resOf.c2 rfl (v := .agg #[.int .u8 (0), .int .i64 (0), .int .i64 (0), .int .u64 (0), .int .u64 (0), .int .u64 (0), .int .u64 (0), .int .u64 (0), .bool (false), .slice none 0 0, .slice none 0 0, .string (ByteArray.mk #[])]) ⟨_, _, ((hE1100 2 rfl).trans ((hE970 2 rfl).trans h2_370)), run_loadVar_agg a32 (At.box hb1103) rfl⟩ (v' := .int .i64 (2)) rfl ?_
      exact ⟨[.int .u8 (0), .int .i64 (0), .int .i64 (0), .int .u64 (0), .int .u64 (0), .int .u64 (0), .int .u64 (0), .int .u64 (0), .bool (false), .slice none 0 0, .slice none 0 0, .string (ByteArray.mk #[])], (tup2 rfl (int_eq (by first | (rw [if_pos hvok]; done) | (rw [if_neg (by rw [hvno]; decide)]; done)))), (Rep.base (O := [b14, b7, b1]) (castRd (R := msgR) (show (({ Kind := 0, From := 0, To := 0, Term := 0, Index := 0, LogTerm := 0, Commit := 0, Round := 0, Ok := false, Entries := [], Members := [], Snap := (ByteArray.mk #[]) } : MsgD) : MsgD) = rRead s from (by first | exact rRead_zero hvno | exact rRead_is hkn hvok)) ⟨.slice none 0 0, .slice none 0 0, rfl, Sl.nil, Sl.nil, ⟨(inK_u8' (n := 0) (by omega)), (inK_i64' (n := 0) (by omega)), (inK_i64' (n := 0) (by omega)), (inK_u64' (n := 0) (by omega)), (inK_u64' (n := 0) (by omega)), (inK_u64' (n := 0) (by omega)), (inK_u64' (n := 0) (by omega)), (inK_u64' (n := 0) (by omega)), (Nat.zero_le _)⟩⟩)), ((hx1106).done (geCons hge_b14_w (geCons hge_b7_w (geCons hge_b1_w geNil))))⟩
    refine WL.my rfl rfl ?_
    refine WL.y (.pointer (some ⟨b7, 0, none⟩)) rfl (V.nilCheck (x := .tmp 73) rfl ((hE970 4 rfl).trans h4_370)) ?_
    refine WL.fy (.string ((rEnd s k).S)) rfl fl124_0 rfl p9 (hb1069.cell rfl) ?_
    refine WL.y (.bool (!(seqB ((rEnd s k).S) (ByteArray.mk #[])))) rfl (V.scmp rfl rfl rfl rfl) ?_
    refine WL.k (a := false) rfl rfl ?_
    refine WL.vbn (c := seqB ((rEnd s k).S) (ByteArray.mk #[])) (Sure.none rfl) rfl (V.move rfl rfl) (fun hc1133 => ?_) (fun hc1133 => ?_)
    · refine WL.s (Shut.no rfl rfl rfl rfl) rfl ?_
      refine WL.s (Shut.no rfl rfl rfl rfl) rfl ?_
      refine WL.s (Shut.no rfl rfl rfl rfl) rfl ?_
      refine WL.k (a := true) rfl rfl ?_
      refine WL.m rfl ?_
      refine WL.s (Shut.no rfl rfl rfl rfl) rfl ?_
      refine WL.s (Shut.no rfl rfl rfl rfl) rfl ?_
      refine WL.skips [(84, some true)] [(89, some true)] (kc (some true) rfl kn) (by kernel_rfl) (fun E1134 hK1135 hE1136 => ?_)
      refine WP.cond_true (hK1135 89 (some true) rfl) ?_
      refine WP.sr ?_
      have hvno : rOk s = false := rRead_no2 hkn hc1133
      refine WL.z (.agg #[.int .u8 (0), .int .i64 (0), .int .i64 (0), .int .u64 (0), .int .u64 (0), .int .u64 (0), .int .u64 (0), .int .u64 (0), .bool (false), .slice none 0 0, .slice none 0 0, .string (ByteArray.mk #[])]) (V.build1 (L := []) rfl rfl bu32_d7517139) ?_
      refine WL.storeAgg (x := .tmp 2) (vs := [.int .u8 (0), .int .i64 (0), .int .i64 (0), .int .u64 (0), .int .u64 (0), .int .u64 (0), .int .u64 (0), .int .u64 (0), .bool (false), .slice none 0 0, .slice none 0 0, .string (ByteArray.mk #[])]) (Sure.none rfl) rfl rfl s32 ((hE1136 2 rfl).trans ((hE970 2 rfl).trans h2_370)) rfl rfl (by intro u hu; simp only [List.mem_cons, List.not_mem_nil, or_false] at hu; rcases hu with rfl | rfl | rfl | rfl | rfl | rfl | rfl | rfl | rfl | rfl | rfl | rfl <;> first | rfl | exact Sl.one (by assumption)) hb1068 (by show (0 : Nat) + 12 ≤ 12; decide) (fun w1137 hs1138 hb1139 => ?_)
      replace hb1139 : Box w1137 b1 32 [.int .u8 (0), .int .i64 (0), .int .i64 (0), .int .u64 (0), .int .u64 (0), .int .u64 (0), .int .u64 (0), .int .u64 (0), .bool (false), .slice none 0 0, .slice none 0 0, .string (ByteArray.mk #[])] := hb1139
      have hx1142 : Ext [b14, b7, b1] w w1137 := hx1070.trans (hs1138.mono (by simp))
      refine WL.m rfl ?_
      refine WL.nil ?_
      refine WP.ret ?_
      refine resOf.c2 rfl (v := .agg #[.int .u8 (0), .int .i64 (0), .int .i64 (0), .int .u64 (0), .int .u64 (0), .int .u64 (0), .int .u64 (0), .int .u64 (0), .bool (false), .slice none 0 0, .slice none 0 0, .string (ByteArray.mk #[])]) ⟨_, _, ((hE1136 2 rfl).trans ((hE970 2 rfl).trans h2_370)), run_loadVar_agg a32 (At.box hb1139) rfl⟩ (v' := .int .i64 (2)) rfl ?_
      exact ⟨[.int .u8 (0), .int .i64 (0), .int .i64 (0), .int .u64 (0), .int .u64 (0), .int .u64 (0), .int .u64 (0), .int .u64 (0), .bool (false), .slice none 0 0, .slice none 0 0, .string (ByteArray.mk #[])], (tup2 rfl (int_eq (by first | (rw [if_pos hvok]; done) | (rw [if_neg (by rw [hvno]; decide)]; done)))), (Rep.base (O := [b14, b7, b1]) (castRd (R := msgR) (show (({ Kind := 0, From := 0, To := 0, Term := 0, Index := 0, LogTerm := 0, Commit := 0, Round := 0, Ok := false, Entries := [], Members := [], Snap := (ByteArray.mk #[]) } : MsgD) : MsgD) = rRead s from (by first | exact rRead_zero hvno | exact rRead_is hkn hvok)) ⟨.slice none 0 0, .slice none 0 0, rfl, Sl.nil, Sl.nil, ⟨(inK_u8' (n := 0) (by omega)), (inK_i64' (n := 0) (by omega)), (inK_i64' (n := 0) (by omega)), (inK_u64' (n := 0) (by omega)), (inK_u64' (n := 0) (by omega)), (inK_u64' (n := 0) (by omega)), (inK_u64' (n := 0) (by omega)), (inK_u64' (n := 0) (by omega)), (Nat.zero_le _)⟩⟩)), ((hx1142).done (geCons hge_b14_w (geCons hge_b7_w (geCons hge_b1_w geNil))))⟩
    refine WL.y (.agg #[.int .u8 (hdV ({ S := s, Bad := false } : RRD).S), .int .i64 (IntKind.i64.wrap (rNumV (r1 s) 1048576)), .int .i64 (IntKind.i64.wrap (rNumV (r2 s) 1048576)), .int .u64 (rNumV (r3 s) 18446744073709551615), .int .u64 (rNumV (r4 s) 18446744073709551615), .int .u64 (rNumV (r5 s) 18446744073709551615), .int .u64 (rNumV (r6 s) 18446744073709551615), .int .u64 (rNumV (r7 s) 18446744073709551615), .bool (decide ((hdV (r8 s).S) = 1)), u, v973, .string (rTextV (rI s k))]) rfl (V.loadAgg (x := .tmp 5) (cs := [.int .u8 (hdV ({ S := s, Bad := false } : RRD).S), .int .i64 (IntKind.i64.wrap (rNumV (r1 s) 1048576)), .int .i64 (IntKind.i64.wrap (rNumV (r2 s) 1048576)), .int .u64 (rNumV (r3 s) 18446744073709551615), .int .u64 (rNumV (r4 s) 18446744073709551615), .int .u64 (rNumV (r5 s) 18446744073709551615), .int .u64 (rNumV (r6 s) 18446744073709551615), .int .u64 (rNumV (r7 s) 18446744073709551615), .bool (decide ((hdV (r8 s).S) = 1)), u, v973, .string (rTextV (rI s k))]) rfl a32 ((hE970 5 rfl).trans h5_370) (At.box hb1067) rfl) ?_
    refine WL.c (Sure.yes rfl rfl rfl) rfl (C.call1 rfl cl13 rfl) (Fnc.mono (ref_MayMsg (m := (rMsgK s k)) (rMsgK_rd ⟨u, v973, (by with_reducible rfl), (Owns.sl' ho1095 hob14_370n), (hl1003.ext (Ext.pre hx1092)), hag1096⟩)) ?_)
    rintro _ w1169 ⟨rfl, hx1170⟩
    have hx1171 : Ext [b14, b7, b1] w w1169 := hx1070.trans (Ext.any (Y := [b14, b7, b1]) hx1170)
    have hx1193 : Ext [b14, b7, b1] w971 w1169 := hx1092.trans (Ext.any (Y := [b14, b7, b1]) hx1170)
    have hb1197 := hb1068.ext hx1170 (by simp)
    have hb1199 := hb1067.ext hx1170 (by simp)
    have ho1200 := ho1095.keep hx1170 (by intro g hg hm; simp at hm) (by simp)
    refine WL.y (.bool (!(refMayMsgB (rMsgK s k)))) rfl (V.not rfl rfl) ?_
    refine WL.k (a := false) rfl rfl ?_
    refine WL.vbn (c := refMayMsgB (rMsgK s k)) (Sure.none rfl) rfl (V.move rfl rfl) (fun hc1201 => ?_) (fun hc1201 => ?_)
    · refine WL.s (Shut.no rfl rfl rfl rfl) rfl ?_
      refine WL.s (Shut.no rfl rfl rfl rfl) rfl ?_
      refine WL.skips [(84, some true)] [(89, some true)] (kc (some true) rfl kn) (by kernel_rfl) (fun E1202 hK1203 hE1204 => ?_)
      refine WP.cond_true (hK1203 89 (some true) rfl) ?_
      refine WP.sr ?_
      have hvno : rOk s = false := rRead_no3 hkn hc1201
      refine WL.z (.agg #[.int .u8 (0), .int .i64 (0), .int .i64 (0), .int .u64 (0), .int .u64 (0), .int .u64 (0), .int .u64 (0), .int .u64 (0), .bool (false), .slice none 0 0, .slice none 0 0, .string (ByteArray.mk #[])]) (V.build1 (L := []) rfl rfl bu32_d7517139) ?_
      refine WL.storeAgg (x := .tmp 2) (vs := [.int .u8 (0), .int .i64 (0), .int .i64 (0), .int .u64 (0), .int .u64 (0), .int .u64 (0), .int .u64 (0), .int .u64 (0), .bool (false), .slice none 0 0, .slice none 0 0, .string (ByteArray.mk #[])]) (Sure.none rfl) rfl rfl s32 ((hE1204 2 rfl).trans ((hE970 2 rfl).trans h2_370)) rfl rfl (by intro u hu; simp only [List.mem_cons, List.not_mem_nil, or_false] at hu; rcases hu with rfl | rfl | rfl | rfl | rfl | rfl | rfl | rfl | rfl | rfl | rfl | rfl <;> first | rfl | exact Sl.one (by assumption)) hb1197 (by show (0 : Nat) + 12 ≤ 12; decide) (fun w1205 hs1206 hb1207 => ?_)
      replace hb1207 : Box w1205 b1 32 [.int .u8 (0), .int .i64 (0), .int .i64 (0), .int .u64 (0), .int .u64 (0), .int .u64 (0), .int .u64 (0), .int .u64 (0), .bool (false), .slice none 0 0, .slice none 0 0, .string (ByteArray.mk #[])] := hb1207
      have hx1210 : Ext [b14, b7, b1] w w1205 := hx1171.trans (hs1206.mono (by simp))
      refine WL.m rfl ?_
      refine WL.nil ?_
      refine WP.ret ?_
      refine resOf.c2 rfl (v := .agg #[.int .u8 (0), .int .i64 (0), .int .i64 (0), .int .u64 (0), .int .u64 (0), .int .u64 (0), .int .u64 (0), .int .u64 (0), .bool (false), .slice none 0 0, .slice none 0 0, .string (ByteArray.mk #[])]) ⟨_, _, ((hE1204 2 rfl).trans ((hE970 2 rfl).trans h2_370)), run_loadVar_agg a32 (At.box hb1207) rfl⟩ (v' := .int .i64 (2)) rfl ?_
      exact ⟨[.int .u8 (0), .int .i64 (0), .int .i64 (0), .int .u64 (0), .int .u64 (0), .int .u64 (0), .int .u64 (0), .int .u64 (0), .bool (false), .slice none 0 0, .slice none 0 0, .string (ByteArray.mk #[])], (tup2 rfl (int_eq (by first | (rw [if_pos hvok]; done) | (rw [if_neg (by rw [hvno]; decide)]; done)))), (Rep.base (O := [b14, b7, b1]) (castRd (R := msgR) (show (({ Kind := 0, From := 0, To := 0, Term := 0, Index := 0, LogTerm := 0, Commit := 0, Round := 0, Ok := false, Entries := [], Members := [], Snap := (ByteArray.mk #[]) } : MsgD) : MsgD) = rRead s from (by first | exact rRead_zero hvno | exact rRead_is hkn hvok)) ⟨.slice none 0 0, .slice none 0 0, rfl, Sl.nil, Sl.nil, ⟨(inK_u8' (n := 0) (by omega)), (inK_i64' (n := 0) (by omega)), (inK_i64' (n := 0) (by omega)), (inK_u64' (n := 0) (by omega)), (inK_u64' (n := 0) (by omega)), (inK_u64' (n := 0) (by omega)), (inK_u64' (n := 0) (by omega)), (inK_u64' (n := 0) (by omega)), (Nat.zero_le _)⟩⟩)), ((hx1210).done (geCons hge_b14_w (geCons hge_b7_w (geCons hge_b1_w geNil))))⟩
    refine WL.y (.agg #[.int .u8 (hdV ({ S := s, Bad := false } : RRD).S), .int .i64 (IntKind.i64.wrap (rNumV (r1 s) 1048576)), .int .i64 (IntKind.i64.wrap (rNumV (r2 s) 1048576)), .int .u64 (rNumV (r3 s) 18446744073709551615), .int .u64 (rNumV (r4 s) 18446744073709551615), .int .u64 (rNumV (r5 s) 18446744073709551615), .int .u64 (rNumV (r6 s) 18446744073709551615), .int .u64 (rNumV (r7 s) 18446744073709551615), .bool (decide ((hdV (r8 s).S) = 1)), u, v973, .string (rTextV (rI s k))]) rfl (V.loadAgg (x := .tmp 5) (cs := [.int .u8 (hdV ({ S := s, Bad := false } : RRD).S), .int .i64 (IntKind.i64.wrap (rNumV (r1 s) 1048576)), .int .i64 (IntKind.i64.wrap (rNumV (r2 s) 1048576)), .int .u64 (rNumV (r3 s) 18446744073709551615), .int .u64 (rNumV (r4 s) 18446744073709551615), .int .u64 (rNumV (r5 s) 18446744073709551615), .int .u64 (rNumV (r6 s) 18446744073709551615), .int .u64 (rNumV (r7 s) 18446744073709551615), .bool (decide ((hdV (r8 s).S) = 1)), u, v973, .string (rTextV (rI s k))]) rfl a32 ((hE970 5 rfl).trans h5_370) (At.box hb1199) rfl) ?_
    have hok := rMsgK_ok hs hc1201
    refine WL.c (Sure.yes rfl rfl rfl) rfl (C.call1 rfl cl26 rfl) (Fnc.mono (ref_Bytes (m := (rMsgK s k)) (rMsgK_rd ⟨u, v973, (by with_reducible rfl), (Owns.sl' ho1200 hob14_370n), (hl1003.ext (Ext.pre hx1193)), hag1096⟩) (by assumption) (by assumption)) ?_)
    rintro _ w1238 ⟨rfl, hx1239⟩
    have hx1240 : Ext [b14, b7, b1] w w1238 := hx1171.trans (Ext.any (Y := [b14, b7, b1]) hx1239)
    have hx1262 : Ext [b14, b7, b1] w971 w1238 := hx1193.trans (Ext.any (Y := [b14, b7, b1]) hx1239)
    have hb1267 := hb1197.ext hx1239 (by simp)
    have hb1269 := hb1199.ext hx1239 (by simp)
    have ho1270 := ho1200.keep hx1239 (by intro g hg hm; simp at hm) (by simp)
    refine WL.my rfl rfl ?_
    refine WL.y (.bool (!(seqB (bytesB (rMsgK s k)) s))) rfl (V.scmp (y := .tmp 87) rfl rfl ((hE970 0 rfl).trans h0_370) rfl) ?_
    refine WL.k (a := false) rfl rfl ?_
    refine WL.nil ?_
    refine WP.condn (t := seqB (bytesB (rMsgK s k)) s) rfl (fun hc1271 => ?_) (fun hc1271 => ?_)
    · refine WP.sr ?_
      have hvno : rOk s = false := rRead_no4 hkn hc1271
      refine WL.z (.agg #[.int .u8 (0), .int .i64 (0), .int .i64 (0), .int .u64 (0), .int .u64 (0), .int .u64 (0), .int .u64 (0), .int .u64 (0), .bool (false), .slice none 0 0, .slice none 0 0, .string (ByteArray.mk #[])]) (V.build1 (L := []) rfl rfl bu32_d7517139) ?_
      refine WL.storeAgg (x := .tmp 2) (vs := [.int .u8 (0), .int .i64 (0), .int .i64 (0), .int .u64 (0), .int .u64 (0), .int .u64 (0), .int .u64 (0), .int .u64 (0), .bool (false), .slice none 0 0, .slice none 0 0, .string (ByteArray.mk #[])]) (Sure.none rfl) rfl rfl s32 ((hE970 2 rfl).trans h2_370) rfl rfl (by intro u hu; simp only [List.mem_cons, List.not_mem_nil, or_false] at hu; rcases hu with rfl | rfl | rfl | rfl | rfl | rfl | rfl | rfl | rfl | rfl | rfl | rfl <;> first | rfl | exact Sl.one (by assumption)) hb1267 (by show (0 : Nat) + 12 ≤ 12; decide) (fun w1272 hs1273 hb1274 => ?_)
      replace hb1274 : Box w1272 b1 32 [.int .u8 (0), .int .i64 (0), .int .i64 (0), .int .u64 (0), .int .u64 (0), .int .u64 (0), .int .u64 (0), .int .u64 (0), .bool (false), .slice none 0 0, .slice none 0 0, .string (ByteArray.mk #[])] := hb1274
      have hx1277 : Ext [b14, b7, b1] w w1272 := hx1240.trans (hs1273.mono (by simp))
      refine WL.m rfl ?_
      refine WL.nil ?_
      refine WP.ret ?_
      refine resOf.c2 rfl (v := .agg #[.int .u8 (0), .int .i64 (0), .int .i64 (0), .int .u64 (0), .int .u64 (0), .int .u64 (0), .int .u64 (0), .int .u64 (0), .bool (false), .slice none 0 0, .slice none 0 0, .string (ByteArray.mk #[])]) ⟨_, _, ((hE970 2 rfl).trans h2_370), run_loadVar_agg a32 (At.box hb1274) rfl⟩ (v' := .int .i64 (2)) rfl ?_
      exact ⟨[.int .u8 (0), .int .i64 (0), .int .i64 (0), .int .u64 (0), .int .u64 (0), .int .u64 (0), .int .u64 (0), .int .u64 (0), .bool (false), .slice none 0 0, .slice none 0 0, .string (ByteArray.mk #[])], (tup2 rfl (int_eq (by first | (rw [if_pos hvok]; done) | (rw [if_neg (by rw [hvno]; decide)]; done)))), (Rep.base (O := [b14, b7, b1]) (castRd (R := msgR) (show (({ Kind := 0, From := 0, To := 0, Term := 0, Index := 0, LogTerm := 0, Commit := 0, Round := 0, Ok := false, Entries := [], Members := [], Snap := (ByteArray.mk #[]) } : MsgD) : MsgD) = rRead s from (by first | exact rRead_zero hvno | exact rRead_is hkn hvok)) ⟨.slice none 0 0, .slice none 0 0, rfl, Sl.nil, Sl.nil, ⟨(inK_u8' (n := 0) (by omega)), (inK_i64' (n := 0) (by omega)), (inK_i64' (n := 0) (by omega)), (inK_u64' (n := 0) (by omega)), (inK_u64' (n := 0) (by omega)), (inK_u64' (n := 0) (by omega)), (inK_u64' (n := 0) (by omega)), (inK_u64' (n := 0) (by omega)), (Nat.zero_le _)⟩⟩)), ((hx1277).done (geCons hge_b14_w (geCons hge_b7_w (geCons hge_b1_w geNil))))⟩
    refine WP.skip ?_
    refine WP.sr ?_
    have hvok : rOk s = true := rRead_yes hkn hc1097 hc1133 hc1201 hc1271
    refine WL.z (.agg #[.int .u8 (hdV ({ S := s, Bad := false } : RRD).S), .int .i64 (IntKind.i64.wrap (rNumV (r1 s) 1048576)), .int .i64 (IntKind.i64.wrap (rNumV (r2 s) 1048576)), .int .u64 (rNumV (r3 s) 18446744073709551615), .int .u64 (rNumV (r4 s) 18446744073709551615), .int .u64 (rNumV (r5 s) 18446744073709551615), .int .u64 (rNumV (r6 s) 18446744073709551615), .int .u64 (rNumV (r7 s) 18446744073709551615), .bool (decide ((hdV (r8 s).S) = 1)), u, v973, .string (rTextV (rI s k))]) (V.loadAgg (x := .tmp 5) (cs := [.int .u8 (hdV ({ S := s, Bad := false } : RRD).S), .int .i64 (IntKind.i64.wrap (rNumV (r1 s) 1048576)), .int .i64 (IntKind.i64.wrap (rNumV (r2 s) 1048576)), .int .u64 (rNumV (r3 s) 18446744073709551615), .int .u64 (rNumV (r4 s) 18446744073709551615), .int .u64 (rNumV (r5 s) 18446744073709551615), .int .u64 (rNumV (r6 s) 18446744073709551615), .int .u64 (rNumV (r7 s) 18446744073709551615), .bool (decide ((hdV (r8 s).S) = 1)), u, v973, .string (rTextV (rI s k))]) rfl a32 ((hE970 5 rfl).trans h5_370) (At.box hb1269) rfl) ?_
    have hl1309 := Owns.sl' ho1270 hob14_370n
    refine WL.storeAgg (x := .tmp 2) (vs := [.int .u8 (hdV ({ S := s, Bad := false } : RRD).S), .int .i64 (IntKind.i64.wrap (rNumV (r1 s) 1048576)), .int .i64 (IntKind.i64.wrap (rNumV (r2 s) 1048576)), .int .u64 (rNumV (r3 s) 18446744073709551615), .int .u64 (rNumV (r4 s) 18446744073709551615), .int .u64 (rNumV (r5 s) 18446744073709551615), .int .u64 (rNumV (r6 s) 18446744073709551615), .int .u64 (rNumV (r7 s) 18446744073709551615), .bool (decide ((hdV (r8 s).S) = 1)), u, v973, .string (rTextV (rI s k))]) (Sure.none rfl) rfl rfl s32 ((hE970 2 rfl).trans h2_370) rfl rfl (by intro u hu; simp only [List.mem_cons, List.not_mem_nil, or_false] at hu; rcases hu with rfl | rfl | rfl | rfl | rfl | rfl | rfl | rfl | rfl | rfl | rfl | rfl <;> first | rfl | exact Sl.one (by assumption)) hb1267 (by show (0 : Nat) + 12 ≤ 12; decide) (fun w1306 hs1307 hb1308 => ?_)
    replace hb1308 : Box w1306 b1 32 [.int .u8 (hdV ({ S := s, Bad := false } : RRD).S), .int .i64 (IntKind.i64.wrap (rNumV (r1 s) 1048576)), .int .i64 (IntKind.i64.wrap (rNumV (r2 s) 1048576)), .int .u64 (rNumV (r3 s) 18446744073709551615), .int .u64 (rNumV (r4 s) 18446744073709551615), .int .u64 (rNumV (r5 s) 18446744073709551615), .int .u64 (rNumV (r6 s) 18446744073709551615), .int .u64 (rNumV (r7 s) 18446744073709551615), .bool (decide ((hdV (r8 s).S) = 1)), u, v973, .string (rTextV (rI s k))] := hb1308
    have hx1312 : Ext [b14, b7, b1] w w1306 := hx1240.trans (hs1307.mono (by simp))
    have hx1334 : Ext [b14, b7, b1] w971 w1306 := hx1262.trans (hs1307.mono (by simp))
    have hx1339 : Ext [b14, b7, b1] w1238 w1306 := (hs1307.mono (by simp))
    refine WL.m rfl ?_
    refine WL.nil ?_
    refine WP.ret ?_
    refine resOf.c2 rfl (v := .agg #[.int .u8 (hdV ({ S := s, Bad := false } : RRD).S), .int .i64 (IntKind.i64.wrap (rNumV (r1 s) 1048576)), .int .i64 (IntKind.i64.wrap (rNumV (r2 s) 1048576)), .int .u64 (rNumV (r3 s) 18446744073709551615), .int .u64 (rNumV (r4 s) 18446744073709551615), .int .u64 (rNumV (r5 s) 18446744073709551615), .int .u64 (rNumV (r6 s) 18446744073709551615), .int .u64 (rNumV (r7 s) 18446744073709551615), .bool (decide ((hdV (r8 s).S) = 1)), u, v973, .string (rTextV (rI s k))]) ⟨_, _, ((hE970 2 rfl).trans h2_370), run_loadVar_agg a32 (At.box hb1308) rfl⟩ (v' := .int .i64 (0)) rfl ?_
    exact ⟨[.int .u8 (hdV ({ S := s, Bad := false } : RRD).S), .int .i64 (IntKind.i64.wrap (rNumV (r1 s) 1048576)), .int .i64 (IntKind.i64.wrap (rNumV (r2 s) 1048576)), .int .u64 (rNumV (r3 s) 18446744073709551615), .int .u64 (rNumV (r4 s) 18446744073709551615), .int .u64 (rNumV (r5 s) 18446744073709551615), .int .u64 (rNumV (r6 s) 18446744073709551615), .int .u64 (rNumV (r7 s) 18446744073709551615), .bool (decide ((hdV (r8 s).S) = 1)), u, v973, .string (rTextV (rI s k))], (tup2 rfl (int_eq (by first | (rw [if_pos hvok]; done) | (rw [if_neg (by rw [hvno]; decide)]; done)))), (Rep.base (O := [b14, b7, b1]) (castRd (R := msgR) (show ((rMsgK s k) : MsgD) = rRead s from (by first | exact rRead_zero hvno | exact rRead_is hkn hvok)) (rMsgK_rd ⟨u, v973, (by with_reducible rfl), (hl1309.ext (Ext.pre hx1339)), (hl1003.ext (Ext.pre hx1334)), hag1096⟩))), ((hx1312).done (geCons hge_b14_w (geCons hge_b7_w (geCons hge_b1_w geNil))))⟩
  refine WL.my rfl rfl ?_
  refine WL.y (.pointer (some ⟨b7, 0, none⟩)) rfl (V.nilCheck (x := .tmp 47) rfl h4_370) ?_
  refine WL.fy (.bool ((rEr s k).Bad)) rfl fl124_1 rfl p4 (hbb7_370.cell rfl) ?_
  refine WL.y (.bool (!((rEr s k).Bad))) rfl (V.not rfl rfl) ?_
  refine WL.k (a := true) rfl rfl ?_
  refine WL.nil ?_
  refine WP.condn (t := (rEr s k).Bad) rfl (fun hc393 => ?_) (fun hc393 => ?_)
  · refine WP.skip ?_
    refine WP.seq ?_
    refine WP.block ?_
    refine WP.anyS [3, 4, 5, 6, 7] 3 (fun w => Box w b14 32 [.int .u8 (hdV ({ S := s, Bad := false } : RRD).S), .int .i64 (IntKind.i64.wrap (rNumV (r1 s) 1048576)), .int .i64 (IntKind.i64.wrap (rNumV (r2 s) 1048576)), .int .u64 (rNumV (r3 s) 18446744073709551615), .int .u64 (rNumV (r4 s) 18446744073709551615), .int .u64 (rNumV (r5 s) 18446744073709551615), .int .u64 (rNumV (r6 s) 18446744073709551615), .int .u64 (rNumV (r7 s) 18446744073709551615), .bool (decide ((hdV (r8 s).S) = 1)), u, .slice none 0 0, .string (ByteArray.mk #[])]) [(0, .pointer (some ⟨b14, 9, none⟩)), (1, u), (2, .pointer (some ⟨b7, 0, none⟩))] mo (by kernel_rfl) (by kernel_rfl) (by kernel_rfl) (by kernel_rfl) ⟨⟨_, rfl, ?_⟩, ⟨_, rfl, ?_⟩, ⟨_, rfl, ?_⟩, trivial⟩ ?_
    · intro E' w' hC hE hp
      have hq_b14 : Box w' b14 32 [.int .u8 (hdV ({ S := s, Bad := false } : RRD).S), .int .i64 (IntKind.i64.wrap (rNumV (r1 s) 1048576)), .int .i64 (IntKind.i64.wrap (rNumV (r2 s) 1048576)), .int .u64 (rNumV (r3 s) 18446744073709551615), .int .u64 (rNumV (r4 s) 18446744073709551615), .int .u64 (rNumV (r5 s) 18446744073709551615), .int .u64 (rNumV (r6 s) 18446744073709551615), .int .u64 (rNumV (r7 s) 18446744073709551615), .bool (decide ((hdV (r8 s).S) = 1)), u, .slice none 0 0, .string (ByteArray.mk #[])] := hC
      exact ⟨Sure.none rfl, V.fieldAddr (x := .tmp 5) rfl fl32_9 ((hE 5 (by kernel_rfl)).trans h5_370)⟩
    · intro E' w' hC hE hp
      have hq_b14 : Box w' b14 32 [.int .u8 (hdV ({ S := s, Bad := false } : RRD).S), .int .i64 (IntKind.i64.wrap (rNumV (r1 s) 1048576)), .int .i64 (IntKind.i64.wrap (rNumV (r2 s) 1048576)), .int .u64 (rNumV (r3 s) 18446744073709551615), .int .u64 (rNumV (r4 s) 18446744073709551615), .int .u64 (rNumV (r5 s) 18446744073709551615), .int .u64 (rNumV (r6 s) 18446744073709551615), .int .u64 (rNumV (r7 s) 18446744073709551615), .bool (decide ((hdV (r8 s).S) = 1)), u, .slice none 0 0, .string (ByteArray.mk #[])] := hC
      have p_0 : E' 55 = (.pointer (some ⟨b14, 9, none⟩) : Value) := hp 0 (by kernel_rfl) _ _ rfl rfl
      exact ⟨Sure.none rfl, V.load (x := .tmp 55) rfl p25 p_0 (hq_b14.cell rfl)⟩
    · intro E' w' hC hE hp
      have hq_b14 : Box w' b14 32 [.int .u8 (hdV ({ S := s, Bad := false } : RRD).S), .int .i64 (IntKind.i64.wrap (rNumV (r1 s) 1048576)), .int .i64 (IntKind.i64.wrap (rNumV (r2 s) 1048576)), .int .u64 (rNumV (r3 s) 18446744073709551615), .int .u64 (rNumV (r4 s) 18446744073709551615), .int .u64 (rNumV (r5 s) 18446744073709551615), .int .u64 (rNumV (r6 s) 18446744073709551615), .int .u64 (rNumV (r7 s) 18446744073709551615), .bool (decide ((hdV (r8 s).S) = 1)), u, .slice none 0 0, .string (ByteArray.mk #[])] := hC
      exact ⟨Sure.none rfl, V.move (x := .tmp 4) rfl ((hE 4 (by kernel_rfl)).trans h4_370)⟩
    · intro Ec394 w395 hx396 hE397 hv398
      have hx399 : Ext [b14, b7, b1] w w395 := hx371.trans (Ext.any (Y := [b14, b7, b1]) hx396)
      have hx400 : Ext [b14, b7, b1] w15 w395 := hx372.trans (Ext.any (Y := [b14, b7, b1]) hx396)
      have hx401 : Ext [b14, b7, b1] w22 w395 := hx373.trans (Ext.any (Y := [b14, b7, b1]) hx396)
      have hx402 : Ext [b14, b7, b1] w31 w395 := hx374.trans (Ext.any (Y := [b14, b7, b1]) hx396)
      have hx403 : Ext [b14, b7, b1] w39 w395 := hx375.trans (Ext.any (Y := [b14, b7, b1]) hx396)
      have hx404 : Ext [b14, b7, b1] w51 w395 := hx376.trans (Ext.any (Y := [b14, b7, b1]) hx396)
      have hx405 : Ext [b14, b7, b1] w61 w395 := hx377.trans (Ext.any (Y := [b14, b7, b1]) hx396)
      have hx406 : Ext [b14, b7, b1] w75 w395 := hx378.trans (Ext.any (Y := [b14, b7, b1]) hx396)
      have hx407 : Ext [b14, b7, b1] w87 w395 := hx379.trans (Ext.any (Y := [b14, b7, b1]) hx396)
      have hx408 : Ext [b14, b7, b1] w102 w395 := hx380.trans (Ext.any (Y := [b14, b7, b1]) hx396)
      have hx409 : Ext [b14, b7, b1] w116 w395 := hx381.trans (Ext.any (Y := [b14, b7, b1]) hx396)
      have hx410 : Ext [b14, b7, b1] w133 w395 := hx382.trans (Ext.any (Y := [b14, b7, b1]) hx396)
      have hx411 : Ext [b14, b7, b1] w149 w395 := hx383.trans (Ext.any (Y := [b14, b7, b1]) hx396)
      have hx412 : Ext [b14, b7, b1] w168 w395 := hx384.trans (Ext.any (Y := [b14, b7, b1]) hx396)
      have hx413 : Ext [b14, b7, b1] w186 w395 := hx385.trans (Ext.any (Y := [b14, b7, b1]) hx396)
      have hx414 : Ext [b14, b7, b1] w207 w395 := hx386.trans (Ext.any (Y := [b14, b7, b1]) hx396)
      have hx415 : Ext [b14, b7, b1] w227 w395 := hx387.trans (Ext.any (Y := [b14, b7, b1]) hx396)
      have hx416 : Ext [b14, b7, b1] w250 w395 := hx388.trans (Ext.any (Y := [b14, b7, b1]) hx396)
      have hx417 : Ext [b14, b7, b1] w272 w395 := hx389.trans (Ext.any (Y := [b14, b7, b1]) hx396)
      have hx418 : Ext [b14, b7, b1] w297 w395 := hx390.trans (Ext.any (Y := [b14, b7, b1]) hx396)
      have hx419 : Ext [b14, b7, b1] w321 w395 := hx391.trans (Ext.any (Y := [b14, b7, b1]) hx396)
      have hx420 : Ext [b14, b7, b1] w349 w395 := (Ext.any (Y := [b14, b7, b1]) hx396)
      have hb421 := hbb1_370.ext hx396 (by simp)
      have hb422 := hbb7_370.ext hx396 (by simp)
      have hb423 := hbb14_370.ext hx396 (by simp)
      have ho424 := hob14_370.keep hx396 (by intro g hg hm; simp at hm) (by simp)
      refine Chain.step rfl (fun _ => hb423) ?_
      intro E425 hE426 hp427
      refine WL.c (Sure.none rfl) rfl (C.call1 (x := .tmp 57) rfl cl73 ((hp427 2 (by kernel_rfl) 57 rfl).trans (hv398 2 _ 57 rfl rfl))) (Fnc.mono (rr_Entry (r := (rEr s k)) hb422 (by show ((rEr s k).S).size ≤ maxLen; simp only [maxLen]; omega) (by omega) (X := (avoid u (b14 :: (b7 :: (b1 :: X))))) (avoid_in ho424 (inCons hb423.lt (inCons hb422.lt (inCons hb421.lt (inMono hX hx399.size)))))) ?_)
      rintro _ w428 ⟨cs430, rfl, hr431, hb432, hx429⟩
      have hb433 := hb421.ext hx429 (by simp; omega)
      have hb434 := hb423.ext hx429 (by simp; omega)
      have hb435 : Box w428 b7 124 [.string ((rEr s (k + 1)).S), .bool ((rEr s (k + 1)).Bad)] := hb432
      have hle436 : (rEr s (k + 1)).S.size ≤ ((rEr s k).S).size := rEntP_le (rEr s k)
      have hx437 : Ext [b14, b7, b1] w w428 := hx399.trans (hx429.mono (by simp))
      have hx438 : Ext [b14, b7, b1] w15 w428 := hx400.trans (hx429.mono (by simp))
      have hx439 : Ext [b14, b7, b1] w22 w428 := hx401.trans (hx429.mono (by simp))
      have hx440 : Ext [b14, b7, b1] w31 w428 := hx402.trans (hx429.mono (by simp))
      have hx441 : Ext [b14, b7, b1] w39 w428 := hx403.trans (hx429.mono (by simp))
      have hx442 : Ext [b14, b7, b1] w51 w428 := hx404.trans (hx429.mono (by simp))
      have hx443 : Ext [b14, b7, b1] w61 w428 := hx405.trans (hx429.mono (by simp))
      have hx444 : Ext [b14, b7, b1] w75 w428 := hx406.trans (hx429.mono (by simp))
      have hx445 : Ext [b14, b7, b1] w87 w428 := hx407.trans (hx429.mono (by simp))
      have hx446 : Ext [b14, b7, b1] w102 w428 := hx408.trans (hx429.mono (by simp))
      have hx447 : Ext [b14, b7, b1] w116 w428 := hx409.trans (hx429.mono (by simp))
      have hx448 : Ext [b14, b7, b1] w133 w428 := hx410.trans (hx429.mono (by simp))
      have hx449 : Ext [b14, b7, b1] w149 w428 := hx411.trans (hx429.mono (by simp))
      have hx450 : Ext [b14, b7, b1] w168 w428 := hx412.trans (hx429.mono (by simp))
      have hx451 : Ext [b14, b7, b1] w186 w428 := hx413.trans (hx429.mono (by simp))
      have hx452 : Ext [b14, b7, b1] w207 w428 := hx414.trans (hx429.mono (by simp))
      have hx453 : Ext [b14, b7, b1] w227 w428 := hx415.trans (hx429.mono (by simp))
      have hx454 : Ext [b14, b7, b1] w250 w428 := hx416.trans (hx429.mono (by simp))
      have hx455 : Ext [b14, b7, b1] w272 w428 := hx417.trans (hx429.mono (by simp))
      have hx456 : Ext [b14, b7, b1] w297 w428 := hx418.trans (hx429.mono (by simp))
      have hx457 : Ext [b14, b7, b1] w321 w428 := hx419.trans (hx429.mono (by simp))
      have hx458 : Ext [b14, b7, b1] w349 w428 := hx420.trans (hx429.mono (by simp))
      have hx459 : Ext [b14, b7, b1] w395 w428 := (hx429.mono (by simp))
      have ho460 := Owns.keep (Y := [b14, b7, b1]) ho424 (hx429.mono (by simp)) (fun g hg hm => hob14_370n g hg (mem_pre (O := [b14, b7, b1]) (X := X) hm)) (fun b hb => mem_pre (O := [b14, b7, b1]) (X := X) hb)
      obtain ⟨v461, rfl, hl462, hk463⟩ := hr431
      obtain ⟨hin464, hin465, hin466⟩ := (show EntryD.InR (rEntV (rEr s k)) from hk463)
      have hin464 := inK_u64 hin464
      have hin465 := inK_u8 hin465
      have hle467 := hl462.le'
      refine WL.nil ⟨_, rfl, ?_⟩
      refine Chain.step rfl (fun _ => hb434) ?_
      intro E469 hE470 hp471
      refine WL.lit (R := entryR) (X := (avoid (u) (b14 :: (b7 :: (b1 :: X))))) (vs := [.agg #[.int .u64 ((rEntV (rEr s k)).Term), .int .u8 ((rEntV (rEr s k)).Kind), .string ((rEntV (rEr s k)).Data), v461]]) (xs := [(rEntV (rEr s k))]) (Sure.none rfl) rfl rfl u25 e90 (by show 0 < (4 : Nat); decide) (by show _ * (4 : Nat) ≤ 1024; decide) (lit1 ((hp471 3 (by kernel_rfl) 58 rfl).trans rfl)) rfl rfl (by intro i v x hv hx; match i, hv, hx with | 0, rfl, rfl => exact ⟨v461, rfl, hl462, hk463⟩ | i + 1, hv, _ => simp at hv) (fun v472 w473 hx474 ho475 hlit476 => ?_)
      have hno477 : ∀ g, (v472).ownBlock = some g → g ∉ (b14 :: (b7 :: (b1 :: X))) := by intro g hg hm; have h1 := hlit476 g hg; have h2 := (inCons hb434.lt (inCons hb435.lt (inCons hb433.lt (inMono hX hx437.size)))) g hm; omega
      have hsz478 : w.heap.size ≤ w428.heap.size := hx437.size
      have hsz479 : w15.heap.size ≤ w428.heap.size := hx438.size
      have hsz480 : w22.heap.size ≤ w428.heap.size := hx439.size
      have hsz481 : w31.heap.size ≤ w428.heap.size := hx440.size
      have hsz482 : w39.heap.size ≤ w428.heap.size := hx441.size
      have hsz483 : w51.heap.size ≤ w428.heap.size := hx442.size
      have hsz484 : w61.heap.size ≤ w428.heap.size := hx443.size
      have hsz485 : w75.heap.size ≤ w428.heap.size := hx444.size
      have hsz486 : w87.heap.size ≤ w428.heap.size := hx445.size
      have hsz487 : w102.heap.size ≤ w428.heap.size := hx446.size
      have hsz488 : w116.heap.size ≤ w428.heap.size := hx447.size
      have hsz489 : w133.heap.size ≤ w428.heap.size := hx448.size
      have hsz490 : w149.heap.size ≤ w428.heap.size := hx449.size
      have hsz491 : w168.heap.size ≤ w428.heap.size := hx450.size
      have hsz492 : w186.heap.size ≤ w428.heap.size := hx451.size
      have hsz493 : w207.heap.size ≤ w428.heap.size := hx452.size
      have hsz494 : w227.heap.size ≤ w428.heap.size := hx453.size
      have hsz495 : w250.heap.size ≤ w428.heap.size := hx454.size
      have hsz496 : w272.heap.size ≤ w428.heap.size := hx455.size
      have hsz497 : w297.heap.size ≤ w428.heap.size := hx456.size
      have hsz498 : w321.heap.size ≤ w428.heap.size := hx457.size
      have hsz499 : w349.heap.size ≤ w428.heap.size := hx458.size
      have hsz500 : w395.heap.size ≤ w428.heap.size := hx459.size
      have hx501 : Ext [b14, b7, b1] w w473 := hx437.trans (Ext.any (Y := [b14, b7, b1]) hx474)
      have hx521 : Ext [b14, b7, b1] w321 w473 := hx457.trans (Ext.any (Y := [b14, b7, b1]) hx474)
      have hb525 := hb433.ext hx474 (by simp)
      have hb526 := hb435.ext hx474 (by simp)
      have hb527 := hb434.ext hx474 (by simp)
      have ho528 := ho460.keep hx474 (by intro g hg hm; simp at hm) (by simp)
      have ho529 := ho475.low (B' := w428.heap.size) (Nat.le_refl _)
      refine WL.nil ⟨_, rfl, ?_⟩
      refine Chain.step rfl (fun _ => hb527) ?_
      intro E530 hE531 hp532
      have hno533 := avoid_no (T := u) (n := w428.heap.size) (fun g hg => Nat.le_of_eq (hlit476 g hg).symm) (fun g hg => (ho460.lt g hg).2) hno477
      refine WL.appendOwn (x := .tmp 56) (y := .tmp 59) (R := entryR) (X := (b14 :: (b7 :: (b1 :: X)))) (B := w321.heap.size) (xs := rEs s k) (ys := [(rEntV (rEr s k))]) (Sure.none rfl) rfl rfl u25 e90 rfl (by show 0 < (4 : Nat); decide) ((hp532 1 (by kernel_rfl) 56 rfl).trans (hv398 1 _ 56 rfl rfl)) ((hp532 4 (by kernel_rfl) 59 rfl).trans rfl) ho528 (Owns.sl' (Owns.mono ho529 (fun b hb => avoid_mem hb)) hno477) (fun g hg => avoid_far (Owns.sl' ho529 hno533) hg) hx521.size (by have hu := rEr_use (s := s) (k := k) (by assumption) (by assumption); simp only [List.length_cons, List.length_nil, rEs, itL_len, maxLen]; omega) (by have hu := rEr_use (s := s) (k := k) (by assumption) (by assumption); simp only [List.length_cons, List.length_nil, rEs, itL_len, maxLen]; omega) (fun v534 w535 ho536 hg537 hf538 => ?_)
      have hno539 := after_no hf538 hob14_370n (inCons hb527.lt (inCons hb526.lt (inCons hb525.lt (inMono hX hx501.size))))
      have hx560 := Ext.ownB (hx521) hg537 (fun k hk => (Owns.lt ho528 k hk).1) (Nat.le_refl _)
      have hb561 := hb525.grown hg537 (fun g hg e => hob14_370n g hg (by simp [e]))
      have hb562 := hb526.grown hg537 (fun g hg e => hob14_370n g hg (by simp [e]))
      have hb563 := hb527.grown hg537 (fun g hg e => hob14_370n g hg (by simp [e]))
      refine WL.nil ⟨_, rfl, ?_⟩
      refine Chain.step rfl (fun _ => hb563) ?_
      intro E564 hE565 hp566
      refine WL.z (.pointer (some ⟨b14, 9, none⟩)) (V.fieldAddr (x := .tmp 5) rfl fl32_9 ((hE565 5 (by kernel_rfl)).trans ((hE397 5 (by kernel_rfl)).trans h5_370))) ?_
      refine WL.nil ⟨_, rfl, ?_⟩
      refine Chain.step rfl (fun h => absurd h (by decide)) ?_
      intro E567 hE568 hp569
      refine WL.store (x := .tmp 61) (y := .tmp 60) (Sure.none rfl) rfl rfl s25 ((hp569 6 (by kernel_rfl) 61 rfl).trans rfl) ((hp569 5 (by kernel_rfl) 60 rfl).trans rfl) (Owns.sl' ho536 hno539).one hb563 (by show (9 : Nat) < 12; decide) (fun w570 hs571 hb572 => ?_)
      replace hb572 : Box w570 b14 32 [.int .u8 (hdV ({ S := s, Bad := false } : RRD).S), .int .i64 (IntKind.i64.wrap (rNumV (r1 s) 1048576)), .int .i64 (IntKind.i64.wrap (rNumV (r2 s) 1048576)), .int .u64 (rNumV (r3 s) 18446744073709551615), .int .u64 (rNumV (r4 s) 18446744073709551615), .int .u64 (rNumV (r5 s) 18446744073709551615), .int .u64 (rNumV (r6 s) 18446744073709551615), .int .u64 (rNumV (r7 s) 18446744073709551615), .bool (decide ((hdV (r8 s).S) = 1)), v534, .slice none 0 0, .string (ByteArray.mk #[])] := hb572
      have hb573 := hb561.ext hs571 (by simp; omega)
      have hb574 := hb562.ext hs571 (by simp; omega)
      have hx595 : Ext [b14, b7, b1] w321 w570 := hx560.trans (hs571.mono (by simp))
      have ho597 := Owns.keep (Y := [b14, b7, b1]) ho536 (hs571.mono (by simp)) (fun g hg hm => hno539 g hg (mem_pre (O := [b14, b7, b1]) (X := X) hm)) (fun b hb => mem_pre (O := [b14, b7, b1]) (X := X) hb)
      refine WL.nil ⟨_, rfl, ?_⟩
      refine WP.region ?_
      refine WL.m rfl ?_
      refine WL.z (.int .u64 ((k : Int) + 1)) (V.arith (x := .tmp 53) rfl ((hE397 7 (by kernel_rfl)).trans h7_370) rfl rfl (wrap_u64 (by omega) (by omega))) ?_
      refine WL.m rfl ?_
      refine WL.nil ?_
      exact ⟨(k + 1, v534), ⟨((hE397 0 (by kernel_rfl)).trans h0_370), ((hE397 2 (by kernel_rfl)).trans h2_370), ((hE397 3 (by kernel_rfl)).trans h3_370), ((hE397 4 (by kernel_rfl)).trans h4_370), ((hE397 5 (by kernel_rfl)).trans h5_370), (Eq.trans ((hE397 6 (by kernel_rfl)).trans h6_370) (int_eq (by omega))), (int_eq (by omega)), hx595, hb573, hb574, hb572, ⟨(Owns.castE (by rfl) ho597), hno539⟩, (by omega), (bad_step (p := fun j => (rEr s j).Bad) (by assumption) (by assumption))⟩, (by show _ - (k + 1) < _ - k; omega)⟩
  refine WP.exit ?_
  refine WP.sr ?_
  have hkn : rEN s = k := rEN_at (by assumption) (by omega) (by first | exact .inl (by omega) | exact .inr (by assumption))
  refine WL.m rfl ?_
  refine WL.c (Sure.none rfl) rfl (C.call1 (x := .tmp 62) rfl cl74 h4_370) (Fnc.mono (rr_Ints (r := (rEr s k)) hbb7_370 (by show ((rEr s k).S).size ≤ maxLen; simp only [maxLen]; omega) (by omega) (X := (avoid u (b14 :: (b7 :: (b1 :: X))))) (avoid_in hob14_370 (inCons hbb14_370.lt (inCons hbb7_370.lt (inCons hbb1_370.lt (inMono hX hx371.size)))))) ?_)
  rintro v600 w598 ⟨_, rfl, hl601, hb602, hx599⟩
  have hb603 := hbb1_370.ext hx599 (by simp; omega)
  have hb604 := hbb14_370.ext hx599 (by simp; omega)
  have hb605 : Box w598 b7 124 [.string ((rI s k).S), .bool ((rI s k).Bad)] := hb602
  have hle606 : (rI s k).S.size ≤ ((rEr s k).S).size := rIntsP_le (rEr s k)
  have hx607 : Ext [b14, b7, b1] w w598 := hx371.trans (hx599.mono (by simp))
  have ho629 := Owns.keep (Y := [b14, b7, b1]) hob14_370 (hx599.mono (by simp)) (fun g hg hm => hob14_370n g hg (mem_pre (O := [b14, b7, b1]) (X := X) hm)) (fun b hb => mem_pre (O := [b14, b7, b1]) (X := X) hb)
  have hl630 := Sl.mono (X := (b14 :: (b7 :: (b1 :: X)))) hl601 (fun b hb => avoid_mem hb)
  refine WL.z (.pointer (some ⟨b14, 10, none⟩)) (V.fieldAddr (x := .tmp 5) rfl fl32_10 h5_370) ?_
  refine WL.store (Sure.none rfl) rfl rfl s22 rfl rfl hl630.one hb604 (by show (10 : Nat) < 12; decide) (fun w631 hs632 hb633 => ?_)
  replace hb633 : Box w631 b14 32 [.int .u8 (hdV ({ S := s, Bad := false } : RRD).S), .int .i64 (IntKind.i64.wrap (rNumV (r1 s) 1048576)), .int .i64 (IntKind.i64.wrap (rNumV (r2 s) 1048576)), .int .u64 (rNumV (r3 s) 18446744073709551615), .int .u64 (rNumV (r4 s) 18446744073709551615), .int .u64 (rNumV (r5 s) 18446744073709551615), .int .u64 (rNumV (r6 s) 18446744073709551615), .int .u64 (rNumV (r7 s) 18446744073709551615), .bool (decide ((hdV (r8 s).S) = 1)), u, v600, .string (ByteArray.mk #[])] := hb633
  have hb634 := hb603.ext hs632 (by simp; omega)
  have hb635 := hb605.ext hs632 (by simp; omega)
  have hx636 : Ext [b14, b7, b1] w w631 := hx607.trans (hs632.mono (by simp))
  have hx658 : Ext [b14, b7, b1] w598 w631 := (hs632.mono (by simp))
  have ho659 := Owns.keep (Y := [b14, b7, b1]) ho629 (hs632.mono (by simp)) (fun g hg hm => hob14_370n g hg (mem_pre (O := [b14, b7, b1]) (X := X) hm)) (fun b hb => mem_pre (O := [b14, b7, b1]) (X := X) hb)
  refine WL.nil ?_
  refine WP.sr ?_
  refine WL.m rfl ?_
  refine WL.c (Sure.none rfl) rfl (C.call1 (x := .tmp 65) rfl cl75 h4_370) (Fnc.mono (rr_Text (r := (rI s k)) hb635 (by show ((rI s k).S).size ≤ maxLen; simp only [maxLen]; omega)) ?_)
  rintro _ w660 ⟨rfl, hb662, hx661⟩
  have hb663 := hb634.ext hx661 (by simp; omega)
  have hb664 := hb633.ext hx661 (by simp; omega)
  have hb665 : Box w660 b7 124 [.string ((rEnd s k).S), .bool ((rEnd s k).Bad)] := hb662
  have hle666 : (rEnd s k).S.size ≤ ((rI s k).S).size := rTextP_le (rI s k)
  have hx667 : Ext [b14, b7, b1] w w660 := hx636.trans (hx661.mono (by simp))
  have hx689 : Ext [b14, b7, b1] w598 w660 := hx658.trans (hx661.mono (by simp))
  have ho691 := Owns.keep (Y := [b14, b7, b1]) ho659 (hx661.mono (by simp)) (fun g hg hm => hob14_370n g hg (mem_pre (O := [b14, b7, b1]) (X := X) hm)) (fun b hb => mem_pre (O := [b14, b7, b1]) (X := X) hb)
  refine WL.z (.pointer (some ⟨b14, 11, none⟩)) (V.fieldAddr (x := .tmp 5) rfl fl32_11 h5_370) ?_
  refine WL.store (Sure.none rfl) rfl rfl s9 rfl rfl rfl hb664 (by show (11 : Nat) < 12; decide) (fun w692 hs693 hb694 => ?_)
  replace hb694 : Box w692 b14 32 [.int .u8 (hdV ({ S := s, Bad := false } : RRD).S), .int .i64 (IntKind.i64.wrap (rNumV (r1 s) 1048576)), .int .i64 (IntKind.i64.wrap (rNumV (r2 s) 1048576)), .int .u64 (rNumV (r3 s) 18446744073709551615), .int .u64 (rNumV (r4 s) 18446744073709551615), .int .u64 (rNumV (r5 s) 18446744073709551615), .int .u64 (rNumV (r6 s) 18446744073709551615), .int .u64 (rNumV (r7 s) 18446744073709551615), .bool (decide ((hdV (r8 s).S) = 1)), u, v600, .string (rTextV (rI s k))] := hb694
  have hb695 := hb663.ext hs693 (by simp; omega)
  have hb696 := hb665.ext hs693 (by simp; omega)
  have hx697 : Ext [b14, b7, b1] w w692 := hx667.trans (hs693.mono (by simp))
  have hx719 : Ext [b14, b7, b1] w598 w692 := hx689.trans (hs693.mono (by simp))
  have ho722 := Owns.keep (Y := [b14, b7, b1]) ho691 (hs693.mono (by simp)) (fun g hg hm => hob14_370n g hg (mem_pre (O := [b14, b7, b1]) (X := X) hm)) (fun b hb => mem_pre (O := [b14, b7, b1]) (X := X) hb)
  refine WL.nil ?_
  refine WP.seq ?_
  refine WP.sr ?_
  have hsz := rMsgK_sz s k hs
  have hag723 : ((rMsgK s k)).InR := rMsgK_in s k hs
  refine WL.m rfl ?_
  refine WL.z (.pointer (some ⟨b7, 0, none⟩)) (V.nilCheck (x := .tmp 68) rfl h4_370) ?_
  refine WL.f (.bool ((rEnd s k).Bad)) fl124_1 rfl p4 (hb696.cell rfl) ?_
  refine WL.vb (c := (rEnd s k).Bad) (Sure.none rfl) rfl (V.move rfl rfl) (fun hc724 => ?_) (fun hc724 => ?_)
  · refine WL.s (Shut.no rfl rfl rfl rfl) rfl ?_
    refine WL.s (Shut.no rfl rfl rfl rfl) rfl ?_
    refine WL.s (Shut.no rfl rfl rfl rfl) rfl ?_
    refine WL.s (Shut.no rfl rfl rfl rfl) rfl ?_
    refine WL.s (Shut.no rfl rfl rfl rfl) rfl ?_
    refine WL.k (a := true) rfl rfl ?_
    refine WL.m rfl ?_
    refine WL.s (Shut.no rfl rfl rfl rfl) rfl ?_
    refine WL.s (Shut.no rfl rfl rfl rfl) rfl ?_
    refine WL.s (Shut.no rfl rfl rfl rfl) rfl ?_
    refine WL.k (a := true) rfl rfl ?_
    refine WL.m rfl ?_
    refine WL.s (Shut.no rfl rfl rfl rfl) rfl ?_
    refine WL.s (Shut.no rfl rfl rfl rfl) rfl ?_
    refine WL.skips [(84, some true)] [(89, some true)] (kc (some true) rfl kn) (by kernel_rfl) (fun E725 hK726 hE727 => ?_)
    refine WP.cond_true (hK726 89 (some true) rfl) ?_
    refine WP.sr ?_
    have hvno : rOk s = false := rRead_no1 hkn hc724
    refine WL.z (.agg #[.int .u8 (0), .int .i64 (0), .int .i64 (0), .int .u64 (0), .int .u64 (0), .int .u64 (0), .int .u64 (0), .int .u64 (0), .bool (false), .slice none 0 0, .slice none 0 0, .string (ByteArray.mk #[])]) (V.build1 (L := []) rfl rfl bu32_d7517139) ?_
    refine WL.storeAgg (x := .tmp 2) (vs := [.int .u8 (0), .int .i64 (0), .int .i64 (0), .int .u64 (0), .int .u64 (0), .int .u64 (0), .int .u64 (0), .int .u64 (0), .bool (false), .slice none 0 0, .slice none 0 0, .string (ByteArray.mk #[])]) (Sure.none rfl) rfl rfl s32 ((hE727 2 rfl).trans h2_370) rfl rfl (by intro u hu; simp only [List.mem_cons, List.not_mem_nil, or_false] at hu; rcases hu with rfl | rfl | rfl | rfl | rfl | rfl | rfl | rfl | rfl | rfl | rfl | rfl <;> first | rfl | exact Sl.one (by assumption)) hb695 (by show (0 : Nat) + 12 ≤ 12; decide) (fun w728 hs729 hb730 => ?_)
    replace hb730 : Box w728 b1 32 [.int .u8 (0), .int .i64 (0), .int .i64 (0), .int .u64 (0), .int .u64 (0), .int .u64 (0), .int .u64 (0), .int .u64 (0), .bool (false), .slice none 0 0, .slice none 0 0, .string (ByteArray.mk #[])] := hb730
    have hx733 : Ext [b14, b7, b1] w w728 := hx697.trans (hs729.mono (by simp))
    refine WL.m rfl ?_
    refine WL.nil ?_
    refine WP.ret ?_
    refine resOf.c2 rfl (v := .agg #[.int .u8 (0), .int .i64 (0), .int .i64 (0), .int .u64 (0), .int .u64 (0), .int .u64 (0), .int .u64 (0), .int .u64 (0), .bool (false), .slice none 0 0, .slice none 0 0, .string (ByteArray.mk #[])]) ⟨_, _, ((hE727 2 rfl).trans h2_370), run_loadVar_agg a32 (At.box hb730) rfl⟩ (v' := .int .i64 (2)) rfl ?_
    exact ⟨[.int .u8 (0), .int .i64 (0), .int .i64 (0), .int .u64 (0), .int .u64 (0), .int .u64 (0), .int .u64 (0), .int .u64 (0), .bool (false), .slice none 0 0, .slice none 0 0, .string (ByteArray.mk #[])], (tup2 rfl (int_eq (by first | (rw [if_pos hvok]; done) | (rw [if_neg (by rw [hvno]; decide)]; done)))), (Rep.base (O := [b14, b7, b1]) (castRd (R := msgR) (show (({ Kind := 0, From := 0, To := 0, Term := 0, Index := 0, LogTerm := 0, Commit := 0, Round := 0, Ok := false, Entries := [], Members := [], Snap := (ByteArray.mk #[]) } : MsgD) : MsgD) = rRead s from (by first | exact rRead_zero hvno | exact rRead_is hkn hvok)) ⟨.slice none 0 0, .slice none 0 0, rfl, Sl.nil, Sl.nil, ⟨(inK_u8' (n := 0) (by omega)), (inK_i64' (n := 0) (by omega)), (inK_i64' (n := 0) (by omega)), (inK_u64' (n := 0) (by omega)), (inK_u64' (n := 0) (by omega)), (inK_u64' (n := 0) (by omega)), (inK_u64' (n := 0) (by omega)), (inK_u64' (n := 0) (by omega)), (Nat.zero_le _)⟩⟩)), ((hx733).done (geCons hge_b14_w (geCons hge_b7_w (geCons hge_b1_w geNil))))⟩
  refine WL.my rfl rfl ?_
  refine WL.y (.pointer (some ⟨b7, 0, none⟩)) rfl (V.nilCheck (x := .tmp 73) rfl h4_370) ?_
  refine WL.fy (.string ((rEnd s k).S)) rfl fl124_0 rfl p9 (hb696.cell rfl) ?_
  refine WL.y (.bool (!(seqB ((rEnd s k).S) (ByteArray.mk #[])))) rfl (V.scmp rfl rfl rfl rfl) ?_
  refine WL.k (a := false) rfl rfl ?_
  refine WL.vbn (c := seqB ((rEnd s k).S) (ByteArray.mk #[])) (Sure.none rfl) rfl (V.move rfl rfl) (fun hc760 => ?_) (fun hc760 => ?_)
  · refine WL.s (Shut.no rfl rfl rfl rfl) rfl ?_
    refine WL.s (Shut.no rfl rfl rfl rfl) rfl ?_
    refine WL.s (Shut.no rfl rfl rfl rfl) rfl ?_
    refine WL.k (a := true) rfl rfl ?_
    refine WL.m rfl ?_
    refine WL.s (Shut.no rfl rfl rfl rfl) rfl ?_
    refine WL.s (Shut.no rfl rfl rfl rfl) rfl ?_
    refine WL.skips [(84, some true)] [(89, some true)] (kc (some true) rfl kn) (by kernel_rfl) (fun E761 hK762 hE763 => ?_)
    refine WP.cond_true (hK762 89 (some true) rfl) ?_
    refine WP.sr ?_
    have hvno : rOk s = false := rRead_no2 hkn hc760
    refine WL.z (.agg #[.int .u8 (0), .int .i64 (0), .int .i64 (0), .int .u64 (0), .int .u64 (0), .int .u64 (0), .int .u64 (0), .int .u64 (0), .bool (false), .slice none 0 0, .slice none 0 0, .string (ByteArray.mk #[])]) (V.build1 (L := []) rfl rfl bu32_d7517139) ?_
    refine WL.storeAgg (x := .tmp 2) (vs := [.int .u8 (0), .int .i64 (0), .int .i64 (0), .int .u64 (0), .int .u64 (0), .int .u64 (0), .int .u64 (0), .int .u64 (0), .bool (false), .slice none 0 0, .slice none 0 0, .string (ByteArray.mk #[])]) (Sure.none rfl) rfl rfl s32 ((hE763 2 rfl).trans h2_370) rfl rfl (by intro u hu; simp only [List.mem_cons, List.not_mem_nil, or_false] at hu; rcases hu with rfl | rfl | rfl | rfl | rfl | rfl | rfl | rfl | rfl | rfl | rfl | rfl <;> first | rfl | exact Sl.one (by assumption)) hb695 (by show (0 : Nat) + 12 ≤ 12; decide) (fun w764 hs765 hb766 => ?_)
    replace hb766 : Box w764 b1 32 [.int .u8 (0), .int .i64 (0), .int .i64 (0), .int .u64 (0), .int .u64 (0), .int .u64 (0), .int .u64 (0), .int .u64 (0), .bool (false), .slice none 0 0, .slice none 0 0, .string (ByteArray.mk #[])] := hb766
    have hx769 : Ext [b14, b7, b1] w w764 := hx697.trans (hs765.mono (by simp))
    refine WL.m rfl ?_
    refine WL.nil ?_
    refine WP.ret ?_
    refine resOf.c2 rfl (v := .agg #[.int .u8 (0), .int .i64 (0), .int .i64 (0), .int .u64 (0), .int .u64 (0), .int .u64 (0), .int .u64 (0), .int .u64 (0), .bool (false), .slice none 0 0, .slice none 0 0, .string (ByteArray.mk #[])]) ⟨_, _, ((hE763 2 rfl).trans h2_370), run_loadVar_agg a32 (At.box hb766) rfl⟩ (v' := .int .i64 (2)) rfl ?_
    exact ⟨[.int .u8 (0), .int .i64 (0), .int .i64 (0), .int .u64 (0), .int .u64 (0), .int .u64 (0), .int .u64 (0), .int .u64 (0), .bool (false), .slice none 0 0, .slice none 0 0, .string (ByteArray.mk #[])], (tup2 rfl (int_eq (by first | (rw [if_pos hvok]; done) | (rw [if_neg (by rw [hvno]; decide)]; done)))), (Rep.base (O := [b14, b7, b1]) (castRd (R := msgR) (show (({ Kind := 0, From := 0, To := 0, Term := 0, Index := 0, LogTerm := 0, Commit := 0, Round := 0, Ok := false, Entries := [], Members := [], Snap := (ByteArray.mk #[]) } : MsgD) : MsgD) = rRead s from (by first | exact rRead_zero hvno | exact rRead_is hkn hvok)) ⟨.slice none 0 0, .slice none 0 0, rfl, Sl.nil, Sl.nil, ⟨(inK_u8' (n := 0) (by omega)), (inK_i64' (n := 0) (by omega)), (inK_i64' (n := 0) (by omega)), (inK_u64' (n := 0) (by omega)), (inK_u64' (n := 0) (by omega)), (inK_u64' (n := 0) (by omega)), (inK_u64' (n := 0) (by omega)), (inK_u64' (n := 0) (by omega)), (Nat.zero_le _)⟩⟩)), ((hx769).done (geCons hge_b14_w (geCons hge_b7_w (geCons hge_b1_w geNil))))⟩
  refine WL.y (.agg #[.int .u8 (hdV ({ S := s, Bad := false } : RRD).S), .int .i64 (IntKind.i64.wrap (rNumV (r1 s) 1048576)), .int .i64 (IntKind.i64.wrap (rNumV (r2 s) 1048576)), .int .u64 (rNumV (r3 s) 18446744073709551615), .int .u64 (rNumV (r4 s) 18446744073709551615), .int .u64 (rNumV (r5 s) 18446744073709551615), .int .u64 (rNumV (r6 s) 18446744073709551615), .int .u64 (rNumV (r7 s) 18446744073709551615), .bool (decide ((hdV (r8 s).S) = 1)), u, v600, .string (rTextV (rI s k))]) rfl (V.loadAgg (x := .tmp 5) (cs := [.int .u8 (hdV ({ S := s, Bad := false } : RRD).S), .int .i64 (IntKind.i64.wrap (rNumV (r1 s) 1048576)), .int .i64 (IntKind.i64.wrap (rNumV (r2 s) 1048576)), .int .u64 (rNumV (r3 s) 18446744073709551615), .int .u64 (rNumV (r4 s) 18446744073709551615), .int .u64 (rNumV (r5 s) 18446744073709551615), .int .u64 (rNumV (r6 s) 18446744073709551615), .int .u64 (rNumV (r7 s) 18446744073709551615), .bool (decide ((hdV (r8 s).S) = 1)), u, v600, .string (rTextV (rI s k))]) rfl a32 h5_370 (At.box hb694) rfl) ?_
  refine WL.c (Sure.yes rfl rfl rfl) rfl (C.call1 rfl cl13 rfl) (Fnc.mono (ref_MayMsg (m := (rMsgK s k)) (rMsgK_rd ⟨u, v600, (by with_reducible rfl), (Owns.sl' ho722 hob14_370n), (hl630.ext (Ext.pre hx719)), hag723⟩)) ?_)
  rintro _ w796 ⟨rfl, hx797⟩
  have hx798 : Ext [b14, b7, b1] w w796 := hx697.trans (Ext.any (Y := [b14, b7, b1]) hx797)
  have hx820 : Ext [b14, b7, b1] w598 w796 := hx719.trans (Ext.any (Y := [b14, b7, b1]) hx797)
  have hb824 := hb695.ext hx797 (by simp)
  have hb826 := hb694.ext hx797 (by simp)
  have ho827 := ho722.keep hx797 (by intro g hg hm; simp at hm) (by simp)
  refine WL.y (.bool (!(refMayMsgB (rMsgK s k)))) rfl (V.not rfl rfl) ?_
  refine WL.k (a := false) rfl rfl ?_
  refine WL.vbn (c := refMayMsgB (rMsgK s k)) (Sure.none rfl) rfl (V.move rfl rfl) (fun hc828 => ?_) (fun hc828 => ?_)
  · refine WL.s (Shut.no rfl rfl rfl rfl) rfl ?_
    refine WL.s (Shut.no rfl rfl rfl rfl) rfl ?_
    refine WL.skips [(84, some true)] [(89, some true)] (kc (some true) rfl kn) (by kernel_rfl) (fun E829 hK830 hE831 => ?_)
    refine WP.cond_true (hK830 89 (some true) rfl) ?_
    refine WP.sr ?_
    have hvno : rOk s = false := rRead_no3 hkn hc828
    refine WL.z (.agg #[.int .u8 (0), .int .i64 (0), .int .i64 (0), .int .u64 (0), .int .u64 (0), .int .u64 (0), .int .u64 (0), .int .u64 (0), .bool (false), .slice none 0 0, .slice none 0 0, .string (ByteArray.mk #[])]) (V.build1 (L := []) rfl rfl bu32_d7517139) ?_
    refine WL.storeAgg (x := .tmp 2) (vs := [.int .u8 (0), .int .i64 (0), .int .i64 (0), .int .u64 (0), .int .u64 (0), .int .u64 (0), .int .u64 (0), .int .u64 (0), .bool (false), .slice none 0 0, .slice none 0 0, .string (ByteArray.mk #[])]) (Sure.none rfl) rfl rfl s32 ((hE831 2 rfl).trans h2_370) rfl rfl (by intro u hu; simp only [List.mem_cons, List.not_mem_nil, or_false] at hu; rcases hu with rfl | rfl | rfl | rfl | rfl | rfl | rfl | rfl | rfl | rfl | rfl | rfl <;> first | rfl | exact Sl.one (by assumption)) hb824 (by show (0 : Nat) + 12 ≤ 12; decide) (fun w832 hs833 hb834 => ?_)
    replace hb834 : Box w832 b1 32 [.int .u8 (0), .int .i64 (0), .int .i64 (0), .int .u64 (0), .int .u64 (0), .int .u64 (0), .int .u64 (0), .int .u64 (0), .bool (false), .slice none 0 0, .slice none 0 0, .string (ByteArray.mk #[])] := hb834
    have hx837 : Ext [b14, b7, b1] w w832 := hx798.trans (hs833.mono (by simp))
    refine WL.m rfl ?_
    refine WL.nil ?_
    refine WP.ret ?_
    refine resOf.c2 rfl (v := .agg #[.int .u8 (0), .int .i64 (0), .int .i64 (0), .int .u64 (0), .int .u64 (0), .int .u64 (0), .int .u64 (0), .int .u64 (0), .bool (false), .slice none 0 0, .slice none 0 0, .string (ByteArray.mk #[])]) ⟨_, _, ((hE831 2 rfl).trans h2_370), run_loadVar_agg a32 (At.box hb834) rfl⟩ (v' := .int .i64 (2)) rfl ?_
    exact ⟨[.int .u8 (0), .int .i64 (0), .int .i64 (0), .int .u64 (0), .int .u64 (0), .int .u64 (0), .int .u64 (0), .int .u64 (0), .bool (false), .slice none 0 0, .slice none 0 0, .string (ByteArray.mk #[])], (tup2 rfl (int_eq (by first | (rw [if_pos hvok]; done) | (rw [if_neg (by rw [hvno]; decide)]; done)))), (Rep.base (O := [b14, b7, b1]) (castRd (R := msgR) (show (({ Kind := 0, From := 0, To := 0, Term := 0, Index := 0, LogTerm := 0, Commit := 0, Round := 0, Ok := false, Entries := [], Members := [], Snap := (ByteArray.mk #[]) } : MsgD) : MsgD) = rRead s from (by first | exact rRead_zero hvno | exact rRead_is hkn hvok)) ⟨.slice none 0 0, .slice none 0 0, rfl, Sl.nil, Sl.nil, ⟨(inK_u8' (n := 0) (by omega)), (inK_i64' (n := 0) (by omega)), (inK_i64' (n := 0) (by omega)), (inK_u64' (n := 0) (by omega)), (inK_u64' (n := 0) (by omega)), (inK_u64' (n := 0) (by omega)), (inK_u64' (n := 0) (by omega)), (inK_u64' (n := 0) (by omega)), (Nat.zero_le _)⟩⟩)), ((hx837).done (geCons hge_b14_w (geCons hge_b7_w (geCons hge_b1_w geNil))))⟩
  refine WL.y (.agg #[.int .u8 (hdV ({ S := s, Bad := false } : RRD).S), .int .i64 (IntKind.i64.wrap (rNumV (r1 s) 1048576)), .int .i64 (IntKind.i64.wrap (rNumV (r2 s) 1048576)), .int .u64 (rNumV (r3 s) 18446744073709551615), .int .u64 (rNumV (r4 s) 18446744073709551615), .int .u64 (rNumV (r5 s) 18446744073709551615), .int .u64 (rNumV (r6 s) 18446744073709551615), .int .u64 (rNumV (r7 s) 18446744073709551615), .bool (decide ((hdV (r8 s).S) = 1)), u, v600, .string (rTextV (rI s k))]) rfl (V.loadAgg (x := .tmp 5) (cs := [.int .u8 (hdV ({ S := s, Bad := false } : RRD).S), .int .i64 (IntKind.i64.wrap (rNumV (r1 s) 1048576)), .int .i64 (IntKind.i64.wrap (rNumV (r2 s) 1048576)), .int .u64 (rNumV (r3 s) 18446744073709551615), .int .u64 (rNumV (r4 s) 18446744073709551615), .int .u64 (rNumV (r5 s) 18446744073709551615), .int .u64 (rNumV (r6 s) 18446744073709551615), .int .u64 (rNumV (r7 s) 18446744073709551615), .bool (decide ((hdV (r8 s).S) = 1)), u, v600, .string (rTextV (rI s k))]) rfl a32 h5_370 (At.box hb826) rfl) ?_
  have hok := rMsgK_ok hs hc828
  refine WL.c (Sure.yes rfl rfl rfl) rfl (C.call1 rfl cl26 rfl) (Fnc.mono (ref_Bytes (m := (rMsgK s k)) (rMsgK_rd ⟨u, v600, (by with_reducible rfl), (Owns.sl' ho827 hob14_370n), (hl630.ext (Ext.pre hx820)), hag723⟩) (by assumption) (by assumption)) ?_)
  rintro _ w865 ⟨rfl, hx866⟩
  have hx867 : Ext [b14, b7, b1] w w865 := hx798.trans (Ext.any (Y := [b14, b7, b1]) hx866)
  have hx889 : Ext [b14, b7, b1] w598 w865 := hx820.trans (Ext.any (Y := [b14, b7, b1]) hx866)
  have hb894 := hb824.ext hx866 (by simp)
  have hb896 := hb826.ext hx866 (by simp)
  have ho897 := ho827.keep hx866 (by intro g hg hm; simp at hm) (by simp)
  refine WL.my rfl rfl ?_
  refine WL.y (.bool (!(seqB (bytesB (rMsgK s k)) s))) rfl (V.scmp (y := .tmp 87) rfl rfl h0_370 rfl) ?_
  refine WL.k (a := false) rfl rfl ?_
  refine WL.nil ?_
  refine WP.condn (t := seqB (bytesB (rMsgK s k)) s) rfl (fun hc898 => ?_) (fun hc898 => ?_)
  · refine WP.sr ?_
    have hvno : rOk s = false := rRead_no4 hkn hc898
    refine WL.z (.agg #[.int .u8 (0), .int .i64 (0), .int .i64 (0), .int .u64 (0), .int .u64 (0), .int .u64 (0), .int .u64 (0), .int .u64 (0), .bool (false), .slice none 0 0, .slice none 0 0, .string (ByteArray.mk #[])]) (V.build1 (L := []) rfl rfl bu32_d7517139) ?_
    refine WL.storeAgg (x := .tmp 2) (vs := [.int .u8 (0), .int .i64 (0), .int .i64 (0), .int .u64 (0), .int .u64 (0), .int .u64 (0), .int .u64 (0), .int .u64 (0), .bool (false), .slice none 0 0, .slice none 0 0, .string (ByteArray.mk #[])]) (Sure.none rfl) rfl rfl s32 h2_370 rfl rfl (by intro u hu; simp only [List.mem_cons, List.not_mem_nil, or_false] at hu; rcases hu with rfl | rfl | rfl | rfl | rfl | rfl | rfl | rfl | rfl | rfl | rfl | rfl <;> first | rfl | exact Sl.one (by assumption)) hb894 (by show (0 : Nat) + 12 ≤ 12; decide) (fun w899 hs900 hb901 => ?_)
    replace hb901 : Box w899 b1 32 [.int .u8 (0), .int .i64 (0), .int .i64 (0), .int .u64 (0), .int .u64 (0), .int .u64 (0), .int .u64 (0), .int .u64 (0), .bool (false), .slice none 0 0, .slice none 0 0, .string (ByteArray.mk #[])] := hb901
    have hx904 : Ext [b14, b7, b1] w w899 := hx867.trans (hs900.mono (by simp))
    refine WL.m rfl ?_
    refine WL.nil ?_
    refine WP.ret ?_
    refine resOf.c2 rfl (v := .agg #[.int .u8 (0), .int .i64 (0), .int .i64 (0), .int .u64 (0), .int .u64 (0), .int .u64 (0), .int .u64 (0), .int .u64 (0), .bool (false), .slice none 0 0, .slice none 0 0, .string (ByteArray.mk #[])]) ⟨_, _, h2_370, run_loadVar_agg a32 (At.box hb901) rfl⟩ (v' := .int .i64 (2)) rfl ?_
    exact ⟨[.int .u8 (0), .int .i64 (0), .int .i64 (0), .int .u64 (0), .int .u64 (0), .int .u64 (0), .int .u64 (0), .int .u64 (0), .bool (false), .slice none 0 0, .slice none 0 0, .string (ByteArray.mk #[])], (tup2 rfl (int_eq (by first | (rw [if_pos hvok]; done) | (rw [if_neg (by rw [hvno]; decide)]; done)))), (Rep.base (O := [b14, b7, b1]) (castRd (R := msgR) (show (({ Kind := 0, From := 0, To := 0, Term := 0, Index := 0, LogTerm := 0, Commit := 0, Round := 0, Ok := false, Entries := [], Members := [], Snap := (ByteArray.mk #[]) } : MsgD) : MsgD) = rRead s from (by first | exact rRead_zero hvno | exact rRead_is hkn hvok)) ⟨.slice none 0 0, .slice none 0 0, rfl, Sl.nil, Sl.nil, ⟨(inK_u8' (n := 0) (by omega)), (inK_i64' (n := 0) (by omega)), (inK_i64' (n := 0) (by omega)), (inK_u64' (n := 0) (by omega)), (inK_u64' (n := 0) (by omega)), (inK_u64' (n := 0) (by omega)), (inK_u64' (n := 0) (by omega)), (inK_u64' (n := 0) (by omega)), (Nat.zero_le _)⟩⟩)), ((hx904).done (geCons hge_b14_w (geCons hge_b7_w (geCons hge_b1_w geNil))))⟩
  refine WP.skip ?_
  refine WP.sr ?_
  have hvok : rOk s = true := rRead_yes hkn hc724 hc760 hc828 hc898
  refine WL.z (.agg #[.int .u8 (hdV ({ S := s, Bad := false } : RRD).S), .int .i64 (IntKind.i64.wrap (rNumV (r1 s) 1048576)), .int .i64 (IntKind.i64.wrap (rNumV (r2 s) 1048576)), .int .u64 (rNumV (r3 s) 18446744073709551615), .int .u64 (rNumV (r4 s) 18446744073709551615), .int .u64 (rNumV (r5 s) 18446744073709551615), .int .u64 (rNumV (r6 s) 18446744073709551615), .int .u64 (rNumV (r7 s) 18446744073709551615), .bool (decide ((hdV (r8 s).S) = 1)), u, v600, .string (rTextV (rI s k))]) (V.loadAgg (x := .tmp 5) (cs := [.int .u8 (hdV ({ S := s, Bad := false } : RRD).S), .int .i64 (IntKind.i64.wrap (rNumV (r1 s) 1048576)), .int .i64 (IntKind.i64.wrap (rNumV (r2 s) 1048576)), .int .u64 (rNumV (r3 s) 18446744073709551615), .int .u64 (rNumV (r4 s) 18446744073709551615), .int .u64 (rNumV (r5 s) 18446744073709551615), .int .u64 (rNumV (r6 s) 18446744073709551615), .int .u64 (rNumV (r7 s) 18446744073709551615), .bool (decide ((hdV (r8 s).S) = 1)), u, v600, .string (rTextV (rI s k))]) rfl a32 h5_370 (At.box hb896) rfl) ?_
  have hl936 := Owns.sl' ho897 hob14_370n
  refine WL.storeAgg (x := .tmp 2) (vs := [.int .u8 (hdV ({ S := s, Bad := false } : RRD).S), .int .i64 (IntKind.i64.wrap (rNumV (r1 s) 1048576)), .int .i64 (IntKind.i64.wrap (rNumV (r2 s) 1048576)), .int .u64 (rNumV (r3 s) 18446744073709551615), .int .u64 (rNumV (r4 s) 18446744073709551615), .int .u64 (rNumV (r5 s) 18446744073709551615), .int .u64 (rNumV (r6 s) 18446744073709551615), .int .u64 (rNumV (r7 s) 18446744073709551615), .bool (decide ((hdV (r8 s).S) = 1)), u, v600, .string (rTextV (rI s k))]) (Sure.none rfl) rfl rfl s32 h2_370 rfl rfl (by intro u hu; simp only [List.mem_cons, List.not_mem_nil, or_false] at hu; rcases hu with rfl | rfl | rfl | rfl | rfl | rfl | rfl | rfl | rfl | rfl | rfl | rfl <;> first | rfl | exact Sl.one (by assumption)) hb894 (by show (0 : Nat) + 12 ≤ 12; decide) (fun w933 hs934 hb935 => ?_)
  replace hb935 : Box w933 b1 32 [.int .u8 (hdV ({ S := s, Bad := false } : RRD).S), .int .i64 (IntKind.i64.wrap (rNumV (r1 s) 1048576)), .int .i64 (IntKind.i64.wrap (rNumV (r2 s) 1048576)), .int .u64 (rNumV (r3 s) 18446744073709551615), .int .u64 (rNumV (r4 s) 18446744073709551615), .int .u64 (rNumV (r5 s) 18446744073709551615), .int .u64 (rNumV (r6 s) 18446744073709551615), .int .u64 (rNumV (r7 s) 18446744073709551615), .bool (decide ((hdV (r8 s).S) = 1)), u, v600, .string (rTextV (rI s k))] := hb935
  have hx939 : Ext [b14, b7, b1] w w933 := hx867.trans (hs934.mono (by simp))
  have hx961 : Ext [b14, b7, b1] w598 w933 := hx889.trans (hs934.mono (by simp))
  have hx966 : Ext [b14, b7, b1] w865 w933 := (hs934.mono (by simp))
  refine WL.m rfl ?_
  refine WL.nil ?_
  refine WP.ret ?_
  refine resOf.c2 rfl (v := .agg #[.int .u8 (hdV ({ S := s, Bad := false } : RRD).S), .int .i64 (IntKind.i64.wrap (rNumV (r1 s) 1048576)), .int .i64 (IntKind.i64.wrap (rNumV (r2 s) 1048576)), .int .u64 (rNumV (r3 s) 18446744073709551615), .int .u64 (rNumV (r4 s) 18446744073709551615), .int .u64 (rNumV (r5 s) 18446744073709551615), .int .u64 (rNumV (r6 s) 18446744073709551615), .int .u64 (rNumV (r7 s) 18446744073709551615), .bool (decide ((hdV (r8 s).S) = 1)), u, v600, .string (rTextV (rI s k))]) ⟨_, _, h2_370, run_loadVar_agg a32 (At.box hb935) rfl⟩ (v' := .int .i64 (0)) rfl ?_
  exact ⟨[.int .u8 (hdV ({ S := s, Bad := false } : RRD).S), .int .i64 (IntKind.i64.wrap (rNumV (r1 s) 1048576)), .int .i64 (IntKind.i64.wrap (rNumV (r2 s) 1048576)), .int .u64 (rNumV (r3 s) 18446744073709551615), .int .u64 (rNumV (r4 s) 18446744073709551615), .int .u64 (rNumV (r5 s) 18446744073709551615), .int .u64 (rNumV (r6 s) 18446744073709551615), .int .u64 (rNumV (r7 s) 18446744073709551615), .bool (decide ((hdV (r8 s).S) = 1)), u, v600, .string (rTextV (rI s k))], (tup2 rfl (int_eq (by first | (rw [if_pos hvok]; done) | (rw [if_neg (by rw [hvno]; decide)]; done)))), (Rep.base (O := [b14, b7, b1]) (castRd (R := msgR) (show ((rMsgK s k) : MsgD) = rRead s from (by first | exact rRead_zero hvno | exact rRead_is hkn hvok)) (rMsgK_rd ⟨u, v600, (by with_reducible rfl), (hl936.ext (Ext.pre hx966)), (hl630.ext (Ext.pre hx961)), hag723⟩))), ((hx939).done (geCons hge_b14_w (geCons hge_b7_w (geCons hge_b1_w geNil))))⟩
end Go.Proofs.Ytbpamkbegggeoaa.X1
namespace Go.Proofs.Ytbpamkbegggeoaa.X1
open T W Go.RowKit
set_option maxRecDepth 100000
set_option maxHeartbeats 400000
theorem sn_get {L : List Int} {t : ByteArray} {i : Nat} (h : i < L.length) (hr : 0 ≤ L.getD i 0 ∧ L.getD i 0 ≤ 255) : ((((strOfNums L ++ t).data.getD i 0).toNat : Nat) : Int) = L.getD i 0 := by
  have h1 : (strOfNums L ++ t).data.getD i 0 = UInt8.ofNat (L.getD i 0).toNat := by
    rw [ByteArray.data_append, Array.getD_eq_getD_getElem?, Array.getElem?_append_left (by simpa [strOfNums] using h), List.getD_eq_getElem?_getD]
    simp [strOfNums, h]
  rw [h1]
  have : (UInt8.ofNat (L.getD i 0).toNat).toNat = (L.getD i 0).toNat % 256 := by simp
  rw [this]
  omega
theorem sn_get' {L : List Int} {i : Nat} (h : i < L.length) (hr : 0 ≤ L.getD i 0 ∧ L.getD i 0 ≤ 255) : ((((strOfNums L).data.getD i 0).toNat : Nat) : Int) = L.getD i 0 := by
  have := sn_get (t := ByteArray.empty) h hr
  rwa [ByteArray.append_empty] at this
theorem wrap_u64_of {n : Nat} (h : n < 2 ^ 64) : IntKind.u64.wrap (n : Int) = n := by
  simp only [IntKind.wrap, IntKind.signed, IntKind.bits]
  simp; omega
theorem bor_byte {a b : Nat} (ha : a < 2 ^ 56) (hb : b < 256) : bor .u64 (bshl .u64 (a : Int) 8) (b : Int) = ((a * 256 + b : Nat) : Int) := by
  have h1 : bshl .u64 (a : Int) 8 = ((a * 256 : Nat) : Int) := by
    have : (a : Int) * 2 ^ (min (8 : Int).toNat IntKind.u64.bits) = ((a * 256 : Nat) : Int) := by simp [IntKind.bits]
    rw [bshl, this, wrap_u64_of (by omega)]
  rw [h1, bor]
  have h2 : (BitVec.ofInt IntKind.u64.bits ((a * 256 : Nat) : Int) ||| BitVec.ofInt IntKind.u64.bits (b : Int)).toNat = a * 256 + b := by
    rw [BitVec.toNat_or, BitVec.ofInt_natCast, BitVec.ofInt_natCast, BitVec.toNat_ofNat, BitVec.toNat_ofNat, Nat.mod_eq_of_lt (by show _ < 2 ^ 64; omega), Nat.mod_eq_of_lt (by show _ < 2 ^ 64; omega)]
    have h3 := Nat.shiftLeft_add_eq_or_of_lt (i := 8) (b := b) (by omega) a
    rw [Nat.shiftLeft_eq] at h3
    exact h3.symm
  rw [h2, wrap_u64_of (by omega)]
theorem shr_nat (X j : Nat) : bshr .u64 (X : Int) (8 * (j : Int)) = ((X / 2 ^ (min (8 * j) 64) : Nat) : Int) := by
  have : (8 * (j : Int)).toNat = 8 * j := by omega
  rw [bshr, this, Int.fdiv_eq_ediv_of_nonneg _ (by exact Int.pow_nonneg (by decide))]
  simp [IntKind.bits]
theorem byteOf_nat (X j : Nat) : byteOf (X : Int) j = ((X / 2 ^ (min (8 * j) 64) % 256 : Nat) : Int) := by
  rw [byteOf, shr_nat]
  simp only [IntKind.wrap, IntKind.signed, IntKind.bits]
  simp
theorem numL_pre (x : Int) : ∀ j, j < numL x → bshr .u64 x (8 * (j : Int)) ≠ 0 := by
  intro j hj
  have h8 := numL_le x
  have h := List.not_of_lt_findIdx (p := fun i : Nat => decide (bshr .u64 x (8 * (i : Int)) = 0)) (xs := List.range 8) hj
  simpa using h
theorem numL_end (x : Int) : numL x = 8 ∨ bshr .u64 x (8 * (numL x : Int)) = 0 := by
  rcases Nat.lt_or_ge (numL x) 8 with h | h
  · right
    have h1 := List.findIdx_getElem (p := fun i : Nat => decide (bshr .u64 x (8 * (i : Int)) = 0)) (xs := List.range 8) (w := by show numL x < _; simpa using h)
    simpa [numL] using h1
  · left; have := numL_le x; omega
theorem numL_lt (X : Nat) (h : X < 2 ^ 64) : X < 2 ^ (8 * numL (X : Int)) := by
  rcases numL_end (X : Int) with h1 | h1
  · rw [h1]; exact h
  · have h8 := numL_le (X : Int)
    rw [shr_nat, Nat.min_eq_left (by omega)] at h1
    have h2 : X / 2 ^ (8 * numL (X : Int)) = 0 := by exact_mod_cast h1
    have hp : 0 < 2 ^ (8 * numL (X : Int)) := Nat.pos_of_ne_zero (by simp)
    exact (Nat.div_eq_zero_iff_lt hp).1 h2
theorem fixedL_len (x : Int) (n : Nat) : (fixedL x n).length = n := by simp [fixedL]
theorem fixedL_at {x : Int} {n k : Nat} (h : k < n) : (fixedL x n).getD k 0 = byteOf x (n - 1 - k) := by
  rw [List.getD_eq_getElem?_getD]; simp [fixedL, h]
theorem byteOf_in (X j : Nat) : 0 ≤ byteOf (X : Int) j ∧ byteOf (X : Int) j ≤ 255 := by rw [byteOf_nat]; omega
theorem bigK_fixed {X n : Nat} (hn : n ≤ 8) (hX : X < 2 ^ (8 * n)) : ∀ k, k ≤ n → bigK (strOfNums (fixedL (X : Int) n)) k = ((X / 2 ^ (8 * (n - k)) : Nat) : Int)
  | 0, _ => by
    rw [Nat.sub_zero, Nat.div_eq_of_lt hX]; rfl
  | k + 1, hk => by
    have ih := bigK_fixed hn hX k (by omega)
    rw [bigK, ih, sn_get' (by rw [fixedL_len]; omega) (by rw [fixedL_at (by omega)]; exact byteOf_in _ _), fixedL_at (by omega), byteOf_nat, Nat.min_eq_left (by omega)]
    have e1 : n - 1 - k = n - (k + 1) := by omega
    have e2 : 8 * (n - k) = 8 * (n - (k + 1)) + 8 := by omega
    have hlt : X < 2 ^ 64 := Nat.lt_of_lt_of_le hX (Nat.pow_le_pow_right (by omega) (by omega))
    rw [e1, e2, Nat.pow_add, ← Nat.div_div_eq_div_mul]
    generalize hy : X / 2 ^ (8 * (n - (k + 1))) = y
    have hyl : y < 2 ^ 64 := by subst hy; exact Nat.lt_of_le_of_lt (Nat.div_le_self _ _) hlt
    rw [bor_byte (by omega) (Nat.mod_lt _ (by omega))]
    congr 1; omega
theorem big_fixed {X n : Nat} (hn : n ≤ 8) (hX : X < 2 ^ (8 * n)) : bigB (strOfNums (fixedL (X : Int) n)) = X := by
  rw [bigB, strOfNums_size, fixedL_len, bigK_fixed hn hX n (Nat.le_refl _), Nat.sub_self]; simp
section
variable {x : Int} {t : ByteArray}
theorem numB_cut (x : Int) (t : ByteArray) : numB x ++ t = strOfNums [(numL x : Int)] ++ (strOfNums (fixedL x (numL x)) ++ t) := by
  rw [← ByteArray.append_assoc, strOf_app]; rfl
theorem num_n (x : Int) (t : ByteArray) : rnN (numB x ++ t) = numL x := by
  have h8 := numL_le x
  exact sn_get (L := (numL x : Int) :: fixedL x (numL x)) (t := t) (i := 0) (by simp) (by show 0 ≤ (numL x : Int) ∧ (numL x : Int) ≤ 255; omega)
theorem num_size (x : Int) (t : ByteArray) : (numB x ++ t).size = 1 + numL x + t.size := by
  rw [ByteArray.size_append, numB, strOfNums_size, List.length_cons, fixedL_len]; omega
theorem num_e (h : 0 ≤ x ∧ x ≤ 18446744073709551615) : rnE (numB x ++ t) = 0 := by
  have h8 := numL_le x
  rw [rnE, num_n, num_size, if_neg (by omega), if_neg (by omega), if_neg (by omega), if_neg]
  rintro ⟨h1, h2⟩
  obtain ⟨X, rfl⟩ := Int.eq_ofNat_of_zero_le h.1
  have hX : X < 2 ^ 64 := by omega
  have hl := numL_lt X hX
  generalize hn : numL (X : Int) = n at *
  rw [numB, sn_get (L := (numL (X : Int) : Int) :: fixedL (X : Int) (numL (X : Int))) (i := 1) (by rw [hn, List.length_cons, fixedL_len]; omega) (by rw [hn, List.getD_cons_succ, fixedL_at (by omega)]; exact byteOf_in _ _), hn, List.getD_cons_succ, fixedL_at (by omega), byteOf_nat, Nat.min_eq_left (by omega)] at h2
  have hp := numL_pre (X : Int) (n - 1) (by omega)
  rw [shr_nat, Nat.min_eq_left (by omega)] at hp
  have hlt : X / 2 ^ (8 * (n - 1)) < 256 := by
    rw [Nat.div_lt_iff_lt_mul (Nat.pos_of_ne_zero (by simp)), show (256 : Nat) = 2 ^ 8 from rfl, ← Nat.pow_add, show 8 + 8 * (n - 1) = 8 * n from by omega]
    exact hl
  rw [Nat.sub_zero, Nat.mod_eq_of_lt hlt] at h2
  exact hp h2
theorem num_x (h : 0 ≤ x ∧ x ≤ 18446744073709551615) : rnX (numB x ++ t) = x := by
  have h8 := numL_le x
  rw [rnX, if_pos (num_e h), num_n, show (1 + (numL x : Int)).toNat = 1 + numL x from by omega, numB_cut]
  have e : (strOfNums [(numL x : Int)] ++ (strOfNums (fixedL x (numL x)) ++ t)).extract 1 (1 + numL x) = strOfNums (fixedL x (numL x)) := by
    have := ByteArray.extract_append_size_add (a := strOfNums [(numL x : Int)]) (b := strOfNums (fixedL x (numL x)) ++ t) (i := 0) (j := numL x)
    rw [strOfNums_size] at this
    exact this.trans (ByteArray.extract_append_eq_left (by rw [strOfNums_size, fixedL_len]))
  rw [e]
  obtain ⟨X, rfl⟩ := Int.eq_ofNat_of_zero_le h.1
  exact big_fixed h8 (numL_lt X (by omega))
theorem num_r (h : 0 ≤ x ∧ x ≤ 18446744073709551615) : rnR (numB x ++ t) = t := by
  have h8 := numL_le x
  rw [rnR, if_pos (num_e h), num_n]
  refine ByteArray.extract_append_eq_right ?_ ?_
  · rw [numB, strOfNums_size, List.length_cons, fixedL_len]; omega
  · rw [ByteArray.size_append]
theorem oct_v (h : 0 ≤ x ∧ x ≤ 255) : hdV (strOfNums [x] ++ t) = x := by
  rw [hdV, if_neg (by rw [ByteArray.size_append, strOfNums_size]; simp)]
  exact sn_get (L := [x]) (i := 0) (by simp) h
theorem oct_s : tlS (strOfNums [x] ++ t) = t := by
  rw [tlS, if_neg (by rw [ByteArray.size_append, strOfNums_size]; simp)]
  exact ByteArray.extract_append_eq_right (by rw [strOfNums_size]; rfl) (by rw [ByteArray.size_append])
theorem oct_z : decide ((strOfNums [x] ++ t).size = 0) = false := by
  rw [ByteArray.size_append, strOfNums_size]; simp
theorem text_e {d : ByteArray} (h : d.size ≤ 1073741824) : rtE (textB d ++ t) = 0 := by
  have hr : 0 ≤ (d.size : Int) ∧ (d.size : Int) ≤ 18446744073709551615 := by omega
  rw [textB, ByteArray.append_assoc, rtE, num_e hr, num_x hr, num_r hr, if_neg]
  rintro ⟨_, h2⟩
  rw [ByteArray.size_append] at h2; omega
theorem text_t {d : ByteArray} (h : d.size ≤ 1073741824) : rtT (textB d ++ t) = d := by
  have hr : 0 ≤ (d.size : Int) ∧ (d.size : Int) ≤ 18446744073709551615 := by omega
  rw [rtT, if_pos (text_e h), textB, ByteArray.append_assoc, num_x hr, num_r hr]
  exact ByteArray.extract_append_eq_left (by omega)
theorem text_r {d : ByteArray} (h : d.size ≤ 1073741824) : rtR (textB d ++ t) = t := by
  have hr : 0 ≤ (d.size : Int) ∧ (d.size : Int) ≤ 18446744073709551615 := by omega
  rw [rtR, if_pos (text_e h), textB, ByteArray.append_assoc, num_x hr, num_r hr]
  exact ByteArray.extract_append_eq_right (by omega) (by rw [ByteArray.size_append])
end
end Go.Proofs.Ytbpamkbegggeoaa.X1
namespace Go.Proofs.Ytbpamkbegggeoaa.X1
open T W Go.RowKit
set_option maxRecDepth 100000
set_option maxHeartbeats 400000
theorem itL_take {σ α : Type} (nx : σ → σ) (val : σ → α) (s : σ) (l : List α) (h : ∀ k (hk : k < l.length), val (itS nx s k) = l[k]) : ∀ k, k ≤ l.length → itL nx val s k = l.take k
  | 0, _ => by simp [itL]
  | k + 1, hk => by
    rw [itL, itL_take nx val s l h k (by omega), h k (by omega), List.take_add_one, List.getElem?_eq_getElem (by omega)]; rfl
theorem itL_all {σ α : Type} (nx : σ → σ) (val : σ → α) (s : σ) (l : List α) (h : ∀ k (hk : k < l.length), val (itS nx s k) = l[k]) : itL nx val s l.length = l := by
  rw [itL_take nx val s l h l.length (Nat.le_refl _), List.take_length]
def catN : List Int → ByteArray
  | [] => ByteArray.empty
  | x :: l => numB x ++ catN l
theorem catN_app : ∀ a b : List Int, catN (a ++ b) = catN a ++ catN b
  | [], b => by simp [catN]
  | x :: a, b => by simp [catN, catN_app a b, ByteArray.append_assoc]
theorem numsK_cat (l : List Int) : ∀ k, k ≤ l.length → numsK l k = numB (l.length : Int) ++ catN (l.take k)
  | 0, _ => by simp [numsK, catN]
  | k + 1, hk => by
    rw [numsK, numsK_cat l k (by omega), List.take_add_one, catN_app, List.getElem?_eq_getElem (by omega), List.getD_eq_getElem?_getD, List.getElem?_eq_getElem (by omega)]
    simp [catN, ByteArray.append_assoc]
theorem numbersB_cat (l : List Int) : numbersB l = numB (l.length : Int) ++ catN l := by
  rw [numbersB, numsK_cat l _ (Nat.le_refl _), List.take_length]
def catE : List EntryD → ByteArray
  | [] => ByteArray.empty
  | e :: l => entB e ++ catE l
theorem catE_app : ∀ a b : List EntryD, catE (a ++ b) = catE a ++ catE b
  | [], b => by simp [catE]
  | x :: a, b => by simp [catE, catE_app a b, ByteArray.append_assoc]
theorem bytesK_cat (m : MsgD) : ∀ k, k ≤ m.Entries.length → bytesK m k = hdrB m ++ okB m.Ok ++ numB (m.Entries.length : Int) ++ catE (m.Entries.take k)
  | 0, _ => by simp [bytesK, catE]
  | k + 1, hk => by
    rw [bytesK, bytesK_cat m k (by omega), List.take_add_one, catE_app, List.getElem?_eq_getElem (by omega), List.getD_eq_getElem?_getD, List.getElem?_eq_getElem (by omega)]
    simp [catE, ByteArray.append_assoc]
def tl12 (m : MsgD) : ByteArray := textB m.Snap ++ ByteArray.empty
def tl11 (m : MsgD) : ByteArray := numbersB m.Members ++ tl12 m
def tl10 (m : MsgD) : ByteArray := catE m.Entries ++ tl11 m
def tl9 (m : MsgD) : ByteArray := numB (m.Entries.length : Int) ++ tl10 m
def tl8 (m : MsgD) : ByteArray := strOfNums [okI m.Ok] ++ tl9 m
def tl7 (m : MsgD) : ByteArray := numB m.Round ++ tl8 m
def tl6 (m : MsgD) : ByteArray := numB m.Commit ++ tl7 m
def tl5 (m : MsgD) : ByteArray := numB m.LogTerm ++ tl6 m
def tl4 (m : MsgD) : ByteArray := numB m.Index ++ tl5 m
def tl3 (m : MsgD) : ByteArray := numB m.Term ++ tl4 m
def tl2 (m : MsgD) : ByteArray := numB m.To ++ tl3 m
def tl1 (m : MsgD) : ByteArray := numB m.From ++ tl2 m
theorem bytesB_cut (m : MsgD) : bytesB m = strOfNums [m.Kind] ++ tl1 m := by
  rw [bytesB, bytesK_cat m _ (Nat.le_refl _), List.take_length, hdrB]
  simp only [tl1, tl2, tl3, tl4, tl5, tl6, tl7, tl8, tl9, tl10, tl11, tl12, ByteArray.append_assoc, ByteArray.append_empty, okB_str]
structure EntGood (e : EntryD) : Prop where
  inr : e.InR
  nums : NumsOk e.Members
  data : e.Data.size ≤ 1073741824
structure Good (m : MsgD) : Prop where
  inr : m.InR
  ok : MsgOk m
  ents : ∀ k (h : k < m.Entries.length), EntGood m.Entries[k]
  snap : m.Snap.size ≤ 1073741824
theorem msg_eq {a b : MsgD} (h0 : a.Kind = b.Kind) (h1 : a.From = b.From) (h2 : a.To = b.To) (h3 : a.Term = b.Term) (h4 : a.Index = b.Index) (h5 : a.LogTerm = b.LogTerm) (h6 : a.Commit = b.Commit) (h7 : a.Round = b.Round) (h8 : a.Ok = b.Ok) (h9 : a.Entries = b.Entries) (h10 : a.Members = b.Members) (h11 : a.Snap = b.Snap) : a = b := by
  cases a; cases b; simp_all
theorem ent_eq {a b : EntryD} (h0 : a.Term = b.Term) (h1 : a.Kind = b.Kind) (h2 : a.Data = b.Data) (h3 : a.Members = b.Members) : a = b := by
  cases a; cases b; simp_all
theorem nums_at {l : List Int} (h : NumsOk l) (k : Nat) (hk : k < l.length) : 0 ≤ l[k] ∧ l[k] ≤ 64 := by
  have := h.2 k hk
  rw [List.getD_eq_getElem?_getD, List.getElem?_eq_getElem hk] at this
  exact this
theorem okI_dec (b : Bool) : decide (okI b = 1) = b := by cases b <;> rfl
def vb_mk (t : ByteArray) : VRD := { s := t, bad := false }
theorem vb_nums {x : Int} {t : ByteArray} (h : 0 ≤ x ∧ x ≤ 18446744073709551615) : numP (vb_mk (numB x ++ t)) = vb_mk t := by
  simp [numP, vb_mk, num_r h, num_e h]
theorem vb_numv {x : Int} {t : ByteArray} (h : 0 ≤ x ∧ x ≤ 18446744073709551615) : rnX (vb_mk (numB x ++ t)).s = x := by
  exact num_x h
theorem vb_octs {x : Int} {t : ByteArray} : octP (vb_mk (strOfNums [x] ++ t)) = vb_mk t := by
  show ({ s := tlS (strOfNums [x] ++ t), bad := false || decide ((strOfNums [x] ++ t).size = 0) } : VRD) = { s := t, bad := false }
  rw [oct_s, oct_z]; rfl
theorem vb_octv {x : Int} {t : ByteArray} (h : 0 ≤ x ∧ x ≤ 255) : hdV (vb_mk (strOfNums [x] ++ t)).s = x := oct_v h
theorem vb_texts {d t : ByteArray} (h : d.size ≤ 1073741824) : textP (vb_mk (textB d ++ t)) = vb_mk t := by
  simp [textP, vb_mk, text_r h, text_e h]
theorem vb_textv {d t : ByteArray} (h : d.size ≤ 1073741824) : rtT (vb_mk (textB d ++ t)).s = d := by
  exact text_t h
theorem vb_its {l : List Int} {t : ByteArray} (h : NumsOk l) : ∀ k, k ≤ l.length → itS numP (vb_mk (catN l ++ t)) k = vb_mk (catN (l.drop k) ++ t)
  | 0, _ => by simp [itS]
  | k + 1, hk => by
    have hn := nums_at h k (by omega)
    rw [itS, vb_its h k (by omega), List.drop_eq_getElem_cons (by omega), catN, ByteArray.append_assoc]
    exact vb_nums (by omega)
theorem vb_ints {l : List Int} {t : ByteArray} (h : NumsOk l) : vN (vb_mk (numbersB l ++ t)) = l.length ∧ intsV (vb_mk (numbersB l ++ t)) = l ∧ intsP (vb_mk (numbersB l ++ t)) = vb_mk t := by
  have hl := h.1
  have e0 : vb_mk (numbersB l ++ t) = vb_mk (numB (l.length : Int) ++ (catN l ++ t)) := by rw [numbersB_cat, ByteArray.append_assoc]
  have e1 : numP (vb_mk (numbersB l ++ t)) = vb_mk (catN l ++ t) := by rw [e0]; exact vb_nums (by omega)
  have e2 : rnX (vb_mk (numbersB l ++ t)).s = (l.length : Int) := by rw [e0]; exact vb_numv (by omega)
  have hN : vN (vb_mk (numbersB l ++ t)) = l.length := by
    refine vN_at (fun j hj => ?_) (by rw [e2]; omega) (.inl (by rw [e2]))
    rw [e1, vb_its h j (by omega)]; rfl
  refine ⟨hN, ?_, ?_⟩
  · rw [intsV, hN, e1]
    refine itL_all _ _ _ l fun k hk => ?_
    have hn := nums_at h k hk
    rw [vb_its h k (by omega), List.drop_eq_getElem_cons hk, catN, ByteArray.append_assoc, vVal, vb_numv (by omega)]
    exact wrap_i64 (by omega) (by omega)
  · rw [intsP, hN, e1, vb_its h _ (Nat.le_refl _), List.drop_length]; simp [catN]
theorem vb_ent {e : EntryD} {t : ByteArray} (g : EntGood e) : vEntV (vb_mk (entB e ++ t)) = e ∧ vEntP (vb_mk (entB e ++ t)) = vb_mk t := by
  obtain ⟨h1, h2, h3⟩ := g.inr
  have h1 := inK_u64 h1
  have h2 := inK_u8 h2
  have e0 : vb_mk (entB e ++ t) = vb_mk (numB e.Term ++ (strOfNums [e.Kind] ++ (textB e.Data ++ (numbersB e.Members ++ t)))) := by simp only [entB, ByteArray.append_assoc]
  have e1 : numP (vb_mk (entB e ++ t)) = vb_mk (strOfNums [e.Kind] ++ (textB e.Data ++ (numbersB e.Members ++ t))) := by rw [e0]; exact vb_nums (by omega)
  have e2 : octP (numP (vb_mk (entB e ++ t))) = vb_mk (textB e.Data ++ (numbersB e.Members ++ t)) := by rw [e1]; exact vb_octs
  have e3 : textP (octP (numP (vb_mk (entB e ++ t)))) = vb_mk (numbersB e.Members ++ t) := by rw [e2]; exact vb_texts g.data
  refine ⟨ent_eq ?_ ?_ ?_ ?_, ?_⟩
  · simp only [vEntV]; rw [e0]; exact vb_numv (by omega)
  · simp only [vEntV]; rw [e1]; exact vb_octv (by omega)
  · simp only [vEntV]; rw [e2]; exact vb_textv g.data
  · simp only [vEntV]; rw [e3]; exact (vb_ints g.nums).2.1
  · rw [vEntP, e3]; exact (vb_ints g.nums).2.2
theorem vb_ets {l : List EntryD} {t : ByteArray} (h : ∀ k (h : k < l.length), EntGood l[k]) : ∀ k, k ≤ l.length → itS vEntP (vb_mk (catE l ++ t)) k = vb_mk (catE (l.drop k) ++ t)
  | 0, _ => by simp [itS]
  | k + 1, hk => by
    rw [itS, vb_ets h k (by omega), List.drop_eq_getElem_cons (by omega), catE, ByteArray.append_assoc]
    exact (vb_ent (h k (by omega))).2
theorem vb_back {m : MsgD} (g : Good m) : vEN (bytesB m) = m.Entries.length ∧ vMsgK (bytesB m) (vEN (bytesB m)) = m ∧ vEnd (bytesB m) (vEN (bytesB m)) = vb_mk ByteArray.empty := by
  obtain ⟨hk, hf, ht, h3, h4, h5, h6, h7, _⟩ := g.inr
  have hk := inK_u8 hk
  have h3 := inK_u64 h3
  have h4 := inK_u64 h4
  have h5 := inK_u64 h5
  have h6 := inK_u64 h6
  have h7 := inK_u64 h7
  have hf := g.ok.fr
  have ht := g.ok.to
  have hn := g.ok.en
  have hoi := okI_in m.Ok
  have e0 : v0 (bytesB m) = vb_mk (strOfNums [m.Kind] ++ tl1 m) := by rw [v0, bytesB_cut]; rfl
  have e1 : v1 (bytesB m) = vb_mk (tl1 m) := by rw [v1, e0]; exact vb_octs
  have e2 : v2 (bytesB m) = vb_mk (tl2 m) := by rw [v2, e1]; exact vb_nums (by omega)
  have e3 : v3 (bytesB m) = vb_mk (tl3 m) := by rw [v3, e2]; exact vb_nums (by omega)
  have e4 : v4 (bytesB m) = vb_mk (tl4 m) := by rw [v4, e3]; exact vb_nums (by omega)
  have e5 : v5 (bytesB m) = vb_mk (tl5 m) := by rw [v5, e4]; exact vb_nums (by omega)
  have e6 : v6 (bytesB m) = vb_mk (tl6 m) := by rw [v6, e5]; exact vb_nums (by omega)
  have e7 : v7 (bytesB m) = vb_mk (tl7 m) := by rw [v7, e6]; exact vb_nums (by omega)
  have e8 : v8 (bytesB m) = vb_mk (tl8 m) := by rw [v8, e7]; exact vb_nums (by omega)
  have e9 : v9 (bytesB m) = vb_mk (tl9 m) := by rw [v9, e8]; exact vb_octs
  have e10 : v10 (bytesB m) = vb_mk (catE m.Entries ++ tl11 m) := by rw [v10, e9]; exact vb_nums (by omega)
  have ec : rnX (v9 (bytesB m)).s = (m.Entries.length : Int) := by rw [e9]; exact vb_numv (by omega)
  have er : ∀ k, k ≤ m.Entries.length → vEr (bytesB m) k = vb_mk (catE (m.Entries.drop k) ++ tl11 m) := fun k hk => by rw [vEr, e10]; exact vb_ets g.ents k hk
  have hN : vEN (bytesB m) = m.Entries.length := by
    refine vEN_at (fun j hj => ?_) (by rw [ec]; omega) (.inl (by rw [ec]))
    rw [er j (by omega)]; rfl
  have eE : vEr (bytesB m) m.Entries.length = vb_mk (numbersB m.Members ++ tl12 m) := by
    rw [er _ (Nat.le_refl _), List.drop_length, catE, ByteArray.empty_append]; rfl
  have hi := vb_ints (t := tl12 m) g.ok.me
  have eI : vI (bytesB m) m.Entries.length = vb_mk (textB m.Snap ++ ByteArray.empty) := by rw [vI, eE, hi.2.2]; rfl
  refine ⟨hN, ?_, ?_⟩
  · rw [hN]
    refine msg_eq ?_ ?_ ?_ ?_ ?_ ?_ ?_ ?_ ?_ ?_ ?_ ?_
    · simp only [vMsgK]; rw [bytesB_cut]; exact oct_v (by omega)
    · simp only [vMsgK]; rw [e1, tl1, vb_numv (by omega)]; exact wrap_i64 (by omega) (by omega)
    · simp only [vMsgK]; rw [e2, tl2, vb_numv (by omega)]; exact wrap_i64 (by omega) (by omega)
    · simp only [vMsgK]; rw [e3]; exact vb_numv (by omega)
    · simp only [vMsgK]; rw [e4]; exact vb_numv (by omega)
    · simp only [vMsgK]; rw [e5]; exact vb_numv (by omega)
    · simp only [vMsgK]; rw [e6]; exact vb_numv (by omega)
    · simp only [vMsgK]; rw [e7]; exact vb_numv (by omega)
    · simp only [vMsgK]; rw [e8, tl8, vb_octv (by omega)]; exact okI_dec _
    · simp only [vMsgK]; rw [vEs, e10]
      refine itL_all _ _ _ _ fun k hk => ?_
      rw [vb_ets g.ents k (by omega), List.drop_eq_getElem_cons hk, catE, ByteArray.append_assoc]
      exact (vb_ent (g.ents k hk)).1
    · simp only [vMsgK]; rw [eE]; exact hi.2.1
    · simp only [vMsgK]; rw [eI]; exact vb_textv g.snap
  · rw [hN, vEnd, eI]; exact vb_texts g.snap
def rb_mk (t : ByteArray) : RRD := { S := t, Bad := false }
theorem rb_nums {x M : Int} {t : ByteArray} (h : 0 ≤ x ∧ x ≤ 18446744073709551615) (hM : x ≤ M) : rNumP (rb_mk (numB x ++ t)) M = rb_mk t := by
  have hno : rNumNo (numB x ++ t) M = false := by simp [rNumNo, num_e h, num_x h]; omega
  simp [rNumP, rb_mk, hno, num_r h]
theorem rb_numv {x M : Int} {t : ByteArray} (h : 0 ≤ x ∧ x ≤ 18446744073709551615) (hM : x ≤ M) : rNumV (rb_mk (numB x ++ t)) M = x := by
  have hno : rNumNo (numB x ++ t) M = false := by simp [rNumNo, num_e h, num_x h]; omega
  simp [rNumV, rb_mk, hno, num_x h]
theorem rb_octs {x : Int} {t : ByteArray} : rOctP (rb_mk (strOfNums [x] ++ t)) = rb_mk t := by
  show ({ S := tlS (strOfNums [x] ++ t), Bad := false || decide ((strOfNums [x] ++ t).size = 0) } : RRD) = { S := t, Bad := false }
  rw [oct_s, oct_z]; rfl
theorem rb_octv {x : Int} {t : ByteArray} (h : 0 ≤ x ∧ x ≤ 255) : hdV (rb_mk (strOfNums [x] ++ t)).S = x := oct_v h
theorem rb_texts {d t : ByteArray} (h : d.size ≤ 1073741824) : rTextP (rb_mk (textB d ++ t)) = rb_mk t := by
  simp [rTextP, rb_mk, text_r h, text_e h]
theorem rb_textv {d t : ByteArray} (h : d.size ≤ 1073741824) : rTextV (rb_mk (textB d ++ t)) = d := by
  simp [rTextV, rb_mk, text_e h, text_t h]
theorem rb_its {l : List Int} {t : ByteArray} (h : NumsOk l) : ∀ k, k ≤ l.length → itS rNx (rb_mk (catN l ++ t)) k = rb_mk (catN (l.drop k) ++ t)
  | 0, _ => by simp [itS]
  | k + 1, hk => by
    have hn := nums_at h k (by omega)
    rw [itS, rb_its h k (by omega), List.drop_eq_getElem_cons (by omega), catN, ByteArray.append_assoc]
    exact rb_nums (by omega) (by omega)
theorem rb_ints {l : List Int} {t : ByteArray} (h : NumsOk l) : rN (rb_mk (numbersB l ++ t)) = l.length ∧ rIntsV (rb_mk (numbersB l ++ t)) = l ∧ rIntsP (rb_mk (numbersB l ++ t)) = rb_mk t := by
  have hl := h.1
  have e0 : rb_mk (numbersB l ++ t) = rb_mk (numB (l.length : Int) ++ (catN l ++ t)) := by rw [numbersB_cat, ByteArray.append_assoc]
  have e1 : rNx (rb_mk (numbersB l ++ t)) = rb_mk (catN l ++ t) := by rw [e0]; exact rb_nums (by omega) (by omega)
  have e2 : rNumV (rb_mk (numbersB l ++ t)) 1048576 = (l.length : Int) := by rw [e0]; exact rb_numv (by omega) (by omega)
  have hN : rN (rb_mk (numbersB l ++ t)) = l.length := by
    refine rN_at (fun j hj => ?_) (by rw [e2]; omega) (.inl (by rw [e2]))
    rw [e1, rb_its h j (by omega)]; rfl
  refine ⟨hN, ?_, ?_⟩
  · rw [rIntsV, hN, e1]
    refine itL_all _ _ _ l fun k hk => ?_
    have hn := nums_at h k hk
    rw [rb_its h k (by omega), List.drop_eq_getElem_cons hk, catN, ByteArray.append_assoc, rVal, rb_numv (by omega) (by omega)]
    exact wrap_i64 (by omega) (by omega)
  · rw [rIntsP, hN, e1, rb_its h _ (Nat.le_refl _), List.drop_length]; simp [catN]
theorem rb_ent {e : EntryD} {t : ByteArray} (g : EntGood e) : rEntV (rb_mk (entB e ++ t)) = e ∧ rEntP (rb_mk (entB e ++ t)) = rb_mk t := by
  obtain ⟨h1, h2, h3⟩ := g.inr
  have h1 := inK_u64 h1
  have h2 := inK_u8 h2
  have e0 : rb_mk (entB e ++ t) = rb_mk (numB e.Term ++ (strOfNums [e.Kind] ++ (textB e.Data ++ (numbersB e.Members ++ t)))) := by simp only [entB, ByteArray.append_assoc]
  have e1 : rNumP (rb_mk (entB e ++ t)) 18446744073709551615 = rb_mk (strOfNums [e.Kind] ++ (textB e.Data ++ (numbersB e.Members ++ t))) := by rw [e0]; exact rb_nums (by omega) (by omega)
  have e2 : rOctP (rNumP (rb_mk (entB e ++ t)) 18446744073709551615) = rb_mk (textB e.Data ++ (numbersB e.Members ++ t)) := by rw [e1]; exact rb_octs
  have e3 : rTextP (rOctP (rNumP (rb_mk (entB e ++ t)) 18446744073709551615)) = rb_mk (numbersB e.Members ++ t) := by rw [e2]; exact rb_texts g.data
  refine ⟨ent_eq ?_ ?_ ?_ ?_, ?_⟩
  · simp only [rEntV]; rw [e0]; exact rb_numv (by omega) (by omega)
  · simp only [rEntV]; rw [e1]; exact rb_octv (by omega)
  · simp only [rEntV]; rw [e2]; exact rb_textv g.data
  · simp only [rEntV]; rw [e3]; exact (rb_ints g.nums).2.1
  · rw [rEntP, e3]; exact (rb_ints g.nums).2.2
theorem rb_ets {l : List EntryD} {t : ByteArray} (h : ∀ k (h : k < l.length), EntGood l[k]) : ∀ k, k ≤ l.length → itS rEntP (rb_mk (catE l ++ t)) k = rb_mk (catE (l.drop k) ++ t)
  | 0, _ => by simp [itS]
  | k + 1, hk => by
    rw [itS, rb_ets h k (by omega), List.drop_eq_getElem_cons (by omega), catE, ByteArray.append_assoc]
    exact (rb_ent (h k (by omega))).2
theorem rb_back {m : MsgD} (g : Good m) : rEN (bytesB m) = m.Entries.length ∧ rMsgK (bytesB m) (rEN (bytesB m)) = m ∧ rEnd (bytesB m) (rEN (bytesB m)) = rb_mk ByteArray.empty := by
  obtain ⟨hk, hf, ht, h3, h4, h5, h6, h7, _⟩ := g.inr
  have hk := inK_u8 hk
  have h3 := inK_u64 h3
  have h4 := inK_u64 h4
  have h5 := inK_u64 h5
  have h6 := inK_u64 h6
  have h7 := inK_u64 h7
  have hf := g.ok.fr
  have ht := g.ok.to
  have hn := g.ok.en
  have hoi := okI_in m.Ok
  have e0 : r0 (bytesB m) = rb_mk (strOfNums [m.Kind] ++ tl1 m) := by rw [r0, bytesB_cut]; rfl
  have e1 : r1 (bytesB m) = rb_mk (tl1 m) := by rw [r1, e0]; exact rb_octs
  have e2 : r2 (bytesB m) = rb_mk (tl2 m) := by rw [r2, e1]; exact rb_nums (by omega) (by omega)
  have e3 : r3 (bytesB m) = rb_mk (tl3 m) := by rw [r3, e2]; exact rb_nums (by omega) (by omega)
  have e4 : r4 (bytesB m) = rb_mk (tl4 m) := by rw [r4, e3]; exact rb_nums (by omega) (by omega)
  have e5 : r5 (bytesB m) = rb_mk (tl5 m) := by rw [r5, e4]; exact rb_nums (by omega) (by omega)
  have e6 : r6 (bytesB m) = rb_mk (tl6 m) := by rw [r6, e5]; exact rb_nums (by omega) (by omega)
  have e7 : r7 (bytesB m) = rb_mk (tl7 m) := by rw [r7, e6]; exact rb_nums (by omega) (by omega)
  have e8 : r8 (bytesB m) = rb_mk (tl8 m) := by rw [r8, e7]; exact rb_nums (by omega) (by omega)
  have e9 : r9 (bytesB m) = rb_mk (tl9 m) := by rw [r9, e8]; exact rb_octs
  have e10 : r10 (bytesB m) = rb_mk (catE m.Entries ++ tl11 m) := by rw [r10, e9]; exact rb_nums (by omega) (by omega)
  have ec : rNumV (r9 (bytesB m)) 1048576 = (m.Entries.length : Int) := by rw [e9]; exact rb_numv (by omega) (by omega)
  have er : ∀ k, k ≤ m.Entries.length → rEr (bytesB m) k = rb_mk (catE (m.Entries.drop k) ++ tl11 m) := fun k hk => by rw [rEr, e10]; exact rb_ets g.ents k hk
  have hN : rEN (bytesB m) = m.Entries.length := by
    refine rEN_at (fun j hj => ?_) (by rw [ec]; omega) (.inl (by rw [ec]))
    rw [er j (by omega)]; rfl
  have eE : rEr (bytesB m) m.Entries.length = rb_mk (numbersB m.Members ++ tl12 m) := by
    rw [er _ (Nat.le_refl _), List.drop_length, catE, ByteArray.empty_append]; rfl
  have hi := rb_ints (t := tl12 m) g.ok.me
  have eI : rI (bytesB m) m.Entries.length = rb_mk (textB m.Snap ++ ByteArray.empty) := by rw [rI, eE, hi.2.2]; rfl
  refine ⟨hN, ?_, ?_⟩
  · rw [hN]
    refine msg_eq ?_ ?_ ?_ ?_ ?_ ?_ ?_ ?_ ?_ ?_ ?_ ?_
    · simp only [rMsgK]; rw [bytesB_cut]; exact oct_v (by omega)
    · simp only [rMsgK]; rw [e1, tl1, rb_numv (by omega) (by omega)]; exact wrap_i64 (by omega) (by omega)
    · simp only [rMsgK]; rw [e2, tl2, rb_numv (by omega) (by omega)]; exact wrap_i64 (by omega) (by omega)
    · simp only [rMsgK]; rw [e3]; exact rb_numv (by omega) (by omega)
    · simp only [rMsgK]; rw [e4]; exact rb_numv (by omega) (by omega)
    · simp only [rMsgK]; rw [e5]; exact rb_numv (by omega) (by omega)
    · simp only [rMsgK]; rw [e6]; exact rb_numv (by omega) (by omega)
    · simp only [rMsgK]; rw [e7]; exact rb_numv (by omega) (by omega)
    · simp only [rMsgK]; rw [e8, tl8, rb_octv (by omega)]; exact okI_dec _
    · simp only [rMsgK]; rw [rEs, e10]
      refine itL_all _ _ _ _ fun k hk => ?_
      rw [rb_ets g.ents k (by omega), List.drop_eq_getElem_cons hk, catE, ByteArray.append_assoc]
      exact (rb_ent (g.ents k hk)).1
    · simp only [rMsgK]; rw [eE]; exact hi.2.1
    · simp only [rMsgK]; rw [eI]; exact rb_textv g.snap
  · rw [hN, rEnd, eI]; exact rb_texts g.snap
end Go.Proofs.Ytbpamkbegggeoaa.X1
namespace Go.Proofs.Ytbpamkbegggeoaa.X1
open T W Go.RowKit
set_option maxRecDepth 100000
set_option maxHeartbeats 400000
structure MsgSm (m : MsgD) : Prop where
  data : ∀ k, k < m.Entries.length → (m.Entries.getD k default).Data.size ≤ 1048576
  snap : m.Snap.size ≤ 1048576
theorem MsgSm.sz {m : MsgD} (h : MsgSm m) : MsgSz m := ⟨fun k hk => Nat.le_trans (h.data k hk) (by omega), Nat.le_trans h.snap (by omega)⟩
theorem getD_at {α : Type} [Inhabited α] {l : List α} {k : Nat} (h : k < l.length) : l.getD k default = l[k] := by
  rw [List.getD_eq_getElem?_getD, List.getElem?_eq_getElem h]; rfl
theorem good_of {m : MsgD} (hi : m.InR) (he : ∀ k, k < m.Entries.length → (m.Entries.getD k default).InR) (hz : MsgSz m) (hm : mayMsgB m = true) : Good m := by
  have ho := msg_ok hm
  refine ⟨hi, ho, fun k hk => ⟨getD_at hk ▸ he k hk, ?_, ?_⟩, hz.snap⟩
  · have := ho.em k hk; rwa [getD_at hk] at this
  · have := hz.data k hk; rwa [getD_at hk] at this
theorem bytesK_small {m : MsgD} (ho : MsgOk m) (hz : MsgSm m) : ∀ k, k ≤ m.Entries.length → (bytesK m k).size ≤ 74 + 1050000 * k
  | 0, _ => by
    have h1 := hdrB_size m
    have h2 := okB_size m.Ok
    have h3 := numB_size (m.Entries.length : Int)
    simp only [bytesK, ByteArray.size_append]; omega
  | k + 1, hk => by
    have h1 := bytesK_small ho hz k (by omega)
    have h2 := entB_size (m.Entries.getD k default)
    have h3 := hz.data k (by omega)
    have h4 := (ho.em k (by omega)).1
    simp only [bytesK, ByteArray.size_append]; omega
theorem bytes_small {m : MsgD} (ho : MsgOk m) (hz : MsgSm m) : (bytesB m).size ≤ 1073741824 := by
  have h1 := bytesK_small ho hz m.Entries.length (Nat.le_refl _)
  have h2 := numbersB_size m.Members
  have h3 := textB_size m.Snap
  have h4 := hz.snap
  have h5 := ho.me.1
  have h6 := ho.en
  simp only [bytesB, ByteArray.size_append]; omega
theorem seqB_is {a b : ByteArray} (h : seqB a b = true) : a = b := by
  have h1 : a.toList = b.toList := by simpa [seqB] using h
  rw [ByteArray.toList_eq, ByteArray.toList_eq] at h1
  obtain ⟨⟨x⟩⟩ := a
  obtain ⟨⟨y⟩⟩ := b
  exact congrArg (fun z => ByteArray.mk (Array.mk z)) h1
theorem vOk_bytes {m : MsgD} (g : Good m) (hm : mayMsgB m = true) : vOk (bytesB m) = true ∧ vRead (bytesB m) = m := by
  obtain ⟨h1, h2, h3⟩ := vb_back g
  have hM : vMsg (bytesB m) = m := h2
  have ho : vOk (bytesB m) = true := by
    rw [vOk, h3, hM, hm, seqB_refl]; rfl
  exact ⟨ho, by rw [vRead, if_pos ho, hM]⟩
theorem rOk_bytes {m : MsgD} (g : Good m) (hm : mayMsgB m = true) : rOk (bytesB m) = true ∧ rRead (bytesB m) = m := by
  obtain ⟨h1, h2, h3⟩ := rb_back g
  have hM : rMsg (bytesB m) = m := h2
  have ho : rOk (bytesB m) = true := by
    have he : seqB (rb_mk ByteArray.empty).S (ByteArray.mk #[]) = true := seqB_refl _
    rw [rOk, h3, hM, refMay_eq m g.inr, hm, seqB_refl, he]; rfl
  exact ⟨ho, by rw [rRead, if_pos ho, hM]⟩
theorem vEs_in {s : ByteArray} (hs : s.size ≤ 1073741824) (n k : Nat) (hk : k < (vEs s n).length) : ((vEs s n).getD k default).InR := by
  rw [vEs, itL_len] at hk
  rw [vEs, itL_at _ _ _ _ _ hk]
  exact vEntV_in _ (Nat.le_trans (vEr_le s k) hs)
theorem rEs_in {s : ByteArray} (hs : s.size ≤ 1073741824) (n k : Nat) (hk : k < (rEs s n).length) : ((rEs s n).getD k default).InR := by
  rw [rEs, itL_len] at hk
  rw [rEs, itL_at _ _ _ _ _ hk]
  exact rEntV_in _ (Nat.le_trans (rEr_le s k) hs)
theorem vMsg_good {s : ByteArray} (hs : s.size ≤ 1073741824) (hm : mayMsgB (vMsg s) = true) : Good (vMsg s) := by
  have e : (vMsg s).Entries = vEs s (vEN s) := by rw [vMsg, vMsgK]
  exact good_of (vMsgK_in s (vEN s) hs) (by rw [e]; exact vEs_in hs (vEN s)) (vMsgK_sz s (vEN s) hs) hm
theorem rMsg_good {s : ByteArray} (hs : s.size ≤ 1073741824) (hm : mayMsgB (rMsg s) = true) : Good (rMsg s) := by
  have e : (rMsg s).Entries = rEs s (rEN s) := by rw [rMsg, rMsgK]
  exact good_of (rMsgK_in s (rEN s) hs) (by rw [e]; exact rEs_in hs (rEN s)) (rMsgK_sz s (rEN s) hs) hm
theorem read_eq {s : ByteArray} (hs : s.size ≤ 1073741824) : vOk s = rOk s ∧ vRead s = rRead s := by
  cases hv : vOk s with
  | true =>
    have h := hv
    simp only [vOk, Bool.and_eq_true] at h
    obtain ⟨⟨_, hm⟩, hb⟩ := h
    have hb := seqB_is hb
    have hr := rOk_bytes (vMsg_good hs hm) hm
    rw [hb] at hr
    exact ⟨hr.1.symm, by rw [vRead, if_pos hv, hr.2]⟩
  | false =>
    cases hr : rOk s with
    | false => exact ⟨rfl, by rw [vRead, rRead, hv, hr]; rfl⟩
    | true =>
      have h := hr
      simp only [rOk, Bool.and_eq_true] at h
      obtain ⟨⟨_, hm⟩, hb⟩ := h
      have hb := seqB_is hb
      have hi : (rMsg s).InR := rMsgK_in s _ hs
      rw [refMay_eq _ hi] at hm
      have hv' := vOk_bytes (rMsg_good hs hm) hm
      rw [hb, hv] at hv'
      cases hv'.1
theorem law_read {s : ByteArray} (hs : s.size ≤ 1073741824) : sameMsgB (vRead s) (rRead s) = true ∧ (if vOk s = true then (0 : Int) else 2) = (if rOk s = true then 0 else 2) := by
  obtain ⟨h1, h2⟩ := read_eq hs
  rw [h1, h2]; exact ⟨sameMsgB_refl _, rfl⟩
theorem no_of {a : Bool} {p : Prop} (h1 : a = true) (h2 : a = false) : p := by rw [h1] at h2; cases h2
theorem law_no {m : MsgD} (hi : m.InR) (h : refMayMsgB m = false) : seqB (if mayMsgB m = true then bytesB m else ByteArray.mk #[]) (ByteArray.mk #[]) = true ∧ (if mayMsgB m = true then (0 : Int) else 2) = 2 := by
  rw [refMay_eq m hi] at h
  rw [h]; exact ⟨seqB_refl _, rfl⟩
theorem law_yes {m : MsgD} (hi : m.InR) (he : ∀ k, k < m.Entries.length → (m.Entries.getD k default).InR) (hz : MsgSm m) (h : refMayMsgB m = true) :
    MsgOk m ∧ (if mayMsgB m = true then bytesB m else ByteArray.mk #[]).size ≤ 1073741824 ∧ seqB (if mayMsgB m = true then bytesB m else ByteArray.mk #[]) (bytesB m) = true ∧ (if mayMsgB m = true then (0 : Int) else 2) = 0 ∧
      sameMsgB (vRead (if mayMsgB m = true then bytesB m else ByteArray.mk #[])) m = true ∧ (if vOk (if mayMsgB m = true then bytesB m else ByteArray.mk #[]) = true then (0 : Int) else 2) = 0 := by
  rw [refMay_eq m hi] at h
  have hg := good_of hi he hz.sz h
  obtain ⟨h1, h2⟩ := vOk_bytes hg h
  rw [if_pos h, if_pos h, h2, if_pos h1]
  exact ⟨hg.ok, bytes_small hg.ok hz, seqB_refl _, rfl, sameMsgB_refl _, rfl⟩
end Go.Proofs.Ytbpamkbegggeoaa.X1
