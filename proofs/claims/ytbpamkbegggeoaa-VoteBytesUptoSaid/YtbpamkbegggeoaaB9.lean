/- My texts, cut to what this claim needs and merged. -/
import Derived.Test.YtbpamkbegggeoaaB6
import Derived.Test.YtbpamkbegggeoaaProg
import Derived.Test.YtbpamkbegggeoaaB2
namespace Go.Proofs.Ytbpamkbegggeoaa.X1
open T W Go.RowKit
set_option maxRecDepth 100000
set_option maxHeartbeats 400000
theorem u9 : Try.prog.underlying 9 = some (.string) := by kernel_rfl
theorem u5 : Try.prog.underlying 5 = some (.int .u8) := by kernel_rfl
theorem u23 : Try.prog.underlying 23 = some (.int .u64) := by kernel_rfl
theorem u3 : Try.prog.underlying 3 = some (.int .i64) := by kernel_rfl
theorem mo : Try.prog.follows .mixedOrders = true := by kernel_rfl
theorem cl111 : Callable Try.prog 111 := ⟨Try.f111, Try.func111, by kernel_rfl, rfl⟩
theorem cl112 : Callable Try.prog 112 := ⟨Try.f112, Try.func112, by kernel_rfl, rfl⟩
theorem cl97 : Callable Try.prog 97 := ⟨Try.f97, Try.func97, by kernel_rfl, rfl⟩
theorem cl99 : Callable Try.prog 99 := ⟨Try.f99, Try.func99, by kernel_rfl, rfl⟩
theorem fl117_0 : FieldOf Try.prog 117 0 9 0 1 := fld (by kernel_rfl)
theorem p9 : Plain Try.prog 9 := ⟨.string, by kernel_rfl, by intros; simp, by intros; simp⟩
theorem fl117_1 : FieldOf Try.prog 117 1 4 1 1 := fld (by kernel_rfl)
theorem s4 : Sized Try.prog 4 1 := by unfold Sized; kernel_rfl
theorem s9 : Sized Try.prog 9 1 := by unfold Sized; kernel_rfl
theorem p4 : Plain Try.prog 4 := ⟨.bool, by kernel_rfl, by intros; simp, by intros; simp⟩
theorem cl98 : Callable Try.prog 98 := ⟨Try.f98, Try.func98, by kernel_rfl, rfl⟩
theorem fl124_0 : FieldOf Try.prog 124 0 9 0 1 := fld (by kernel_rfl)
theorem fl124_1 : FieldOf Try.prog 124 1 4 1 1 := fld (by kernel_rfl)
theorem cl100 : Callable Try.prog 100 := ⟨Try.f100, Try.func100, by kernel_rfl, rfl⟩
structure VRD where
  s : ByteArray
  bad : Bool
deriving Inhabited
def VRD.InR (x : VRD) : Prop := x.s.size ≤ maxLen
structure RRD where
  S : ByteArray
  Bad : Bool
deriving Inhabited
def RRD.InR (x : RRD) : Prop := x.S.size ≤ maxLen
theorem str_get {s : ByteArray} {m : Nat} (h : m < s.size) : s[m]? = some (s.data.getD m 0) := by
  obtain ⟨d⟩ := s
  have h' : m < d.size := h
  show (ByteArray.mk d)[m]? = some (d.getD m 0)
  rw [getElem?_pos (ByteArray.mk d) m h, Array.getD_eq_getD_getElem?, Array.getElem?_eq_getElem h']
  rfl
def bigK (s : ByteArray) : Nat → Int
  | 0 => 0
  | k + 1 => bor .u64 (bshl .u64 (bigK s k) 8) (((s.data.getD k 0).toNat : Nat) : Int)
def bigB (s : ByteArray) : Int := bigK s s.size
def rnN (s : ByteArray) : Int := (((s.data.getD 0 0).toNat : Nat) : Int)
def rnE (s : ByteArray) : Int := if s.size = 0 then 20 else if rnN s > 8 then 21 else if (s.size : Int) < 1 + rnN s then 20 else if rnN s > 0 ∧ (((s.data.getD 1 0).toNat : Nat) : Int) = 0 then 21 else 0
def rnX (s : ByteArray) : Int := if rnE s = 0 then bigB (s.extract 1 (1 + rnN s).toNat) else 0
def rnR (s : ByteArray) : ByteArray := if rnE s = 0 then s.extract (1 + rnN s).toNat s.size else ByteArray.mk #[]
theorem seq_no {s : ByteArray} (h : seqB s (ByteArray.mk #[]) = false) : 0 < s.size := by
  rw [seq_empty] at h; have := of_decide_eq_false h; omega
theorem seq_yes {s : ByteArray} (h : seqB s (ByteArray.mk #[]) = true) : s.size = 0 := by
  rw [seq_empty] at h; exact of_decide_eq_true h
theorem bigK_in (s : ByteArray) : ∀ k, 0 ≤ bigK s k ∧ bigK s k ≤ 18446744073709551615
  | 0 => by simp [bigK]
  | k + 1 => bor_in _ _
theorem rnX_in (s : ByteArray) : 0 ≤ rnX s ∧ rnX s ≤ 18446744073709551615 := by
  unfold rnX; split
  · exact bigK_in _ _
  · omega
theorem rnR_le (s : ByteArray) : (rnR s).size ≤ s.size := by
  unfold rnR; split
  · exact extract_le _ _ _
  · exact Nat.zero_le _
def rtE (s : ByteArray) : Int := if rnE s = 0 ∧ rnX s > ((rnR s).size : Int) then 20 else rnE s
def rtT (s : ByteArray) : ByteArray := if rtE s = 0 then (rnR s).extract 0 (rnX s).toNat else ByteArray.mk #[]
def rtR (s : ByteArray) : ByteArray := if rtE s = 0 then (rnR s).extract (rnX s).toNat (rnR s).size else ByteArray.mk #[]
theorem cells2 {a a' : ByteArray} {b b' : Bool} (h1 : a = a') (h2 : b = b') : [Value.string a, Value.bool b] = [Value.string a', Value.bool b'] := by rw [h1, h2]
def hdV (s : ByteArray) : Int := if s.size = 0 then 0 else rnN s
def tlS (s : ByteArray) : ByteArray := if s.size = 0 then s else s.extract 1 s.size
def octP (r : VRD) : VRD := { s := tlS r.s, bad := r.bad || decide (r.s.size = 0) }
def numP (r : VRD) : VRD := { s := rnR r.s, bad := r.bad || decide (rnE r.s ≠ 0) }
def textP (r : VRD) : VRD := { s := rtR r.s, bad := r.bad || decide (rtE r.s ≠ 0) }
def rOctP (r : RRD) : RRD := { S := tlS r.S, Bad := r.Bad || decide (r.S.size = 0) }
def rNumNo (s : ByteArray) (most : Int) : Bool := decide (rnE s ≠ 0) || decide (rnX s > most)
def rNumP (r : RRD) (most : Int) : RRD := { S := if rNumNo r.S most = true then r.S else rnR r.S, Bad := r.Bad || rNumNo r.S most }
def rNumV (r : RRD) (most : Int) : Int := if rNumNo r.S most = true then 0 else rnX r.S
def rTextP (r : RRD) : RRD := { S := if rtE r.S ≠ 0 then r.S else rtR r.S, Bad := r.Bad || decide (rtE r.S ≠ 0) }
def rTextV (r : RRD) : ByteArray := if rtE r.S ≠ 0 then ByteArray.mk #[] else rtT r.S
theorem code_big {w : World} (s : ByteArray) (hs : s.size ≤ 9223372036854775807) : Fnc Try.prog 111 #[.string (s)] w (fun v w' => v = .int .u64 (bigB s) ∧ Ext [] w w') := by
  refine Fnc.of_WP (n := 19) Try.func111 rfl Try.ntmps111 (by simp) ?_
  intro E hE
  have h0 : E 0 = .string (s) := hE 0 (by simp)
  clear hE
  refine WP.sr ?_
  refine WL.m rfl ?_
  refine WL.nil ?_
  refine WP.sr ?_
  refine WL.m rfl ?_
  refine WL.nil ?_
  refine WP.seq ?_
  refine WP.sr ?_
  refine WL.m rfl ?_
  refine WL.z (.int .i64 (((s).size : Int))) (V.lenString (x := .tmp 5) rfl rfl u9 h0) ?_
  refine WL.m rfl ?_
  refine WL.nil ?_
  refine WP.block ?_
  refine WP.loop (σ := Nat) (fun k E1 w2 => E1 0 = .string (s) ∧ E1 2 = .int .u64 (0) ∧ E1 3 = .int .u64 (bigK s k) ∧ E1 6 = .int .i64 (((s).size : Int)) ∧ E1 7 = .int .i64 ((k : Int)) ∧ Ext [] w w2 ∧ k ≤ s.size) (fun k => s.size - k) (0) ?_ ?_
  · exact ⟨h0, rfl, (int_eq (by rfl)), rfl, (int_eq (by omega)), Ext.refl _ _, (by omega)⟩
  rintro k E1 w2 ⟨h0_3, h2_3, h3_3, h6_3, h7_3, hx3, hi0_3⟩
  have hx4 : Ext [] w w2 := hx3
  refine WP.sr ?_
  refine WL.z (.bool (decide ((k : Int) < ((s).size : Int)))) (V.cmp (x := .tmp 7) (y := .tmp 6) rfl h7_3 h6_3 rfl) ?_
  refine WL.nil ?_
  refine WP.seq ?_
  refine WP.condp (t := (k : Int) < ((s).size : Int)) rfl (fun hc5 => ?_) (fun hc5 => ?_)
  rotate_left
  · refine WP.exit ?_
    refine WP.sr ?_
    refine WL.m rfl ?_
    refine WL.m rfl ?_
    refine WL.nil ?_
    refine WP.ret ?_
    refine resOf.c1 rfl (v := .int .u64 (bigK s k)) h3_3 ?_
    exact ⟨(int_eq (by (have hke : k = s.size := (by omega)); subst hke; rfl)), hx4⟩
  refine WP.skip ?_
  refine WP.seq ?_
  refine WP.block ?_
  refine WP.sr ?_
  refine WL.m rfl ?_
  refine WL.m rfl ?_
  refine WL.nil ?_
  refine WP.region ?_
  refine WL.m rfl ?_
  refine WL.z (.int .u64 (bshl .u64 (bigK s k) 8)) (V.shift (x := .tmp 10) rfl h3_3 rfl (by omega) rfl) ?_
  refine WL.m rfl ?_
  refine WL.m rfl ?_
  have hle6 := byte_le s k
  refine WL.z (.int .u8 (((((s).data.getD k 0).toNat : Nat) : Int))) (V.indexString (x := .tmp 12) (i := .tmp 13) rfl u9 h0_3 h7_3 (by omega) (str_get (by omega))) ?_
  refine WL.z (.int .u64 (((((s).data.getD k 0).toNat : Nat) : Int))) (V.convInt rfl u5 u23 rfl (wrap_u64 (by omega) (by omega))) ?_
  refine WL.z (.int .u64 (bor .u64 (bshl .u64 (bigK s k) 8) ((((s).data.getD k 0).toNat : Nat) : Int))) (V.bits rfl rfl rfl rfl) ?_
  refine WL.m rfl ?_
  refine WL.nil ?_
  refine WP.region ?_
  refine WL.z (.int .i64 ((k : Int) + 1)) (V.arith (x := .tmp 7) rfl h7_3 rfl rfl (wrap_i64 (by omega) (by omega))) ?_
  refine WL.m rfl ?_
  refine WL.nil ?_
  exact ⟨k + 1, ⟨h0_3, h2_3, (int_eq (by rfl)), h6_3, (int_eq (by omega)), hx4, (by omega)⟩, (by omega)⟩
theorem ref_Big {w : World} (s : ByteArray) (hs : s.size ≤ 9223372036854775807) : Fnc Try.prog 112 #[.string (s)] w (fun v w' => v = .int .u64 (bigB s) ∧ Ext [] w w') := by
  refine Fnc.of_WP (n := 19) Try.func112 rfl Try.ntmps112 (by simp) ?_
  intro E hE
  have h0 : E 0 = .string (s) := hE 0 (by simp)
  clear hE
  refine WP.sr ?_
  refine WL.m rfl ?_
  refine WL.nil ?_
  refine WP.sr ?_
  refine WL.m rfl ?_
  refine WL.nil ?_
  refine WP.seq ?_
  refine WP.sr ?_
  refine WL.m rfl ?_
  refine WL.nil ?_
  refine WP.block ?_
  refine WP.loop (σ := Nat) (fun k E1 w2 => E1 0 = .string (s) ∧ E1 2 = .int .u64 (0) ∧ E1 3 = .int .u64 (bigK s k) ∧ E1 4 = .int .i64 ((k : Int)) ∧ Ext [] w w2 ∧ k ≤ s.size) (fun k => s.size - k) (0) ?_ ?_
  · exact ⟨h0, rfl, (int_eq (by rfl)), (int_eq (by omega)), Ext.refl _ _, (by omega)⟩
  rintro k E1 w2 ⟨h0_3, h2_3, h3_3, h4_3, hx3, hi0_3⟩
  have hx4 : Ext [] w w2 := hx3
  refine WP.seq ?_
  refine WP.sr ?_
  refine WL.m rfl ?_
  refine WL.m rfl ?_
  refine WL.z (.int .i64 (((s).size : Int))) (V.lenString (x := .tmp 6) rfl rfl u9 h0_3) ?_
  refine WL.z (.bool (decide ((k : Int) < ((s).size : Int)))) (V.cmp (x := .tmp 5) rfl h4_3 rfl rfl) ?_
  refine WL.nil ?_
  refine WP.condp (t := (k : Int) < ((s).size : Int)) rfl (fun hc5 => ?_) (fun hc5 => ?_)
  rotate_left
  · refine WP.exit ?_
    refine WP.sr ?_
    refine WL.m rfl ?_
    refine WL.m rfl ?_
    refine WL.nil ?_
    refine WP.ret ?_
    refine resOf.c1 rfl (v := .int .u64 (bigK s k)) h3_3 ?_
    exact ⟨(int_eq (by (have hke : k = s.size := (by omega)); subst hke; rfl)), hx4⟩
  refine WP.skip ?_
  refine WP.seq ?_
  refine WP.block ?_
  refine WP.region ?_
  refine WL.m rfl ?_
  refine WL.z (.int .u64 (bshl .u64 (bigK s k) 8)) (V.shift (x := .tmp 11) rfl h3_3 rfl (by omega) rfl) ?_
  refine WL.m rfl ?_
  refine WL.m rfl ?_
  have hle6 := byte_le s k
  refine WL.z (.int .u8 (((((s).data.getD k 0).toNat : Nat) : Int))) (V.indexString (x := .tmp 13) (i := .tmp 14) rfl u9 h0_3 h4_3 (by omega) (str_get (by omega))) ?_
  refine WL.z (.int .u64 (((((s).data.getD k 0).toNat : Nat) : Int))) (V.convInt rfl u5 u23 rfl (wrap_u64 (by omega) (by omega))) ?_
  refine WL.z (.int .u64 (bor .u64 (bshl .u64 (bigK s k) 8) ((((s).data.getD k 0).toNat : Nat) : Int))) (V.bits rfl rfl rfl rfl) ?_
  refine WL.m rfl ?_
  refine WL.nil ?_
  refine WP.region ?_
  refine WL.m rfl ?_
  refine WL.z (.int .i64 ((k : Int) + 1)) (V.arith (x := .tmp 9) rfl h4_3 rfl rfl (wrap_i64 (by omega) (by omega))) ?_
  refine WL.m rfl ?_
  refine WL.nil ?_
  exact ⟨k + 1, ⟨h0_3, h2_3, (int_eq (by rfl)), (int_eq (by omega)), hx4, (by omega)⟩, (by omega)⟩
set_option maxHeartbeats 4000000 in
theorem code_ReadNum {w : World} (s : ByteArray) (hs : s.size ≤ 9223372036854775807) : Fnc Try.prog 97 #[.string (s)] w (fun v w' => v = .tuple #[.int .u64 (rnX s), .string (rnR s), .int .i64 (rnE s)] ∧ Ext [] w w') := by
  refine Fnc.of_WP (n := 37) Try.func97 rfl Try.ntmps97 (by simp) ?_
  intro E hE
  have h0 : E 0 = .string (s) := hE 0 (by simp)
  clear hE
  refine WP.sr ?_
  refine WL.m rfl ?_
  refine WL.m rfl ?_
  refine WL.m rfl ?_
  refine WL.nil ?_
  refine WP.seq ?_
  refine WP.block ?_
  refine WP.sr ?_
  refine WL.m rfl ?_
  refine WL.z (.bool (seqB s (ByteArray.mk #[]))) (V.scmp (x := .tmp 7) rfl h0 rfl rfl) ?_
  refine WL.m rfl ?_
  refine WL.nil ?_
  refine WP.cond (t := seqB s (ByteArray.mk #[])) rfl (fun hc1 => ?_) (fun hc1 => ?_)
  · refine WP.sr ?_
    refine WL.m rfl ?_
    refine WL.m rfl ?_
    refine WL.m rfl ?_
    refine WL.nil ?_
    refine WP.ret ?_
    refine resOf.c3 rfl (v := .int .u64 (0)) rfl (v' := .string (ByteArray.mk #[])) rfl (v'' := .int .i64 (20)) rfl ?_
    exact ⟨(tup3 (int_eq (by first | (have hem := seq_yes (s := s) (by assumption); grind [rnX, rnR, rnE, rnN]) | grind [rnX, rnR, rnE, rnN])) (str_eq (by first | (have hem := seq_yes (s := s) (by assumption); grind [rnX, rnR, rnE, rnN]) | grind [rnX, rnR, rnE, rnN])) (int_eq (by first | (have hem := seq_yes (s := s) (by assumption); grind [rnX, rnR, rnE, rnN]) | grind [rnX, rnR, rnE, rnN]))), Ext.refl _ _⟩
  refine WP.sr ?_
  have hne := seq_no (s := s) (by assumption)
  refine WL.m rfl ?_
  have hle2 := byte_le s 0
  refine WL.z (.int .u8 (((((s).data.getD 0 0).toNat : Nat) : Int))) (V.indexString (x := .tmp 10) rfl u9 h0 rfl (by omega) (str_get (by omega))) ?_
  refine WL.z (.bool (decide (((((s).data.getD 0 0).toNat : Nat) : Int) > 8))) (V.cmp rfl rfl rfl rfl) ?_
  refine WL.m rfl ?_
  refine WL.nil ?_
  refine WP.condp (t := ((((s).data.getD 0 0).toNat : Nat) : Int) > 8) rfl (fun hc3 => ?_) (fun hc3 => ?_)
  · refine WP.sr ?_
    refine WL.m rfl ?_
    refine WL.m rfl ?_
    refine WL.m rfl ?_
    refine WL.nil ?_
    refine WP.ret ?_
    refine resOf.c3 rfl (v := .int .u64 (0)) rfl (v' := .string (ByteArray.mk #[])) rfl (v'' := .int .i64 (21)) rfl ?_
    exact ⟨(tup3 (int_eq (by first | (have hem := seq_yes (s := s) (by assumption); grind [rnX, rnR, rnE, rnN]) | grind [rnX, rnR, rnE, rnN])) (str_eq (by first | (have hem := seq_yes (s := s) (by assumption); grind [rnX, rnR, rnE, rnN]) | grind [rnX, rnR, rnE, rnN])) (int_eq (by first | (have hem := seq_yes (s := s) (by assumption); grind [rnX, rnR, rnE, rnN]) | grind [rnX, rnR, rnE, rnN]))), Ext.refl _ _⟩
  refine WP.skip ?_
  refine WP.sr ?_
  refine WL.m rfl ?_
  have hle4 := byte_le s 0
  refine WL.z (.int .u8 (((((s).data.getD 0 0).toNat : Nat) : Int))) (V.indexString (x := .tmp 13) rfl u9 h0 rfl (by omega) (str_get (by omega))) ?_
  refine WL.z (.int .i64 (((((s).data.getD 0 0).toNat : Nat) : Int))) (V.convInt rfl u5 u3 rfl (wrap_i64 (by omega) (by omega))) ?_
  refine WL.z (.int .i64 (1 + ((((s).data.getD 0 0).toNat : Nat) : Int))) (V.arith rfl rfl rfl rfl (wrap_i64 (by omega) (by omega))) ?_
  refine WL.m rfl ?_
  refine WL.nil ?_
  refine WP.seq ?_
  refine WP.block ?_
  refine WP.sr ?_
  refine WL.m rfl ?_
  refine WL.z (.int .i64 (((s).size : Int))) (V.lenString (x := .tmp 18) rfl rfl u9 h0) ?_
  refine WL.m rfl ?_
  refine WL.z (.bool (decide (((s).size : Int) < (1 + ((((s).data.getD 0 0).toNat : Nat) : Int))))) (V.cmp rfl rfl rfl rfl) ?_
  refine WL.m rfl ?_
  refine WL.nil ?_
  refine WP.condp (t := ((s).size : Int) < (1 + ((((s).data.getD 0 0).toNat : Nat) : Int))) rfl (fun hc5 => ?_) (fun hc5 => ?_)
  · refine WP.sr ?_
    refine WL.m rfl ?_
    refine WL.m rfl ?_
    refine WL.m rfl ?_
    refine WL.nil ?_
    refine WP.ret ?_
    refine resOf.c3 rfl (v := .int .u64 (0)) rfl (v' := .string (ByteArray.mk #[])) rfl (v'' := .int .i64 (20)) rfl ?_
    exact ⟨(tup3 (int_eq (by first | (have hem := seq_yes (s := s) (by assumption); grind [rnX, rnR, rnE, rnN]) | grind [rnX, rnR, rnE, rnN])) (str_eq (by first | (have hem := seq_yes (s := s) (by assumption); grind [rnX, rnR, rnE, rnN]) | grind [rnX, rnR, rnE, rnN])) (int_eq (by first | (have hem := seq_yes (s := s) (by assumption); grind [rnX, rnR, rnE, rnN]) | grind [rnX, rnR, rnE, rnN]))), Ext.refl _ _⟩
  refine WP.sr ?_
  refine WL.m rfl ?_
  refine WL.z (.bool (decide ((1 + ((((s).data.getD 0 0).toNat : Nat) : Int)) > 1))) (V.cmp rfl rfl rfl rfl) ?_
  refine WL.vbp (c := (1 + ((((s).data.getD 0 0).toNat : Nat) : Int)) > 1) (Sure.none rfl) rfl (V.move rfl rfl) (fun hc6 => ?_) (fun hc6 => ?_)
  rotate_left
  · refine WL.skips [(25, some false)] [(22, some false)] (kc (some false) rfl kn) (by kernel_rfl) (fun E12 hK13 hE14 => ?_)
    refine WP.cond_false (hK13 22 (some false) rfl) ?_
    refine WP.skip ?_
    refine WP.seq ?_
    refine WP.quiet mo (by kernel_rfl) ?_
    refine WQ.m rfl ?_
    refine WQ.m rfl ?_
    refine WQ.z (.string (s.extract 1 ((1 + ((((s).data.getD 0 0).toNat : Nat) : Int)).toNat))) (fun w' hw => V.sliceString (x := .tmp 30) (lo := some _) (hi := some _) (l := 1) (h := (1 + ((((s).data.getD 0 0).toNat : Nat) : Int)).toNat) rfl u9 ((hE14 0 rfl).trans h0) ⟨_, (Eq.trans rfl (int_eq (by omega)))⟩ ⟨_, (Eq.trans (hE14 5 rfl) (int_eq (by omega)))⟩ (by omega) (by omega) rfl) ?_
    refine WQ.c (u := .int .u64 (bigB (s.extract 1 ((1 + ((((s).data.getD 0 0).toNat : Nat) : Int)).toNat)))) (Sure.none rfl) rfl (fun w' hw => C.call1 rfl cl111 rfl) (fun w' hw => (code_big (s.extract 1 ((1 + ((((s).data.getD 0 0).toNat : Nat) : Int)).toNat)) (by first | omega | exact Nat.le_trans (extract_le _ _ _) (by omega)))) ?_
    refine WQ.m rfl ?_
    refine WQ.m rfl ?_
    refine WQ.z (.string (s.extract ((1 + ((((s).data.getD 0 0).toNat : Nat) : Int)).toNat) ((s).size))) (fun w' hw => V.sliceString (x := .tmp 34) (lo := some _) (hi := none) (l := (1 + ((((s).data.getD 0 0).toNat : Nat) : Int)).toNat) (h := (s).size) rfl u9 ((hE14 0 rfl).trans h0) ⟨_, (Eq.trans (hE14 5 rfl) (int_eq (by omega)))⟩ rfl (by omega) (by omega) rfl) ?_
    refine WQ.m rfl ?_
    refine WQ.m rfl ?_
    refine WQ.m rfl ?_
    refine WQ.nil (fun w15 hq16 => ?_)
    have hx17 : Ext [] w w15 := hq16
    refine WP.ret ?_
    refine resOf.c3 rfl (v := .int .u64 (bigB (s.extract 1 ((1 + ((((s).data.getD 0 0).toNat : Nat) : Int)).toNat)))) rfl (v' := .string (s.extract ((1 + ((((s).data.getD 0 0).toNat : Nat) : Int)).toNat) ((s).size))) rfl (v'' := .int .i64 (0)) rfl ?_
    exact ⟨(tup3 (int_eq (by first | (have hem := seq_yes (s := s) (by assumption); grind [rnX, rnR, rnE, rnN]) | grind [rnX, rnR, rnE, rnN])) (str_eq (by first | (have hem := seq_yes (s := s) (by assumption); grind [rnX, rnR, rnE, rnN]) | grind [rnX, rnR, rnE, rnN])) (int_eq (by first | (have hem := seq_yes (s := s) (by assumption); grind [rnX, rnR, rnE, rnN]) | grind [rnX, rnR, rnE, rnN]))), hx17⟩
  refine WL.my rfl rfl ?_
  have hle7 := byte_le s 1
  refine WL.y (.int .u8 (((((s).data.getD 1 0).toNat : Nat) : Int))) rfl (V.indexString (x := .tmp 26) rfl u9 h0 rfl (by omega) (str_get (by omega))) ?_
  refine WL.y (.bool (decide (((((s).data.getD 1 0).toNat : Nat) : Int) = 0))) rfl (V.cmp rfl rfl rfl rfl) ?_
  refine WL.k (a := true) rfl rfl ?_
  refine WL.m rfl ?_
  refine WL.nil ?_
  refine WP.condp (t := ((((s).data.getD 1 0).toNat : Nat) : Int) = 0) rfl (fun hc8 => ?_) (fun hc8 => ?_)
  · refine WP.sr ?_
    refine WL.m rfl ?_
    refine WL.m rfl ?_
    refine WL.m rfl ?_
    refine WL.nil ?_
    refine WP.ret ?_
    refine resOf.c3 rfl (v := .int .u64 (0)) rfl (v' := .string (ByteArray.mk #[])) rfl (v'' := .int .i64 (21)) rfl ?_
    exact ⟨(tup3 (int_eq (by first | (have hem := seq_yes (s := s) (by assumption); grind [rnX, rnR, rnE, rnN]) | grind [rnX, rnR, rnE, rnN])) (str_eq (by first | (have hem := seq_yes (s := s) (by assumption); grind [rnX, rnR, rnE, rnN]) | grind [rnX, rnR, rnE, rnN])) (int_eq (by first | (have hem := seq_yes (s := s) (by assumption); grind [rnX, rnR, rnE, rnN]) | grind [rnX, rnR, rnE, rnN]))), Ext.refl _ _⟩
  refine WP.skip ?_
  refine WP.seq ?_
  refine WP.quiet mo (by kernel_rfl) ?_
  refine WQ.m rfl ?_
  refine WQ.m rfl ?_
  refine WQ.z (.string (s.extract 1 ((1 + ((((s).data.getD 0 0).toNat : Nat) : Int)).toNat))) (fun w' hw => V.sliceString (x := .tmp 30) (lo := some _) (hi := some _) (l := 1) (h := (1 + ((((s).data.getD 0 0).toNat : Nat) : Int)).toNat) rfl u9 h0 ⟨_, (Eq.trans rfl (int_eq (by omega)))⟩ ⟨_, (Eq.trans rfl (int_eq (by omega)))⟩ (by omega) (by omega) rfl) ?_
  refine WQ.c (u := .int .u64 (bigB (s.extract 1 ((1 + ((((s).data.getD 0 0).toNat : Nat) : Int)).toNat)))) (Sure.none rfl) rfl (fun w' hw => C.call1 rfl cl111 rfl) (fun w' hw => (code_big (s.extract 1 ((1 + ((((s).data.getD 0 0).toNat : Nat) : Int)).toNat)) (by first | omega | exact Nat.le_trans (extract_le _ _ _) (by omega)))) ?_
  refine WQ.m rfl ?_
  refine WQ.m rfl ?_
  refine WQ.z (.string (s.extract ((1 + ((((s).data.getD 0 0).toNat : Nat) : Int)).toNat) ((s).size))) (fun w' hw => V.sliceString (x := .tmp 34) (lo := some _) (hi := none) (l := (1 + ((((s).data.getD 0 0).toNat : Nat) : Int)).toNat) (h := (s).size) rfl u9 h0 ⟨_, (Eq.trans rfl (int_eq (by omega)))⟩ rfl (by omega) (by omega) rfl) ?_
  refine WQ.m rfl ?_
  refine WQ.m rfl ?_
  refine WQ.m rfl ?_
  refine WQ.nil (fun w9 hq10 => ?_)
  have hx11 : Ext [] w w9 := hq10
  refine WP.ret ?_
  refine resOf.c3 rfl (v := .int .u64 (bigB (s.extract 1 ((1 + ((((s).data.getD 0 0).toNat : Nat) : Int)).toNat)))) rfl (v' := .string (s.extract ((1 + ((((s).data.getD 0 0).toNat : Nat) : Int)).toNat) ((s).size))) rfl (v'' := .int .i64 (0)) rfl ?_
  exact ⟨(tup3 (int_eq (by first | (have hem := seq_yes (s := s) (by assumption); grind [rnX, rnR, rnE, rnN]) | grind [rnX, rnR, rnE, rnN])) (str_eq (by first | (have hem := seq_yes (s := s) (by assumption); grind [rnX, rnR, rnE, rnN]) | grind [rnX, rnR, rnE, rnN])) (int_eq (by first | (have hem := seq_yes (s := s) (by assumption); grind [rnX, rnR, rnE, rnN]) | grind [rnX, rnR, rnE, rnN]))), hx11⟩
set_option maxHeartbeats 4000000 in
theorem ref_ReadNum {w : World} (s : ByteArray) (hs : s.size ≤ 9223372036854775807) : Fnc Try.prog 99 #[.string (s)] w (fun v w' => v = .tuple #[.int .u64 (rnX s), .string (rnR s), .int .i64 (rnE s)] ∧ Ext [] w w') := by
  refine Fnc.of_WP (n := 34) Try.func99 rfl Try.ntmps99 (by simp) ?_
  intro E hE
  have h0 : E 0 = .string (s) := hE 0 (by simp)
  clear hE
  refine WP.sr ?_
  refine WL.m rfl ?_
  refine WL.m rfl ?_
  refine WL.m rfl ?_
  refine WL.nil ?_
  refine WP.seq ?_
  refine WP.sr ?_
  refine WL.m rfl ?_
  refine WL.z (.bool (seqB s (ByteArray.mk #[]))) (V.scmp (x := .tmp 6) rfl h0 rfl rfl) ?_
  refine WL.nil ?_
  refine WP.cond (t := seqB s (ByteArray.mk #[])) rfl (fun hc1 => ?_) (fun hc1 => ?_)
  · refine WP.sr ?_
    refine WL.m rfl ?_
    refine WL.m rfl ?_
    refine WL.m rfl ?_
    refine WL.nil ?_
    refine WP.ret ?_
    refine resOf.c3 rfl (v := .int .u64 (0)) rfl (v' := .string (ByteArray.mk #[])) rfl (v'' := .int .i64 (20)) rfl ?_
    exact ⟨(tup3 (int_eq (by first | (have hem := seq_yes (s := s) (by assumption); grind [rnX, rnR, rnE, rnN]) | grind [rnX, rnR, rnE, rnN])) (str_eq (by first | (have hem := seq_yes (s := s) (by assumption); grind [rnX, rnR, rnE, rnN]) | grind [rnX, rnR, rnE, rnN])) (int_eq (by first | (have hem := seq_yes (s := s) (by assumption); grind [rnX, rnR, rnE, rnN]) | grind [rnX, rnR, rnE, rnN]))), Ext.refl _ _⟩
  refine WP.skip ?_
  refine WP.sr ?_
  have hne := seq_no (s := s) (by assumption)
  refine WL.m rfl ?_
  have hle2 := byte_le s 0
  refine WL.z (.int .u8 (((((s).data.getD 0 0).toNat : Nat) : Int))) (V.indexString (x := .tmp 8) rfl u9 h0 rfl (by omega) (str_get (by omega))) ?_
  refine WL.z (.int .i64 (((((s).data.getD 0 0).toNat : Nat) : Int))) (V.convInt rfl u5 u3 rfl (wrap_i64 (by omega) (by omega))) ?_
  refine WL.m rfl ?_
  refine WL.nil ?_
  refine WP.seq ?_
  refine WP.sr ?_
  refine WL.m rfl ?_
  refine WL.z (.bool (decide (((((s).data.getD 0 0).toNat : Nat) : Int) > 8))) (V.cmp rfl rfl rfl rfl) ?_
  refine WL.nil ?_
  refine WP.condp (t := ((((s).data.getD 0 0).toNat : Nat) : Int) > 8) rfl (fun hc3 => ?_) (fun hc3 => ?_)
  · refine WP.sr ?_
    refine WL.m rfl ?_
    refine WL.m rfl ?_
    refine WL.m rfl ?_
    refine WL.nil ?_
    refine WP.ret ?_
    refine resOf.c3 rfl (v := .int .u64 (0)) rfl (v' := .string (ByteArray.mk #[])) rfl (v'' := .int .i64 (21)) rfl ?_
    exact ⟨(tup3 (int_eq (by first | (have hem := seq_yes (s := s) (by assumption); grind [rnX, rnR, rnE, rnN]) | grind [rnX, rnR, rnE, rnN])) (str_eq (by first | (have hem := seq_yes (s := s) (by assumption); grind [rnX, rnR, rnE, rnN]) | grind [rnX, rnR, rnE, rnN])) (int_eq (by first | (have hem := seq_yes (s := s) (by assumption); grind [rnX, rnR, rnE, rnN]) | grind [rnX, rnR, rnE, rnN]))), Ext.refl _ _⟩
  refine WP.skip ?_
  refine WP.seq ?_
  refine WP.sr ?_
  refine WL.m rfl ?_
  refine WL.z (.int .i64 (((s).size : Int))) (V.lenString (x := .tmp 13) rfl rfl u9 h0) ?_
  refine WL.m rfl ?_
  refine WL.z (.int .i64 (1 + ((((s).data.getD 0 0).toNat : Nat) : Int))) (V.arith rfl rfl rfl rfl (wrap_i64 (by omega) (by omega))) ?_
  refine WL.z (.bool (decide (((s).size : Int) < (1 + ((((s).data.getD 0 0).toNat : Nat) : Int))))) (V.cmp rfl rfl rfl rfl) ?_
  refine WL.nil ?_
  refine WP.condp (t := ((s).size : Int) < (1 + ((((s).data.getD 0 0).toNat : Nat) : Int))) rfl (fun hc4 => ?_) (fun hc4 => ?_)
  · refine WP.sr ?_
    refine WL.m rfl ?_
    refine WL.m rfl ?_
    refine WL.m rfl ?_
    refine WL.nil ?_
    refine WP.ret ?_
    refine resOf.c3 rfl (v := .int .u64 (0)) rfl (v' := .string (ByteArray.mk #[])) rfl (v'' := .int .i64 (20)) rfl ?_
    exact ⟨(tup3 (int_eq (by first | (have hem := seq_yes (s := s) (by assumption); grind [rnX, rnR, rnE, rnN]) | grind [rnX, rnR, rnE, rnN])) (str_eq (by first | (have hem := seq_yes (s := s) (by assumption); grind [rnX, rnR, rnE, rnN]) | grind [rnX, rnR, rnE, rnN])) (int_eq (by first | (have hem := seq_yes (s := s) (by assumption); grind [rnX, rnR, rnE, rnN]) | grind [rnX, rnR, rnE, rnN]))), Ext.refl _ _⟩
  refine WP.skip ?_
  refine WP.seq ?_
  refine WP.sr ?_
  refine WL.m rfl ?_
  refine WL.z (.bool (decide (((((s).data.getD 0 0).toNat : Nat) : Int) > 0))) (V.cmp rfl rfl rfl rfl) ?_
  refine WL.vbp (c := ((((s).data.getD 0 0).toNat : Nat) : Int) > 0) (Sure.none rfl) rfl (V.move rfl rfl) (fun hc5 => ?_) (fun hc5 => ?_)
  rotate_left
  · refine WL.skips [(20, some false)] [(24, some false)] (kc (some false) rfl kn) (by kernel_rfl) (fun E11 hK12 hE13 => ?_)
    refine WP.cond_false (hK12 24 (some false) rfl) ?_
    refine WP.skip ?_
    refine WP.seq ?_
    refine WP.quiet mo (by kernel_rfl) ?_
    refine WQ.m rfl ?_
    refine WQ.m rfl ?_
    refine WQ.z (.int .i64 (1 + ((((s).data.getD 0 0).toNat : Nat) : Int))) (fun w' hw => V.arith (y := .tmp 26) rfl rfl (hE13 5 rfl) rfl (wrap_i64 (by omega) (by omega))) ?_
    refine WQ.z (.string (s.extract 1 ((1 + ((((s).data.getD 0 0).toNat : Nat) : Int)).toNat))) (fun w' hw => V.sliceString (x := .tmp 25) (lo := some _) (hi := some _) (l := 1) (h := (1 + ((((s).data.getD 0 0).toNat : Nat) : Int)).toNat) rfl u9 ((hE13 0 rfl).trans h0) ⟨_, (Eq.trans rfl (int_eq (by omega)))⟩ ⟨_, (Eq.trans rfl (int_eq (by omega)))⟩ (by omega) (by omega) rfl) ?_
    refine WQ.c (u := .int .u64 (bigB (s.extract 1 ((1 + ((((s).data.getD 0 0).toNat : Nat) : Int)).toNat)))) (Sure.none rfl) rfl (fun w' hw => C.call1 rfl cl112 rfl) (fun w' hw => (ref_Big (s.extract 1 ((1 + ((((s).data.getD 0 0).toNat : Nat) : Int)).toNat)) (by first | omega | exact Nat.le_trans (extract_le _ _ _) (by omega)))) ?_
    refine WQ.m rfl ?_
    refine WQ.m rfl ?_
    refine WQ.z (.int .i64 (1 + ((((s).data.getD 0 0).toNat : Nat) : Int))) (fun w' hw => V.arith (y := .tmp 31) rfl rfl (hE13 5 rfl) rfl (wrap_i64 (by omega) (by omega))) ?_
    refine WQ.z (.string (s.extract ((1 + ((((s).data.getD 0 0).toNat : Nat) : Int)).toNat) ((s).size))) (fun w' hw => V.sliceString (x := .tmp 30) (lo := some _) (hi := none) (l := (1 + ((((s).data.getD 0 0).toNat : Nat) : Int)).toNat) (h := (s).size) rfl u9 ((hE13 0 rfl).trans h0) ⟨_, (Eq.trans rfl (int_eq (by omega)))⟩ rfl (by omega) (by omega) rfl) ?_
    refine WQ.m rfl ?_
    refine WQ.m rfl ?_
    refine WQ.m rfl ?_
    refine WQ.nil (fun w14 hq15 => ?_)
    have hx16 : Ext [] w w14 := hq15
    refine WP.ret ?_
    refine resOf.c3 rfl (v := .int .u64 (bigB (s.extract 1 ((1 + ((((s).data.getD 0 0).toNat : Nat) : Int)).toNat)))) rfl (v' := .string (s.extract ((1 + ((((s).data.getD 0 0).toNat : Nat) : Int)).toNat) ((s).size))) rfl (v'' := .int .i64 (0)) rfl ?_
    exact ⟨(tup3 (int_eq (by first | (have hem := seq_yes (s := s) (by assumption); grind [rnX, rnR, rnE, rnN]) | grind [rnX, rnR, rnE, rnN])) (str_eq (by first | (have hem := seq_yes (s := s) (by assumption); grind [rnX, rnR, rnE, rnN]) | grind [rnX, rnR, rnE, rnN])) (int_eq (by first | (have hem := seq_yes (s := s) (by assumption); grind [rnX, rnR, rnE, rnN]) | grind [rnX, rnR, rnE, rnN]))), hx16⟩
  refine WL.my rfl rfl ?_
  have hle6 := byte_le s 1
  refine WL.y (.int .u8 (((((s).data.getD 1 0).toNat : Nat) : Int))) rfl (V.indexString (x := .tmp 21) rfl u9 h0 rfl (by omega) (str_get (by omega))) ?_
  refine WL.y (.bool (decide (((((s).data.getD 1 0).toNat : Nat) : Int) = 0))) rfl (V.cmp rfl rfl rfl rfl) ?_
  refine WL.k (a := true) rfl rfl ?_
  refine WL.nil ?_
  refine WP.condp (t := ((((s).data.getD 1 0).toNat : Nat) : Int) = 0) rfl (fun hc7 => ?_) (fun hc7 => ?_)
  · refine WP.sr ?_
    refine WL.m rfl ?_
    refine WL.m rfl ?_
    refine WL.m rfl ?_
    refine WL.nil ?_
    refine WP.ret ?_
    refine resOf.c3 rfl (v := .int .u64 (0)) rfl (v' := .string (ByteArray.mk #[])) rfl (v'' := .int .i64 (21)) rfl ?_
    exact ⟨(tup3 (int_eq (by first | (have hem := seq_yes (s := s) (by assumption); grind [rnX, rnR, rnE, rnN]) | grind [rnX, rnR, rnE, rnN])) (str_eq (by first | (have hem := seq_yes (s := s) (by assumption); grind [rnX, rnR, rnE, rnN]) | grind [rnX, rnR, rnE, rnN])) (int_eq (by first | (have hem := seq_yes (s := s) (by assumption); grind [rnX, rnR, rnE, rnN]) | grind [rnX, rnR, rnE, rnN]))), Ext.refl _ _⟩
  refine WP.skip ?_
  refine WP.seq ?_
  refine WP.quiet mo (by kernel_rfl) ?_
  refine WQ.m rfl ?_
  refine WQ.m rfl ?_
  refine WQ.z (.int .i64 (1 + ((((s).data.getD 0 0).toNat : Nat) : Int))) (fun w' hw => V.arith rfl rfl rfl rfl (wrap_i64 (by omega) (by omega))) ?_
  refine WQ.z (.string (s.extract 1 ((1 + ((((s).data.getD 0 0).toNat : Nat) : Int)).toNat))) (fun w' hw => V.sliceString (x := .tmp 25) (lo := some _) (hi := some _) (l := 1) (h := (1 + ((((s).data.getD 0 0).toNat : Nat) : Int)).toNat) rfl u9 h0 ⟨_, (Eq.trans rfl (int_eq (by omega)))⟩ ⟨_, (Eq.trans rfl (int_eq (by omega)))⟩ (by omega) (by omega) rfl) ?_
  refine WQ.c (u := .int .u64 (bigB (s.extract 1 ((1 + ((((s).data.getD 0 0).toNat : Nat) : Int)).toNat)))) (Sure.none rfl) rfl (fun w' hw => C.call1 rfl cl112 rfl) (fun w' hw => (ref_Big (s.extract 1 ((1 + ((((s).data.getD 0 0).toNat : Nat) : Int)).toNat)) (by first | omega | exact Nat.le_trans (extract_le _ _ _) (by omega)))) ?_
  refine WQ.m rfl ?_
  refine WQ.m rfl ?_
  refine WQ.z (.int .i64 (1 + ((((s).data.getD 0 0).toNat : Nat) : Int))) (fun w' hw => V.arith rfl rfl rfl rfl (wrap_i64 (by omega) (by omega))) ?_
  refine WQ.z (.string (s.extract ((1 + ((((s).data.getD 0 0).toNat : Nat) : Int)).toNat) ((s).size))) (fun w' hw => V.sliceString (x := .tmp 30) (lo := some _) (hi := none) (l := (1 + ((((s).data.getD 0 0).toNat : Nat) : Int)).toNat) (h := (s).size) rfl u9 h0 ⟨_, (Eq.trans rfl (int_eq (by omega)))⟩ rfl (by omega) (by omega) rfl) ?_
  refine WQ.m rfl ?_
  refine WQ.m rfl ?_
  refine WQ.m rfl ?_
  refine WQ.nil (fun w8 hq9 => ?_)
  have hx10 : Ext [] w w8 := hq9
  refine WP.ret ?_
  refine resOf.c3 rfl (v := .int .u64 (bigB (s.extract 1 ((1 + ((((s).data.getD 0 0).toNat : Nat) : Int)).toNat)))) rfl (v' := .string (s.extract ((1 + ((((s).data.getD 0 0).toNat : Nat) : Int)).toNat) ((s).size))) rfl (v'' := .int .i64 (0)) rfl ?_
  exact ⟨(tup3 (int_eq (by first | (have hem := seq_yes (s := s) (by assumption); grind [rnX, rnR, rnE, rnN]) | grind [rnX, rnR, rnE, rnN])) (str_eq (by first | (have hem := seq_yes (s := s) (by assumption); grind [rnX, rnR, rnE, rnN]) | grind [rnX, rnR, rnE, rnN])) (int_eq (by first | (have hem := seq_yes (s := s) (by assumption); grind [rnX, rnR, rnE, rnN]) | grind [rnX, rnR, rnE, rnN]))), hx10⟩
set_option maxHeartbeats 4000000 in
theorem code_ReadText {w : World} (s : ByteArray) (hs : s.size ≤ 9223372036854775807) : Fnc Try.prog 98 #[.string (s)] w (fun v w' => v = .tuple #[.string (rtT s), .string (rtR s), .int .i64 (rtE s)] ∧ Ext [] w w') := by
  have hrl := rnR_le s
  have hrx := rnX_in s
  refine Fnc.of_WP (n := 30) Try.func98 rfl Try.ntmps98 (by simp) ?_
  intro E hE
  have h0 : E 0 = .string (s) := hE 0 (by simp)
  clear hE
  refine WP.sr ?_
  refine WL.m rfl ?_
  refine WL.m rfl ?_
  refine WL.m rfl ?_
  refine WL.nil ?_
  refine WP.sr ?_
  refine WL.m rfl ?_
  refine WL.c (Sure.none rfl) rfl (C.call1 (x := .tmp 7) rfl cl97 h0) (Fnc.mono (code_ReadNum s (by first | omega | exact Nat.le_trans (extract_le _ _ _) (by omega))) ?_)
  rintro _ w1 ⟨rfl, hx2⟩
  have hx3 : Ext [] w w1 := hx2
  refine WL.m rfl ?_
  refine WL.z (.int .u64 (rnX s)) (V.extract rfl rfl rfl) ?_
  refine WL.z (.string (rnR s)) (V.extract rfl rfl rfl) ?_
  refine WL.z (.int .i64 (rnE s)) (V.extract rfl rfl rfl) ?_
  refine WL.m rfl ?_
  refine WL.m rfl ?_
  refine WL.m rfl ?_
  refine WL.nil ?_
  refine WP.seq ?_
  refine WP.sr ?_
  refine WL.m rfl ?_
  refine WL.z (.bool (decide ((rnE s) = 0))) (V.cmp rfl rfl rfl rfl) ?_
  refine WL.vbp (c := (rnE s) = 0) (Sure.none rfl) rfl (V.move rfl rfl) (fun hc4 => ?_) (fun hc4 => ?_)
  rotate_left
  · refine WL.skips [(14, some false)] [(20, some false)] (kc (some false) rfl kn) (by kernel_rfl) (fun E16 hK17 hE18 => ?_)
    refine WP.cond_false (hK17 20 (some false) rfl) ?_
    refine WP.skip ?_
    refine WP.seq ?_
    refine WP.sr ?_
    refine WL.m rfl ?_
    refine WL.z (.bool (decide ((rnE s) ≠ 0))) (V.cmp (x := .tmp 21) rfl (hE18 4 rfl) rfl rfl) ?_
    refine WL.nil ?_
    refine WP.condp (t := (rnE s) ≠ 0) rfl (fun hc19 => ?_) (fun hc19 => ?_)
    · refine WP.sr ?_
      refine WL.m rfl ?_
      refine WL.m rfl ?_
      refine WL.m rfl ?_
      refine WL.m rfl ?_
      refine WL.nil ?_
      refine WP.ret ?_
      refine resOf.c3 rfl (v := .string (ByteArray.mk #[])) rfl (v' := .string (ByteArray.mk #[])) rfl (v'' := .int .i64 (rnE s)) (hE18 4 rfl) ?_
      exact ⟨(tup3 (str_eq (by grind [rtT, rtR, rtE])) (str_eq (by grind [rtT, rtR, rtE])) (int_eq (by grind [rtT, rtR, rtE]))), hx3⟩
    refine WP.skip ?_
    refine WP.seq ?_
    refine WP.quiet mo (by kernel_rfl) ?_
    refine WQ.m rfl ?_
    refine WQ.m rfl ?_
    refine WQ.z (.string ((rnR s).extract 0 ((rnX s).toNat))) (fun w' hw => V.sliceString (x := .tmp 24) (lo := none) (hi := some _) (l := 0) (h := (rnX s).toNat) rfl u9 (hE18 3 rfl) rfl ⟨_, (Eq.trans (hE18 5 rfl) (int_eq (by omega)))⟩ (by omega) (by omega) rfl) ?_
    refine WQ.m rfl ?_
    refine WQ.m rfl ?_
    refine WQ.z (.string ((rnR s).extract ((rnX s).toNat) ((rnR s).size))) (fun w' hw => V.sliceString (x := .tmp 27) (lo := some _) (hi := none) (l := (rnX s).toNat) (h := (rnR s).size) rfl u9 (hE18 3 rfl) ⟨_, (Eq.trans (hE18 5 rfl) (int_eq (by omega)))⟩ rfl (by omega) (by omega) rfl) ?_
    refine WQ.m rfl ?_
    refine WQ.m rfl ?_
    refine WQ.m rfl ?_
    refine WQ.nil (fun w20 hq21 => ?_)
    have hx22 : Ext [] w w20 := hx3.trans hq21
    refine WP.ret ?_
    refine resOf.c3 rfl (v := .string ((rnR s).extract 0 ((rnX s).toNat))) rfl (v' := .string ((rnR s).extract ((rnX s).toNat) ((rnR s).size))) rfl (v'' := .int .i64 (0)) rfl ?_
    exact ⟨(tup3 (str_eq (by grind [rtT, rtR, rtE])) (str_eq (by grind [rtT, rtR, rtE])) (int_eq (by grind [rtT, rtR, rtE]))), hx22⟩
  refine WL.my rfl rfl ?_
  refine WL.my rfl rfl ?_
  refine WL.y (.int .i64 (((rnR s).size : Int))) rfl (V.lenString rfl rfl u9 rfl) ?_
  refine WL.y (.int .u64 (((rnR s).size : Int))) rfl (V.convInt rfl u3 u23 rfl (wrap_u64 (by omega) (by omega))) ?_
  refine WL.y (.bool (decide ((rnX s) > ((rnR s).size : Int)))) rfl (V.cmp rfl rfl rfl rfl) ?_
  refine WL.k (a := true) rfl rfl ?_
  refine WL.nil ?_
  refine WP.condp (t := (rnX s) > ((rnR s).size : Int)) rfl (fun hc5 => ?_) (fun hc5 => ?_)
  rotate_left
  · refine WP.skip ?_
    refine WP.seq ?_
    refine WP.sr ?_
    refine WL.m rfl ?_
    refine WL.z (.bool (decide ((rnE s) ≠ 0))) (V.cmp rfl rfl rfl rfl) ?_
    refine WL.nil ?_
    refine WP.condp (t := (rnE s) ≠ 0) rfl (fun hc11 => ?_) (fun hc11 => ?_)
    · refine WP.sr ?_
      refine WL.m rfl ?_
      refine WL.m rfl ?_
      refine WL.m rfl ?_
      refine WL.m rfl ?_
      refine WL.nil ?_
      refine WP.ret ?_
      refine resOf.c3 rfl (v := .string (ByteArray.mk #[])) rfl (v' := .string (ByteArray.mk #[])) rfl (v'' := .int .i64 (rnE s)) rfl ?_
      exact ⟨(tup3 (str_eq (by grind [rtT, rtR, rtE])) (str_eq (by grind [rtT, rtR, rtE])) (int_eq (by grind [rtT, rtR, rtE]))), hx3⟩
    refine WP.skip ?_
    refine WP.seq ?_
    refine WP.quiet mo (by kernel_rfl) ?_
    refine WQ.m rfl ?_
    refine WQ.m rfl ?_
    refine WQ.z (.string ((rnR s).extract 0 ((rnX s).toNat))) (fun w' hw => V.sliceString (lo := none) (hi := some _) (l := 0) (h := (rnX s).toNat) rfl u9 rfl rfl ⟨_, (Eq.trans rfl (int_eq (by omega)))⟩ (by omega) (by omega) rfl) ?_
    refine WQ.m rfl ?_
    refine WQ.m rfl ?_
    refine WQ.z (.string ((rnR s).extract ((rnX s).toNat) ((rnR s).size))) (fun w' hw => V.sliceString (lo := some _) (hi := none) (l := (rnX s).toNat) (h := (rnR s).size) rfl u9 rfl ⟨_, (Eq.trans rfl (int_eq (by omega)))⟩ rfl (by omega) (by omega) rfl) ?_
    refine WQ.m rfl ?_
    refine WQ.m rfl ?_
    refine WQ.m rfl ?_
    refine WQ.nil (fun w12 hq13 => ?_)
    have hx14 : Ext [] w w12 := hx3.trans hq13
    refine WP.ret ?_
    refine resOf.c3 rfl (v := .string ((rnR s).extract 0 ((rnX s).toNat))) rfl (v' := .string ((rnR s).extract ((rnX s).toNat) ((rnR s).size))) rfl (v'' := .int .i64 (0)) rfl ?_
    exact ⟨(tup3 (str_eq (by grind [rtT, rtR, rtE])) (str_eq (by grind [rtT, rtR, rtE])) (int_eq (by grind [rtT, rtR, rtE]))), hx14⟩
  refine WP.region ?_
  refine WL.m rfl ?_
  refine WL.nil ?_
  refine WP.seq ?_
  refine WP.sr ?_
  refine WL.m rfl ?_
  refine WL.z (.bool (decide (20 ≠ 0))) (V.cmp rfl rfl rfl rfl) ?_
  refine WL.nil ?_
  refine WP.condp (t := 20 ≠ 0) rfl (fun hc6 => ?_) (fun hc6 => ?_)
  · refine WP.sr ?_
    refine WL.m rfl ?_
    refine WL.m rfl ?_
    refine WL.m rfl ?_
    refine WL.m rfl ?_
    refine WL.nil ?_
    refine WP.ret ?_
    refine resOf.c3 rfl (v := .string (ByteArray.mk #[])) rfl (v' := .string (ByteArray.mk #[])) rfl (v'' := .int .i64 (20)) rfl ?_
    exact ⟨(tup3 (str_eq (by grind [rtT, rtR, rtE])) (str_eq (by grind [rtT, rtR, rtE])) (int_eq (by grind [rtT, rtR, rtE]))), hx3⟩
  refine WP.skip ?_
  refine WP.seq ?_
  refine WP.quiet mo (by kernel_rfl) ?_
  refine WQ.m rfl ?_
  refine WQ.m rfl ?_
  refine WQ.z (.string ((rnR s).extract 0 ((rnX s).toNat))) (fun w' hw => V.sliceString (lo := none) (hi := some _) (l := 0) (h := (rnX s).toNat) rfl u9 rfl rfl ⟨_, (Eq.trans rfl (int_eq (by omega)))⟩ (by omega) (by omega) rfl) ?_
  refine WQ.m rfl ?_
  refine WQ.m rfl ?_
  refine WQ.z (.string ((rnR s).extract ((rnX s).toNat) ((rnR s).size))) (fun w' hw => V.sliceString (lo := some _) (hi := none) (l := (rnX s).toNat) (h := (rnR s).size) rfl u9 rfl ⟨_, (Eq.trans rfl (int_eq (by omega)))⟩ rfl (by omega) (by omega) rfl) ?_
  refine WQ.m rfl ?_
  refine WQ.m rfl ?_
  refine WQ.m rfl ?_
  refine WQ.nil (fun w7 hq8 => ?_)
  have hx9 : Ext [] w w7 := hx3.trans hq8
  refine WP.ret ?_
  refine resOf.c3 rfl (v := .string ((rnR s).extract 0 ((rnX s).toNat))) rfl (v' := .string ((rnR s).extract ((rnX s).toNat) ((rnR s).size))) rfl (v'' := .int .i64 (0)) rfl ?_
  exact ⟨(tup3 (str_eq (by grind [rtT, rtR, rtE])) (str_eq (by grind [rtT, rtR, rtE])) (int_eq (by grind [rtT, rtR, rtE]))), hx9⟩
set_option maxHeartbeats 4000000 in
theorem ref_ReadText {w : World} (s : ByteArray) (hs : s.size ≤ 9223372036854775807) : Fnc Try.prog 100 #[.string (s)] w (fun v w' => v = .tuple #[.string (rtT s), .string (rtR s), .int .i64 (rtE s)] ∧ Ext [] w w') := by
  have hrl := rnR_le s
  have hrx := rnX_in s
  refine Fnc.of_WP (n := 28) Try.func100 rfl Try.ntmps100 (by simp) ?_
  intro E hE
  have h0 : E 0 = .string (s) := hE 0 (by simp)
  clear hE
  refine WP.sr ?_
  refine WL.m rfl ?_
  refine WL.m rfl ?_
  refine WL.m rfl ?_
  refine WL.nil ?_
  refine WP.sr ?_
  refine WL.m rfl ?_
  refine WL.c (Sure.none rfl) rfl (C.call1 (x := .tmp 9) rfl cl99 h0) (Fnc.mono (ref_ReadNum s (by first | omega | exact Nat.le_trans (extract_le _ _ _) (by omega))) ?_)
  rintro _ w1 ⟨rfl, hx2⟩
  have hx3 : Ext [] w w1 := hx2
  refine WL.m rfl ?_
  refine WL.z (.int .u64 (rnX s)) (V.extract rfl rfl rfl) ?_
  refine WL.z (.string (rnR s)) (V.extract rfl rfl rfl) ?_
  refine WL.z (.int .i64 (rnE s)) (V.extract rfl rfl rfl) ?_
  refine WL.m rfl ?_
  refine WL.m rfl ?_
  refine WL.m rfl ?_
  refine WL.nil ?_
  refine WP.seq ?_
  refine WP.sr ?_
  refine WL.m rfl ?_
  refine WL.z (.bool (decide ((rnE s) ≠ 0))) (V.cmp rfl rfl rfl rfl) ?_
  refine WL.nil ?_
  refine WP.condp (t := (rnE s) ≠ 0) rfl (fun hc4 => ?_) (fun hc4 => ?_)
  · refine WP.sr ?_
    refine WL.m rfl ?_
    refine WL.m rfl ?_
    refine WL.m rfl ?_
    refine WL.m rfl ?_
    refine WL.nil ?_
    refine WP.ret ?_
    refine resOf.c3 rfl (v := .string (ByteArray.mk #[])) rfl (v' := .string (ByteArray.mk #[])) rfl (v'' := .int .i64 (rnE s)) rfl ?_
    exact ⟨(tup3 (str_eq (by grind [rtT, rtR, rtE])) (str_eq (by grind [rtT, rtR, rtE])) (int_eq (by grind [rtT, rtR, rtE]))), hx3⟩
  refine WP.skip ?_
  refine WP.seq ?_
  refine WP.sr ?_
  refine WL.m rfl ?_
  refine WL.z (.int .i64 (((rnR s).size : Int))) (V.lenString rfl rfl u9 rfl) ?_
  refine WL.z (.int .u64 (((rnR s).size : Int))) (V.convInt rfl u3 u23 rfl (wrap_u64 (by omega) (by omega))) ?_
  refine WL.m rfl ?_
  refine WL.z (.bool (decide (((rnR s).size : Int) < (rnX s)))) (V.cmp rfl rfl rfl rfl) ?_
  refine WL.nil ?_
  refine WP.condp (t := ((rnR s).size : Int) < (rnX s)) rfl (fun hc5 => ?_) (fun hc5 => ?_)
  · refine WP.sr ?_
    refine WL.m rfl ?_
    refine WL.m rfl ?_
    refine WL.m rfl ?_
    refine WL.nil ?_
    refine WP.ret ?_
    refine resOf.c3 rfl (v := .string (ByteArray.mk #[])) rfl (v' := .string (ByteArray.mk #[])) rfl (v'' := .int .i64 (20)) rfl ?_
    exact ⟨(tup3 (str_eq (by grind [rtT, rtR, rtE])) (str_eq (by grind [rtT, rtR, rtE])) (int_eq (by grind [rtT, rtR, rtE]))), hx3⟩
  refine WP.skip ?_
  refine WP.seq ?_
  refine WP.quiet mo (by kernel_rfl) ?_
  refine WQ.m rfl ?_
  refine WQ.m rfl ?_
  refine WQ.z (.string ((rnR s).extract 0 ((rnX s).toNat))) (fun w' hw => V.sliceString (lo := none) (hi := some _) (l := 0) (h := (rnX s).toNat) rfl u9 rfl rfl ⟨_, (Eq.trans rfl (int_eq (by omega)))⟩ (by omega) (by omega) rfl) ?_
  refine WQ.m rfl ?_
  refine WQ.m rfl ?_
  refine WQ.z (.string ((rnR s).extract ((rnX s).toNat) ((rnR s).size))) (fun w' hw => V.sliceString (lo := some _) (hi := none) (l := (rnX s).toNat) (h := (rnR s).size) rfl u9 rfl ⟨_, (Eq.trans rfl (int_eq (by omega)))⟩ rfl (by omega) (by omega) rfl) ?_
  refine WQ.m rfl ?_
  refine WQ.m rfl ?_
  refine WQ.m rfl ?_
  refine WQ.nil (fun w6 hq7 => ?_)
  have hx8 : Ext [] w w6 := hx3.trans hq7
  refine WP.ret ?_
  refine resOf.c3 rfl (v := .string ((rnR s).extract 0 ((rnX s).toNat))) rfl (v' := .string ((rnR s).extract ((rnX s).toNat) ((rnR s).size))) rfl (v'' := .int .i64 (0)) rfl ?_
  exact ⟨(tup3 (str_eq (by grind [rtT, rtR, rtE])) (str_eq (by grind [rtT, rtR, rtE])) (int_eq (by grind [rtT, rtR, rtE]))), hx8⟩
set_option maxHeartbeats 2000000 in
theorem vr_octet {w : World} {b_r : Nat} {r : VRD} (h_r : Box w b_r 117 [.string (r.s), .bool (r.bad)]) (hk_r : VRD.InR r) : Fnc Try.prog 66 #[.pointer (some ⟨b_r, 0, none⟩)] w (fun v w' => v = .int .u8 (hdV r.s) ∧ Box w' b_r 117 [.string ((octP r).s), .bool ((octP r).bad)] ∧ Ext [b_r] w w') := by
  have hin_r : VRD.InR r := hk_r
  simp only [VRD.InR, maxLen] at hin_r
  refine Fnc.of_WP (n := 26) Try.func66 rfl Try.ntmps66 (by simp) ?_
  intro E hE
  have h0 : E 0 = .pointer (some ⟨b_r, 0, none⟩) := hE 0 (by simp)
  clear hE
  refine WP.sr ?_
  refine WL.m rfl ?_
  refine WL.nil ?_
  refine WP.seq ?_
  refine WP.sr ?_
  refine WL.m rfl ?_
  refine WL.z (.pointer (some ⟨b_r, 0, none⟩)) (V.nilCheck (x := .tmp 4) rfl h0) ?_
  refine WL.f (.string (r.s)) fl117_0 rfl p9 (h_r.cell rfl) ?_
  refine WL.z (.bool (seqB r.s (ByteArray.mk #[]))) (V.scmp rfl rfl rfl rfl) ?_
  refine WL.nil ?_
  refine WP.cond (t := seqB r.s (ByteArray.mk #[])) rfl (fun hc1 => ?_) (fun hc1 => ?_)
  · refine WP.sr ?_
    refine WL.m rfl ?_
    refine WL.z (.pointer (some ⟨b_r, 0, none⟩)) (V.nilCheck (x := .tmp 9) rfl h0) ?_
    refine WL.z (.pointer (some ⟨b_r, 1, none⟩)) (V.fieldAddr rfl fl117_1 rfl) ?_
    refine WL.store (Sure.none rfl) rfl rfl s4 rfl rfl rfl h_r (by show (1 : Nat) < 2; decide) (fun w2 hs3 hb4 => ?_)
    replace hb4 : Box w2 b_r 117 [.string (r.s), .bool (true)] := hb4
    have hx5 : Ext [b_r] w w2 := (hs3.mono (by simp))
    refine WL.nil ?_
    refine WP.sr ?_
    refine WL.m rfl ?_
    refine WL.nil ?_
    refine WP.ret ?_
    refine resOf.c1 rfl (v := .int .u8 (0)) rfl ?_
    exact ⟨(int_eq (by first | (have hem := seq_yes (s := r.s) (by assumption); grind [hdV, rnN]) | grind [hdV, rnN])), (Box.cast (by first | (have hem := seq_yes (s := r.s) (by assumption); exact cells2 (by grind [octP, rOctP, tlS]) (by grind [octP, rOctP, tlS])) | exact cells2 (by grind [octP, rOctP, tlS]) (by grind [octP, rOctP, tlS])) hb4), hx5⟩
  refine WP.skip ?_
  refine WP.sr ?_
  have hne := seq_no (s := r.s) (by assumption)
  refine WL.m rfl ?_
  refine WL.z (.pointer (some ⟨b_r, 0, none⟩)) (V.nilCheck (x := .tmp 12) rfl h0) ?_
  refine WL.f (.string (r.s)) fl117_0 rfl p9 (h_r.cell rfl) ?_
  have hle6 := byte_le r.s 0
  refine WL.z (.int .u8 (((((r.s).data.getD 0 0).toNat : Nat) : Int))) (V.indexString rfl u9 rfl rfl (by omega) (str_get (by omega))) ?_
  refine WL.m rfl ?_
  refine WL.nil ?_
  refine WP.sr ?_
  refine WL.m rfl ?_
  refine WL.m rfl ?_
  refine WL.z (.pointer (some ⟨b_r, 0, none⟩)) (V.nilCheck (x := .tmp 18) rfl h0) ?_
  refine WL.f (.string (r.s)) fl117_0 rfl p9 (h_r.cell rfl) ?_
  refine WL.z (.string (r.s.extract 1 ((r.s).size))) (V.sliceString (lo := some _) (hi := none) (l := 1) (h := (r.s).size) rfl u9 rfl ⟨_, (Eq.trans rfl (int_eq (by omega)))⟩ rfl (by omega) (by omega) rfl) ?_
  refine WL.z (.pointer (some ⟨b_r, 0, none⟩)) (V.nilCheck (x := .tmp 17) rfl h0) ?_
  refine WL.z (.pointer (some ⟨b_r, 0, none⟩)) (V.fieldAddr rfl fl117_0 rfl) ?_
  refine WL.store (Sure.none rfl) rfl rfl s9 rfl rfl rfl h_r (by show (0 : Nat) < 2; decide) (fun w7 hs8 hb9 => ?_)
  replace hb9 : Box w7 b_r 117 [.string (r.s.extract 1 ((r.s).size)), .bool (r.bad)] := hb9
  have hx10 : Ext [b_r] w w7 := (hs8.mono (by simp))
  refine WL.nil ?_
  refine WP.sr ?_
  refine WL.m rfl ?_
  refine WL.m rfl ?_
  refine WL.nil ?_
  refine WP.ret ?_
  refine resOf.c1 rfl (v := .int .u8 (((((r.s).data.getD 0 0).toNat : Nat) : Int))) rfl ?_
  exact ⟨(int_eq (by first | (have hem := seq_yes (s := r.s) (by assumption); grind [hdV, rnN]) | grind [hdV, rnN])), (Box.cast (by first | (have hem := seq_yes (s := r.s) (by assumption); exact cells2 (by grind [octP, rOctP, tlS]) (by grind [octP, rOctP, tlS])) | exact cells2 (by grind [octP, rOctP, tlS]) (by grind [octP, rOctP, tlS])) hb9), hx10⟩
set_option maxHeartbeats 2000000 in
theorem vr_num {w : World} {b_r : Nat} {r : VRD} (h_r : Box w b_r 117 [.string (r.s), .bool (r.bad)]) (hk_r : VRD.InR r) : Fnc Try.prog 67 #[.pointer (some ⟨b_r, 0, none⟩)] w (fun v w' => v = .int .u64 (rnX r.s) ∧ Box w' b_r 117 [.string ((numP r).s), .bool ((numP r).bad)] ∧ Ext [b_r] w w') := by
  have hin_r : VRD.InR r := hk_r
  simp only [VRD.InR, maxLen] at hin_r
  refine Fnc.of_WP (n := 31) Try.func67 rfl Try.ntmps67 (by simp) ?_
  intro E hE
  have h0 : E 0 = .pointer (some ⟨b_r, 0, none⟩) := hE 0 (by simp)
  clear hE
  refine WP.sr ?_
  refine WL.m rfl ?_
  refine WL.nil ?_
  refine WP.sr ?_
  refine WL.m rfl ?_
  refine WL.z (.pointer (some ⟨b_r, 0, none⟩)) (V.nilCheck (x := .tmp 7) rfl h0) ?_
  refine WL.f (.string (r.s)) fl117_0 rfl p9 (h_r.cell rfl) ?_
  refine WL.c (Sure.none rfl) rfl (C.call1 rfl cl97 rfl) (Fnc.mono (code_ReadNum r.s (by first | omega | exact Nat.le_trans (extract_le _ _ _) (by omega))) ?_)
  rintro _ w1 ⟨rfl, hx2⟩
  have hx3 : Ext [b_r] w w1 := (Ext.any (Y := [b_r]) hx2)
  have hb4 := h_r.ext hx2 (by simp)
  refine WL.m rfl ?_
  refine WL.z (.int .u64 (rnX r.s)) (V.extract rfl rfl rfl) ?_
  refine WL.z (.string (rnR r.s)) (V.extract rfl rfl rfl) ?_
  refine WL.z (.int .i64 (rnE r.s)) (V.extract rfl rfl rfl) ?_
  refine WL.m rfl ?_
  refine WL.m rfl ?_
  refine WL.m rfl ?_
  refine WL.nil ?_
  refine WP.sr ?_
  refine WL.m rfl ?_
  refine WL.m rfl ?_
  refine WL.m rfl ?_
  refine WL.m rfl ?_
  refine WL.z (.pointer (some ⟨b_r, 0, none⟩)) (V.nilCheck (x := .tmp 18) rfl h0) ?_
  refine WL.f (.bool (r.bad)) fl117_1 rfl p4 (hb4.cell rfl) ?_
  refine WL.vb (c := r.bad) (Sure.none rfl) rfl (V.move rfl rfl) (fun hc5 => ?_) (fun hc5 => ?_)
  · refine WL.s (Shut.no rfl rfl rfl rfl) rfl ?_
    refine WL.s (Shut.no rfl rfl rfl rfl) rfl ?_
    refine WL.k (a := true) rfl rfl ?_
    refine WL.z (.pointer (some ⟨b_r, 0, none⟩)) (V.nilCheck (x := .tmp 15) rfl h0) ?_
    refine WL.z (.pointer (some ⟨b_r, 0, none⟩)) (V.fieldAddr rfl fl117_0 rfl) ?_
    refine WL.store (Sure.none rfl) rfl rfl s9 rfl rfl rfl hb4 (by show (0 : Nat) < 2; decide) (fun w6 hs7 hb8 => ?_)
    replace hb8 : Box w6 b_r 117 [.string (rnR r.s), .bool (r.bad)] := hb8
    have hx9 : Ext [b_r] w w6 := hx3.trans (hs7.mono (by simp))
    refine WL.z (.pointer (some ⟨b_r, 0, none⟩)) (V.nilCheck (x := .tmp 16) rfl h0) ?_
    refine WL.z (.pointer (some ⟨b_r, 1, none⟩)) (V.fieldAddr rfl fl117_1 rfl) ?_
    refine WL.store (Sure.none rfl) rfl rfl s4 rfl rfl rfl hb8 (by show (1 : Nat) < 2; decide) (fun w11 hs12 hb13 => ?_)
    replace hb13 : Box w11 b_r 117 [.string (rnR r.s), .bool (true)] := hb13
    have hx14 : Ext [b_r] w w11 := hx9.trans (hs12.mono (by simp))
    refine WL.nil ?_
    refine WP.sr ?_
    refine WL.m rfl ?_
    refine WL.m rfl ?_
    refine WL.nil ?_
    refine WP.ret ?_
    refine resOf.c1 rfl (v := .int .u64 (rnX r.s)) rfl ?_
    exact ⟨(int_eq (by grind [numP])), (Box.cast (by exact cells2 (by grind [numP]) (by grind [numP])) hb13), hx14⟩
  refine WL.my rfl rfl ?_
  refine WL.y (.bool (decide ((rnE r.s) ≠ 0))) rfl (V.cmp rfl rfl rfl rfl) ?_
  refine WL.k (a := false) rfl rfl ?_
  refine WL.z (.pointer (some ⟨b_r, 0, none⟩)) (V.nilCheck (x := .tmp 15) rfl h0) ?_
  refine WL.z (.pointer (some ⟨b_r, 0, none⟩)) (V.fieldAddr rfl fl117_0 rfl) ?_
  refine WL.store (Sure.none rfl) rfl rfl s9 rfl rfl rfl hb4 (by show (0 : Nat) < 2; decide) (fun w17 hs18 hb19 => ?_)
  replace hb19 : Box w17 b_r 117 [.string (rnR r.s), .bool (r.bad)] := hb19
  have hx20 : Ext [b_r] w w17 := hx3.trans (hs18.mono (by simp))
  refine WL.z (.pointer (some ⟨b_r, 0, none⟩)) (V.nilCheck (x := .tmp 16) rfl h0) ?_
  refine WL.z (.pointer (some ⟨b_r, 1, none⟩)) (V.fieldAddr rfl fl117_1 rfl) ?_
  refine WL.store (Sure.none rfl) rfl rfl s4 rfl rfl rfl hb19 (by show (1 : Nat) < 2; decide) (fun w22 hs23 hb24 => ?_)
  replace hb24 : Box w22 b_r 117 [.string (rnR r.s), .bool (decide ((rnE r.s) ≠ 0))] := hb24
  have hx25 : Ext [b_r] w w22 := hx20.trans (hs23.mono (by simp))
  refine WL.nil ?_
  refine WP.sr ?_
  refine WL.m rfl ?_
  refine WL.m rfl ?_
  refine WL.nil ?_
  refine WP.ret ?_
  refine resOf.c1 rfl (v := .int .u64 (rnX r.s)) rfl ?_
  exact ⟨(int_eq (by grind [numP])), (Box.cast (by exact cells2 (by grind [numP]) (by grind [numP])) hb24), hx25⟩
set_option maxHeartbeats 2000000 in
theorem vr_text {w : World} {b_r : Nat} {r : VRD} (h_r : Box w b_r 117 [.string (r.s), .bool (r.bad)]) (hk_r : VRD.InR r) : Fnc Try.prog 68 #[.pointer (some ⟨b_r, 0, none⟩)] w (fun v w' => v = .string (rtT r.s) ∧ Box w' b_r 117 [.string ((textP r).s), .bool ((textP r).bad)] ∧ Ext [b_r] w w') := by
  have hin_r : VRD.InR r := hk_r
  simp only [VRD.InR, maxLen] at hin_r
  refine Fnc.of_WP (n := 31) Try.func68 rfl Try.ntmps68 (by simp) ?_
  intro E hE
  have h0 : E 0 = .pointer (some ⟨b_r, 0, none⟩) := hE 0 (by simp)
  clear hE
  refine WP.sr ?_
  refine WL.m rfl ?_
  refine WL.nil ?_
  refine WP.sr ?_
  refine WL.m rfl ?_
  refine WL.z (.pointer (some ⟨b_r, 0, none⟩)) (V.nilCheck (x := .tmp 7) rfl h0) ?_
  refine WL.f (.string (r.s)) fl117_0 rfl p9 (h_r.cell rfl) ?_
  refine WL.c (Sure.none rfl) rfl (C.call1 rfl cl98 rfl) (Fnc.mono (code_ReadText r.s (by first | omega | exact Nat.le_trans (extract_le _ _ _) (by omega))) ?_)
  rintro _ w1 ⟨rfl, hx2⟩
  have hx3 : Ext [b_r] w w1 := (Ext.any (Y := [b_r]) hx2)
  have hb4 := h_r.ext hx2 (by simp)
  refine WL.m rfl ?_
  refine WL.z (.string (rtT r.s)) (V.extract rfl rfl rfl) ?_
  refine WL.z (.string (rtR r.s)) (V.extract rfl rfl rfl) ?_
  refine WL.z (.int .i64 (rtE r.s)) (V.extract rfl rfl rfl) ?_
  refine WL.m rfl ?_
  refine WL.m rfl ?_
  refine WL.m rfl ?_
  refine WL.nil ?_
  refine WP.sr ?_
  refine WL.m rfl ?_
  refine WL.m rfl ?_
  refine WL.m rfl ?_
  refine WL.m rfl ?_
  refine WL.z (.pointer (some ⟨b_r, 0, none⟩)) (V.nilCheck (x := .tmp 18) rfl h0) ?_
  refine WL.f (.bool (r.bad)) fl117_1 rfl p4 (hb4.cell rfl) ?_
  refine WL.vb (c := r.bad) (Sure.none rfl) rfl (V.move rfl rfl) (fun hc5 => ?_) (fun hc5 => ?_)
  · refine WL.s (Shut.no rfl rfl rfl rfl) rfl ?_
    refine WL.s (Shut.no rfl rfl rfl rfl) rfl ?_
    refine WL.k (a := true) rfl rfl ?_
    refine WL.z (.pointer (some ⟨b_r, 0, none⟩)) (V.nilCheck (x := .tmp 15) rfl h0) ?_
    refine WL.z (.pointer (some ⟨b_r, 0, none⟩)) (V.fieldAddr rfl fl117_0 rfl) ?_
    refine WL.store (Sure.none rfl) rfl rfl s9 rfl rfl rfl hb4 (by show (0 : Nat) < 2; decide) (fun w6 hs7 hb8 => ?_)
    replace hb8 : Box w6 b_r 117 [.string (rtR r.s), .bool (r.bad)] := hb8
    have hx9 : Ext [b_r] w w6 := hx3.trans (hs7.mono (by simp))
    refine WL.z (.pointer (some ⟨b_r, 0, none⟩)) (V.nilCheck (x := .tmp 16) rfl h0) ?_
    refine WL.z (.pointer (some ⟨b_r, 1, none⟩)) (V.fieldAddr rfl fl117_1 rfl) ?_
    refine WL.store (Sure.none rfl) rfl rfl s4 rfl rfl rfl hb8 (by show (1 : Nat) < 2; decide) (fun w11 hs12 hb13 => ?_)
    replace hb13 : Box w11 b_r 117 [.string (rtR r.s), .bool (true)] := hb13
    have hx14 : Ext [b_r] w w11 := hx9.trans (hs12.mono (by simp))
    refine WL.nil ?_
    refine WP.sr ?_
    refine WL.m rfl ?_
    refine WL.m rfl ?_
    refine WL.nil ?_
    refine WP.ret ?_
    refine resOf.c1 rfl (v := .string (rtT r.s)) rfl ?_
    exact ⟨(str_eq (by grind [textP])), (Box.cast (by exact cells2 (by grind [textP]) (by grind [textP])) hb13), hx14⟩
  refine WL.my rfl rfl ?_
  refine WL.y (.bool (decide ((rtE r.s) ≠ 0))) rfl (V.cmp rfl rfl rfl rfl) ?_
  refine WL.k (a := false) rfl rfl ?_
  refine WL.z (.pointer (some ⟨b_r, 0, none⟩)) (V.nilCheck (x := .tmp 15) rfl h0) ?_
  refine WL.z (.pointer (some ⟨b_r, 0, none⟩)) (V.fieldAddr rfl fl117_0 rfl) ?_
  refine WL.store (Sure.none rfl) rfl rfl s9 rfl rfl rfl hb4 (by show (0 : Nat) < 2; decide) (fun w17 hs18 hb19 => ?_)
  replace hb19 : Box w17 b_r 117 [.string (rtR r.s), .bool (r.bad)] := hb19
  have hx20 : Ext [b_r] w w17 := hx3.trans (hs18.mono (by simp))
  refine WL.z (.pointer (some ⟨b_r, 0, none⟩)) (V.nilCheck (x := .tmp 16) rfl h0) ?_
  refine WL.z (.pointer (some ⟨b_r, 1, none⟩)) (V.fieldAddr rfl fl117_1 rfl) ?_
  refine WL.store (Sure.none rfl) rfl rfl s4 rfl rfl rfl hb19 (by show (1 : Nat) < 2; decide) (fun w22 hs23 hb24 => ?_)
  replace hb24 : Box w22 b_r 117 [.string (rtR r.s), .bool (decide ((rtE r.s) ≠ 0))] := hb24
  have hx25 : Ext [b_r] w w22 := hx20.trans (hs23.mono (by simp))
  refine WL.nil ?_
  refine WP.sr ?_
  refine WL.m rfl ?_
  refine WL.m rfl ?_
  refine WL.nil ?_
  refine WP.ret ?_
  refine resOf.c1 rfl (v := .string (rtT r.s)) rfl ?_
  exact ⟨(str_eq (by grind [textP])), (Box.cast (by exact cells2 (by grind [textP]) (by grind [textP])) hb24), hx25⟩
set_option maxHeartbeats 2000000 in
theorem rr_Byte {w : World} {b_r : Nat} {r : RRD} (h_r : Box w b_r 124 [.string (r.S), .bool (r.Bad)]) (hk_r : RRD.InR r) : Fnc Try.prog 71 #[.pointer (some ⟨b_r, 0, none⟩)] w (fun v w' => v = .int .u8 (hdV r.S) ∧ Box w' b_r 124 [.string ((rOctP r).S), .bool ((rOctP r).Bad)] ∧ Ext [b_r] w w') := by
  have hin_r : RRD.InR r := hk_r
  simp only [RRD.InR, maxLen] at hin_r
  refine Fnc.of_WP (n := 26) Try.func71 rfl Try.ntmps71 (by simp) ?_
  intro E hE
  have h0 : E 0 = .pointer (some ⟨b_r, 0, none⟩) := hE 0 (by simp)
  clear hE
  refine WP.sr ?_
  refine WL.m rfl ?_
  refine WL.nil ?_
  refine WP.seq ?_
  refine WP.sr ?_
  refine WL.m rfl ?_
  refine WL.z (.pointer (some ⟨b_r, 0, none⟩)) (V.nilCheck (x := .tmp 4) rfl h0) ?_
  refine WL.f (.string (r.S)) fl124_0 rfl p9 (h_r.cell rfl) ?_
  refine WL.z (.bool (seqB r.S (ByteArray.mk #[]))) (V.scmp rfl rfl rfl rfl) ?_
  refine WL.nil ?_
  refine WP.cond (t := seqB r.S (ByteArray.mk #[])) rfl (fun hc1 => ?_) (fun hc1 => ?_)
  · refine WP.sr ?_
    refine WL.m rfl ?_
    refine WL.z (.pointer (some ⟨b_r, 0, none⟩)) (V.nilCheck (x := .tmp 9) rfl h0) ?_
    refine WL.z (.pointer (some ⟨b_r, 1, none⟩)) (V.fieldAddr rfl fl124_1 rfl) ?_
    refine WL.store (Sure.none rfl) rfl rfl s4 rfl rfl rfl h_r (by show (1 : Nat) < 2; decide) (fun w2 hs3 hb4 => ?_)
    replace hb4 : Box w2 b_r 124 [.string (r.S), .bool (true)] := hb4
    have hx5 : Ext [b_r] w w2 := (hs3.mono (by simp))
    refine WL.nil ?_
    refine WP.sr ?_
    refine WL.m rfl ?_
    refine WL.nil ?_
    refine WP.ret ?_
    refine resOf.c1 rfl (v := .int .u8 (0)) rfl ?_
    exact ⟨(int_eq (by first | (have hem := seq_yes (s := r.S) (by assumption); grind [hdV, rnN]) | grind [hdV, rnN])), (Box.cast (by first | (have hem := seq_yes (s := r.S) (by assumption); exact cells2 (by grind [octP, rOctP, tlS]) (by grind [octP, rOctP, tlS])) | exact cells2 (by grind [octP, rOctP, tlS]) (by grind [octP, rOctP, tlS])) hb4), hx5⟩
  refine WP.skip ?_
  refine WP.sr ?_
  have hne := seq_no (s := r.S) (by assumption)
  refine WL.m rfl ?_
  refine WL.z (.pointer (some ⟨b_r, 0, none⟩)) (V.nilCheck (x := .tmp 12) rfl h0) ?_
  refine WL.f (.string (r.S)) fl124_0 rfl p9 (h_r.cell rfl) ?_
  have hle6 := byte_le r.S 0
  refine WL.z (.int .u8 (((((r.S).data.getD 0 0).toNat : Nat) : Int))) (V.indexString rfl u9 rfl rfl (by omega) (str_get (by omega))) ?_
  refine WL.m rfl ?_
  refine WL.nil ?_
  refine WP.sr ?_
  refine WL.m rfl ?_
  refine WL.m rfl ?_
  refine WL.z (.pointer (some ⟨b_r, 0, none⟩)) (V.nilCheck (x := .tmp 18) rfl h0) ?_
  refine WL.f (.string (r.S)) fl124_0 rfl p9 (h_r.cell rfl) ?_
  refine WL.z (.string (r.S.extract 1 ((r.S).size))) (V.sliceString (lo := some _) (hi := none) (l := 1) (h := (r.S).size) rfl u9 rfl ⟨_, (Eq.trans rfl (int_eq (by omega)))⟩ rfl (by omega) (by omega) rfl) ?_
  refine WL.z (.pointer (some ⟨b_r, 0, none⟩)) (V.nilCheck (x := .tmp 17) rfl h0) ?_
  refine WL.z (.pointer (some ⟨b_r, 0, none⟩)) (V.fieldAddr rfl fl124_0 rfl) ?_
  refine WL.store (Sure.none rfl) rfl rfl s9 rfl rfl rfl h_r (by show (0 : Nat) < 2; decide) (fun w7 hs8 hb9 => ?_)
  replace hb9 : Box w7 b_r 124 [.string (r.S.extract 1 ((r.S).size)), .bool (r.Bad)] := hb9
  have hx10 : Ext [b_r] w w7 := (hs8.mono (by simp))
  refine WL.nil ?_
  refine WP.sr ?_
  refine WL.m rfl ?_
  refine WL.m rfl ?_
  refine WL.nil ?_
  refine WP.ret ?_
  refine resOf.c1 rfl (v := .int .u8 (((((r.S).data.getD 0 0).toNat : Nat) : Int))) rfl ?_
  exact ⟨(int_eq (by first | (have hem := seq_yes (s := r.S) (by assumption); grind [hdV, rnN]) | grind [hdV, rnN])), (Box.cast (by first | (have hem := seq_yes (s := r.S) (by assumption); exact cells2 (by grind [octP, rOctP, tlS]) (by grind [octP, rOctP, tlS])) | exact cells2 (by grind [octP, rOctP, tlS]) (by grind [octP, rOctP, tlS])) hb9), hx10⟩
set_option maxHeartbeats 2000000 in
theorem rr_Num {w : World} {b_r : Nat} {r : RRD} (h_r : Box w b_r 124 [.string (r.S), .bool (r.Bad)]) (hk_r : RRD.InR r) (most : Int) : Fnc Try.prog 72 #[.pointer (some ⟨b_r, 0, none⟩), .int .u64 (most)] w (fun v w' => v = .int .u64 (rNumV r most) ∧ Box w' b_r 124 [.string ((rNumP r most).S), .bool ((rNumP r most).Bad)] ∧ Ext [b_r] w w') := by
  have hin_r : RRD.InR r := hk_r
  simp only [RRD.InR, maxLen] at hin_r
  refine Fnc.of_WP (n := 32) Try.func72 rfl Try.ntmps72 (by simp) ?_
  intro E hE
  have h0 : E 0 = .pointer (some ⟨b_r, 0, none⟩) := hE 0 (by simp)
  have h1 : E 1 = .int .u64 (most) := hE 1 (by simp)
  clear hE
  refine WP.sr ?_
  refine WL.m rfl ?_
  refine WL.nil ?_
  refine WP.sr ?_
  refine WL.m rfl ?_
  refine WL.z (.pointer (some ⟨b_r, 0, none⟩)) (V.nilCheck (x := .tmp 9) rfl h0) ?_
  refine WL.f (.string (r.S)) fl124_0 rfl p9 (h_r.cell rfl) ?_
  refine WL.c (Sure.none rfl) rfl (C.call1 rfl cl99 rfl) (Fnc.mono (ref_ReadNum r.S (by first | omega | exact Nat.le_trans (extract_le _ _ _) (by omega))) ?_)
  rintro _ w1 ⟨rfl, hx2⟩
  have hx3 : Ext [b_r] w w1 := (Ext.any (Y := [b_r]) hx2)
  have hb4 := h_r.ext hx2 (by simp)
  refine WL.m rfl ?_
  refine WL.z (.int .u64 (rnX r.S)) (V.extract rfl rfl rfl) ?_
  refine WL.z (.string (rnR r.S)) (V.extract rfl rfl rfl) ?_
  refine WL.z (.int .i64 (rnE r.S)) (V.extract rfl rfl rfl) ?_
  refine WL.m rfl ?_
  refine WL.m rfl ?_
  refine WL.m rfl ?_
  refine WL.nil ?_
  refine WP.seq ?_
  refine WP.sr ?_
  refine WL.m rfl ?_
  refine WL.z (.bool (decide ((rnE r.S) ≠ 0))) (V.cmp rfl rfl rfl rfl) ?_
  refine WL.vbp (c := (rnE r.S) ≠ 0) (Sure.none rfl) rfl (V.move rfl rfl) (fun hc5 => ?_) (fun hc5 => ?_)
  · refine WL.skips [(19, some true)] [(23, some true)] (kc (some true) rfl kn) (by kernel_rfl) (fun E6 hK7 hE8 => ?_)
    refine WP.cond_true (hK7 23 (some true) rfl) ?_
    refine WP.sr ?_
    refine WL.m rfl ?_
    refine WL.z (.pointer (some ⟨b_r, 0, none⟩)) (V.nilCheck (x := .tmp 24) rfl ((hE8 0 rfl).trans h0)) ?_
    refine WL.z (.pointer (some ⟨b_r, 1, none⟩)) (V.fieldAddr rfl fl124_1 rfl) ?_
    refine WL.store (Sure.none rfl) rfl rfl s4 rfl rfl rfl hb4 (by show (1 : Nat) < 2; decide) (fun w9 hs10 hb11 => ?_)
    replace hb11 : Box w9 b_r 124 [.string (r.S), .bool (true)] := hb11
    have hx12 : Ext [b_r] w w9 := hx3.trans (hs10.mono (by simp))
    refine WL.nil ?_
    refine WP.sr ?_
    refine WL.m rfl ?_
    refine WL.nil ?_
    refine WP.ret ?_
    refine resOf.c1 rfl (v := .int .u64 (0)) rfl ?_
    exact ⟨(int_eq (by grind [rNumP, rNumV, rNumNo])), (Box.cast (by exact cells2 (by grind [rNumP, rNumV, rNumNo]) (by grind [rNumP, rNumV, rNumNo])) hb11), hx12⟩
  refine WL.my rfl rfl ?_
  refine WL.my rfl rfl ?_
  refine WL.y (.bool (decide ((rnX r.S) > most))) rfl (V.cmp (y := .tmp 21) rfl rfl h1 rfl) ?_
  refine WL.k (a := false) rfl rfl ?_
  refine WL.nil ?_
  refine WP.condp (t := (rnX r.S) > most) rfl (fun hc14 => ?_) (fun hc14 => ?_)
  · refine WP.sr ?_
    refine WL.m rfl ?_
    refine WL.z (.pointer (some ⟨b_r, 0, none⟩)) (V.nilCheck (x := .tmp 24) rfl h0) ?_
    refine WL.z (.pointer (some ⟨b_r, 1, none⟩)) (V.fieldAddr rfl fl124_1 rfl) ?_
    refine WL.store (Sure.none rfl) rfl rfl s4 rfl rfl rfl hb4 (by show (1 : Nat) < 2; decide) (fun w15 hs16 hb17 => ?_)
    replace hb17 : Box w15 b_r 124 [.string (r.S), .bool (true)] := hb17
    have hx18 : Ext [b_r] w w15 := hx3.trans (hs16.mono (by simp))
    refine WL.nil ?_
    refine WP.sr ?_
    refine WL.m rfl ?_
    refine WL.nil ?_
    refine WP.ret ?_
    refine resOf.c1 rfl (v := .int .u64 (0)) rfl ?_
    exact ⟨(int_eq (by grind [rNumP, rNumV, rNumNo])), (Box.cast (by exact cells2 (by grind [rNumP, rNumV, rNumNo]) (by grind [rNumP, rNumV, rNumNo])) hb17), hx18⟩
  refine WP.skip ?_
  refine WP.sr ?_
  refine WL.m rfl ?_
  refine WL.m rfl ?_
  refine WL.z (.pointer (some ⟨b_r, 0, none⟩)) (V.nilCheck (x := .tmp 27) rfl h0) ?_
  refine WL.z (.pointer (some ⟨b_r, 0, none⟩)) (V.fieldAddr rfl fl124_0 rfl) ?_
  refine WL.store (Sure.none rfl) rfl rfl s9 rfl rfl rfl hb4 (by show (0 : Nat) < 2; decide) (fun w20 hs21 hb22 => ?_)
  replace hb22 : Box w20 b_r 124 [.string (rnR r.S), .bool (r.Bad)] := hb22
  have hx23 : Ext [b_r] w w20 := hx3.trans (hs21.mono (by simp))
  refine WL.nil ?_
  refine WP.sr ?_
  refine WL.m rfl ?_
  refine WL.m rfl ?_
  refine WL.nil ?_
  refine WP.ret ?_
  refine resOf.c1 rfl (v := .int .u64 (rnX r.S)) rfl ?_
  exact ⟨(int_eq (by grind [rNumP, rNumV, rNumNo])), (Box.cast (by exact cells2 (by grind [rNumP, rNumV, rNumNo]) (by grind [rNumP, rNumV, rNumNo])) hb22), hx23⟩
set_option maxHeartbeats 2000000 in
theorem rr_Text {w : World} {b_r : Nat} {r : RRD} (h_r : Box w b_r 124 [.string (r.S), .bool (r.Bad)]) (hk_r : RRD.InR r) : Fnc Try.prog 75 #[.pointer (some ⟨b_r, 0, none⟩)] w (fun v w' => v = .string (rTextV r) ∧ Box w' b_r 124 [.string ((rTextP r).S), .bool ((rTextP r).Bad)] ∧ Ext [b_r] w w') := by
  have hin_r : RRD.InR r := hk_r
  simp only [RRD.InR, maxLen] at hin_r
  refine Fnc.of_WP (n := 25) Try.func75 rfl Try.ntmps75 (by simp) ?_
  intro E hE
  have h0 : E 0 = .pointer (some ⟨b_r, 0, none⟩) := hE 0 (by simp)
  clear hE
  refine WP.sr ?_
  refine WL.m rfl ?_
  refine WL.nil ?_
  refine WP.sr ?_
  refine WL.m rfl ?_
  refine WL.z (.pointer (some ⟨b_r, 0, none⟩)) (V.nilCheck (x := .tmp 7) rfl h0) ?_
  refine WL.f (.string (r.S)) fl124_0 rfl p9 (h_r.cell rfl) ?_
  refine WL.c (Sure.none rfl) rfl (C.call1 rfl cl100 rfl) (Fnc.mono (ref_ReadText r.S (by first | omega | exact Nat.le_trans (extract_le _ _ _) (by omega))) ?_)
  rintro _ w1 ⟨rfl, hx2⟩
  have hx3 : Ext [b_r] w w1 := (Ext.any (Y := [b_r]) hx2)
  have hb4 := h_r.ext hx2 (by simp)
  refine WL.m rfl ?_
  refine WL.z (.string (rtT r.S)) (V.extract rfl rfl rfl) ?_
  refine WL.z (.string (rtR r.S)) (V.extract rfl rfl rfl) ?_
  refine WL.z (.int .i64 (rtE r.S)) (V.extract rfl rfl rfl) ?_
  refine WL.m rfl ?_
  refine WL.m rfl ?_
  refine WL.m rfl ?_
  refine WL.nil ?_
  refine WP.seq ?_
  refine WP.sr ?_
  refine WL.m rfl ?_
  refine WL.z (.bool (decide ((rtE r.S) ≠ 0))) (V.cmp rfl rfl rfl rfl) ?_
  refine WL.nil ?_
  refine WP.condp (t := (rtE r.S) ≠ 0) rfl (fun hc5 => ?_) (fun hc5 => ?_)
  · refine WP.sr ?_
    refine WL.m rfl ?_
    refine WL.z (.pointer (some ⟨b_r, 0, none⟩)) (V.nilCheck (x := .tmp 17) rfl h0) ?_
    refine WL.z (.pointer (some ⟨b_r, 1, none⟩)) (V.fieldAddr rfl fl124_1 rfl) ?_
    refine WL.store (Sure.none rfl) rfl rfl s4 rfl rfl rfl hb4 (by show (1 : Nat) < 2; decide) (fun w6 hs7 hb8 => ?_)
    replace hb8 : Box w6 b_r 124 [.string (r.S), .bool (true)] := hb8
    have hx9 : Ext [b_r] w w6 := hx3.trans (hs7.mono (by simp))
    refine WL.nil ?_
    refine WP.sr ?_
    refine WL.m rfl ?_
    refine WL.nil ?_
    refine WP.ret ?_
    refine resOf.c1 rfl (v := .string (ByteArray.mk #[])) rfl ?_
    exact ⟨(str_eq (by grind [rTextP, rTextV])), (Box.cast (by exact cells2 (by grind [rTextP, rTextV]) (by grind [rTextP, rTextV])) hb8), hx9⟩
  refine WP.skip ?_
  refine WP.sr ?_
  refine WL.m rfl ?_
  refine WL.m rfl ?_
  refine WL.z (.pointer (some ⟨b_r, 0, none⟩)) (V.nilCheck (x := .tmp 20) rfl h0) ?_
  refine WL.z (.pointer (some ⟨b_r, 0, none⟩)) (V.fieldAddr rfl fl124_0 rfl) ?_
  refine WL.store (Sure.none rfl) rfl rfl s9 rfl rfl rfl hb4 (by show (0 : Nat) < 2; decide) (fun w11 hs12 hb13 => ?_)
  replace hb13 : Box w11 b_r 124 [.string (rtR r.S), .bool (r.Bad)] := hb13
  have hx14 : Ext [b_r] w w11 := hx3.trans (hs12.mono (by simp))
  refine WL.nil ?_
  refine WP.sr ?_
  refine WL.m rfl ?_
  refine WL.m rfl ?_
  refine WL.nil ?_
  refine WP.ret ?_
  refine resOf.c1 rfl (v := .string (rtT r.S)) rfl ?_
  exact ⟨(str_eq (by grind [rTextP, rTextV])), (Box.cast (by exact cells2 (by grind [rTextP, rTextV]) (by grind [rTextP, rTextV])) hb13), hx14⟩
end Go.Proofs.Ytbpamkbegggeoaa.X1
namespace Go.Proofs.Ytbpamkbegggeoaa.X1
open T W Go.RowKit
set_option maxRecDepth 100000
set_option maxHeartbeats 400000
theorem u102 : Try.prog.underlying 102 = some (.slice 5) := by kernel_rfl
theorem u137 : Try.prog.underlying 137 = some (.int .u64) := by kernel_rfl
theorem s5 : Sized Try.prog 5 1 := by unfold Sized; kernel_rfl
theorem e5 : Elem Try.prog 5 (.int .u8 (0)) 1 1 := by unfold Elem; kernel_rfl
theorem cl101 : Callable Try.prog 101 := ⟨Try.f101, Try.func101, by kernel_rfl, rfl⟩
theorem u136 : Try.prog.underlying 136 = some (.array 9 5) := by kernel_rfl
theorem z136 : W.Zero Try.prog 136 (.agg #[.int .u8 (0), .int .u8 (0), .int .u8 (0), .int .u8 (0), .int .u8 (0), .int .u8 (0), .int .u8 (0), .int .u8 (0), .int .u8 (0)]) := by unfold W.Zero; kernel_rfl
def byteOf (x : Int) (i : Nat) : Int := IntKind.u8.wrap (bshr .u64 x (8 * (i : Int)))
def fixK (x : Int) (m k : Nat) : List Int := (List.range m).map fun j => if m - 1 - j < k then byteOf x (m - 1 - j) else 0
def fixedL (x : Int) (m : Nat) : List Int := (List.range m).map fun j => byteOf x (m - 1 - j)
theorem fixK_len (x : Int) (m k : Nat) : (fixK x m k).length = m := by simp [fixK]
theorem fixK_zero (x : Int) (m : Nat) : List.replicate m 0 = fixK x m 0 := by
  apply List.ext_getElem
  · simp [fixK]
  · intro i h1 h2; simp [fixK]
theorem fixK_set {x : Int} {m k : Nat} (h : k < m) : (fixK x m k).set (m - 1 - k) (byteOf x k) = fixK x m (k + 1) := by
  apply List.ext_getElem
  · simp [fixK]
  · intro i h1 h2
    have hi : i < m := by simpa [fixK] using h2
    rw [List.getElem_set]
    simp only [fixK, List.getElem_map, List.getElem_range]
    by_cases e : m - 1 - k = i
    · rw [if_pos e, if_pos (by omega)]
      have : m - 1 - i = k := by omega
      rw [this]
    · rw [if_neg e]
      by_cases h3 : m - 1 - i < k
      · rw [if_pos h3, if_pos (by omega)]
      · rw [if_neg h3, if_neg (by omega)]
theorem fixK_all (x : Int) (m : Nat) : fixK x m m = fixedL x m := by
  apply List.ext_getElem
  · simp [fixK, fixedL]
  · intro i h1 h2
    have hi : i < m := by simpa [fixK] using h1
    simp only [fixK, fixedL, List.getElem_map, List.getElem_range]
    rw [if_pos (by omega)]
theorem ref_Fixed {w : World} {x : Int} {m : Nat} (hm : m ≤ 8) : Fnc Try.prog 101 #[.int .u64 x, .int .i64 (m : Int)] w (fun v w' => v = .string (strOfNums (fixedL x m)) ∧ Ext [] w w') := by
  refine Fnc.of_WP (n := 28) Try.func101 rfl Try.ntmps101 (by simp) ?_
  intro E hE
  have h0 : E 0 = .int .u64 x := hE 0 (by simp)
  have h1 : E 1 = .int .i64 (m : Int) := hE 1 (by simp)
  clear hE
  refine WP.sr ?_
  refine WL.z (.string (ByteArray.mk #[])) (V.assign rfl rfl) ?_
  refine WL.nil ?_
  refine WP.sr ?_
  refine WL.z (.int .i64 (m : Int)) (V.move (x := .tmp 1) rfl h1) ?_
  refine WL.makeBytes (x := .tmp 7) (y := .tmp 7) (Sure.none rfl) rfl rfl u102 e5 rfl rfl (by omega) rfl (fun b w2 hx2 hge hb => ?_)
  refine WL.z (.slice (some ⟨b, 0, none⟩) m m) (V.assign (x := .tmp 8) rfl rfl) ?_
  refine WL.nil ?_
  rw [fixK_zero x m] at hb
  refine WP.seq ?_
  refine WP.sr ?_
  refine WL.z (.int .i64 0) (V.assign rfl rfl) ?_
  refine WL.nil ?_
  refine WP.block ?_
  refine WP.loop (σ := Nat) (fun k E w' => E 0 = .int .u64 x ∧ E 1 = .int .i64 (m : Int) ∧ E 5 = .slice (some ⟨b, 0, none⟩) m m ∧ E 6 = .int .i64 (k : Int) ∧ k ≤ m ∧ Box w' b 5 (nrow .u8 (fixK x m k) []) ∧ Ext [b] w2 w') (fun k => m - k) 0 ?_ ?_
  · exact ⟨h0, h1, rfl, rfl, Nat.zero_le _, hb, Ext.refl _ _⟩
  · rintro k E w3 ⟨g0, g1, g5, g6, hk, hb3, hx3⟩
    refine WP.seq ?_
    refine WP.sr ?_
    refine WL.z (.int .i64 (k : Int)) (V.move (x := .tmp 6) rfl g6) ?_
    refine WL.z (.int .i64 (m : Int)) (V.move (x := .tmp 1) rfl g1) ?_
    refine WL.z (.bool (decide ((k : Int) < (m : Int)))) (V.cmp rfl rfl rfl rfl) ?_
    refine WL.nil ?_
    refine WP.condp (t := (k : Int) < (m : Int)) rfl (fun hc => ?_) (fun hc => ?_)
    · have hkm : k < m := by omega
      refine WP.skip ?_
      refine WP.seq ?_
      refine WP.block ?_
      refine WP.region ?_
      refine WL.z (.slice (some ⟨b, 0, none⟩) m m) (V.move (x := .tmp 5) rfl g5) ?_
      refine WL.z (.int .i64 (m : Int)) (V.move (x := .tmp 1) rfl g1) ?_
      refine WL.z (.int .i64 ((m : Int) - 1)) (V.arith rfl rfl rfl rfl (wrap_i64 (by omega) (by omega))) ?_
      refine WL.z (.int .i64 (k : Int)) (V.move (x := .tmp 6) rfl g6) ?_
      refine WL.z (.int .i64 (((m - 1 - k : Nat) : Int))) (V.arith (r := (m : Int) - 1 - (k : Int)) rfl rfl rfl rfl ((wrap_i64 (by omega) (by omega)).trans (by omega))) ?_
      refine WL.z (.int .u64 x) (V.move (x := .tmp 0) rfl g0) ?_
      refine WL.z (.int .i64 (k : Int)) (V.move (x := .tmp 6) rfl g6) ?_
      refine WL.z (.int .i64 (8 * (k : Int))) (V.arith rfl rfl rfl rfl (wrap_i64 (by omega) (by omega))) ?_
      refine WL.z (.int .u64 (8 * (k : Int))) (V.convInt rfl u3 u137 rfl (wrap_u64 (by omega) (by omega))) ?_
      refine WL.z (.int .u64 (bshr .u64 x (8 * (k : Int)))) (V.shift rfl rfl rfl (by omega) rfl) ?_
      refine WL.z (.int .u8 (byteOf x k)) (V.convInt rfl u23 u5 rfl rfl) ?_
      refine WL.z (.pointer (some ⟨b, 0 + (m - 1 - k) * 1, none⟩)) (V.indexAddr (m := m - 1 - k) (j := ((m - 1 - k : Nat) : Int)) rfl u102 s5 rfl rfl rfl (by omega)) ?_
      refine WL.store (Sure.none rfl) rfl rfl s5 rfl rfl rfl hb3 (by rw [nrow_len, fixK_len]; omega) (fun w4 hx4 hb4 => ?_)
      replace hb4 : Box w4 b 5 ((nrow .u8 (fixK x m k) []).set (0 + (m - 1 - k) * 1) (.int .u8 (byteOf x k))) := hb4
      rw [show 0 + (m - 1 - k) * 1 = m - 1 - k from by omega, nrow_set (by rw [fixK_len]; omega), fixK_set hkm] at hb4
      refine WL.nil ?_
      refine WP.region ?_
      refine WL.z (.int .i64 (k : Int)) (V.move (x := .tmp 6) rfl g6) ?_
      refine WL.z (.int .i64 ((k : Int) + 1)) (V.arith rfl rfl rfl rfl (wrap_i64 (by omega) (by omega))) ?_
      refine WL.z (.int .i64 ((k : Int) + 1)) (V.assign rfl rfl) ?_
      refine WL.nil ?_
      exact ⟨k + 1, ⟨g0, g1, g5, int_eq (by omega), hkm, hb4, hx3.trans hx4⟩, by omega⟩
    · have hkm : k = m := by omega
      rw [hkm, fixK_all] at hb3
      refine WP.exit ?_
      refine WP.sr ?_
      refine WL.z (.slice (some ⟨b, 0, none⟩) m m) (V.move (x := .tmp 5) rfl g5) ?_
      refine WL.z (.string (strOfNums (fixedL x m))) (V.bytesStr rfl u102 u5 u9 rfl hb3 (by simp [fixedL])) ?_
      refine WL.z (.string (strOfNums (fixedL x m))) (V.assign rfl rfl) ?_
      refine WL.nil ?_
      refine WP.ret ?_
      refine resOf.c1 rfl (v := .string (strOfNums (fixedL x m))) rfl ?_
      exact ⟨rfl, Ext.skip hx2 hx3 (by intro y hy; simp at hy; omega)⟩
def numL (x : Int) : Nat := (List.range 8).findIdx (fun (i : Nat) => decide (bshr .u64 x (8 * (i : Int)) = 0))
theorem numL_le (x : Int) : numL x ≤ 8 := by
  have := List.findIdx_le_length (p := fun i : Nat => decide (bshr .u64 x (8 * (i : Int)) = 0)) (xs := List.range 8)
  simpa [numL] using this
theorem numL_at {x : Int} {k : Nat} (hk : k ≤ 8) (h : ∀ j, j < k → bshr .u64 x (8 * (j : Int)) ≠ 0) (he : k = 8 ∨ bshr .u64 x (8 * (k : Int)) = 0) : numL x = k := by
  rcases Nat.lt_or_ge k 8 with h8 | h8
  · have hk' : bshr .u64 x (8 * (k : Int)) = 0 := he.resolve_left (by omega)
    rw [numL, (List.findIdx_eq (by simpa using h8)).2]
    refine ⟨by simpa using hk', fun j hj => ?_⟩
    simpa using h j hj
  · obtain rfl : k = 8 := by omega
    rw [numL]
    have : (List.range 8).findIdx (fun i : Nat => decide (bshr .u64 x (8 * (i : Int)) = 0)) = (List.range 8).length := by
      rw [List.findIdx_eq_length]
      intro i hi
      simpa using h i (by simpa using hi)
    simpa using this
def numB (x : Int) : ByteArray := strOfNums ((numL x : Int) :: fixedL x (numL x))
theorem strOf_app (a b : List Int) : strOfNums a ++ strOfNums b = strOfNums (a ++ b) := by
  apply ByteArray.ext
  simp [strOfNums, ByteArray.data_append]
theorem numB_size (x : Int) : (numB x).size ≤ 9 := by
  have := numL_le x
  simp only [numB, strOfNums_size, List.length_cons, fixedL, List.length_map, List.length_range]; omega
theorem bs_step {x : Int} {k : Nat} (h : ∀ j, j < k → bshr .u64 x (8 * (j : Int)) ≠ 0) (hk : bshr .u64 x (8 * (k : Int)) ≠ 0) : ∀ j, j < k + 1 → bshr .u64 x (8 * (j : Int)) ≠ 0 := fun j hj => by
  rcases Nat.lt_or_ge j k with h1 | h1
  · exact h j h1
  · obtain rfl : j = k := by omega
    exact hk
theorem num_app {x : Int} {k : Nat} (h : numL x = k) : strOfNums [(k : Int)] ++ strOfNums (fixedL x k) = numB x := by subst h; rw [strOf_app]; rfl
theorem strs_size {x : Int} {k : Nat} (h : k ≤ 8) : (strOfNums [(k : Int)]).size + (strOfNums (fixedL x k)).size ≤ 9 := by
  rw [strOfNums_size, strOfNums_size]; simp only [fixedL, List.length_map, List.length_range, List.length_cons, List.length_nil]; omega
set_option maxHeartbeats 2000000 in
theorem ref_Num {w : World} (x : Int) : Fnc Try.prog 76 #[.int .u64 (x)] w (fun v w' => v = .string (numB x) ∧ Ext [] w w') := by
  refine Fnc.of_WP (n := 24) Try.func76 rfl Try.ntmps76 (by simp) ?_
  intro E hE
  have h0 : E 0 = .int .u64 (x) := hE 0 (by simp)
  clear hE
  refine WP.sr ?_
  refine WL.m rfl ?_
  refine WL.nil ?_
  refine WP.sr ?_
  refine WL.m rfl ?_
  refine WL.nil ?_
  refine WP.seq ?_
  refine WP.block ?_
  refine WP.loop (σ := Nat) (fun k E1 w2 => E1 0 = .int .u64 (x) ∧ E1 2 = .string (ByteArray.mk #[]) ∧ E1 3 = .int .i64 ((k : Int)) ∧ Ext [] w w2 ∧ k ≤ 8 ∧ ∀ j, j < k → bshr .u64 x (8 * (j : Int)) ≠ 0) (fun k => 8 - k) (0) ?_ ?_
  · exact ⟨h0, rfl, (int_eq (by omega)), Ext.refl _ _, (by omega), (fun j hj => by omega)⟩
  rintro k E1 w2 ⟨h0_3, h2_3, h3_3, hx3, hi0_3, hi1_3⟩
  have hx4 : Ext [] w w2 := hx3
  refine WP.seq ?_
  refine WP.sr ?_
  refine WL.m rfl ?_
  refine WL.z (.bool (decide ((k : Int) < 8))) (V.cmp (x := .tmp 4) rfl h3_3 rfl rfl) ?_
  refine WL.vbp (c := (k : Int) < 8) (Sure.none rfl) rfl (V.move rfl rfl) (fun hc5 => ?_) (fun hc5 => ?_)
  rotate_left
  · refine WL.skips [(6, some false)] [(13, some false)] (kc (some false) rfl kn) (by kernel_rfl) (fun E10 hK11 hE12 => ?_)
    refine WP.cond_false (hK11 13 (some false) rfl) ?_
    refine WP.exit ?_
    refine WP.seq ?_
    have hnl : numL x = k := numL_at (by omega) (by assumption) (by grind)
    refine WP.anyMk [fun v _ => v = (.int .i64 (k : Int) : Value), fun v _ => v = (.int .u8 (k : Int) : Value), fun v w => ∃ g, v = .slice (some ⟨g, 0, none⟩) 1 1 ∧ Box w g 5 (nrow .u8 [(k : Int)] []), fun v _ => v = .string (strOfNums [(k : Int)]), fun v _ => v = (.int .u64 x : Value), fun v _ => v = (.int .i64 (k : Int) : Value), fun v _ => v = .string (strOfNums (fixedL x k)), fun v _ => v = .string (numB x), fun v _ => v = .string (numB x)] mo (by kernel_rfl) (by kernel_rfl) (by kernel_rfl) ⟨Stab.eq _, Stab.eq _, fun v w w' hx ⟨g, e, hb⟩ => ⟨g, e, hb.ext hx (by simp)⟩, Stab.eq _, Stab.eq _, Stab.eq _, Stab.eq _, Stab.eq _, Stab.eq _, trivial⟩ ⟨?_, ?_, ?_, ?_, ?_, ?_, ?_, ?_, ?_, trivial⟩ ?_
    · intro E' w' hw hE hp
      exact .inr ⟨Sure.none rfl, .inl ⟨_, _, (V.move (x := .tmp 3) rfl ((hE 3 (by kernel_rfl)).trans ((hE12 3 rfl).trans h3_3))).x, Ext.refl _ _, rfl⟩⟩
    · intro E' w' hw hE hp
      have q0 : E' 16 = (.int .i64 (k : Int) : Value) := hp 0 (by kernel_rfl)
      exact .inr ⟨Sure.none rfl, .inl ⟨_, _, (V.convInt (x := .tmp 16) rfl u3 u5 q0 (wrap_u8 (by omega) (by omega))).x, Ext.refl _ _, rfl⟩⟩
    · intro E' w' hw hE hp
      have q1 : E' 17 = (.int .u8 (k : Int) : Value) := hp 1 (by kernel_rfl)
      exact .inr ⟨Sure.none rfl, .inl ⟨_, _, X.buildSlice (cs := [.int .u8 (k : Int)]) rfl u102 e5 (by show 1 * 1 ≤ 1024; decide) (by rw [show (#[(0, Operand.tmp 17)] : Array (Nat × Operand)).map (fun x => (x.1, ev E' x.2)) = #[(0, .int .u8 (k : Int))] from map1 (by show (0, E' 17) = _; rw [q1])]; kernel_rfl), Ext.alloc _ _, ⟨_, rfl, Blk.new _ _⟩⟩⟩
    · intro E' w' hw hE hp
      have q2 : ∃ g, E' 18 = .slice (some ⟨g, 0, none⟩) 1 1 ∧ Box w' g 5 (nrow .u8 [(k : Int)] []) := hp 2 (by kernel_rfl)
      obtain ⟨g, e, hb⟩ := q2
      exact .inr ⟨Sure.none rfl, .inl ⟨_, _, (V.bytesStr (x := .tmp 18) rfl u102 u5 u9 e hb rfl).x, Ext.refl _ _, rfl⟩⟩
    · intro E' w' hw hE hp
      exact .inr ⟨Sure.none rfl, .inl ⟨_, _, (V.move (x := .tmp 0) rfl ((hE 0 (by kernel_rfl)).trans ((hE12 0 rfl).trans h0_3))).x, Ext.refl _ _, rfl⟩⟩
    · intro E' w' hw hE hp
      exact .inr ⟨Sure.none rfl, .inl ⟨_, _, (V.move (x := .tmp 3) rfl ((hE 3 (by kernel_rfl)).trans ((hE12 3 rfl).trans h3_3))).x, Ext.refl _ _, rfl⟩⟩
    · intro E' w' hw hE hp
      have q4 : E' 20 = (.int .u64 x : Value) := hp 4 (by kernel_rfl)
      have q5 : E' 21 = (.int .i64 (k : Int) : Value) := hp 5 (by kernel_rfl)
      exact .inr ⟨Sure.none rfl, .inr ⟨_, _, C.call2 (x := .tmp 20) (y := .tmp 21) rfl cl101 q4 q5, Fnc.mono (ref_Fixed (by omega)) (fun v w'' h => ⟨h.2, h.1⟩)⟩⟩
    · intro E' w' hw hE hp
      have q3 : E' 19 = (.string (strOfNums [(k : Int)]) : Value) := hp 3 (by kernel_rfl)
      have q6 : E' 22 = (.string (strOfNums (fixedL x k)) : Value) := hp 6 (by kernel_rfl)
      have hz := strs_size (x := x) (k := k) (by omega)
      exact .inr ⟨Sure.none rfl, .inl ⟨_, _, (V.sadd (x := .tmp 19) (y := .tmp 22) rfl q3 q6 (by omega)).x, Ext.refl _ _, congrArg Value.string (num_app hnl)⟩⟩
    · intro E' w' hw hE hp
      have q7 : E' 23 = (.string (numB x) : Value) := hp 7 (by kernel_rfl)
      exact .inr ⟨Sure.none rfl, .inl ⟨_, _, (V.assign (x := .tmp 23) rfl q7).x, Ext.refl _ _, rfl⟩⟩
    · intro E4 w13 hw hE hp
      have h2n : E4 2 = (.string (numB x) : Value) := hp 8 (of_decide_eq_true (by kernel_rfl))
      have hx14 : Ext [] w w13 := hx4.trans hw
      refine WP.ret ?_
      refine resOf.c1 rfl (v := .string (numB x)) h2n ?_
      exact ⟨(str_eq (by rfl)), hx14⟩
  refine WL.my rfl rfl ?_
  refine WL.my rfl rfl ?_
  refine WL.y (.int .i64 (8 * (k : Int))) rfl (V.arith (y := .tmp 8) rfl rfl h3_3 rfl (wrap_i64 (by omega) (by omega))) ?_
  refine WL.y (.int .u64 (8 * (k : Int))) rfl (V.convInt rfl u3 u137 rfl (wrap_u64 (by omega) (by omega))) ?_
  refine WL.y (.int .u64 (bshr .u64 x (8 * (k : Int)))) rfl (V.shift (x := .tmp 7) rfl h0_3 rfl (by omega) rfl) ?_
  refine WL.y (.bool (decide ((bshr .u64 x (8 * (k : Int))) ≠ 0))) rfl (V.cmp rfl rfl rfl rfl) ?_
  refine WL.k (a := true) rfl rfl ?_
  refine WL.nil ?_
  refine WP.condp (t := (bshr .u64 x (8 * (k : Int))) ≠ 0) rfl (fun hc6 => ?_) (fun hc6 => ?_)
  · refine WP.skip ?_
    refine WP.block ?_
    refine WP.region ?_
    refine WL.m rfl ?_
    refine WL.z (.int .i64 ((k : Int) + 1)) (V.arith (x := .tmp 14) rfl h3_3 rfl rfl (wrap_i64 (by omega) (by omega))) ?_
    refine WL.m rfl ?_
    refine WL.nil ?_
    exact ⟨k + 1, ⟨h0_3, h2_3, (int_eq (by omega)), hx4, (by omega), (bs_step (by assumption) (by assumption))⟩, (by omega)⟩
  refine WP.exit ?_
  refine WP.seq ?_
  have hnl : numL x = k := numL_at (by omega) (by assumption) (by grind)
  refine WP.anyMk [fun v _ => v = (.int .i64 (k : Int) : Value), fun v _ => v = (.int .u8 (k : Int) : Value), fun v w => ∃ g, v = .slice (some ⟨g, 0, none⟩) 1 1 ∧ Box w g 5 (nrow .u8 [(k : Int)] []), fun v _ => v = .string (strOfNums [(k : Int)]), fun v _ => v = (.int .u64 x : Value), fun v _ => v = (.int .i64 (k : Int) : Value), fun v _ => v = .string (strOfNums (fixedL x k)), fun v _ => v = .string (numB x), fun v _ => v = .string (numB x)] mo (by kernel_rfl) (by kernel_rfl) (by kernel_rfl) ⟨Stab.eq _, Stab.eq _, fun v w w' hx ⟨g, e, hb⟩ => ⟨g, e, hb.ext hx (by simp)⟩, Stab.eq _, Stab.eq _, Stab.eq _, Stab.eq _, Stab.eq _, Stab.eq _, trivial⟩ ⟨?_, ?_, ?_, ?_, ?_, ?_, ?_, ?_, ?_, trivial⟩ ?_
  · intro E' w' hw hE hp
    exact .inr ⟨Sure.none rfl, .inl ⟨_, _, (V.move (x := .tmp 3) rfl ((hE 3 (by kernel_rfl)).trans h3_3)).x, Ext.refl _ _, rfl⟩⟩
  · intro E' w' hw hE hp
    have q0 : E' 16 = (.int .i64 (k : Int) : Value) := hp 0 (by kernel_rfl)
    exact .inr ⟨Sure.none rfl, .inl ⟨_, _, (V.convInt (x := .tmp 16) rfl u3 u5 q0 (wrap_u8 (by omega) (by omega))).x, Ext.refl _ _, rfl⟩⟩
  · intro E' w' hw hE hp
    have q1 : E' 17 = (.int .u8 (k : Int) : Value) := hp 1 (by kernel_rfl)
    exact .inr ⟨Sure.none rfl, .inl ⟨_, _, X.buildSlice (cs := [.int .u8 (k : Int)]) rfl u102 e5 (by show 1 * 1 ≤ 1024; decide) (by rw [show (#[(0, Operand.tmp 17)] : Array (Nat × Operand)).map (fun x => (x.1, ev E' x.2)) = #[(0, .int .u8 (k : Int))] from map1 (by show (0, E' 17) = _; rw [q1])]; kernel_rfl), Ext.alloc _ _, ⟨_, rfl, Blk.new _ _⟩⟩⟩
  · intro E' w' hw hE hp
    have q2 : ∃ g, E' 18 = .slice (some ⟨g, 0, none⟩) 1 1 ∧ Box w' g 5 (nrow .u8 [(k : Int)] []) := hp 2 (by kernel_rfl)
    obtain ⟨g, e, hb⟩ := q2
    exact .inr ⟨Sure.none rfl, .inl ⟨_, _, (V.bytesStr (x := .tmp 18) rfl u102 u5 u9 e hb rfl).x, Ext.refl _ _, rfl⟩⟩
  · intro E' w' hw hE hp
    exact .inr ⟨Sure.none rfl, .inl ⟨_, _, (V.move (x := .tmp 0) rfl ((hE 0 (by kernel_rfl)).trans h0_3)).x, Ext.refl _ _, rfl⟩⟩
  · intro E' w' hw hE hp
    exact .inr ⟨Sure.none rfl, .inl ⟨_, _, (V.move (x := .tmp 3) rfl ((hE 3 (by kernel_rfl)).trans h3_3)).x, Ext.refl _ _, rfl⟩⟩
  · intro E' w' hw hE hp
    have q4 : E' 20 = (.int .u64 x : Value) := hp 4 (by kernel_rfl)
    have q5 : E' 21 = (.int .i64 (k : Int) : Value) := hp 5 (by kernel_rfl)
    exact .inr ⟨Sure.none rfl, .inr ⟨_, _, C.call2 (x := .tmp 20) (y := .tmp 21) rfl cl101 q4 q5, Fnc.mono (ref_Fixed (by omega)) (fun v w'' h => ⟨h.2, h.1⟩)⟩⟩
  · intro E' w' hw hE hp
    have q3 : E' 19 = (.string (strOfNums [(k : Int)]) : Value) := hp 3 (by kernel_rfl)
    have q6 : E' 22 = (.string (strOfNums (fixedL x k)) : Value) := hp 6 (by kernel_rfl)
    have hz := strs_size (x := x) (k := k) (by omega)
    exact .inr ⟨Sure.none rfl, .inl ⟨_, _, (V.sadd (x := .tmp 19) (y := .tmp 22) rfl q3 q6 (by omega)).x, Ext.refl _ _, congrArg Value.string (num_app hnl)⟩⟩
  · intro E' w' hw hE hp
    have q7 : E' 23 = (.string (numB x) : Value) := hp 7 (by kernel_rfl)
    exact .inr ⟨Sure.none rfl, .inl ⟨_, _, (V.assign (x := .tmp 23) rfl q7).x, Ext.refl _ _, rfl⟩⟩
  · intro E4 w7 hw hE hp
    have h2n : E4 2 = (.string (numB x) : Value) := hp 8 (of_decide_eq_true (by kernel_rfl))
    have hx8 : Ext [] w w7 := hx4.trans hw
    refine WP.ret ?_
    refine resOf.c1 rfl (v := .string (numB x)) h2n ?_
    exact ⟨(str_eq (by rfl)), hx8⟩
theorem bshr_nat (a m : Nat) (hm : m ≤ 64) : bshr .u64 (a : Int) (m : Int) = ((a / 2 ^ m : Nat) : Int) := by
  have h1 : min ((m : Int).toNat) IntKind.u64.bits = m := by simp [IntKind.bits]; omega
  rw [bshr, h1, Int.ofNat_fdiv]
  simp
theorem bshr_step {x : Int} {k : Nat} (h0 : 0 ≤ x) (hk : k < 8) : bshr .u64 (bshr .u64 x (8 * (k : Int))) 8 = bshr .u64 x (8 * (((k + 1 : Nat)) : Int)) := by
  obtain ⟨a, rfl⟩ := Int.eq_ofNat_of_zero_le h0
  have e1 : (8 * (k : Int)) = ((8 * k : Nat) : Int) := by omega
  have e2 : (8 * ((k + 1 : Nat) : Int)) = ((8 * k + 8 : Nat) : Int) := by omega
  have e3 : (8 : Int) = ((8 : Nat) : Int) := rfl
  rw [e1, e2, bshr_nat a _ (by omega), e3, bshr_nat _ _ (by omega), bshr_nat a _ (by omega), Nat.div_div_eq_div_mul, ← Nat.pow_add]
theorem bshr_none {x : Int} (h0 : 0 ≤ x) : bshr .u64 x (8 * ((0 : Nat) : Int)) = x := by
  obtain ⟨a, rfl⟩ := Int.eq_ofNat_of_zero_le h0
  have e1 : (8 * ((0 : Nat) : Int)) = ((0 : Nat) : Int) := by omega
  rw [e1, bshr_nat a _ (by omega)]; simp
theorem bshr_top {x : Int} (h : 0 ≤ x ∧ x < 18446744073709551616) : bshr .u64 x (8 * ((8 : Nat) : Int)) = 0 := by
  obtain ⟨a, rfl⟩ := Int.eq_ofNat_of_zero_le h.1
  have e1 : (8 * ((8 : Nat) : Int)) = ((64 : Nat) : Int) := by omega
  rw [e1, bshr_nat a _ (by omega), Nat.div_eq_of_lt (by omega)]; rfl
def numRow (x : Int) (k i : Nat) : List Int := (List.range 9).map fun j => if j = 0 then (k : Int) else if i < j ∧ j ≤ k then byteOf x (k - j) else 0
theorem numRow_len (x : Int) (k i : Nat) : (numRow x k i).length = 9 := by simp [numRow]
theorem numRow_start (x : Int) (k : Nat) : (List.replicate 9 (0 : Int)).set 0 (k : Int) = numRow x k k := by
  apply List.ext_getElem
  · simp [numRow]
  · intro i h1 h2
    rw [List.getElem_set]
    simp only [numRow, List.getElem_map, List.getElem_range, List.getElem_replicate]
    by_cases e : i = 0
    · rw [if_pos e.symm, if_pos e]
    · rw [if_neg (fun h => e h.symm), if_neg e, if_neg (by omega)]
theorem numRow_step {x : Int} {k i : Nat} (hi : i < k) (hk : k ≤ 8) : (numRow x k (i + 1)).set (i + 1) (byteOf x (k - (i + 1))) = numRow x k i := by
  apply List.ext_getElem
  · simp [numRow]
  · intro j h1 h2
    rw [List.getElem_set]
    simp only [numRow, List.getElem_map, List.getElem_range]
    by_cases e : i + 1 = j
    · subst e
      rw [if_pos rfl, if_neg (by omega), if_pos (by omega)]
    · rw [if_neg e]
      by_cases e0 : j = 0
      · rw [if_pos e0, if_pos e0]
      · rw [if_neg e0, if_neg e0]
        by_cases h3 : i + 1 < j ∧ j ≤ k
        · rw [if_pos h3, if_pos (by omega)]
        · rw [if_neg h3, if_neg (by omega)]
theorem numRow_end {x : Int} {k : Nat} (hk : k ≤ 8) : (numRow x k 0).take (k + 1) = (k : Int) :: fixedL x k := by
  apply List.ext_getElem
  · simp [numRow, fixedL]; omega
  · intro j h1 h2
    rw [List.getElem_take]
    simp only [numRow, List.getElem_map, List.getElem_range]
    have hj : j < k + 1 := by simp [fixedL] at h2; omega
    cases j with
    | zero => rfl
    | succ j =>
      rw [if_neg (by omega), if_pos (by omega)]
      simp only [List.getElem_cons_succ, fixedL, List.getElem_map, List.getElem_range]
      congr 1; omega
theorem code_Num {w : World} (x : Int) (hx : 0 ≤ x ∧ x < 18446744073709551616) : Fnc Try.prog 62 #[.int .u64 x] w (fun v w' => v = .string (numB x) ∧ Ext [] w w') := by
  refine Fnc.of_WP (n := 32) Try.func62 rfl Try.ntmps62 (by simp) ?_
  intro E hE
  have h0 : E 0 = .int .u64 x := hE 0 (by simp)
  clear hE
  refine WP.sr ?_
  refine WL.z (.string (ByteArray.mk #[])) (V.assign rfl rfl) ?_
  refine WL.nil ?_
  refine WP.sr ?_
  refine WL.alloc (cs := nrow .u8 (List.replicate 9 0) []) (Sure.none rfl) rfl rfl z136 rfl (fun b w2 hx2 he hb => ?_)
  refine WL.nil ?_
  refine WP.sr ?_
  refine WL.z (.int .i64 0) (V.assign rfl rfl) ?_
  refine WL.nil ?_
  refine WP.seq ?_
  refine WP.sr ?_
  refine WL.z (.int .u64 x) (V.move (x := .tmp 0) rfl h0) ?_
  refine WL.z (.int .u64 x) (V.assign rfl rfl) ?_
  refine WL.nil ?_
  refine WP.block ?_
  refine WP.loop (σ := Nat) (fun k E w' => E 0 = .int .u64 x ∧ E 3 = .pointer (some ⟨b, 0, none⟩) ∧ E 4 = .int .i64 (k : Int) ∧ E 5 = .int .u64 (bshr .u64 x (8 * (k : Int))) ∧ k ≤ 8 ∧ (∀ j, j < k → bshr .u64 x (8 * (j : Int)) ≠ 0) ∧ w' = w2) (fun k => 8 - k) 0 ?_ ?_
  · exact ⟨h0, rfl, rfl, (int_eq (bshr_none hx.1).symm), by omega, fun j hj => by omega, rfl⟩
  · rintro k E w3 ⟨g0, g3, g4, g5, hk, hall, rfl⟩
    refine WP.seq ?_
    refine WP.sr ?_
    refine WL.z (.int .u64 (bshr .u64 x (8 * (k : Int)))) (V.move (x := .tmp 5) rfl g5) ?_
    refine WL.z (.bool (decide (bshr .u64 x (8 * (k : Int)) ≠ 0))) (V.cmp rfl rfl rfl rfl) ?_
    refine WL.nil ?_
    refine WP.condp (t := bshr .u64 x (8 * (k : Int)) ≠ 0) rfl (fun hc => ?_) (fun hc => ?_)
    · have hk8 : k < 8 := by
        rcases Nat.lt_or_ge k 8 with h | h
        · exact h
        · obtain rfl : k = 8 := by omega
          exact absurd (bshr_top hx) hc
      refine WP.skip ?_
      refine WP.seq ?_
      refine WP.block ?_
      refine WP.region ?_
      refine WL.z (.int .i64 (k : Int)) (V.move (x := .tmp 4) rfl g4) ?_
      refine WL.z (.int .i64 ((k : Int) + 1)) (V.arith rfl rfl rfl rfl (wrap_i64 (by omega) (by omega))) ?_
      refine WL.z (.int .i64 ((k : Int) + 1)) (V.assign rfl rfl) ?_
      refine WL.nil ?_
      refine WP.region ?_
      refine WL.z (.int .u64 (bshr .u64 x (8 * (k : Int)))) (V.move (x := .tmp 5) rfl g5) ?_
      refine WL.z (.int .u64 (bshr .u64 (bshr .u64 x (8 * (k : Int))) 8)) (V.shift rfl rfl rfl (by omega) rfl) ?_
      refine WL.z (.int .u64 (bshr .u64 (bshr .u64 x (8 * (k : Int))) 8)) (V.assign rfl rfl) ?_
      refine WL.nil ?_
      exact ⟨k + 1, ⟨g0, g3, int_eq (by omega), int_eq (bshr_step hx.1 hk8), hk8, bs_step hall hc, rfl⟩, by omega⟩
    · have hz : bshr .u64 x (8 * (k : Int)) = 0 := by omega
      have hnl : numL x = k := numL_at hk hall (.inr hz)
      refine WP.exit ?_
      refine WP.sr ?_
      refine WL.z (.int .i64 (k : Int)) (V.move (x := .tmp 4) rfl g4) ?_
      refine WL.z (.int .u8 (k : Int)) (V.convInt rfl u3 u5 rfl (wrap_u8 (by omega) (by omega))) ?_
      refine WL.z (.pointer (some ⟨b, 0 + 0 * 1, none⟩)) (V.indexArr (x := .tmp 3) (m := 0) (j := 0) rfl u136 s5 (by decide) g3 rfl rfl (by decide)) ?_
      refine WL.store (Sure.none rfl) rfl rfl s5 rfl rfl rfl hb (by rw [nrow_len]; simp) (fun w4 hx4 hb4 => ?_)
      replace hb4 : Box w4 b 136 ((nrow .u8 (List.replicate 9 0) []).set 0 (.int .u8 (k : Int))) := hb4
      rw [nrow_set (by simp), numRow_start x k] at hb4
      refine WL.nil ?_
      refine WP.seq ?_
      refine WP.sr ?_
      refine WL.z (.int .i64 (k : Int)) (V.move (x := .tmp 4) rfl g4) ?_
      refine WL.z (.int .i64 (k : Int)) (V.assign rfl rfl) ?_
      refine WL.nil ?_
      refine WP.block ?_
      refine WP.loop (σ := Nat) (fun i E w' => E 0 = .int .u64 (bshr .u64 x (8 * ((k - i : Nat) : Int))) ∧ E 3 = .pointer (some ⟨b, 0, none⟩) ∧ E 4 = .int .i64 (k : Int) ∧ E 6 = .int .i64 (i : Int) ∧ i ≤ k ∧ Box w' b 136 (nrow .u8 (numRow x k i) []) ∧ Ext [b] w3 w') (fun i => i) k ?_ ?_
      · refine ⟨?_, g3, g4, rfl, Nat.le_refl _, hb4, hx4⟩
        rw [Nat.sub_self, bshr_none hx.1]; exact g0
      · rintro i E w5 ⟨f0, f3, f4, f6, hi, hb5, hx5⟩
        refine WP.seq ?_
        refine WP.sr ?_
        refine WL.z (.int .i64 (i : Int)) (V.move (x := .tmp 6) rfl f6) ?_
        refine WL.z (.bool (decide ((i : Int) > 0))) (V.cmp rfl rfl rfl rfl) ?_
        refine WL.nil ?_
        refine WP.condp (t := (i : Int) > 0) rfl (fun hc => ?_) (fun hc => ?_)
        · obtain ⟨i, rfl⟩ : ∃ j, i = j + 1 := ⟨i - 1, by omega⟩
          refine WP.skip ?_
          refine WP.seq ?_
          refine WP.block ?_
          refine WP.sr ?_
          refine WL.z (.int .i64 ((i + 1 : Nat) : Int)) (V.move (x := .tmp 6) rfl f6) ?_
          refine WL.z (.int .u64 (bshr .u64 x (8 * ((k - (i + 1) : Nat) : Int)))) (V.move (x := .tmp 0) rfl f0) ?_
          refine WL.z (.int .u8 (byteOf x (k - (i + 1)))) (V.convInt rfl u23 u5 rfl rfl) ?_
          refine WL.z (.pointer (some ⟨b, 0 + (i + 1) * 1, none⟩)) (V.indexArr (x := .tmp 3) (m := i + 1) (j := ((i + 1 : Nat) : Int)) rfl u136 s5 (by decide) f3 rfl rfl (by omega)) ?_
          refine WL.store (Sure.none rfl) rfl rfl s5 rfl rfl rfl hb5 (by rw [nrow_len, numRow_len]; simp; omega) (fun w6 hx6 hb6 => ?_)
          replace hb6 : Box w6 b 136 ((nrow .u8 (numRow x k (i + 1)) []).set (0 + (i + 1) * 1) (.int .u8 (byteOf x (k - (i + 1))))) := hb6
          rw [show 0 + (i + 1) * 1 = i + 1 from by omega, nrow_set (by rw [numRow_len]; omega), numRow_step (by omega) hk] at hb6
          refine WL.nil ?_
          refine WP.region ?_
          refine WL.z (.int .u64 (bshr .u64 x (8 * ((k - (i + 1) : Nat) : Int)))) (V.move (x := .tmp 0) rfl f0) ?_
          refine WL.z (.int .u64 (bshr .u64 (bshr .u64 x (8 * ((k - (i + 1) : Nat) : Int))) 8)) (V.shift rfl rfl rfl (by omega) rfl) ?_
          refine WL.z (.int .u64 (bshr .u64 (bshr .u64 x (8 * ((k - (i + 1) : Nat) : Int))) 8)) (V.assign rfl rfl) ?_
          refine WL.nil ?_
          refine WP.region ?_
          refine WL.z (.int .i64 ((i + 1 : Nat) : Int)) (V.move (x := .tmp 6) rfl f6) ?_
          refine WL.z (.int .i64 (i : Int)) (V.arith (r := ((i + 1 : Nat) : Int) - 1) rfl rfl rfl rfl ((wrap_i64 (by omega) (by omega)).trans (by omega))) ?_
          refine WL.z (.int .i64 (i : Int)) (V.assign rfl rfl) ?_
          refine WL.nil ?_
          refine ⟨i, ⟨?_, f3, f4, rfl, by omega, hb6, hx5.trans hx6⟩, by omega⟩
          have e := bshr_step (x := x) (k := k - (i + 1)) hx.1 (by omega)
          rw [show k - (i + 1) + 1 = k - i from by omega] at e
          exact int_eq e
        · obtain rfl : i = 0 := by omega
          rw [nrow_split (k + 1), numRow_end hk] at hb5
          refine WP.exit ?_
          refine WP.sr ?_
          refine WL.z (.int .i64 (k : Int)) (V.move (x := .tmp 4) rfl f4) ?_
          refine WL.z (.int .i64 ((k + 1 : Nat) : Int)) (V.arith (r := (k : Int) + 1) rfl rfl rfl rfl ((wrap_i64 (by omega) (by omega)).trans (by omega))) ?_
          refine WL.z (.slice (some ⟨b, 0, none⟩) (k + 1) 9) (V.sliceArr (x := .tmp 3) (y := .tmp 29) rfl u136 s5 f3 rfl (by omega)) ?_
          refine WL.z (.string (strOfNums ((k : Int) :: fixedL x k))) (V.bytesStr rfl u102 u5 u9 rfl hb5 (by simp [fixedL])) ?_
          refine WL.z (.string (strOfNums ((k : Int) :: fixedL x k))) (V.assign rfl rfl) ?_
          refine WL.nil ?_
          refine WP.ret ?_
          refine resOf.c1 rfl (v := .string (strOfNums ((k : Int) :: fixedL x k))) rfl ?_
          refine ⟨?_, Ext.skip hx2 hx5 (by intro y hy; simp at hy; omega)⟩
          rw [numB, hnl]
end Go.Proofs.Ytbpamkbegggeoaa.X1
namespace Go.Proofs.Ytbpamkbegggeoaa.X1
open T W Go.RowKit
set_option maxRecDepth 100000
set_option maxHeartbeats 400000
theorem cl62 : Callable Try.prog 62 := ⟨Try.f62, Try.func62, by kernel_rfl, rfl⟩
theorem cl76 : Callable Try.prog 76 := ⟨Try.f76, Try.func76, by kernel_rfl, rfl⟩
theorem u22 : Try.prog.underlying 22 = some (.slice 3) := by kernel_rfl
theorem s3 : Sized Try.prog 3 1 := by unfold Sized; kernel_rfl
theorem p3 : Plain Try.prog 3 := ⟨.int .i64, by kernel_rfl, by intros; simp, by intros; simp⟩
def textB (s : ByteArray) : ByteArray := numB (s.size : Int) ++ s
def numsK (l : List Int) : Nat → ByteArray
  | 0 => numB (l.length : Int)
  | k + 1 => numsK l k ++ numB (l.getD k 0)
def numbersB (l : List Int) : ByteArray := numsK l l.length
theorem numsK_size (l : List Int) : ∀ k, (numsK l k).size ≤ 9 * (k + 1)
  | 0 => numB_size _
  | k + 1 => by
    have h1 := numsK_size l k
    have h2 := numB_size (l.getD k 0)
    simp only [numsK, ByteArray.size_append]; omega
theorem numbersB_size (l : List Int) : (numbersB l).size ≤ 9 * (l.length + 1) := numsK_size l _
theorem textB_size (s : ByteArray) : (textB s).size ≤ 9 + s.size := by
  have := numB_size (s.size : Int)
  simp only [textB, ByteArray.size_append]; omega
def entB (e : EntryD) : ByteArray := numB e.Term ++ strOfNums [e.Kind] ++ textB e.Data ++ numbersB e.Members
theorem entB_size (e : EntryD) : (entB e).size ≤ 19 + e.Data.size + 9 * (e.Members.length + 1) := by
  have h1 := numB_size e.Term
  have h2 : (strOfNums [e.Kind]).size = 1 := strOfNums_size _
  have h3 := textB_size e.Data
  have h4 := numbersB_size e.Members
  simp only [entB, ByteArray.size_append]; omega
theorem code_Text {w : World} (s : ByteArray) (hs : s.size ≤ 1073741824) : Fnc Try.prog 63 #[.string (s)] w (fun v w' => v = .string (textB s) ∧ Ext [] w w') := by
  have hzn := numB_size (s.size : Int)
  refine Fnc.of_WP (n := 9) Try.func63 rfl Try.ntmps63 (by simp) ?_
  intro E hE
  have h0 : E 0 = .string (s) := hE 0 (by simp)
  clear hE
  refine WP.sr ?_
  refine WL.m rfl ?_
  refine WL.nil ?_
  refine WP.sr ?_
  refine WL.m rfl ?_
  refine WL.z (.int .i64 (((s).size : Int))) (V.lenString (x := .tmp 3) rfl rfl u9 h0) ?_
  refine WL.z (.int .u64 (((s).size : Int))) (V.convInt rfl u3 u23 rfl (wrap_u64 (by omega) (by omega))) ?_
  refine WL.c (Sure.none rfl) rfl (C.call1 rfl cl62 rfl) (Fnc.mono (code_Num ((s).size : Int) (by omega)) ?_)
  rintro _ w1 ⟨rfl, hx2⟩
  have hx3 : Ext [] w w1 := hx2
  refine WL.m rfl ?_
  refine WL.z (.string ((numB ((s).size : Int)) ++ s)) (V.sadd (y := .tmp 7) rfl rfl h0 (by first | omega | (simp only [ByteArray.size_append]; omega))) ?_
  refine WL.m rfl ?_
  refine WL.nil ?_
  refine WP.ret ?_
  refine resOf.c1 rfl (v := .string ((numB ((s).size : Int)) ++ s)) rfl ?_
  exact ⟨(str_eq (by rfl)), hx3⟩
theorem ref_Text {w : World} (s : ByteArray) (hs : s.size ≤ 1073741824) : Fnc Try.prog 79 #[.string (s)] w (fun v w' => v = .string (textB s) ∧ Ext [] w w') := by
  have hzn := numB_size (s.size : Int)
  refine Fnc.of_WP (n := 9) Try.func79 rfl Try.ntmps79 (by simp) ?_
  intro E hE
  have h0 : E 0 = .string (s) := hE 0 (by simp)
  clear hE
  refine WP.sr ?_
  refine WL.m rfl ?_
  refine WL.nil ?_
  refine WP.sr ?_
  refine WL.m rfl ?_
  refine WL.z (.int .i64 (((s).size : Int))) (V.lenString (x := .tmp 3) rfl rfl u9 h0) ?_
  refine WL.z (.int .u64 (((s).size : Int))) (V.convInt rfl u3 u23 rfl (wrap_u64 (by omega) (by omega))) ?_
  refine WL.c (Sure.none rfl) rfl (C.call1 rfl cl76 rfl) (Fnc.mono (ref_Num ((s).size : Int)) ?_)
  rintro _ w1 ⟨rfl, hx2⟩
  have hx3 : Ext [] w w1 := hx2
  refine WL.m rfl ?_
  refine WL.z (.string ((numB ((s).size : Int)) ++ s)) (V.sadd (y := .tmp 7) rfl rfl h0 (by first | omega | (simp only [ByteArray.size_append]; omega))) ?_
  refine WL.m rfl ?_
  refine WL.nil ?_
  refine WP.ret ?_
  refine resOf.c1 rfl (v := .string ((numB ((s).size : Int)) ++ s)) rfl ?_
  exact ⟨(str_eq (by rfl)), hx3⟩
theorem vote_numbers {w : World} {X : List Nat} {v_l : Value} {l : List Int} (h_l : Sl (intR .i64) X w v_l l) (hl : l.length ≤ 1073741824) (hnn : ∀ j, j < l.length → 0 ≤ l.getD j 0) : Fnc Try.prog 64 #[v_l] w (fun v w' => v = .string (numbersB l) ∧ Ext [] w w') := by
  have hle_l := h_l.le'
  refine Fnc.of_WP (n := 23) Try.func64 rfl Try.ntmps64 (by simp) ?_
  intro E hE
  have h0 : E 0 = v_l := hE 0 (by simp)
  clear hE
  refine WP.sr ?_
  refine WL.m rfl ?_
  refine WL.nil ?_
  refine WP.sr ?_
  refine WL.m rfl ?_
  obtain ⟨a1, c2, hv3⟩ := h_l.shape
  refine WL.z (.int .i64 (((l).length : Int))) (V.lenSlice (x := .tmp 6) rfl rfl u22 (Eq.trans (b := v_l) h0 hv3)) ?_
  refine WL.z (.int .u64 (((l).length : Int))) (V.convInt rfl u3 u23 rfl (wrap_u64 (by omega) (by omega))) ?_
  refine WL.c (Sure.none rfl) rfl (C.call1 rfl cl62 rfl) (Fnc.mono (code_Num ((l).length : Int) (by omega)) ?_)
  rintro _ w4 ⟨rfl, hx5⟩
  have hx6 : Ext [] w w4 := hx5
  refine WL.m rfl ?_
  refine WL.nil ?_
  refine WP.seq ?_
  refine WP.sr ?_
  refine WL.m rfl ?_
  refine WL.z (.int .i64 (((l).length : Int))) (V.lenSlice (x := .tmp 10) rfl rfl u22 (Eq.trans (b := v_l) h0 hv3)) ?_
  refine WL.m rfl ?_
  refine WL.nil ?_
  refine WP.block ?_
  have hsz9 : w.heap.size ≤ w4.heap.size := hx6.size
  refine WP.loop (σ := Nat) (fun k E7 w8 => E7 0 = v_l ∧ E7 2 = .string (ByteArray.mk #[]) ∧ E7 3 = .string (numsK l k) ∧ E7 10 = v_l ∧ E7 11 = .int .i64 (((l).length : Int)) ∧ E7 12 = .int .i64 ((k : Int)) ∧ Ext [] w4 w8 ∧ k ≤ l.length) (fun k => l.length - k) (0) ?_ ?_
  · exact ⟨h0, rfl, (str_eq (by rfl)), h0, rfl, (int_eq (by omega)), Ext.refl _ _, (by omega)⟩
  rintro k E7 w8 ⟨h0_10, h2_10, h3_10, h10_10, h11_10, h12_10, hx10, hi0_10⟩
  have hx11 : Ext [] w w8 := hx6.trans hx10
  have hx12 : Ext [] w4 w8 := hx10
  have hzk := numsK_size l k
  have hzn := numB_size (l.getD k 0)
  have hn0 := hnn k
  refine WP.sr ?_
  refine WL.z (.bool (decide ((k : Int) < ((l).length : Int)))) (V.cmp (x := .tmp 12) (y := .tmp 11) rfl h12_10 h11_10 rfl) ?_
  refine WL.nil ?_
  refine WP.seq ?_
  refine WP.condp (t := (k : Int) < ((l).length : Int)) rfl (fun hc13 => ?_) (fun hc13 => ?_)
  rotate_left
  · refine WP.exit ?_
    refine WP.sr ?_
    refine WL.m rfl ?_
    refine WL.m rfl ?_
    refine WL.nil ?_
    refine WP.ret ?_
    refine resOf.c1 rfl (v := .string (numsK l k)) h3_10 ?_
    exact ⟨(str_eq (by (have hke : k = l.length := (by omega)); subst hke; rfl)), hx11⟩
  refine WP.skip ?_
  refine WP.seq ?_
  refine WP.block ?_
  refine WP.sr ?_
  have hlt22 : k < (l).length := by first | omega | (simp at *; omega)
  obtain ⟨b14, k15, c16, cs17, hv18, hnb19, hr20, hat21⟩ := (h_l.ext (Ext.pre hx11)).get (i := k) (x := (l.getD k 0)) (getD_some hlt22 _)
  obtain ⟨rfl, hin23⟩ := hr20
  have hin23 := inK_i64 hin23
  refine WL.z (.pointer (some ⟨b14, k15 + k * 1, none⟩)) (V.indexAddr (x := .tmp 10) (i := .tmp 12) (m := k) (j := (k : Int)) rfl u22 s3 (Eq.trans (b := v_l) h10_10 hv18) h12_10 rfl hlt22) ?_
  refine WL.z (.int .i64 ((l.getD k 0))) (V.load rfl p3 rfl (hat21.cell (j := 0) rfl)) ?_
  refine WL.m rfl ?_
  refine WL.nil ?_
  refine WP.region ?_
  refine WL.m rfl ?_
  refine WL.m rfl ?_
  refine WL.z (.int .u64 ((l.getD k 0))) (V.convInt rfl u3 u23 rfl (wrap_u64 (by omega) (by omega))) ?_
  refine WL.c (Sure.none rfl) rfl (C.call1 rfl cl62 rfl) (Fnc.mono (code_Num (l.getD k 0) (by omega)) ?_)
  rintro _ w24 ⟨rfl, hx25⟩
  have hx27 : Ext [] w4 w24 := hx12.trans hx25
  refine WL.z (.string ((numsK l k) ++ (numB (l.getD k 0)))) (V.sadd (x := .tmp 16) rfl h3_10 rfl (by first | omega | (simp only [ByteArray.size_append]; omega))) ?_
  refine WL.m rfl ?_
  refine WL.nil ?_
  refine WP.region ?_
  refine WL.z (.int .i64 ((k : Int) + 1)) (V.arith (x := .tmp 12) rfl h12_10 rfl rfl (wrap_i64 (by omega) (by omega))) ?_
  refine WL.m rfl ?_
  refine WL.nil ?_
  exact ⟨k + 1, ⟨h0_10, h2_10, (str_eq (by rfl)), h10_10, h11_10, (int_eq (by omega)), hx27, (by omega)⟩, (by omega)⟩
theorem ref_numbers {w : World} {X : List Nat} {v_l : Value} {l : List Int} (h_l : Sl (intR .i64) X w v_l l) (hl : l.length ≤ 1073741824) (hnn : ∀ j, j < l.length → 0 ≤ l.getD j 0) : Fnc Try.prog 78 #[v_l] w (fun v w' => v = .string (numbersB l) ∧ Ext [] w w') := by
  have hle_l := h_l.le'
  refine Fnc.of_WP (n := 24) Try.func78 rfl Try.ntmps78 (by simp) ?_
  intro E hE
  have h0 : E 0 = v_l := hE 0 (by simp)
  clear hE
  refine WP.sr ?_
  refine WL.m rfl ?_
  refine WL.nil ?_
  refine WP.sr ?_
  refine WL.m rfl ?_
  obtain ⟨a1, c2, hv3⟩ := h_l.shape
  refine WL.z (.int .i64 (((l).length : Int))) (V.lenSlice (x := .tmp 5) rfl rfl u22 (Eq.trans (b := v_l) h0 hv3)) ?_
  refine WL.z (.int .u64 (((l).length : Int))) (V.convInt rfl u3 u23 rfl (wrap_u64 (by omega) (by omega))) ?_
  refine WL.c (Sure.none rfl) rfl (C.call1 rfl cl76 rfl) (Fnc.mono (ref_Num ((l).length : Int)) ?_)
  rintro _ w4 ⟨rfl, hx5⟩
  have hx6 : Ext [] w w4 := hx5
  refine WL.m rfl ?_
  refine WL.nil ?_
  refine WP.seq ?_
  refine WP.sr ?_
  refine WL.m rfl ?_
  refine WL.nil ?_
  refine WP.block ?_
  have hsz9 : w.heap.size ≤ w4.heap.size := hx6.size
  refine WP.loop (σ := Nat) (fun k E7 w8 => E7 0 = v_l ∧ E7 2 = .string (ByteArray.mk #[]) ∧ E7 3 = .string (numsK l k) ∧ E7 4 = .int .i64 ((k : Int)) ∧ Ext [] w4 w8 ∧ k ≤ l.length) (fun k => l.length - k) (0) ?_ ?_
  · exact ⟨h0, rfl, (str_eq (by rfl)), (int_eq (by omega)), Ext.refl _ _, (by omega)⟩
  rintro k E7 w8 ⟨h0_10, h2_10, h3_10, h4_10, hx10, hi0_10⟩
  have hx11 : Ext [] w w8 := hx6.trans hx10
  have hx12 : Ext [] w4 w8 := hx10
  have hzk := numsK_size l k
  have hzn := numB_size (l.getD k 0)
  have hn0 := hnn k
  refine WP.seq ?_
  refine WP.sr ?_
  refine WL.m rfl ?_
  refine WL.m rfl ?_
  refine WL.z (.int .i64 (((l).length : Int))) (V.lenSlice (x := .tmp 10) rfl rfl u22 (Eq.trans (b := v_l) h0_10 hv3)) ?_
  refine WL.z (.bool (decide ((k : Int) < ((l).length : Int)))) (V.cmp (x := .tmp 9) rfl h4_10 rfl rfl) ?_
  refine WL.nil ?_
  refine WP.condp (t := (k : Int) < ((l).length : Int)) rfl (fun hc13 => ?_) (fun hc13 => ?_)
  rotate_left
  · refine WP.exit ?_
    refine WP.sr ?_
    refine WL.m rfl ?_
    refine WL.m rfl ?_
    refine WL.nil ?_
    refine WP.ret ?_
    refine resOf.c1 rfl (v := .string (numsK l k)) h3_10 ?_
    exact ⟨(str_eq (by (have hke : k = l.length := (by omega)); subst hke; rfl)), hx11⟩
  refine WP.skip ?_
  refine WP.seq ?_
  refine WP.block ?_
  refine WP.region ?_
  refine WL.m rfl ?_
  refine WL.m rfl ?_
  refine WL.m rfl ?_
  have hlt22 : k < (l).length := by first | omega | (simp at *; omega)
  obtain ⟨b14, k15, c16, cs17, hv18, hnb19, hr20, hat21⟩ := (h_l.ext (Ext.pre hx11)).get (i := k) (x := (l.getD k 0)) (getD_some hlt22 _)
  obtain ⟨rfl, hin23⟩ := hr20
  have hin23 := inK_i64 hin23
  refine WL.z (.pointer (some ⟨b14, k15 + k * 1, none⟩)) (V.indexAddr (x := .tmp 16) (i := .tmp 17) (m := k) (j := (k : Int)) rfl u22 s3 (Eq.trans (b := v_l) h0_10 hv18) h4_10 rfl hlt22) ?_
  refine WL.z (.int .i64 ((l.getD k 0))) (V.load rfl p3 rfl (hat21.cell (j := 0) rfl)) ?_
  refine WL.z (.int .u64 ((l.getD k 0))) (V.convInt rfl u3 u23 rfl (wrap_u64 (by omega) (by omega))) ?_
  refine WL.c (Sure.none rfl) rfl (C.call1 rfl cl76 rfl) (Fnc.mono (ref_Num (l.getD k 0)) ?_)
  rintro _ w24 ⟨rfl, hx25⟩
  have hx27 : Ext [] w4 w24 := hx12.trans hx25
  refine WL.z (.string ((numsK l k) ++ (numB (l.getD k 0)))) (V.sadd (x := .tmp 15) rfl h3_10 rfl (by first | omega | (simp only [ByteArray.size_append]; omega))) ?_
  refine WL.m rfl ?_
  refine WL.nil ?_
  refine WP.region ?_
  refine WL.m rfl ?_
  refine WL.z (.int .i64 ((k : Int) + 1)) (V.arith (x := .tmp 13) rfl h4_10 rfl rfl (wrap_i64 (by omega) (by omega))) ?_
  refine WL.m rfl ?_
  refine WL.nil ?_
  exact ⟨k + 1, ⟨h0_10, h2_10, (str_eq (by rfl)), (int_eq (by omega)), hx27, (by omega)⟩, (by omega)⟩
end Go.Proofs.Ytbpamkbegggeoaa.X1
namespace Go.Proofs.Ytbpamkbegggeoaa.X1
open T W Go.RowKit
set_option maxRecDepth 100000
set_option maxHeartbeats 400000
theorem fl90_0 : FieldOf Try.prog 90 0 23 0 1 := fld (by kernel_rfl)
theorem p23 : Plain Try.prog 23 := ⟨.int .u64, by kernel_rfl, by intros; simp, by intros; simp⟩
theorem fl90_1 : FieldOf Try.prog 90 1 88 1 1 := fld (by kernel_rfl)
theorem p88 : Plain Try.prog 88 := ⟨.int .u8, by kernel_rfl, by intros; simp, by intros; simp⟩
theorem fl90_2 : FieldOf Try.prog 90 2 9 2 1 := fld (by kernel_rfl)
theorem cl79 : Callable Try.prog 79 := ⟨Try.f79, Try.func79, by kernel_rfl, rfl⟩
theorem fl90_3 : FieldOf Try.prog 90 3 22 3 1 := fld (by kernel_rfl)
theorem p22 : Plain Try.prog 22 := ⟨.slice 3, by kernel_rfl, by intros; simp, by intros; simp⟩
theorem cl78 : Callable Try.prog 78 := ⟨Try.f78, Try.func78, by kernel_rfl, rfl⟩
set_option maxHeartbeats 2000000 in
theorem ref_EntryBytes {w : World} {X : List Nat} {e : EntryD} {c_e : List Value} (h_e : entryR.rd X w c_e e) (hd : e.Data.size ≤ 1073741824) (hl : e.Members.length ≤ 1073741824) (hnn : ∀ j, j < e.Members.length → 0 ≤ e.Members.getD j 0) : Fnc Try.prog 77 #[.agg c_e.toArray] w (fun v w' => v = .string (entB e) ∧ Ext [] w w') := by
  obtain ⟨v1, rfl, hl2, hk3⟩ := h_e
  obtain ⟨hin4, hin5, hin6⟩ := (show EntryD.InR e from hk3)
  have hin4 := inK_u64 hin4
  have hin5 := inK_u8 hin5
  have hle7 := hl2.le'
  have hz1 := numB_size e.Term
  have hz2 : (strOfNums [e.Kind]).size = 1 := strOfNums_size _
  have hz3 := textB_size e.Data
  have hz4 := numbersB_size e.Members
  refine Fnc.of_WP (n := 19) Try.func77 rfl Try.ntmps77 (by simp) ?_
  intro E hE
  have h0 : E 0 = .agg #[.int .u64 (e.Term), .int .u8 (e.Kind), .string (e.Data), v1] := hE 0 (by simp)
  clear hE
  refine WP.sr ?_
  refine WL.box (x := .tmp 0) (cs := [.int .u64 (e.Term), .int .u8 (e.Kind), .string (e.Data), v1]) (Sure.none rfl) rfl rfl h0 rfl (fun b8 w9 hx10 he11 hb12 => ?_)
  have hl13 := (Sl.new (b := b8) (by show (1 : Nat) ≠ 0; decide) hl2 (by omega)).ext (Ext.any hx10)
  have hx14 : Ext [b8] _ _ := (Ext.refl _ _).trans (Ext.any hx10)
  have hge_b8_w : w.heap.size ≤ b8 := by have := Nat.le_refl w.heap.size; omega
  refine WL.m rfl ?_
  refine WL.nil ?_
  refine WP.seq ?_
  refine WP.anyMk [fun v _ => v = (.pointer (some ⟨b8, 0, none⟩) : Value), fun v _ => v = (.int .u64 (e.Term) : Value), fun v _ => v = (.string (numB e.Term) : Value), fun v _ => v = (.pointer (some ⟨b8, 1, none⟩) : Value), fun v _ => v = (.int .u8 (e.Kind) : Value), fun v w => ∃ g, v = .slice (some ⟨g, 0, none⟩) 1 1 ∧ Box w g 5 (nrow .u8 [e.Kind] []), fun v _ => v = (.string (strOfNums [e.Kind]) : Value), fun v _ => v = (.string ((numB e.Term) ++ (strOfNums [e.Kind])) : Value), fun v _ => v = (.pointer (some ⟨b8, 2, none⟩) : Value), fun v _ => v = (.string (e.Data) : Value), fun v _ => v = (.string (textB e.Data) : Value), fun v _ => v = (.string (((numB e.Term) ++ (strOfNums [e.Kind])) ++ (textB e.Data)) : Value), fun v _ => v = (.pointer (some ⟨b8, 3, none⟩) : Value), fun v _ => v = (v1 : Value), fun v _ => v = (.string (numbersB e.Members) : Value), fun v _ => v = (.string ((((numB e.Term) ++ (strOfNums [e.Kind])) ++ (textB e.Data)) ++ (numbersB e.Members)) : Value), fun v _ => v = (.string ((((numB e.Term) ++ (strOfNums [e.Kind])) ++ (textB e.Data)) ++ (numbersB e.Members)) : Value)] mo (by kernel_rfl) (by kernel_rfl) (by kernel_rfl) ⟨Stab.eq _, Stab.eq _, Stab.eq _, Stab.eq _, Stab.eq _, fun v w w' hx ⟨g, e, hb⟩ => ⟨g, e, hb.ext hx (by simp)⟩, Stab.eq _, Stab.eq _, Stab.eq _, Stab.eq _, Stab.eq _, Stab.eq _, Stab.eq _, Stab.eq _, Stab.eq _, Stab.eq _, Stab.eq _, trivial⟩ ⟨?_, ?_, ?_, ?_, ?_, ?_, ?_, ?_, ?_, ?_, ?_, ?_, ?_, ?_, ?_, ?_, ?_, trivial⟩ ?_
  · intro E' w' hw hE hp
    exact .inr ⟨(Sure.none rfl), .inl ⟨.pointer (some ⟨b8, 0, none⟩), w', OpV.x (by exact V.fieldAddr (x := .tmp 1) rfl fl90_0 ((hE 1 (by kernel_rfl)).trans rfl)), Ext.refl _ _, rfl⟩⟩
  · intro E' w' hw hE hp
    have p_0 : E' 3 = (.pointer (some ⟨b8, 0, none⟩) : Value) := hp 0 (by kernel_rfl)
    exact .inr ⟨(Sure.none rfl), .inl ⟨.int .u64 (e.Term), w', OpV.x (by exact V.load (x := .tmp 3) rfl p23 p_0 ((hb12.ext hw (by simp)).cell rfl)), Ext.refl _ _, rfl⟩⟩
  · intro E' w' hw hE hp
    have p_1 : E' 4 = (.int .u64 (e.Term) : Value) := hp 1 (by kernel_rfl)
    exact .inr ⟨(Sure.none rfl), .inr ⟨_, _, C.call1 (x := .tmp 4) rfl cl76 p_1, Fnc.mono (ref_Num e.Term) (fun v w'' h => ⟨h.2, h.1⟩)⟩⟩
  · intro E' w' hw hE hp
    exact .inr ⟨(Sure.none rfl), .inl ⟨.pointer (some ⟨b8, 1, none⟩), w', OpV.x (by exact V.fieldAddr (x := .tmp 1) rfl fl90_1 ((hE 1 (by kernel_rfl)).trans rfl)), Ext.refl _ _, rfl⟩⟩
  · intro E' w' hw hE hp
    have p_3 : E' 6 = (.pointer (some ⟨b8, 1, none⟩) : Value) := hp 3 (by kernel_rfl)
    exact .inr ⟨(Sure.none rfl), .inl ⟨.int .u8 (e.Kind), w', OpV.x (by exact V.load (x := .tmp 6) rfl p88 p_3 ((hb12.ext hw (by simp)).cell rfl)), Ext.refl _ _, rfl⟩⟩
  · intro E' w' hw hE hp
    have p_4 : E' 7 = (.int .u8 (e.Kind) : Value) := hp 4 (by kernel_rfl)
    exact .inr ⟨(Sure.none rfl), .inl ⟨_, _, W.X.buildSlice (cs := [.int .u8 (e.Kind)]) rfl u102 e5 (by show 1 * 1 ≤ 1024; decide) (by rw [show (#[(0, Operand.tmp 7)] : Array (Nat × Operand)).map (fun x => (x.1, ev E' x.2)) = #[(0, .int .u8 (e.Kind))] from map1 (by show (0, E' 7) = _; rw [p_4])]; kernel_rfl), Ext.alloc _ _, ⟨_, rfl, Blk.new _ _⟩⟩⟩
  · intro E' w' hw hE hp
    have p_5 : ∃ g, E' 8 = .slice (some ⟨g, 0, none⟩) 1 1 ∧ Box w' g 5 (nrow .u8 [e.Kind] []) := hp 5 (by kernel_rfl)
    obtain ⟨g_, e_, hb_⟩ := p_5
    exact .inr ⟨(Sure.none rfl), .inl ⟨.string (strOfNums [e.Kind]), w', OpV.x (by exact V.bytesStr (x := .tmp 8) rfl u102 u5 u9 e_ hb_ rfl), Ext.refl _ _, rfl⟩⟩
  · intro E' w' hw hE hp
    have p_2 : E' 5 = (.string (numB e.Term) : Value) := hp 2 (by kernel_rfl)
    have p_6 : E' 9 = (.string (strOfNums [e.Kind]) : Value) := hp 6 (by kernel_rfl)
    exact .inr ⟨(Sure.none rfl), .inl ⟨.string ((numB e.Term) ++ (strOfNums [e.Kind])), w', OpV.x (by exact V.sadd (x := .tmp 5) (y := .tmp 9) rfl p_2 p_6 (by first | omega | (simp only [ByteArray.size_append]; omega))), Ext.refl _ _, rfl⟩⟩
  · intro E' w' hw hE hp
    exact .inr ⟨(Sure.none rfl), .inl ⟨.pointer (some ⟨b8, 2, none⟩), w', OpV.x (by exact V.fieldAddr (x := .tmp 1) rfl fl90_2 ((hE 1 (by kernel_rfl)).trans rfl)), Ext.refl _ _, rfl⟩⟩
  · intro E' w' hw hE hp
    have p_8 : E' 11 = (.pointer (some ⟨b8, 2, none⟩) : Value) := hp 8 (by kernel_rfl)
    exact .inr ⟨(Sure.none rfl), .inl ⟨.string (e.Data), w', OpV.x (by exact V.load (x := .tmp 11) rfl p9 p_8 ((hb12.ext hw (by simp)).cell rfl)), Ext.refl _ _, rfl⟩⟩
  · intro E' w' hw hE hp
    have p_9 : E' 12 = (.string (e.Data) : Value) := hp 9 (by kernel_rfl)
    exact .inr ⟨(Sure.none rfl), .inr ⟨_, _, C.call1 (x := .tmp 12) rfl cl79 p_9, Fnc.mono (ref_Text e.Data (by omega)) (fun v w'' h => ⟨h.2, h.1⟩)⟩⟩
  · intro E' w' hw hE hp
    have p_7 : E' 10 = (.string ((numB e.Term) ++ (strOfNums [e.Kind])) : Value) := hp 7 (by kernel_rfl)
    have p_10 : E' 13 = (.string (textB e.Data) : Value) := hp 10 (by kernel_rfl)
    exact .inr ⟨(Sure.none rfl), .inl ⟨.string (((numB e.Term) ++ (strOfNums [e.Kind])) ++ (textB e.Data)), w', OpV.x (by exact V.sadd (x := .tmp 10) (y := .tmp 13) rfl p_7 p_10 (by first | omega | (simp only [ByteArray.size_append]; omega))), Ext.refl _ _, rfl⟩⟩
  · intro E' w' hw hE hp
    exact .inr ⟨(Sure.none rfl), .inl ⟨.pointer (some ⟨b8, 3, none⟩), w', OpV.x (by exact V.fieldAddr (x := .tmp 1) rfl fl90_3 ((hE 1 (by kernel_rfl)).trans rfl)), Ext.refl _ _, rfl⟩⟩
  · intro E' w' hw hE hp
    have p_12 : E' 15 = (.pointer (some ⟨b8, 3, none⟩) : Value) := hp 12 (by kernel_rfl)
    exact .inr ⟨(Sure.none rfl), .inl ⟨v1, w', OpV.x (by exact V.load (x := .tmp 15) rfl p22 p_12 ((hb12.ext hw (by simp)).cell rfl)), Ext.refl _ _, rfl⟩⟩
  · intro E' w' hw hE hp
    have p_13 : E' 16 = (v1 : Value) := hp 13 (by kernel_rfl)
    exact .inr ⟨(Sure.none rfl), .inr ⟨_, _, C.call1 (x := .tmp 16) rfl cl78 p_13, Fnc.mono (ref_numbers (hl13.ext (Ext.any hw)) (by omega) (by first | assumption | exact fun j hj => (hok.me.2 j hj).1 | exact fun j hj => ((hok.em k (by omega)).2 j hj).1)) (fun v w'' h => ⟨h.2, h.1⟩)⟩⟩
  · intro E' w' hw hE hp
    have p_11 : E' 14 = (.string (((numB e.Term) ++ (strOfNums [e.Kind])) ++ (textB e.Data)) : Value) := hp 11 (by kernel_rfl)
    have p_14 : E' 17 = (.string (numbersB e.Members) : Value) := hp 14 (by kernel_rfl)
    exact .inr ⟨(Sure.none rfl), .inl ⟨.string ((((numB e.Term) ++ (strOfNums [e.Kind])) ++ (textB e.Data)) ++ (numbersB e.Members)), w', OpV.x (by exact V.sadd (x := .tmp 14) (y := .tmp 17) rfl p_11 p_14 (by first | omega | (simp only [ByteArray.size_append]; omega))), Ext.refl _ _, rfl⟩⟩
  · intro E' w' hw hE hp
    have p_15 : E' 18 = (.string ((((numB e.Term) ++ (strOfNums [e.Kind])) ++ (textB e.Data)) ++ (numbersB e.Members)) : Value) := hp 15 (by kernel_rfl)
    exact .inr ⟨(Sure.none rfl), .inl ⟨.string ((((numB e.Term) ++ (strOfNums [e.Kind])) ++ (textB e.Data)) ++ (numbersB e.Members)), w', OpV.x (by exact V.assign (x := .tmp 18) rfl p_15), Ext.refl _ _, rfl⟩⟩
  · intro E15 w16 hw17 hE18 hp19
    have hx20 : Ext [b8] w w16 := hx14.trans (Ext.any (Y := [b8]) hw17)
    have hp23 : E15 2 = (.string ((((numB e.Term) ++ (strOfNums [e.Kind])) ++ (textB e.Data)) ++ (numbersB e.Members)) : Value) := hp19 16 (of_decide_eq_true (by kernel_rfl))
    refine WP.ret ?_
    refine resOf.c1 rfl (v := .string ((((numB e.Term) ++ (strOfNums [e.Kind])) ++ (textB e.Data)) ++ (numbersB e.Members))) hp23 ?_
    exact ⟨(str_eq (by rfl)), ((hx20).done (geCons hge_b8_w geNil))⟩
end Go.Proofs.Ytbpamkbegggeoaa.X1
namespace Go.Proofs.Ytbpamkbegggeoaa.X1
open T W Go.RowKit
set_option maxRecDepth 100000
set_option maxHeartbeats 400000
theorem fl32_0 : FieldOf Try.prog 32 0 30 0 1 := fld (by kernel_rfl)
theorem p30 : Plain Try.prog 30 := ⟨.int .u8, by kernel_rfl, by intros; simp, by intros; simp⟩
theorem fl32_1 : FieldOf Try.prog 32 1 3 1 1 := fld (by kernel_rfl)
theorem fl32_2 : FieldOf Try.prog 32 2 3 2 1 := fld (by kernel_rfl)
theorem fl32_3 : FieldOf Try.prog 32 3 23 3 1 := fld (by kernel_rfl)
theorem fl32_4 : FieldOf Try.prog 32 4 23 4 1 := fld (by kernel_rfl)
theorem fl32_5 : FieldOf Try.prog 32 5 23 5 1 := fld (by kernel_rfl)
theorem fl32_6 : FieldOf Try.prog 32 6 23 6 1 := fld (by kernel_rfl)
theorem fl32_7 : FieldOf Try.prog 32 7 23 7 1 := fld (by kernel_rfl)
theorem fl32_8 : FieldOf Try.prog 32 8 4 8 1 := fld (by kernel_rfl)
theorem fl32_9 : FieldOf Try.prog 32 9 25 9 1 := fld (by kernel_rfl)
theorem p25 : Plain Try.prog 25 := ⟨.slice 90, by kernel_rfl, by intros; simp, by intros; simp⟩
theorem u25 : Try.prog.underlying 25 = some (.slice 90) := by kernel_rfl
theorem s90 : Sized Try.prog 90 4 := by unfold Sized; kernel_rfl
theorem a90 : Aggr Try.prog 90 4 := ⟨⟨_, by kernel_rfl, .inl ⟨structFields Try.prog 90, rfl⟩⟩, s90⟩
theorem cl77 : Callable Try.prog 77 := ⟨Try.f77, Try.func77, by kernel_rfl, rfl⟩
theorem fl32_10 : FieldOf Try.prog 32 10 22 10 1 := fld (by kernel_rfl)
theorem fl32_11 : FieldOf Try.prog 32 11 9 11 1 := fld (by kernel_rfl)
def NumsOk (l : List Int) : Prop := l.length ≤ 64 ∧ ∀ j, j < l.length → 0 ≤ l.getD j 0 ∧ l.getD j 0 ≤ 64
theorem nums_nil {l : List Int} (h : l.length = 0) : NumsOk l := ⟨by omega, fun j hj => by omega⟩
theorem ids_ok {l : List Int} (h : idsB l = true) : NumsOk l := by
  rw [idsB, allB_iff] at h
  have key : ∀ j, j < l.length → (j : Int) + 1 ≤ l.getD j 0 ∧ l.getD j 0 ≤ 64 := by
    intro j
    induction j with
    | zero =>
      intro hj
      have := h 0 hj
      simp only [okAt, idB, Bool.and_eq_true, decide_eq_true_eq] at this
      omega
    | succ j ih =>
      intro hj
      have h1 := ih (by omega)
      have h2 := h (j + 1) hj
      simp only [okAt, idB, Bool.and_eq_true, Bool.or_eq_true, decide_eq_true_eq, Nat.add_sub_cancel] at h2
      omega
  refine ⟨?_, fun j hj => ⟨by have := key j hj; omega, (key j hj).2⟩⟩
  rcases Nat.lt_or_ge 64 l.length with hlt | hge
  · have := key 64 hlt; omega
  · exact hge
structure MsgOk (m : MsgD) : Prop where
  fr : 1 ≤ m.From ∧ m.From ≤ 64
  to : 1 ≤ m.To ∧ m.To ≤ 64
  en : m.Entries.length ≤ 16
  em : ∀ k, k < m.Entries.length → NumsOk (m.Entries.getD k default).Members
  me : NumsOk m.Members
theorem kind_nums {e : EntryD} (h : T.kindOk e = true) : NumsOk e.Members := by
  simp only [T.kindOk, membersB, Bool.or_eq_true, Bool.and_eq_true, decide_eq_true_eq] at h
  rcases h with (h | h) | h
  · exact nums_nil h.2
  · exact nums_nil h.2
  · exact ids_ok h.2.2
theorem ents_nums {l : List EntryD} {f t : Int} (h : entsB l f t = true) : ∀ k, k < l.length → NumsOk (l.getD k default).Members := by
  intro k hk
  rw [entsB, allB_iff] at h
  have := h k hk
  simp only [entOk, Bool.and_eq_true] at this
  exact kind_nums this.2
theorem msg_ok {m : MsgD} (h : mayMsgB m = true) : MsgOk m := by
  simp only [mayMsgB, hdB, idB, layB, askB, heardB, toldB, installB, sameMsgB, eqB_nil, membersB, Bool.and_eq_true, Bool.or_eq_true, decide_eq_true_eq, List.length_nil] at h
  obtain ⟨⟨⟨⟨⟨⟨⟨⟨h1, h2⟩, _⟩, _⟩, _⟩, _⟩, _⟩, _⟩, h3⟩ := h
  refine ⟨by omega, by omega, ?_, ?_, ?_⟩
  · rcases h3 with (((h | h) | h) | h) | h <;> simp only [and_assoc] at h <;> omega
  · rcases h3 with (((h | h) | h) | h) | h <;> simp only [and_assoc] at h
    · exact ents_nums h.2.2.1
    all_goals exact fun k hk => by omega
  · rcases h3 with (((h | h) | h) | h) | h <;> simp only [and_assoc] at h <;> first | exact nums_nil (by omega) | exact ids_ok h.2.2.2.2.1
structure MsgSz (m : MsgD) : Prop where
  data : ∀ k, k < m.Entries.length → (m.Entries.getD k default).Data.size ≤ 1073741824
  snap : m.Snap.size ≤ 1073741824
def okB (b : Bool) : ByteArray := if b = true then ByteArray.mk #[1] else ByteArray.mk #[0]
theorem okB_size (b : Bool) : (okB b).size = 1 := by cases b <;> rfl
def hdrB (m : MsgD) : ByteArray := strOfNums [m.Kind] ++ numB m.From ++ numB m.To ++ numB m.Term ++ numB m.Index ++ numB m.LogTerm ++ numB m.Commit ++ numB m.Round
theorem hdrB_size (m : MsgD) : (hdrB m).size ≤ 64 := by
  have h0 : (strOfNums [m.Kind]).size = 1 := strOfNums_size _
  have h1 := numB_size m.From
  have h2 := numB_size m.To
  have h3 := numB_size m.Term
  have h4 := numB_size m.Index
  have h5 := numB_size m.LogTerm
  have h6 := numB_size m.Commit
  have h7 := numB_size m.Round
  simp only [hdrB, ByteArray.size_append]; omega
def bytesK (m : MsgD) : Nat → ByteArray
  | 0 => hdrB m ++ okB m.Ok ++ numB (m.Entries.length : Int)
  | k + 1 => bytesK m k ++ entB (m.Entries.getD k default)
def bytesB (m : MsgD) : ByteArray := bytesK m m.Entries.length ++ numbersB m.Members ++ textB m.Snap
theorem bytesK_size {m : MsgD} (ho : MsgOk m) (hz : MsgSz m) : ∀ k, k ≤ m.Entries.length → (bytesK m k).size ≤ 74 + 1073743000 * k
  | 0, _ => by
    have h1 := hdrB_size m
    have h2 := okB_size m.Ok
    have h3 := numB_size (m.Entries.length : Int)
    simp only [bytesK, ByteArray.size_append]; omega
  | k + 1, hk => by
    have h1 := bytesK_size ho hz k (by omega)
    have h2 := entB_size (m.Entries.getD k default)
    have h3 := hz.data k (by omega)
    have h4 := (ho.em k (by omega)).1
    simp only [bytesK, ByteArray.size_append]; omega
set_option maxHeartbeats 4000000 in
theorem ref_Bytes {w : World} {X : List Nat} {m : MsgD} {c_m : List Value} (h_m : msgR.rd X w c_m m) (hok : MsgOk m) (hsz : MsgSz m) : Fnc Try.prog 26 #[.agg c_m.toArray] w (fun v w' => v = .string (bytesB m) ∧ Ext [] w w') := by
  obtain ⟨v1, v3, rfl, hl2, hl4, hk5⟩ := h_m
  obtain ⟨hin6, hin7, hin8, hin9, hin10, hin11, hin12, hin13, hin14⟩ := (show MsgD.InR m from hk5)
  have hin6 := inK_u8 hin6
  have hin7 := inK_i64 hin7
  have hin8 := inK_i64 hin8
  have hin9 := inK_u64 hin9
  have hin10 := inK_u64 hin10
  have hin11 := inK_u64 hin11
  have hin12 := inK_u64 hin12
  have hin13 := inK_u64 hin13
  have hle15 := hl2.le'
  have hle16 := hl4.le'
  have hz0 := numB_size m.From
  have hz1 := numB_size m.To
  have hz2 := numB_size m.Term
  have hz3 := numB_size m.Index
  have hz4 := numB_size m.LogTerm
  have hz5 := numB_size m.Commit
  have hz6 := numB_size m.Round
  have hz8 : (strOfNums [m.Kind]).size = 1 := strOfNums_size _
  have hz9 := numB_size (m.Entries.length : Int)
  have hza := hdrB_size m
  have hzb := okB_size m.Ok
  have hzc := textB_size m.Snap
  have hzd := numbersB_size m.Members
  have hze := hok.fr
  have hzf := hok.to
  have hzg := hok.en
  have hzh := hok.me.1
  have hzi := hsz.snap
  have hzj : (ByteArray.mk #[1]).size = 1 := rfl
  have hzk : (ByteArray.mk #[0]).size = 1 := rfl
  refine Fnc.of_WP (n := 76) Try.func26 rfl Try.ntmps26 (by simp) ?_
  intro E hE
  have h0 : E 0 = .agg #[.int .u8 (m.Kind), .int .i64 (m.From), .int .i64 (m.To), .int .u64 (m.Term), .int .u64 (m.Index), .int .u64 (m.LogTerm), .int .u64 (m.Commit), .int .u64 (m.Round), .bool (m.Ok), v1, v3, .string (m.Snap)] := hE 0 (by simp)
  clear hE
  refine WP.sr ?_
  refine WL.box (x := .tmp 0) (cs := [.int .u8 (m.Kind), .int .i64 (m.From), .int .i64 (m.To), .int .u64 (m.Term), .int .u64 (m.Index), .int .u64 (m.LogTerm), .int .u64 (m.Commit), .int .u64 (m.Round), .bool (m.Ok), v1, v3, .string (m.Snap)]) (Sure.none rfl) rfl rfl h0 rfl (fun b17 w18 hx19 he20 hb21 => ?_)
  have hl22 := (Sl.new (b := b17) (by show (4 : Nat) ≠ 0; decide) hl2 (by omega)).ext (Ext.any hx19)
  have hl23 := (Sl.new (b := b17) (by show (1 : Nat) ≠ 0; decide) hl4 (by omega)).ext (Ext.any hx19)
  have hx24 : Ext [b17] _ _ := (Ext.refl _ _).trans (Ext.any hx19)
  have hge_b17_w : w.heap.size ≤ b17 := by have := Nat.le_refl w.heap.size; omega
  refine WL.m rfl ?_
  refine WL.nil ?_
  refine WP.seq ?_
  refine WP.anyMk [fun v _ => v = (.pointer (some ⟨b17, 0, none⟩) : Value), fun v _ => v = (.int .u8 (m.Kind) : Value), fun v w => ∃ g, v = .slice (some ⟨g, 0, none⟩) 1 1 ∧ Box w g 5 (nrow .u8 [m.Kind] []), fun v _ => v = (.string (strOfNums [m.Kind]) : Value), fun v _ => v = (.pointer (some ⟨b17, 1, none⟩) : Value), fun v _ => v = (.int .i64 (m.From) : Value), fun v _ => v = (.int .u64 (m.From) : Value), fun v _ => v = (.string (numB m.From) : Value), fun v _ => v = (.string ((strOfNums [m.Kind]) ++ (numB m.From)) : Value), fun v _ => v = (.pointer (some ⟨b17, 2, none⟩) : Value), fun v _ => v = (.int .i64 (m.To) : Value), fun v _ => v = (.int .u64 (m.To) : Value), fun v _ => v = (.string (numB m.To) : Value), fun v _ => v = (.string (((strOfNums [m.Kind]) ++ (numB m.From)) ++ (numB m.To)) : Value), fun v _ => v = (.pointer (some ⟨b17, 3, none⟩) : Value), fun v _ => v = (.int .u64 (m.Term) : Value), fun v _ => v = (.string (numB m.Term) : Value), fun v _ => v = (.string ((((strOfNums [m.Kind]) ++ (numB m.From)) ++ (numB m.To)) ++ (numB m.Term)) : Value), fun v _ => v = (.pointer (some ⟨b17, 4, none⟩) : Value), fun v _ => v = (.int .u64 (m.Index) : Value), fun v _ => v = (.string (numB m.Index) : Value), fun v _ => v = (.string (((((strOfNums [m.Kind]) ++ (numB m.From)) ++ (numB m.To)) ++ (numB m.Term)) ++ (numB m.Index)) : Value), fun v _ => v = (.pointer (some ⟨b17, 5, none⟩) : Value), fun v _ => v = (.int .u64 (m.LogTerm) : Value), fun v _ => v = (.string (numB m.LogTerm) : Value), fun v _ => v = (.string ((((((strOfNums [m.Kind]) ++ (numB m.From)) ++ (numB m.To)) ++ (numB m.Term)) ++ (numB m.Index)) ++ (numB m.LogTerm)) : Value), fun v _ => v = (.pointer (some ⟨b17, 6, none⟩) : Value), fun v _ => v = (.int .u64 (m.Commit) : Value), fun v _ => v = (.string (numB m.Commit) : Value), fun v _ => v = (.string (((((((strOfNums [m.Kind]) ++ (numB m.From)) ++ (numB m.To)) ++ (numB m.Term)) ++ (numB m.Index)) ++ (numB m.LogTerm)) ++ (numB m.Commit)) : Value), fun v _ => v = (.pointer (some ⟨b17, 7, none⟩) : Value), fun v _ => v = (.int .u64 (m.Round) : Value), fun v _ => v = (.string (numB m.Round) : Value), fun v _ => v = (.string ((((((((strOfNums [m.Kind]) ++ (numB m.From)) ++ (numB m.To)) ++ (numB m.Term)) ++ (numB m.Index)) ++ (numB m.LogTerm)) ++ (numB m.Commit)) ++ (numB m.Round)) : Value), fun v _ => v = (.string ((((((((strOfNums [m.Kind]) ++ (numB m.From)) ++ (numB m.To)) ++ (numB m.Term)) ++ (numB m.Index)) ++ (numB m.LogTerm)) ++ (numB m.Commit)) ++ (numB m.Round)) : Value)] mo (by kernel_rfl) (by kernel_rfl) (by kernel_rfl) ⟨Stab.eq _, Stab.eq _, fun v w w' hx ⟨g, e, hb⟩ => ⟨g, e, hb.ext hx (by simp)⟩, Stab.eq _, Stab.eq _, Stab.eq _, Stab.eq _, Stab.eq _, Stab.eq _, Stab.eq _, Stab.eq _, Stab.eq _, Stab.eq _, Stab.eq _, Stab.eq _, Stab.eq _, Stab.eq _, Stab.eq _, Stab.eq _, Stab.eq _, Stab.eq _, Stab.eq _, Stab.eq _, Stab.eq _, Stab.eq _, Stab.eq _, Stab.eq _, Stab.eq _, Stab.eq _, Stab.eq _, Stab.eq _, Stab.eq _, Stab.eq _, Stab.eq _, Stab.eq _, trivial⟩ ⟨?_, ?_, ?_, ?_, ?_, ?_, ?_, ?_, ?_, ?_, ?_, ?_, ?_, ?_, ?_, ?_, ?_, ?_, ?_, ?_, ?_, ?_, ?_, ?_, ?_, ?_, ?_, ?_, ?_, ?_, ?_, ?_, ?_, ?_, ?_, trivial⟩ ?_
  · intro E' w' hw hE hp
    exact .inr ⟨(Sure.none rfl), .inl ⟨.pointer (some ⟨b17, 0, none⟩), w', OpV.x (by exact V.fieldAddr (x := .tmp 1) rfl fl32_0 ((hE 1 (by kernel_rfl)).trans rfl)), Ext.refl _ _, rfl⟩⟩
  · intro E' w' hw hE hp
    have p_0 : E' 5 = (.pointer (some ⟨b17, 0, none⟩) : Value) := hp 0 (by kernel_rfl)
    exact .inr ⟨(Sure.none rfl), .inl ⟨.int .u8 (m.Kind), w', OpV.x (by exact V.load (x := .tmp 5) rfl p30 p_0 ((hb21.ext hw (by simp)).cell rfl)), Ext.refl _ _, rfl⟩⟩
  · intro E' w' hw hE hp
    have p_1 : E' 6 = (.int .u8 (m.Kind) : Value) := hp 1 (by kernel_rfl)
    exact .inr ⟨(Sure.none rfl), .inl ⟨_, _, W.X.buildSlice (cs := [.int .u8 (m.Kind)]) rfl u102 e5 (by show 1 * 1 ≤ 1024; decide) (by rw [show (#[(0, Operand.tmp 6)] : Array (Nat × Operand)).map (fun x => (x.1, ev E' x.2)) = #[(0, .int .u8 (m.Kind))] from map1 (by show (0, E' 6) = _; rw [p_1])]; kernel_rfl), Ext.alloc _ _, ⟨_, rfl, Blk.new _ _⟩⟩⟩
  · intro E' w' hw hE hp
    have p_2 : ∃ g, E' 7 = .slice (some ⟨g, 0, none⟩) 1 1 ∧ Box w' g 5 (nrow .u8 [m.Kind] []) := hp 2 (by kernel_rfl)
    obtain ⟨g_, e_, hb_⟩ := p_2
    exact .inr ⟨(Sure.none rfl), .inl ⟨.string (strOfNums [m.Kind]), w', OpV.x (by exact V.bytesStr (x := .tmp 7) rfl u102 u5 u9 e_ hb_ rfl), Ext.refl _ _, rfl⟩⟩
  · intro E' w' hw hE hp
    exact .inr ⟨(Sure.none rfl), .inl ⟨.pointer (some ⟨b17, 1, none⟩), w', OpV.x (by exact V.fieldAddr (x := .tmp 1) rfl fl32_1 ((hE 1 (by kernel_rfl)).trans rfl)), Ext.refl _ _, rfl⟩⟩
  · intro E' w' hw hE hp
    have p_4 : E' 9 = (.pointer (some ⟨b17, 1, none⟩) : Value) := hp 4 (by kernel_rfl)
    exact .inr ⟨(Sure.none rfl), .inl ⟨.int .i64 (m.From), w', OpV.x (by exact V.load (x := .tmp 9) rfl p3 p_4 ((hb21.ext hw (by simp)).cell rfl)), Ext.refl _ _, rfl⟩⟩
  · intro E' w' hw hE hp
    have p_5 : E' 10 = (.int .i64 (m.From) : Value) := hp 5 (by kernel_rfl)
    exact .inr ⟨(Sure.none rfl), .inl ⟨.int .u64 (m.From), w', OpV.x (by exact V.convInt (x := .tmp 10) rfl u3 u23 p_5 (wrap_u64 (by omega) (by omega))), Ext.refl _ _, rfl⟩⟩
  · intro E' w' hw hE hp
    have p_6 : E' 11 = (.int .u64 (m.From) : Value) := hp 6 (by kernel_rfl)
    exact .inr ⟨(Sure.none rfl), .inr ⟨_, _, C.call1 (x := .tmp 11) rfl cl76 p_6, Fnc.mono (ref_Num m.From) (fun v w'' h => ⟨h.2, h.1⟩)⟩⟩
  · intro E' w' hw hE hp
    have p_3 : E' 8 = (.string (strOfNums [m.Kind]) : Value) := hp 3 (by kernel_rfl)
    have p_7 : E' 12 = (.string (numB m.From) : Value) := hp 7 (by kernel_rfl)
    exact .inr ⟨(Sure.none rfl), .inl ⟨.string ((strOfNums [m.Kind]) ++ (numB m.From)), w', OpV.x (by exact V.sadd (x := .tmp 8) (y := .tmp 12) rfl p_3 p_7 (by first | omega | (simp only [ByteArray.size_append]; omega))), Ext.refl _ _, rfl⟩⟩
  · intro E' w' hw hE hp
    exact .inr ⟨(Sure.none rfl), .inl ⟨.pointer (some ⟨b17, 2, none⟩), w', OpV.x (by exact V.fieldAddr (x := .tmp 1) rfl fl32_2 ((hE 1 (by kernel_rfl)).trans rfl)), Ext.refl _ _, rfl⟩⟩
  · intro E' w' hw hE hp
    have p_9 : E' 14 = (.pointer (some ⟨b17, 2, none⟩) : Value) := hp 9 (by kernel_rfl)
    exact .inr ⟨(Sure.none rfl), .inl ⟨.int .i64 (m.To), w', OpV.x (by exact V.load (x := .tmp 14) rfl p3 p_9 ((hb21.ext hw (by simp)).cell rfl)), Ext.refl _ _, rfl⟩⟩
  · intro E' w' hw hE hp
    have p_10 : E' 15 = (.int .i64 (m.To) : Value) := hp 10 (by kernel_rfl)
    exact .inr ⟨(Sure.none rfl), .inl ⟨.int .u64 (m.To), w', OpV.x (by exact V.convInt (x := .tmp 15) rfl u3 u23 p_10 (wrap_u64 (by omega) (by omega))), Ext.refl _ _, rfl⟩⟩
  · intro E' w' hw hE hp
    have p_11 : E' 16 = (.int .u64 (m.To) : Value) := hp 11 (by kernel_rfl)
    exact .inr ⟨(Sure.none rfl), .inr ⟨_, _, C.call1 (x := .tmp 16) rfl cl76 p_11, Fnc.mono (ref_Num m.To) (fun v w'' h => ⟨h.2, h.1⟩)⟩⟩
  · intro E' w' hw hE hp
    have p_8 : E' 13 = (.string ((strOfNums [m.Kind]) ++ (numB m.From)) : Value) := hp 8 (by kernel_rfl)
    have p_12 : E' 17 = (.string (numB m.To) : Value) := hp 12 (by kernel_rfl)
    exact .inr ⟨(Sure.none rfl), .inl ⟨.string (((strOfNums [m.Kind]) ++ (numB m.From)) ++ (numB m.To)), w', OpV.x (by exact V.sadd (x := .tmp 13) (y := .tmp 17) rfl p_8 p_12 (by first | omega | (simp only [ByteArray.size_append]; omega))), Ext.refl _ _, rfl⟩⟩
  · intro E' w' hw hE hp
    exact .inr ⟨(Sure.none rfl), .inl ⟨.pointer (some ⟨b17, 3, none⟩), w', OpV.x (by exact V.fieldAddr (x := .tmp 1) rfl fl32_3 ((hE 1 (by kernel_rfl)).trans rfl)), Ext.refl _ _, rfl⟩⟩
  · intro E' w' hw hE hp
    have p_14 : E' 19 = (.pointer (some ⟨b17, 3, none⟩) : Value) := hp 14 (by kernel_rfl)
    exact .inr ⟨(Sure.none rfl), .inl ⟨.int .u64 (m.Term), w', OpV.x (by exact V.load (x := .tmp 19) rfl p23 p_14 ((hb21.ext hw (by simp)).cell rfl)), Ext.refl _ _, rfl⟩⟩
  · intro E' w' hw hE hp
    have p_15 : E' 20 = (.int .u64 (m.Term) : Value) := hp 15 (by kernel_rfl)
    exact .inr ⟨(Sure.none rfl), .inr ⟨_, _, C.call1 (x := .tmp 20) rfl cl76 p_15, Fnc.mono (ref_Num m.Term) (fun v w'' h => ⟨h.2, h.1⟩)⟩⟩
  · intro E' w' hw hE hp
    have p_13 : E' 18 = (.string (((strOfNums [m.Kind]) ++ (numB m.From)) ++ (numB m.To)) : Value) := hp 13 (by kernel_rfl)
    have p_16 : E' 21 = (.string (numB m.Term) : Value) := hp 16 (by kernel_rfl)
    exact .inr ⟨(Sure.none rfl), .inl ⟨.string ((((strOfNums [m.Kind]) ++ (numB m.From)) ++ (numB m.To)) ++ (numB m.Term)), w', OpV.x (by exact V.sadd (x := .tmp 18) (y := .tmp 21) rfl p_13 p_16 (by first | omega | (simp only [ByteArray.size_append]; omega))), Ext.refl _ _, rfl⟩⟩
  · intro E' w' hw hE hp
    exact .inr ⟨(Sure.none rfl), .inl ⟨.pointer (some ⟨b17, 4, none⟩), w', OpV.x (by exact V.fieldAddr (x := .tmp 1) rfl fl32_4 ((hE 1 (by kernel_rfl)).trans rfl)), Ext.refl _ _, rfl⟩⟩
  · intro E' w' hw hE hp
    have p_18 : E' 23 = (.pointer (some ⟨b17, 4, none⟩) : Value) := hp 18 (by kernel_rfl)
    exact .inr ⟨(Sure.none rfl), .inl ⟨.int .u64 (m.Index), w', OpV.x (by exact V.load (x := .tmp 23) rfl p23 p_18 ((hb21.ext hw (by simp)).cell rfl)), Ext.refl _ _, rfl⟩⟩
  · intro E' w' hw hE hp
    have p_19 : E' 24 = (.int .u64 (m.Index) : Value) := hp 19 (by kernel_rfl)
    exact .inr ⟨(Sure.none rfl), .inr ⟨_, _, C.call1 (x := .tmp 24) rfl cl76 p_19, Fnc.mono (ref_Num m.Index) (fun v w'' h => ⟨h.2, h.1⟩)⟩⟩
  · intro E' w' hw hE hp
    have p_17 : E' 22 = (.string ((((strOfNums [m.Kind]) ++ (numB m.From)) ++ (numB m.To)) ++ (numB m.Term)) : Value) := hp 17 (by kernel_rfl)
    have p_20 : E' 25 = (.string (numB m.Index) : Value) := hp 20 (by kernel_rfl)
    exact .inr ⟨(Sure.none rfl), .inl ⟨.string (((((strOfNums [m.Kind]) ++ (numB m.From)) ++ (numB m.To)) ++ (numB m.Term)) ++ (numB m.Index)), w', OpV.x (by exact V.sadd (x := .tmp 22) (y := .tmp 25) rfl p_17 p_20 (by first | omega | (simp only [ByteArray.size_append]; omega))), Ext.refl _ _, rfl⟩⟩
  · intro E' w' hw hE hp
    exact .inr ⟨(Sure.none rfl), .inl ⟨.pointer (some ⟨b17, 5, none⟩), w', OpV.x (by exact V.fieldAddr (x := .tmp 1) rfl fl32_5 ((hE 1 (by kernel_rfl)).trans rfl)), Ext.refl _ _, rfl⟩⟩
  · intro E' w' hw hE hp
    have p_22 : E' 27 = (.pointer (some ⟨b17, 5, none⟩) : Value) := hp 22 (by kernel_rfl)
    exact .inr ⟨(Sure.none rfl), .inl ⟨.int .u64 (m.LogTerm), w', OpV.x (by exact V.load (x := .tmp 27) rfl p23 p_22 ((hb21.ext hw (by simp)).cell rfl)), Ext.refl _ _, rfl⟩⟩
  · intro E' w' hw hE hp
    have p_23 : E' 28 = (.int .u64 (m.LogTerm) : Value) := hp 23 (by kernel_rfl)
    exact .inr ⟨(Sure.none rfl), .inr ⟨_, _, C.call1 (x := .tmp 28) rfl cl76 p_23, Fnc.mono (ref_Num m.LogTerm) (fun v w'' h => ⟨h.2, h.1⟩)⟩⟩
  · intro E' w' hw hE hp
    have p_21 : E' 26 = (.string (((((strOfNums [m.Kind]) ++ (numB m.From)) ++ (numB m.To)) ++ (numB m.Term)) ++ (numB m.Index)) : Value) := hp 21 (by kernel_rfl)
    have p_24 : E' 29 = (.string (numB m.LogTerm) : Value) := hp 24 (by kernel_rfl)
    exact .inr ⟨(Sure.none rfl), .inl ⟨.string ((((((strOfNums [m.Kind]) ++ (numB m.From)) ++ (numB m.To)) ++ (numB m.Term)) ++ (numB m.Index)) ++ (numB m.LogTerm)), w', OpV.x (by exact V.sadd (x := .tmp 26) (y := .tmp 29) rfl p_21 p_24 (by first | omega | (simp only [ByteArray.size_append]; omega))), Ext.refl _ _, rfl⟩⟩
  · intro E' w' hw hE hp
    exact .inr ⟨(Sure.none rfl), .inl ⟨.pointer (some ⟨b17, 6, none⟩), w', OpV.x (by exact V.fieldAddr (x := .tmp 1) rfl fl32_6 ((hE 1 (by kernel_rfl)).trans rfl)), Ext.refl _ _, rfl⟩⟩
  · intro E' w' hw hE hp
    have p_26 : E' 31 = (.pointer (some ⟨b17, 6, none⟩) : Value) := hp 26 (by kernel_rfl)
    exact .inr ⟨(Sure.none rfl), .inl ⟨.int .u64 (m.Commit), w', OpV.x (by exact V.load (x := .tmp 31) rfl p23 p_26 ((hb21.ext hw (by simp)).cell rfl)), Ext.refl _ _, rfl⟩⟩
  · intro E' w' hw hE hp
    have p_27 : E' 32 = (.int .u64 (m.Commit) : Value) := hp 27 (by kernel_rfl)
    exact .inr ⟨(Sure.none rfl), .inr ⟨_, _, C.call1 (x := .tmp 32) rfl cl76 p_27, Fnc.mono (ref_Num m.Commit) (fun v w'' h => ⟨h.2, h.1⟩)⟩⟩
  · intro E' w' hw hE hp
    have p_25 : E' 30 = (.string ((((((strOfNums [m.Kind]) ++ (numB m.From)) ++ (numB m.To)) ++ (numB m.Term)) ++ (numB m.Index)) ++ (numB m.LogTerm)) : Value) := hp 25 (by kernel_rfl)
    have p_28 : E' 33 = (.string (numB m.Commit) : Value) := hp 28 (by kernel_rfl)
    exact .inr ⟨(Sure.none rfl), .inl ⟨.string (((((((strOfNums [m.Kind]) ++ (numB m.From)) ++ (numB m.To)) ++ (numB m.Term)) ++ (numB m.Index)) ++ (numB m.LogTerm)) ++ (numB m.Commit)), w', OpV.x (by exact V.sadd (x := .tmp 30) (y := .tmp 33) rfl p_25 p_28 (by first | omega | (simp only [ByteArray.size_append]; omega))), Ext.refl _ _, rfl⟩⟩
  · intro E' w' hw hE hp
    exact .inr ⟨(Sure.none rfl), .inl ⟨.pointer (some ⟨b17, 7, none⟩), w', OpV.x (by exact V.fieldAddr (x := .tmp 1) rfl fl32_7 ((hE 1 (by kernel_rfl)).trans rfl)), Ext.refl _ _, rfl⟩⟩
  · intro E' w' hw hE hp
    have p_30 : E' 35 = (.pointer (some ⟨b17, 7, none⟩) : Value) := hp 30 (by kernel_rfl)
    exact .inr ⟨(Sure.none rfl), .inl ⟨.int .u64 (m.Round), w', OpV.x (by exact V.load (x := .tmp 35) rfl p23 p_30 ((hb21.ext hw (by simp)).cell rfl)), Ext.refl _ _, rfl⟩⟩
  · intro E' w' hw hE hp
    have p_31 : E' 36 = (.int .u64 (m.Round) : Value) := hp 31 (by kernel_rfl)
    exact .inr ⟨(Sure.none rfl), .inr ⟨_, _, C.call1 (x := .tmp 36) rfl cl76 p_31, Fnc.mono (ref_Num m.Round) (fun v w'' h => ⟨h.2, h.1⟩)⟩⟩
  · intro E' w' hw hE hp
    have p_29 : E' 34 = (.string (((((((strOfNums [m.Kind]) ++ (numB m.From)) ++ (numB m.To)) ++ (numB m.Term)) ++ (numB m.Index)) ++ (numB m.LogTerm)) ++ (numB m.Commit)) : Value) := hp 29 (by kernel_rfl)
    have p_32 : E' 37 = (.string (numB m.Round) : Value) := hp 32 (by kernel_rfl)
    exact .inr ⟨(Sure.none rfl), .inl ⟨.string ((((((((strOfNums [m.Kind]) ++ (numB m.From)) ++ (numB m.To)) ++ (numB m.Term)) ++ (numB m.Index)) ++ (numB m.LogTerm)) ++ (numB m.Commit)) ++ (numB m.Round)), w', OpV.x (by exact V.sadd (x := .tmp 34) (y := .tmp 37) rfl p_29 p_32 (by first | omega | (simp only [ByteArray.size_append]; omega))), Ext.refl _ _, rfl⟩⟩
  · intro E' w' hw hE hp
    have p_33 : E' 38 = (.string ((((((((strOfNums [m.Kind]) ++ (numB m.From)) ++ (numB m.To)) ++ (numB m.Term)) ++ (numB m.Index)) ++ (numB m.LogTerm)) ++ (numB m.Commit)) ++ (numB m.Round)) : Value) := hp 33 (by kernel_rfl)
    exact .inr ⟨(Sure.none rfl), .inl ⟨.string ((((((((strOfNums [m.Kind]) ++ (numB m.From)) ++ (numB m.To)) ++ (numB m.Term)) ++ (numB m.Index)) ++ (numB m.LogTerm)) ++ (numB m.Commit)) ++ (numB m.Round)), w', OpV.x (by exact V.assign (x := .tmp 38) rfl p_33), Ext.refl _ _, rfl⟩⟩
  · intro E25 w26 hw27 hE28 hp29
    have hx30 : Ext [b17] w w26 := hx24.trans (Ext.any (Y := [b17]) hw27)
    have hx31 : Ext [b17] w18 w26 := (Ext.any (Y := [b17]) hw27)
    have hb32 := hb21.ext hw27 (by simp)
    have hp33 : E25 3 = (.string ((((((((strOfNums [m.Kind]) ++ (numB m.From)) ++ (numB m.To)) ++ (numB m.Term)) ++ (numB m.Index)) ++ (numB m.LogTerm)) ++ (numB m.Commit)) ++ (numB m.Round)) : Value) := hp29 34 (of_decide_eq_true (by kernel_rfl))
    have hsz36 : w.heap.size ≤ w26.heap.size := hx30.size
    refine WP.seq_cut (fun E34 w35 => E34 0 = .agg #[.int .u8 (m.Kind), .int .i64 (m.From), .int .i64 (m.To), .int .u64 (m.Term), .int .u64 (m.Index), .int .u64 (m.LogTerm), .int .u64 (m.Commit), .int .u64 (m.Round), .bool (m.Ok), v1, v3, .string (m.Snap)] ∧ E34 1 = .pointer (some ⟨b17, 0, none⟩) ∧ E34 3 = .string (hdrB m ++ okB m.Ok) ∧ Ext [b17] w26 w35 ∧ Box w35 b17 32 [.int .u8 (m.Kind), .int .i64 (m.From), .int .i64 (m.To), .int .u64 (m.Term), .int .u64 (m.Index), .int .u64 (m.LogTerm), .int .u64 (m.Commit), .int .u64 (m.Round), .bool (m.Ok), v1, v3, .string (m.Snap)]) ?_ ?_
    · refine WP.sr ?_
      refine WL.f (x := .tmp 1) (.bool (m.Ok)) fl32_8 ((hE28 1 (by kernel_rfl)).trans rfl) p4 (hb32.cell rfl) ?_
      refine WL.nil ?_
      refine WP.cond (t := m.Ok) rfl (fun hc37 => ?_) (fun hc37 => ?_)
      · refine WP.region ?_
        refine WL.m rfl ?_
        refine WL.z (.string (((((((((strOfNums [m.Kind]) ++ (numB m.From)) ++ (numB m.To)) ++ (numB m.Term)) ++ (numB m.Index)) ++ (numB m.LogTerm)) ++ (numB m.Commit)) ++ (numB m.Round)) ++ (ByteArray.mk #[1]))) (V.sadd (x := .tmp 41) rfl hp33 rfl (by first | omega | (simp only [ByteArray.size_append]; omega))) ?_
        refine WL.m rfl ?_
        refine WL.nil ?_
        exact ⟨((hE28 0 (by kernel_rfl)).trans h0), ((hE28 1 (by kernel_rfl)).trans rfl), (str_eq (by first | (rw [okB, if_pos (by assumption)]; rfl) | (rw [okB, if_neg (by simp [*])]; rfl))), (Ext.refl _ _), hb32⟩
      refine WP.region ?_
      refine WL.m rfl ?_
      refine WL.z (.string (((((((((strOfNums [m.Kind]) ++ (numB m.From)) ++ (numB m.To)) ++ (numB m.Term)) ++ (numB m.Index)) ++ (numB m.LogTerm)) ++ (numB m.Commit)) ++ (numB m.Round)) ++ (ByteArray.mk #[0]))) (V.sadd (x := .tmp 43) rfl hp33 rfl (by first | omega | (simp only [ByteArray.size_append]; omega))) ?_
      refine WL.m rfl ?_
      refine WL.nil ?_
      exact ⟨((hE28 0 (by kernel_rfl)).trans h0), ((hE28 1 (by kernel_rfl)).trans rfl), (str_eq (by first | (rw [okB, if_pos (by assumption)]; rfl) | (rw [okB, if_neg (by simp [*])]; rfl))), (Ext.refl _ _), hb32⟩
    rintro E34 w35 ⟨h0_38, h1_38, h3_38, hx38, hbb17_38⟩
    have hx39 : Ext [b17] w w35 := hx30.trans hx38
    have hx40 : Ext [b17] w18 w35 := hx31.trans hx38
    have hx41 : Ext [b17] w26 w35 := hx38
    refine WP.sr ?_
    refine WL.m rfl ?_
    refine WL.f (x := .tmp 1) (v1) fl32_9 h1_38 p25 (hbb17_38.cell rfl) ?_
    obtain ⟨a42, c43, hv44⟩ := hl22.shape
    refine WL.z (.int .i64 (((m.Entries).length : Int))) (V.lenSlice rfl rfl u25 (Eq.trans (b := v1) rfl hv44)) ?_
    refine WL.z (.int .u64 (((m.Entries).length : Int))) (V.convInt rfl u3 u23 rfl (wrap_u64 (by omega) (by omega))) ?_
    refine WL.c (Sure.none rfl) rfl (C.call1 rfl cl76 rfl) (Fnc.mono (ref_Num ((m.Entries).length : Int)) ?_)
    rintro _ w45 ⟨rfl, hx46⟩
    have hx47 : Ext [b17] w w45 := hx39.trans (Ext.any (Y := [b17]) hx46)
    have hx48 : Ext [b17] w18 w45 := hx40.trans (Ext.any (Y := [b17]) hx46)
    have hx49 : Ext [b17] w26 w45 := hx41.trans (Ext.any (Y := [b17]) hx46)
    have hx50 : Ext [b17] w35 w45 := (Ext.any (Y := [b17]) hx46)
    have hb51 := hbb17_38.ext hx46 (by simp)
    refine WL.z (.string ((hdrB m ++ okB m.Ok) ++ (numB ((m.Entries).length : Int)))) (V.sadd (x := .tmp 45) rfl h3_38 rfl (by first | omega | (simp only [ByteArray.size_append]; omega))) ?_
    refine WL.m rfl ?_
    refine WL.nil ?_
    refine WP.seq ?_
    refine WP.sr ?_
    refine WL.m rfl ?_
    refine WL.nil ?_
    refine WP.block ?_
    have hsz54 : w.heap.size ≤ w45.heap.size := hx47.size
    have hsz55 : w18.heap.size ≤ w45.heap.size := hx48.size
    have hsz56 : w26.heap.size ≤ w45.heap.size := hx49.size
    have hsz57 : w35.heap.size ≤ w45.heap.size := hx50.size
    refine WP.loop (σ := Nat) (fun k E52 w53 => E52 0 = .agg #[.int .u8 (m.Kind), .int .i64 (m.From), .int .i64 (m.To), .int .u64 (m.Term), .int .u64 (m.Index), .int .u64 (m.LogTerm), .int .u64 (m.Commit), .int .u64 (m.Round), .bool (m.Ok), v1, v3, .string (m.Snap)] ∧ E52 1 = .pointer (some ⟨b17, 0, none⟩) ∧ E52 3 = .string (bytesK m k) ∧ E52 4 = .int .i64 ((k : Int)) ∧ Ext [b17] w45 w53 ∧ Box w53 b17 32 [.int .u8 (m.Kind), .int .i64 (m.From), .int .i64 (m.To), .int .u64 (m.Term), .int .u64 (m.Index), .int .u64 (m.LogTerm), .int .u64 (m.Commit), .int .u64 (m.Round), .bool (m.Ok), v1, v3, .string (m.Snap)] ∧ k ≤ m.Entries.length) (fun k => m.Entries.length - k) (0) ?_ ?_
    · exact ⟨h0_38, h1_38, (str_eq (by rfl)), (int_eq (by omega)), Ext.refl _ _, hb51, (by omega)⟩
    rintro k E52 w53 ⟨h0_58, h1_58, h3_58, h4_58, hx58, hbb17_58, hi0_58⟩
    have hx59 : Ext [b17] w w53 := hx47.trans hx58
    have hx60 : Ext [b17] w18 w53 := hx48.trans hx58
    have hx63 : Ext [b17] w45 w53 := hx58
    have hbk := bytesK_size hok hsz k
    have hek := entB_size (m.Entries.getD k default)
    have hdk := hsz.data k
    have hlk := fun h => (hok.em k h).1
    refine WP.seq ?_
    refine WP.sr ?_
    refine WL.m rfl ?_
    refine WL.f (x := .tmp 1) (v1) fl32_9 h1_58 p25 (hbb17_58.cell rfl) ?_
    refine WL.z (.int .i64 (((m.Entries).length : Int))) (V.lenSlice rfl rfl u25 (Eq.trans (b := v1) rfl hv44)) ?_
    refine WL.z (.bool (decide ((k : Int) < ((m.Entries).length : Int)))) (V.cmp (x := .tmp 52) rfl h4_58 rfl rfl) ?_
    refine WL.nil ?_
    refine WP.condp (t := (k : Int) < ((m.Entries).length : Int)) rfl (fun hc64 => ?_) (fun hc64 => ?_)
    · refine WP.skip ?_
      refine WP.seq ?_
      refine WP.block ?_
      refine WP.region ?_
      refine WL.m rfl ?_
      refine WL.f (x := .tmp 1) (v1) fl32_9 h1_58 p25 (hbb17_58.cell rfl) ?_
      refine WL.m rfl ?_
      have hlt73 : k < (m.Entries).length := by first | omega | (simp at *; omega)
      obtain ⟨b65, k66, c67, cs68, hv69, hnb70, hr71, hat72⟩ := (hl22.ext (Ext.pre hx60)).get (i := k) (x := (m.Entries.getD k default)) (getD_some hlt73 _)
      obtain ⟨v74, rfl, hl75, hk76⟩ := hr71
      obtain ⟨hin77, hin78, hin79⟩ := (show EntryD.InR (m.Entries.getD k default) from hk76)
      have hin77 := inK_u64 hin77
      have hin78 := inK_u8 hin78
      have hle80 := hl75.le'
      refine WL.z (.pointer (some ⟨b65, k66 + k * 4, none⟩)) (V.indexAddr (i := .tmp 62) (m := k) (j := (k : Int)) rfl u25 s90 (Eq.trans (b := v1) rfl hv69) h4_58 rfl hlt73) ?_
      refine WL.z (.agg #[.int .u64 ((m.Entries.getD k default).Term), .int .u8 ((m.Entries.getD k default).Kind), .string ((m.Entries.getD k default).Data), v74]) (V.loadAgg (cs := [.int .u64 ((m.Entries.getD k default).Term), .int .u8 ((m.Entries.getD k default).Kind), .string ((m.Entries.getD k default).Data), v74]) rfl a90 rfl hat72 rfl) ?_
      refine WL.c (Sure.none rfl) rfl (C.call1 rfl cl77 rfl) (Fnc.mono (ref_EntryBytes (e := (m.Entries.getD k default)) ⟨v74, rfl, hl75, hk76⟩ (by omega) (by omega) (by first | assumption | exact fun j hj => (hok.me.2 j hj).1 | exact fun j hj => ((hok.em k (by omega)).2 j hj).1)) ?_)
      rintro _ w81 ⟨rfl, hx82⟩
      have hx87 : Ext [b17] w45 w81 := hx63.trans (Ext.any (Y := [b17]) hx82)
      have hb89 := hbb17_58.ext hx82 (by simp)
      refine WL.z (.string ((bytesK m k) ++ (entB (m.Entries.getD k default)))) (V.sadd (x := .tmp 59) rfl h3_58 rfl (by first | omega | (simp only [ByteArray.size_append]; omega))) ?_
      refine WL.m rfl ?_
      refine WL.nil ?_
      refine WP.region ?_
      refine WL.m rfl ?_
      refine WL.z (.int .i64 ((k : Int) + 1)) (V.arith (x := .tmp 57) rfl h4_58 rfl rfl (wrap_i64 (by omega) (by omega))) ?_
      refine WL.m rfl ?_
      refine WL.nil ?_
      exact ⟨k + 1, ⟨h0_58, h1_58, (str_eq (by rfl)), (int_eq (by omega)), hx87, hb89, (by omega)⟩, (by omega)⟩
    refine WP.exit ?_
    refine WP.seq ?_
    refine WP.anyMake [fun v _ => v = (.string (bytesK m k) : Value), fun v _ => v = (.pointer (some ⟨b17, 10, none⟩) : Value), fun v _ => v = (v3 : Value), fun v _ => v = (.string (numbersB m.Members) : Value), fun v _ => v = (.string ((bytesK m k) ++ (numbersB m.Members)) : Value), fun v _ => v = (.pointer (some ⟨b17, 11, none⟩) : Value), fun v _ => v = (.string (m.Snap) : Value), fun v _ => v = (.string (textB m.Snap) : Value), fun v _ => v = (.string (((bytesK m k) ++ (numbersB m.Members)) ++ (textB m.Snap)) : Value), fun v _ => v = (.string (((bytesK m k) ++ (numbersB m.Members)) ++ (textB m.Snap)) : Value)] mo (by kernel_rfl) (by kernel_rfl) (by kernel_rfl) ⟨Stab.eq _, Stab.eq _, Stab.eq _, Stab.eq _, Stab.eq _, Stab.eq _, Stab.eq _, Stab.eq _, Stab.eq _, Stab.eq _, trivial⟩ ⟨?_, ?_, ?_, ?_, ?_, ?_, ?_, ?_, ?_, ?_, trivial⟩ ?_
    · intro E' w' hw hE hp
      exact .inr ⟨(Sure.none rfl), .inl ⟨.string (bytesK m k), V.move (x := .tmp 3) rfl ((hE 3 (by kernel_rfl)).trans h3_58), rfl⟩⟩
    · intro E' w' hw hE hp
      exact .inr ⟨(Sure.none rfl), .inl ⟨.pointer (some ⟨b17, 10, none⟩), V.fieldAddr (x := .tmp 1) rfl fl32_10 ((hE 1 (by kernel_rfl)).trans h1_58), rfl⟩⟩
    · intro E' w' hw hE hp
      have p_1 : E' 68 = (.pointer (some ⟨b17, 10, none⟩) : Value) := hp 1 (by kernel_rfl)
      exact .inr ⟨(Sure.none rfl), .inl ⟨v3, V.load (x := .tmp 68) rfl p22 p_1 ((hbb17_58.ext hw (by simp)).cell rfl), rfl⟩⟩
    · intro E' w' hw hE hp
      have p_2 : E' 69 = (v3 : Value) := hp 2 (by kernel_rfl)
      exact .inr ⟨(Sure.none rfl), .inr ⟨_, _, C.call1 (x := .tmp 69) rfl cl78 p_2, Fnc.mono (ref_numbers ((hl23.ext (Ext.pre hx60)).ext (Ext.any hw)) (by omega) (by first | assumption | exact fun j hj => (hok.me.2 j hj).1 | exact fun j hj => ((hok.em k (by omega)).2 j hj).1)) (fun v w'' h => ⟨h.2, h.1⟩)⟩⟩
    · intro E' w' hw hE hp
      have p_0 : E' 67 = (.string (bytesK m k) : Value) := hp 0 (by kernel_rfl)
      have p_3 : E' 70 = (.string (numbersB m.Members) : Value) := hp 3 (by kernel_rfl)
      exact .inr ⟨(Sure.none rfl), .inl ⟨.string ((bytesK m k) ++ (numbersB m.Members)), V.sadd (x := .tmp 67) (y := .tmp 70) rfl p_0 p_3 (by first | omega | (simp only [ByteArray.size_append]; omega)), rfl⟩⟩
    · intro E' w' hw hE hp
      exact .inr ⟨(Sure.none rfl), .inl ⟨.pointer (some ⟨b17, 11, none⟩), V.fieldAddr (x := .tmp 1) rfl fl32_11 ((hE 1 (by kernel_rfl)).trans h1_58), rfl⟩⟩
    · intro E' w' hw hE hp
      have p_5 : E' 72 = (.pointer (some ⟨b17, 11, none⟩) : Value) := hp 5 (by kernel_rfl)
      exact .inr ⟨(Sure.none rfl), .inl ⟨.string (m.Snap), V.load (x := .tmp 72) rfl p9 p_5 ((hbb17_58.ext hw (by simp)).cell rfl), rfl⟩⟩
    · intro E' w' hw hE hp
      have p_6 : E' 73 = (.string (m.Snap) : Value) := hp 6 (by kernel_rfl)
      exact .inr ⟨(Sure.none rfl), .inr ⟨_, _, C.call1 (x := .tmp 73) rfl cl79 p_6, Fnc.mono (ref_Text m.Snap (by omega)) (fun v w'' h => ⟨h.2, h.1⟩)⟩⟩
    · intro E' w' hw hE hp
      have p_4 : E' 71 = (.string ((bytesK m k) ++ (numbersB m.Members)) : Value) := hp 4 (by kernel_rfl)
      have p_7 : E' 74 = (.string (textB m.Snap) : Value) := hp 7 (by kernel_rfl)
      exact .inr ⟨(Sure.none rfl), .inl ⟨.string (((bytesK m k) ++ (numbersB m.Members)) ++ (textB m.Snap)), V.sadd (x := .tmp 71) (y := .tmp 74) rfl p_4 p_7 (by first | omega | (simp only [ByteArray.size_append]; omega)), rfl⟩⟩
    · intro E' w' hw hE hp
      have p_8 : E' 75 = (.string (((bytesK m k) ++ (numbersB m.Members)) ++ (textB m.Snap)) : Value) := hp 8 (by kernel_rfl)
      exact .inr ⟨(Sure.none rfl), .inl ⟨.string (((bytesK m k) ++ (numbersB m.Members)) ++ (textB m.Snap)), V.assign (x := .tmp 75) rfl p_8, rfl⟩⟩
    · intro E90 w91 hw92 hE93 hp94
      have hx95 : Ext [b17] w w91 := hx59.trans (Ext.any (Y := [b17]) hw92)
      have hp102 : E90 2 = (.string (((bytesK m k) ++ (numbersB m.Members)) ++ (textB m.Snap)) : Value) := hp94 9 (of_decide_eq_true (by kernel_rfl))
      refine WP.ret ?_
      refine resOf.c1 rfl (v := .string (((bytesK m k) ++ (numbersB m.Members)) ++ (textB m.Snap))) hp102 ?_
      exact ⟨(str_eq (by (have hke : k = m.Entries.length := (by omega)); subst hke; rfl)), ((hx95).done (geCons hge_b17_w geNil))⟩
end Go.Proofs.Ytbpamkbegggeoaa.X1
namespace Go.Proofs.Ytbpamkbegggeoaa.X1
open T W Go.RowKit
set_option maxRecDepth 100000
set_option maxHeartbeats 400000
theorem u101 : Try.prog.underlying 101 = some (.pointer 104) := by kernel_rfl
theorem u138 : Try.prog.underlying 138 = some (.pointer 5) := by kernel_rfl
theorem s101 : Sized Try.prog 101 1 := by unfold Sized; kernel_rfl
theorem s102 : Sized Try.prog 102 1 := by unfold Sized; kernel_rfl
theorem s104 : Sized Try.prog 104 2 := by unfold Sized; kernel_rfl
theorem p101 : Plain Try.prog 101 := ⟨.pointer 104, by kernel_rfl, by intros; simp, by intros; simp⟩
theorem p102 : Plain Try.prog 102 := ⟨.slice 5, by kernel_rfl, by intros; simp, by intros; simp⟩
theorem fl104_0 : FieldOf Try.prog 104 0 101 0 1 := fld (by kernel_rfl)
theorem fl104_1 : FieldOf Try.prog 104 1 102 1 1 := fld (by kernel_rfl)
theorem cl96 : Callable Try.prog 96 := ⟨Try.f96, Try.func96, by kernel_rfl, rfl⟩
theorem u155 : Try.prog.underlying 155 = some .unsafePointer := by kernel_rfl
theorem sb_copyCheck {w : World} {b B : Nat} {X : List Nat} {s : ByteArray} (h : Bld 104 5 B X w b s) : Fnc Try.prog 96 #[.pointer (some ⟨b, 0, none⟩)] w (fun v w' => v = .tuple #[] ∧ Bld 104 5 B X w' b s ∧ Ext [b] w w') := by
  obtain ⟨hX, p, v, hp, hbx, ho, h1, hg⟩ := h
  refine Fnc.of_WP (n := 20) Try.func96 rfl Try.ntmps96 (by simp) ?_
  intro E hE
  have h0 : E 0 = .pointer (some ⟨b, 0, none⟩) := hE 0 (by simp)
  clear hE
  refine WP.sr ?_
  refine WL.z (.pointer (some ⟨b, 0, none⟩)) (V.move (x := .tmp 0) rfl h0) ?_
  refine WL.z (.pointer (some ⟨b, 0, none⟩)) (V.nilCheck rfl rfl) ?_
  refine WL.z (.pointer (some ⟨b, 0, none⟩)) (V.fieldAddr rfl fl104_0 rfl) ?_
  refine WL.z p (V.load rfl p101 rfl (hbx.cell rfl)) ?_
  rcases hp with rfl | rfl
  · refine WL.z (.bool true) (V.eqlNil rfl u101 s104 rfl rfl) ?_
    refine WL.nil ?_
    refine WP.cond_true rfl ?_
    refine WP.region ?_
    refine WL.z (.pointer (some ⟨b, 0, none⟩)) (V.move (x := .tmp 0) rfl h0) ?_
    refine WL.z (.pointer (some ⟨b, 0, none⟩)) (V.move (x := .tmp 0) rfl h0) ?_
    refine WL.z (.pointer (some ⟨b, 0, none⟩)) (V.toUnsafe rfl u101 u155 s104 (by decide) rfl hbx (by show (0 : Nat) < 2; decide)) ?_
    refine WL.z (.pointer (some ⟨b, 0, none⟩)) (V.noEscape rfl Try.func110 (by kernel_rfl) (by kernel_rfl) (by kernel_rfl) (by kernel_rfl) rfl) ?_
    refine WL.z (.pointer (some ⟨b, 0, none⟩)) (V.fromUnsafe rfl u155 u101 s104 rfl hbx (by kernel_rfl)) ?_
    refine WL.z (.pointer (some ⟨b, 0, none⟩)) (V.nilCheck rfl rfl) ?_
    refine WL.z (.pointer (some ⟨b, 0, none⟩)) (V.fieldAddr rfl fl104_0 rfl) ?_
    refine WL.store (Sure.none rfl) rfl rfl s101 rfl rfl rfl hbx (by show (0 : Nat) < 2; decide) (fun w2 hx2 hb2 => ?_)
    refine WL.nil ?_
    refine resOf.none rfl ?_
    exact ⟨rfl, ⟨fun x hm => Nat.lt_of_lt_of_le (hX x hm) hx2.size, _, v, .inr rfl, hb2, ownsRow_ext ho hx2 (fun g hv hm => (hg g hv).1 (List.mem_singleton.1 hm)), h1, hg⟩, hx2⟩
  · refine WL.z (.bool false) (V.eqlSome rfl u101 s104 rfl rfl) ?_
    refine WL.nil ?_
    refine WP.cond_false rfl ?_
    refine WP.sr ?_
    refine WL.z (.pointer (some ⟨b, 0, none⟩)) (V.move (x := .tmp 0) rfl h0) ?_
    refine WL.z (.pointer (some ⟨b, 0, none⟩)) (V.nilCheck rfl rfl) ?_
    refine WL.z (.pointer (some ⟨b, 0, none⟩)) (V.fieldAddr rfl fl104_0 rfl) ?_
    refine WL.z (.pointer (some ⟨b, 0, none⟩)) (V.load rfl p101 rfl (hbx.cell rfl)) ?_
    refine WL.z (.pointer (some ⟨b, 0, none⟩)) (V.move (x := .tmp 0) rfl h0) ?_
    refine WL.z (.bool false) (V.neqSame rfl u101 s104 rfl rfl) ?_
    refine WL.nil ?_
    refine WP.cond_false rfl ?_
    refine WP.skip ?_
    refine resOf.none rfl ?_
    exact ⟨rfl, ⟨hX, _, v, .inr rfl, hbx, ho, h1, hg⟩, Ext.refl _ _⟩
theorem strCells_one {c : Int} (hc : 0 ≤ c ∧ c ≤ 255) : Lib.strCells (strOfNums [c]) = [.int .u8 c] := by
  have h1 : (UInt8.ofNat c.toNat).toNat = c.toNat := by simp; omega
  have h2 : Lib.strCells (strOfNums [c]) = [.int .u8 ((UInt8.ofNat c.toNat).toNat : Int)] := rfl
  rw [h2, h1, Int.toNat_of_nonneg hc.1]
theorem sb_WriteByte {w : World} {b B : Nat} {X : List Nat} {s : ByteArray} (h : Bld 104 5 B X w b s) (c : Int) (hc : 0 ≤ c ∧ c ≤ 255) (hs : s.size ≤ 70368744177664) (hB : B ≤ w.heap.size) :
    Fnc Try.prog 60 #[.pointer (some ⟨b, 0, none⟩), .int .u8 c] w (fun v w' => v = .nilIface ∧ Bld 104 5 B X w' b (s ++ strOfNums [c]) ∧ ∃ Y, Ext Y w w' ∧ Hid b B X Y) := by
  refine Fnc.of_WP (n := 17) Try.func60 rfl Try.ntmps60 (by simp) ?_
  intro E hE
  have h0 : E 0 = .pointer (some ⟨b, 0, none⟩) := hE 0 (by simp)
  have h1 : E 1 = .int .u8 c := hE 1 (by simp)
  clear hE
  refine WP.sr ?_
  refine WL.z .nilIface (V.assign rfl rfl) ?_
  refine WL.nil ?_
  refine WP.sr ?_
  refine WL.z (.pointer (some ⟨b, 0, none⟩)) (V.move (x := .tmp 0) rfl h0) ?_
  refine WL.c (Sure.none rfl) rfl (C.call1 (x := .tmp 5) rfl cl96 rfl) (Fnc.mono (sb_copyCheck h) ?_)
  rintro _ w2 ⟨rfl, ⟨hX, p, v, hp, hbx, ho, ho1, hg⟩, hx2⟩
  refine WL.nil ?_
  refine WP.sr ?_
  refine WL.z (.pointer (some ⟨b, 0, none⟩)) (V.move (x := .tmp 0) rfl h0) ?_
  refine WL.z (.pointer (some ⟨b, 0, none⟩)) (V.move (x := .tmp 0) rfl h0) ?_
  refine WL.z (.pointer (some ⟨b, 0, none⟩)) (V.nilCheck rfl rfl) ?_
  refine WL.z (.pointer (some ⟨b, 1, none⟩)) (V.fieldAddr rfl fl104_1 rfl) ?_
  refine WL.z v (V.load rfl p102 rfl (hbx.cell rfl)) ?_
  refine WL.z (.int .u8 c) (V.move (x := .tmp 1) rfl h1) ?_
  refine WL.buildSlice (cs := [.int .u8 c]) (Sure.none rfl) rfl rfl u102 e5 (by show 1 * 1 ≤ 1024; decide) (by kernel_rfl) (fun w3 hx3 hb3 => ?_)
  have hbx3 := hbx.ext hx3 (by simp)
  have ho3 := ownsRow_ext ho hx3 (fun g _ hm => by cases hm)
  have hB2 := hx2.size
  have hB3 := hx3.size
  refine WL.appendOne (x := .tmp 11) (y := .tmp 13) (v := v) (c := .int .u8 c) (Sure.none rfl) rfl rfl u102 e5 rfl rfl hb3 rfl ho3 (by omega) (by omega) (fun v' w4 ho4 hgr hfr hone => ?_)
  have hx4 := grown_ext hgr
  have hbx4 := hbx3.ext hx4 (not_rowOf fun g hv => (hg g hv).1)
  refine WL.z (.pointer (some ⟨b, 0, none⟩)) (V.nilCheck rfl rfl) ?_
  refine WL.z (.pointer (some ⟨b, 1, none⟩)) (V.fieldAddr rfl fl104_1 rfl) ?_
  refine WL.store (Sure.none rfl) rfl rfl s102 rfl rfl hone hbx4 (by show (1 : Nat) < 2; decide) (fun w5 hx5 hb5 => ?_)
  replace hb5 : Box w5 b 104 [p, v'] := hb5
  refine WL.nil ?_
  refine WP.sr ?_
  refine WL.z .nilIface (V.assign rfl rfl) ?_
  refine WL.nil ?_
  refine WP.ret ?_
  refine resOf.c1 rfl (v := .nilIface) rfl ?_
  have hlt : b < w2.heap.size := hbx.lt
  have hs4 := hx4.size
  have hs5 := hx5.size
  have hsz : (s ++ strOfNums [c]).size = s.size + 1 := by rw [ByteArray.size_append, strOfNums_size]; rfl
  refine ⟨rfl, Bld.put (w0 := w3) (v := v) (fun x hm => Nat.lt_of_lt_of_le (hX x hm) hB3) hp hb5 ?_ hone hfr hg (by omega) hx5 (by omega), _, hx2.both (hx3.both (hx4.both hx5)), ?_⟩
  · rw [hsz, ← strCells_app, strCells_one hc]; exact ho4
  · exact (Hid.one b B X).trans ((Hid.none b B X).trans ((rowOf_hid ho3 hg).trans (Hid.one b B X)))
theorem sb_WriteString {w : World} {b B : Nat} {X : List Nat} {s : ByteArray} (h : Bld 104 5 B X w b s) (t : ByteArray) (hs : s.size + t.size ≤ 70368744177664) (hB : B ≤ w.heap.size) :
    Fnc Try.prog 61 #[.pointer (some ⟨b, 0, none⟩), .string t] w (fun v w' => v = .tuple #[.int .i64 (t.size : Int), .nilIface] ∧ Bld 104 5 B X w' b (s ++ t) ∧ ∃ Y, Ext Y w w' ∧ Hid b B X Y) := by
  refine Fnc.of_WP (n := 19) Try.func61 rfl Try.ntmps61 (by simp) ?_
  intro E hE
  have h0 : E 0 = .pointer (some ⟨b, 0, none⟩) := hE 0 (by simp)
  have h1 : E 1 = .string t := hE 1 (by simp)
  clear hE
  refine WP.sr ?_
  refine WL.z (.int .i64 0) (V.assign rfl rfl) ?_
  refine WL.z .nilIface (V.assign rfl rfl) ?_
  refine WL.nil ?_
  refine WP.sr ?_
  refine WL.z (.pointer (some ⟨b, 0, none⟩)) (V.move (x := .tmp 0) rfl h0) ?_
  refine WL.c (Sure.none rfl) rfl (C.call1 (x := .tmp 6) rfl cl96 rfl) (Fnc.mono (sb_copyCheck h) ?_)
  rintro _ w2 ⟨rfl, ⟨hX, p, v, hp, hbx, ho, ho1, hg⟩, hx2⟩
  refine WL.nil ?_
  refine WP.sr ?_
  refine WL.z (.pointer (some ⟨b, 0, none⟩)) (V.move (x := .tmp 0) rfl h0) ?_
  refine WL.z (.pointer (some ⟨b, 0, none⟩)) (V.move (x := .tmp 0) rfl h0) ?_
  refine WL.z (.pointer (some ⟨b, 0, none⟩)) (V.nilCheck rfl rfl) ?_
  refine WL.z (.pointer (some ⟨b, 1, none⟩)) (V.fieldAddr rfl fl104_1 rfl) ?_
  refine WL.z v (V.load rfl p102 rfl (hbx.cell rfl)) ?_
  refine WL.z (.string t) (V.move (x := .tmp 1) rfl h1) ?_
  have hB2 := hx2.size
  refine WL.appendStr (x := .tmp 12) (y := .tmp 13) (v := v) (Sure.none rfl) rfl rfl u102 u9 e5 rfl rfl ho (by omega) (by omega) (fun v' w4 ho4 hgr hfr hone => ?_)
  have hx4 := grown_ext hgr
  have hbx4 := hbx.ext hx4 (not_rowOf fun g hv => (hg g hv).1)
  refine WL.z (.pointer (some ⟨b, 0, none⟩)) (V.nilCheck rfl rfl) ?_
  refine WL.z (.pointer (some ⟨b, 1, none⟩)) (V.fieldAddr rfl fl104_1 rfl) ?_
  refine WL.store (Sure.none rfl) rfl rfl s102 rfl rfl hone hbx4 (by show (1 : Nat) < 2; decide) (fun w5 hx5 hb5 => ?_)
  replace hb5 : Box w5 b 104 [p, v'] := hb5
  refine WL.nil ?_
  refine WP.sr ?_
  refine WL.z (.string t) (V.move (x := .tmp 1) rfl h1) ?_
  refine WL.z (.int .i64 (t.size : Int)) (V.lenString rfl rfl u9 rfl) ?_
  refine WL.z (.int .i64 (t.size : Int)) (V.assign rfl rfl) ?_
  refine WL.z .nilIface (V.assign rfl rfl) ?_
  refine WL.nil ?_
  refine WP.ret ?_
  refine resOf.c2 rfl (v := .int .i64 (t.size : Int)) rfl (v' := .nilIface) rfl ?_
  have hlt : b < w2.heap.size := hbx.lt
  have hs4 := hx4.size
  have hs5 := hx5.size
  refine ⟨rfl, Bld.put (w0 := w2) (v := v) hX hp hb5 ?_ hone hfr hg (by omega) hx5 (by omega), _, hx2.both (hx4.both hx5), ?_⟩
  · rw [ByteArray.size_append, ← strCells_app]; exact ho4
  · exact (Hid.one b B X).trans ((rowOf_hid ho hg).trans (Hid.one b B X))
theorem c5 : Try.prog.cellsOf 5 = 1 := by kernel_rfl
theorem sb_String {w : World} {b B : Nat} {X : List Nat} {s : ByteArray} (h : Bld 104 5 B X w b s) (hs : s.size ≠ 0) :
    Fnc Try.prog 65 #[.pointer (some ⟨b, 0, none⟩)] w (fun v w' => v = .string s ∧ ∃ Y, Ext Y w w' ∧ Hid b B X Y) := by
  obtain ⟨hX, p, v, hp, hbx, ho, ho1, hg⟩ := h
  obtain ⟨g, cap, cur, rfl, hBg, hg0, hnc, hcm, hcs, htake⟩ : ∃ g cap cur, v = .slice (some ⟨g, 0, none⟩) s.size cap ∧ B ≤ g ∧ w.heap[g]? = some (.cells cur 5 (0, 0)) ∧ s.size ≤ cap ∧ cap ≤ maxLen ∧ cur.size = cap * 1 ∧ cur.toList.take (s.size * 1) = Lib.strCells s := by
    rcases ho.2 with ⟨_, h0⟩ | h
    · exact absurd h0 hs
    · exact h
  have hgb := (hg g rfl).1
  refine Fnc.of_WP (n := 14) Try.func65 rfl Try.ntmps65 (by simp) ?_
  intro E hE
  have h0 : E 0 = .pointer (some ⟨b, 0, none⟩) := hE 0 (by simp)
  clear hE
  refine WP.sr ?_
  refine WL.z (.string (ByteArray.mk #[])) (V.assign rfl rfl) ?_
  refine WL.nil ?_
  refine WP.seq ?_
  have hbk : ∀ (f : Bool) (w' : World), Ext (if f = true then [g] else []) w w' → Box w' b 104 [p, .slice (some ⟨g, 0, none⟩) s.size cap] := fun f w' hx => hbx.ext hx (by cases f <;> simp; exact fun e => hgb e.symm)
  refine WP.anyB 10 (fun f w' => Ext (if f = true then [g] else []) w w') [.pointer (some ⟨b, 0, none⟩), .pointer (some ⟨b, 0, none⟩), .pointer (some ⟨b, 1, none⟩), .slice (some ⟨g, 0, none⟩) s.size cap, .pointer (some ⟨g, 0, none⟩), .pointer (some ⟨b, 0, none⟩), .pointer (some ⟨b, 0, none⟩), .pointer (some ⟨b, 1, none⟩), .slice (some ⟨g, 0, none⟩) s.size cap, .int .i64 (s.size : Int), .string s, .string s] mo (by kernel_rfl) (by kernel_rfl) (by kernel_rfl) (by kernel_rfl) (fun d => ⟨rfl, rfl, rfl, Nat.le_refl _, fun _ _ _ => rfl⟩) ⟨?_, ?_, ?_, ?_, ?_, ?_, ?_, ?_, ?_, ?_, ?_, ?_, trivial⟩ ?_
  · intro f E' w' hI hm hE hp
    exact ⟨Sure.none rfl, .inl ⟨_, w', OpV.x (V.move (x := .tmp 0) rfl ((hE 0 (by kernel_rfl)).trans h0)), by cases f <;> exact hI, rfl⟩⟩
  · intro f E' w' hI hm hE hp
    exact ⟨Sure.none rfl, .inl ⟨_, w', OpV.x (V.nilCheck (x := .tmp 3) rfl (hp 0 (by kernel_rfl) _ _ rfl rfl)), by cases f <;> exact hI, rfl⟩⟩
  · intro f E' w' hI hm hE hp
    exact ⟨Sure.none rfl, .inl ⟨_, w', OpV.x (V.fieldAddr (x := .tmp 4) rfl fl104_1 (hp 1 (by kernel_rfl) _ _ rfl rfl)), by cases f <;> exact hI, rfl⟩⟩
  · intro f E' w' hI hm hE hp
    exact ⟨Sure.none rfl, .inl ⟨_, w', OpV.x (V.load (x := .tmp 5) rfl p102 (hp 2 (by kernel_rfl) _ _ rfl rfl) ((hbk f w' hI).cell rfl)), by cases f <;> exact hI, rfl⟩⟩
  · intro f E' w' hI hm hE hp
    exact ⟨Sure.none rfl, .inl ⟨_, w', OpV.x (V.sliceData (x := .tmp 6) rfl (hp 3 (by kernel_rfl) _ _ rfl rfl) (by omega)), by cases f <;> exact hI, rfl⟩⟩
  · intro f E' w' hI hm hE hp
    exact ⟨Sure.none rfl, .inl ⟨_, w', OpV.x (V.move (x := .tmp 0) rfl ((hE 0 (by kernel_rfl)).trans h0)), by cases f <;> exact hI, rfl⟩⟩
  · intro f E' w' hI hm hE hp
    exact ⟨Sure.none rfl, .inl ⟨_, w', OpV.x (V.nilCheck (x := .tmp 8) rfl (hp 5 (by kernel_rfl) _ _ rfl rfl)), by cases f <;> exact hI, rfl⟩⟩
  · intro f E' w' hI hm hE hp
    exact ⟨Sure.none rfl, .inl ⟨_, w', OpV.x (V.fieldAddr (x := .tmp 9) rfl fl104_1 (hp 6 (by kernel_rfl) _ _ rfl rfl)), by cases f <;> exact hI, rfl⟩⟩
  · intro f E' w' hI hm hE hp
    exact ⟨Sure.none rfl, .inl ⟨_, w', OpV.x (V.load (x := .tmp 10) rfl p102 (hp 7 (by kernel_rfl) _ _ rfl rfl) ((hbk f w' hI).cell rfl)), by cases f <;> exact hI, rfl⟩⟩
  · intro f E' w' hI hm hE hp
    exact ⟨Sure.none rfl, .inl ⟨_, w', OpV.x (V.lenSlice (x := .tmp 11) rfl rfl u102 (hp 8 (by kernel_rfl) _ _ rfl rfl)), by cases f <;> exact hI, rfl⟩⟩
  · intro f E' w' hI hm hE hp
    obtain rfl := hm rfl
    have hx : Ext [] w w' := hI
    exact ⟨Sure.none rfl, .inl ⟨_, _, W.X.unsafeStr (x := .tmp 7) (y := .tmp 12) (g := g) (cur := cur) rfl u138 c5 (hp 4 (by kernel_rfl) _ _ rfl rfl) (hp 9 (by kernel_rfl) _ _ rfl rfl) ((hx.block g (Blk.lt hg0) (by simp)).trans hg0) rfl hs hnc hcm hcs htake, (hx.any (Y := [g])).trans (Ext.freeze w' g _), rfl⟩⟩
  · intro f E' w' hI hm hE hp
    exact ⟨Sure.none rfl, .inl ⟨_, w', OpV.x (V.assign (x := .tmp 13) rfl (hp 10 (by kernel_rfl) _ _ rfl rfl)), by cases f <;> exact hI, rfl⟩⟩
  · intro E' w' hI hE hp
    have q : E' 2 = .string s := hp 11 (of_decide_eq_true (by kernel_rfl)) _ _ rfl rfl
    refine WP.ret ?_
    refine resOf.c1 rfl (v := .string s) q ?_
    exact ⟨rfl, [g], hI, fun y hy => by rw [List.mem_singleton] at hy; subst hy; exact .inr ⟨hBg, (hg y rfl).2⟩⟩
end Go.Proofs.Ytbpamkbegggeoaa.X1
