import Derived.Test.YtbpamkbegggeoaaV24
import Derived.Test.YtbpamkbegggeoaaP3
namespace Go.Proofs.Ytbpamkbegggeoaa.T
open W Go.RowKit
set_option maxRecDepth 100000
set_option maxHeartbeats 400000

theorem rd3 {H : Type} {enc : TypeId × Value → H} : Rd enc Try.prog 3 (intR .i64) (fun (_ : Int) => True) := Rd.int u3
theorem rd22 {H : Type} {enc : TypeId × Value → H} : Rd enc Try.prog 22 (slR (intR .i64) (by show (1 : Nat) ≠ 0; decide)) (fun (xs : List Int) => xs.length * 8 ≤ reachBytes ∧ ∀ (i : Nat) (x : Int), xs[i]? = some x → (fun (_ : Int) => True) x) := Rd.slice u22 (by kernel_rfl) (by show (1 : Nat) ≠ 0; decide) (by kernel_rfl) rd3
theorem rd23 {H : Type} {enc : TypeId × Value → H} : Rd enc Try.prog 23 (intR .u64) (fun (_ : Int) => True) := Rd.int u23
theorem rd24 {H : Type} {enc : TypeId × Value → H} : Rd enc Try.prog 24 (intR .u8) (fun (_ : Int) => True) := Rd.int u24
theorem rd9 {H : Type} {enc : TypeId × Value → H} : Rd enc Try.prog 9 strR (fun (s : ByteArray) => s.size ≤ reachBytes) := Rd.str u9
theorem rd88 {H : Type} {enc : TypeId × Value → H} : Rd enc Try.prog 88 (intR .u8) (fun (_ : Int) => True) := Rd.int u88
def EntryD.Good (x : EntryD) : Prop := (fun (xs : List Int) => xs.length * 8 ≤ reachBytes ∧ ∀ (i : Nat) (x : Int), xs[i]? = some x → (fun (_ : Int) => True) x) x.Members
theorem rd90 {H : Type} {enc : TypeId × Value → H} : Rd enc Try.prog 90 entryR EntryD.Good := by
  intro w fuel cs x h hw
  have hl : cs.length = 4 := (rd_len h fl90_0).trans (by kernel_rfl)
  match cs, hl with
  | [c0, c1, c2, c3], _ =>
    obtain ⟨d0, ⟨e0, k0⟩, _⟩ := rd_field h hw fl90_0 (by kernel_rfl) rd23
    replace e0 : [c0] = [.int .u64 (d0)] := e0
    obtain ⟨d1, ⟨e1, k1⟩, _⟩ := rd_field h hw fl90_1 (by kernel_rfl) rd88
    replace e1 : [c1] = [.int .u8 (d1)] := e1
    obtain ⟨d2, ⟨e2, k2⟩, _⟩ := rd_field h hw fl90_2 (by kernel_rfl) rd9
    replace e2 : [c2] = [.string (d2)] := e2
    obtain ⟨d3, ⟨v3, e3, s3⟩, g3⟩ := rd_field h hw fl90_3 (by kernel_rfl) rd22
    replace e3 : [c3] = [v3] := e3
    cases e0
    cases e1
    cases e2
    cases e3
    exact ⟨{ Term := d0, Kind := d1, Data := d2, Members := d3 }, ⟨_, rfl, s3, ⟨k0, k1, k2⟩⟩, g3⟩
theorem rd25 {H : Type} {enc : TypeId × Value → H} : Rd enc Try.prog 25 (slR entryR (by show (4 : Nat) ≠ 0; decide)) (fun (xs : List EntryD) => xs.length * 56 ≤ reachBytes ∧ ∀ (i : Nat) (x : EntryD), xs[i]? = some x → (EntryD.Good) x) := Rd.slice u25 (by kernel_rfl) (by show (4 : Nat) ≠ 0; decide) (by kernel_rfl) rd90
def FollowD.Good (x : FollowD) : Prop := True
theorem rd85 {H : Type} {enc : TypeId × Value → H} : Rd enc Try.prog 85 followR FollowD.Good := by
  intro w fuel cs x h hw
  have hl : cs.length = 3 := (rd_len h fl85_0).trans (by kernel_rfl)
  match cs, hl with
  | [c0, c1, c2], _ =>
    obtain ⟨d0, ⟨e0, k0⟩, _⟩ := rd_field h hw fl85_0 (by kernel_rfl) rd3
    replace e0 : [c0] = [.int .i64 (d0)] := e0
    obtain ⟨d1, ⟨e1, k1⟩, _⟩ := rd_field h hw fl85_1 (by kernel_rfl) rd23
    replace e1 : [c1] = [.int .u64 (d1)] := e1
    obtain ⟨d2, ⟨e2, k2⟩, _⟩ := rd_field h hw fl85_2 (by kernel_rfl) rd23
    replace e2 : [c2] = [.int .u64 (d2)] := e2
    cases e0
    cases e1
    cases e2
    exact ⟨{ Id := d0, Next := d1, Match := d2 }, ⟨rfl, ⟨k0, k1, k2⟩⟩, trivial⟩
theorem rd26 {H : Type} {enc : TypeId × Value → H} : Rd enc Try.prog 26 (slR followR (by show (3 : Nat) ≠ 0; decide)) (fun (xs : List FollowD) => xs.length * 24 ≤ reachBytes ∧ ∀ (i : Nat) (x : FollowD), xs[i]? = some x → (FollowD.Good) x) := Rd.slice u26 (by kernel_rfl) (by show (3 : Nat) ≠ 0; decide) (by kernel_rfl) rd85
def ReadD.Good (x : ReadD) : Prop := (fun (xs : List Int) => xs.length * 8 ≤ reachBytes ∧ ∀ (i : Nat) (x : Int), xs[i]? = some x → (fun (_ : Int) => True) x) x.Acks
theorem rd95 {H : Type} {enc : TypeId × Value → H} : Rd enc Try.prog 95 readR ReadD.Good := by
  intro w fuel cs x h hw
  have hl : cs.length = 3 := (rd_len h fl95_0).trans (by kernel_rfl)
  match cs, hl with
  | [c0, c1, c2], _ =>
    obtain ⟨d0, ⟨e0, k0⟩, _⟩ := rd_field h hw fl95_0 (by kernel_rfl) rd23
    replace e0 : [c0] = [.int .u64 (d0)] := e0
    obtain ⟨d1, ⟨e1, k1⟩, _⟩ := rd_field h hw fl95_1 (by kernel_rfl) rd23
    replace e1 : [c1] = [.int .u64 (d1)] := e1
    obtain ⟨d2, ⟨v2, e2, s2⟩, g2⟩ := rd_field h hw fl95_2 (by kernel_rfl) rd22
    replace e2 : [c2] = [v2] := e2
    cases e0
    cases e1
    cases e2
    exact ⟨{ Round := d0, Index := d1, Acks := d2 }, ⟨_, rfl, s2, ⟨k0, k1⟩⟩, g2⟩
theorem rd27 {H : Type} {enc : TypeId × Value → H} : Rd enc Try.prog 27 (slR readR (by show (3 : Nat) ≠ 0; decide)) (fun (xs : List ReadD) => xs.length * 40 ≤ reachBytes ∧ ∀ (i : Nat) (x : ReadD), xs[i]? = some x → (ReadD.Good) x) := Rd.slice u27 (by kernel_rfl) (by show (3 : Nat) ≠ 0; decide) (by kernel_rfl) rd95
def PeerD.Good (x : PeerD) : Prop := (fun (xs : List Int) => xs.length * 8 ≤ reachBytes ∧ ∀ (i : Nat) (x : Int), xs[i]? = some x → (fun (_ : Int) => True) x) x.Members ∧ (fun (xs : List Int) => xs.length * 8 ≤ reachBytes ∧ ∀ (i : Nat) (x : Int), xs[i]? = some x → (fun (_ : Int) => True) x) x.BaseMembers ∧ (fun (xs : List EntryD) => xs.length * 56 ≤ reachBytes ∧ ∀ (i : Nat) (x : EntryD), xs[i]? = some x → (EntryD.Good) x) x.Log ∧ (fun (xs : List Int) => xs.length * 8 ≤ reachBytes ∧ ∀ (i : Nat) (x : Int), xs[i]? = some x → (fun (_ : Int) => True) x) x.Votes ∧ (fun (xs : List FollowD) => xs.length * 24 ≤ reachBytes ∧ ∀ (i : Nat) (x : FollowD), xs[i]? = some x → (FollowD.Good) x) x.Follows ∧ (fun (xs : List ReadD) => xs.length * 40 ≤ reachBytes ∧ ∀ (i : Nat) (x : ReadD), xs[i]? = some x → (ReadD.Good) x) x.Reads
theorem rd29 {H : Type} {enc : TypeId × Value → H} : Rd enc Try.prog 29 peerR PeerD.Good := by
  intro w fuel cs x h hw
  have hl : cs.length = 18 := (rd_len h fl29_0).trans (by kernel_rfl)
  match cs, hl with
  | [c0, c1, c2, c3, c4, c5, c6, c7, c8, c9, c10, c11, c12, c13, c14, c15, c16, c17], _ =>
    obtain ⟨d0, ⟨e0, k0⟩, _⟩ := rd_field h hw fl29_0 (by kernel_rfl) rd3
    replace e0 : [c0] = [.int .i64 (d0)] := e0
    obtain ⟨d1, ⟨v1, e1, s1⟩, g1⟩ := rd_field h hw fl29_1 (by kernel_rfl) rd22
    replace e1 : [c1] = [v1] := e1
    obtain ⟨d2, ⟨e2, k2⟩, _⟩ := rd_field h hw fl29_2 (by kernel_rfl) rd23
    replace e2 : [c2] = [.int .u64 (d2)] := e2
    obtain ⟨d3, ⟨e3, k3⟩, _⟩ := rd_field h hw fl29_3 (by kernel_rfl) rd3
    replace e3 : [c3] = [.int .i64 (d3)] := e3
    obtain ⟨d4, ⟨e4, k4⟩, _⟩ := rd_field h hw fl29_4 (by kernel_rfl) rd24
    replace e4 : [c4] = [.int .u8 (d4)] := e4
    obtain ⟨d5, ⟨e5, k5⟩, _⟩ := rd_field h hw fl29_5 (by kernel_rfl) rd3
    replace e5 : [c5] = [.int .i64 (d5)] := e5
    obtain ⟨d6, ⟨e6, k6⟩, _⟩ := rd_field h hw fl29_6 (by kernel_rfl) rd23
    replace e6 : [c6] = [.int .u64 (d6)] := e6
    obtain ⟨d7, ⟨e7, k7⟩, _⟩ := rd_field h hw fl29_7 (by kernel_rfl) rd23
    replace e7 : [c7] = [.int .u64 (d7)] := e7
    obtain ⟨d8, ⟨v8, e8, s8⟩, g8⟩ := rd_field h hw fl29_8 (by kernel_rfl) rd22
    replace e8 : [c8] = [v8] := e8
    obtain ⟨d9, ⟨e9, k9⟩, _⟩ := rd_field h hw fl29_9 (by kernel_rfl) rd9
    replace e9 : [c9] = [.string (d9)] := e9
    obtain ⟨d10, ⟨v10, e10, s10⟩, g10⟩ := rd_field h hw fl29_10 (by kernel_rfl) rd25
    replace e10 : [c10] = [v10] := e10
    obtain ⟨d11, ⟨e11, k11⟩, _⟩ := rd_field h hw fl29_11 (by kernel_rfl) rd23
    replace e11 : [c11] = [.int .u64 (d11)] := e11
    obtain ⟨d12, ⟨e12, k12⟩, _⟩ := rd_field h hw fl29_12 (by kernel_rfl) rd3
    replace e12 : [c12] = [.int .i64 (d12)] := e12
    obtain ⟨d13, ⟨e13, k13⟩, _⟩ := rd_field h hw fl29_13 (by kernel_rfl) rd3
    replace e13 : [c13] = [.int .i64 (d13)] := e13
    obtain ⟨d14, ⟨v14, e14, s14⟩, g14⟩ := rd_field h hw fl29_14 (by kernel_rfl) rd22
    replace e14 : [c14] = [v14] := e14
    obtain ⟨d15, ⟨v15, e15, s15⟩, g15⟩ := rd_field h hw fl29_15 (by kernel_rfl) rd26
    replace e15 : [c15] = [v15] := e15
    obtain ⟨d16, ⟨e16, k16⟩, _⟩ := rd_field h hw fl29_16 (by kernel_rfl) rd23
    replace e16 : [c16] = [.int .u64 (d16)] := e16
    obtain ⟨d17, ⟨v17, e17, s17⟩, g17⟩ := rd_field h hw fl29_17 (by kernel_rfl) rd27
    replace e17 : [c17] = [v17] := e17
    cases e0
    cases e1
    cases e2
    cases e3
    cases e4
    cases e5
    cases e6
    cases e7
    cases e8
    cases e9
    cases e10
    cases e11
    cases e12
    cases e13
    cases e14
    cases e15
    cases e16
    cases e17
    exact ⟨{ Id := d0, Members := d1, Term := d2, Vote := d3, Role := d4, Lead := d5, Base := d6, BaseTerm := d7, BaseMembers := d8, Snap := d9, Log := d10, Commit := d11, Idle := d12, Wait := d13, Votes := d14, Follows := d15, Round := d16, Reads := d17 }, ⟨_, _, _, _, _, _, rfl, s1, s8, s10, s14, s15, s17, ⟨k0, k2, k3, k4, k5, k6, k7, k9, k11, k12, k13, k16⟩⟩, ⟨g1, g8, g10, g14, g15, g17⟩⟩
theorem rd30 {H : Type} {enc : TypeId × Value → H} : Rd enc Try.prog 30 (intR .u8) (fun (_ : Int) => True) := Rd.int u30
theorem rd4 {H : Type} {enc : TypeId × Value → H} : Rd enc Try.prog 4 boolR (fun (_ : Bool) => True) := Rd.bool u4
def MsgD.Good (x : MsgD) : Prop := (fun (xs : List EntryD) => xs.length * 56 ≤ reachBytes ∧ ∀ (i : Nat) (x : EntryD), xs[i]? = some x → (EntryD.Good) x) x.Entries ∧ (fun (xs : List Int) => xs.length * 8 ≤ reachBytes ∧ ∀ (i : Nat) (x : Int), xs[i]? = some x → (fun (_ : Int) => True) x) x.Members
theorem rd32 {H : Type} {enc : TypeId × Value → H} : Rd enc Try.prog 32 msgR MsgD.Good := by
  intro w fuel cs x h hw
  have hl : cs.length = 12 := (rd_len h fl32_0).trans (by kernel_rfl)
  match cs, hl with
  | [c0, c1, c2, c3, c4, c5, c6, c7, c8, c9, c10, c11], _ =>
    obtain ⟨d0, ⟨e0, k0⟩, _⟩ := rd_field h hw fl32_0 (by kernel_rfl) rd30
    replace e0 : [c0] = [.int .u8 (d0)] := e0
    obtain ⟨d1, ⟨e1, k1⟩, _⟩ := rd_field h hw fl32_1 (by kernel_rfl) rd3
    replace e1 : [c1] = [.int .i64 (d1)] := e1
    obtain ⟨d2, ⟨e2, k2⟩, _⟩ := rd_field h hw fl32_2 (by kernel_rfl) rd3
    replace e2 : [c2] = [.int .i64 (d2)] := e2
    obtain ⟨d3, ⟨e3, k3⟩, _⟩ := rd_field h hw fl32_3 (by kernel_rfl) rd23
    replace e3 : [c3] = [.int .u64 (d3)] := e3
    obtain ⟨d4, ⟨e4, k4⟩, _⟩ := rd_field h hw fl32_4 (by kernel_rfl) rd23
    replace e4 : [c4] = [.int .u64 (d4)] := e4
    obtain ⟨d5, ⟨e5, k5⟩, _⟩ := rd_field h hw fl32_5 (by kernel_rfl) rd23
    replace e5 : [c5] = [.int .u64 (d5)] := e5
    obtain ⟨d6, ⟨e6, k6⟩, _⟩ := rd_field h hw fl32_6 (by kernel_rfl) rd23
    replace e6 : [c6] = [.int .u64 (d6)] := e6
    obtain ⟨d7, ⟨e7, k7⟩, _⟩ := rd_field h hw fl32_7 (by kernel_rfl) rd23
    replace e7 : [c7] = [.int .u64 (d7)] := e7
    obtain ⟨d8, e8, _⟩ := rd_field h hw fl32_8 (by kernel_rfl) rd4
    replace e8 : [c8] = [.bool (d8)] := e8
    obtain ⟨d9, ⟨v9, e9, s9⟩, g9⟩ := rd_field h hw fl32_9 (by kernel_rfl) rd25
    replace e9 : [c9] = [v9] := e9
    obtain ⟨d10, ⟨v10, e10, s10⟩, g10⟩ := rd_field h hw fl32_10 (by kernel_rfl) rd22
    replace e10 : [c10] = [v10] := e10
    obtain ⟨d11, ⟨e11, k11⟩, _⟩ := rd_field h hw fl32_11 (by kernel_rfl) rd9
    replace e11 : [c11] = [.string (d11)] := e11
    cases e0
    cases e1
    cases e2
    cases e3
    cases e4
    cases e5
    cases e6
    cases e7
    cases e8
    cases e9
    cases e10
    cases e11
    exact ⟨{ Kind := d0, From := d1, To := d2, Term := d3, Index := d4, LogTerm := d5, Commit := d6, Round := d7, Ok := d8, Entries := d9, Members := d10, Snap := d11 }, ⟨_, _, rfl, s9, s10, ⟨k0, k1, k2, k3, k4, k5, k6, k7, k11⟩⟩, ⟨g9, g10⟩⟩
theorem fits_of {p : PeerD} (hs : smallB p = true) (hg : p.Good) : Fits p := by
  simp only [smallB, Bool.and_eq_true, decide_eq_true_eq] at hs
  obtain ⟨g1, g2, g3, g4, g5, g6⟩ := hg
  have hr : reachBytes = 140737488351232 := rfl
  rw [hr] at g1 g2 g3 g4 g5 g6
  refine ⟨by omega, by omega, by omega, by omega, by omega, by omega, fun k hk => ?_, fun k hk => ?_⟩
  · have h1 := (g3.2 k _ (getD_some hk default))
    have h2 := h1.1
    rw [hr] at h2; omega
  · have h1 := (g6.2 k _ (getD_some hk default))
    have h2 := h1.1
    rw [hr] at h2; omega

set_option maxHeartbeats 4000000 in
theorem law_big {w : World} {X : List Nat} {p : PeerD} {c_p : List Value} (h_p : peerR.rd X w c_p p) {m : MsgD} {c_m : List Value} (h_m : msgR.rd X w c_m m) (i : Int) (hX : ∀ x ∈ X, x < w.heap.size) (hs : smallB p = false) : Fnc Try.prog 3 #[.agg c_p.toArray, .agg c_m.toArray, .int .u64 (i)] w (fun v w' => v = .bool (true) ∧ Ext [] w w') := by
  obtain ⟨v1, v3, v5, v7, v9, v11, rfl, hl2, hl4, hl6, hl8, hl10, hl12, hk13⟩ := h_p
  obtain ⟨hin14, hin15, hin16, hin17, hin18, hin19, hin20, hin21, hin22, hin23, hin24, hin25⟩ := (show PeerD.InR p from hk13)
  have hin14 := inK_i64 hin14
  have hin15 := inK_u64 hin15
  have hin16 := inK_i64 hin16
  have hin17 := inK_u8 hin17
  have hin18 := inK_i64 hin18
  have hin19 := inK_u64 hin19
  have hin20 := inK_u64 hin20
  have hin22 := inK_u64 hin22
  have hin23 := inK_i64 hin23
  have hin24 := inK_i64 hin24
  have hin25 := inK_u64 hin25
  have hle26 := hl2.le'
  have hle27 := hl4.le'
  have hle28 := hl6.le'
  have hle29 := hl8.le'
  have hle30 := hl10.le'
  have hle31 := hl12.le'
  obtain ⟨v32, v34, rfl, hl33, hl35, hk36⟩ := h_m
  obtain ⟨hin37, hin38, hin39, hin40, hin41, hin42, hin43, hin44, hin45⟩ := (show MsgD.InR m from hk36)
  have hin37 := inK_u8 hin37
  have hin38 := inK_i64 hin38
  have hin39 := inK_i64 hin39
  have hin40 := inK_u64 hin40
  have hin41 := inK_u64 hin41
  have hin42 := inK_u64 hin42
  have hin43 := inK_u64 hin43
  have hin44 := inK_u64 hin44
  have hle46 := hl33.le'
  have hle47 := hl35.le'
  refine Fnc.of_WP (n := 149) Try.func3 rfl Try.ntmps3 (by simp) ?_
  intro E hE
  have h0 : E 0 = .agg #[.int .i64 (p.Id), v1, .int .u64 (p.Term), .int .i64 (p.Vote), .int .u8 (p.Role), .int .i64 (p.Lead), .int .u64 (p.Base), .int .u64 (p.BaseTerm), v3, .string (p.Snap), v5, .int .u64 (p.Commit), .int .i64 (p.Idle), .int .i64 (p.Wait), v7, v9, .int .u64 (p.Round), v11] := hE 0 (by simp)
  have h1 : E 1 = .agg #[.int .u8 (m.Kind), .int .i64 (m.From), .int .i64 (m.To), .int .u64 (m.Term), .int .u64 (m.Index), .int .u64 (m.LogTerm), .int .u64 (m.Commit), .int .u64 (m.Round), .bool (m.Ok), v32, v34, .string (m.Snap)] := hE 1 (by simp)
  clear hE
  refine WP.sr ?_
  refine WL.box (x := .tmp 0) (cs := [.int .i64 (p.Id), v1, .int .u64 (p.Term), .int .i64 (p.Vote), .int .u8 (p.Role), .int .i64 (p.Lead), .int .u64 (p.Base), .int .u64 (p.BaseTerm), v3, .string (p.Snap), v5, .int .u64 (p.Commit), .int .i64 (p.Idle), .int .i64 (p.Wait), v7, v9, .int .u64 (p.Round), v11]) (Sure.none rfl) rfl rfl h0 rfl (fun b48 w49 hx50 he51 hb52 => ?_)
  have hl53 := (Sl.new (b := b48) (by show (1 : Nat) ≠ 0; decide) hl2 (by omega)).ext (Ext.any hx50)
  have hl54 := (Sl.new (b := b48) (by show (1 : Nat) ≠ 0; decide) hl4 (by omega)).ext (Ext.any hx50)
  have hl55 := (Sl.new (b := b48) (by show (4 : Nat) ≠ 0; decide) hl6 (by omega)).ext (Ext.any hx50)
  have hl56 := (Sl.new (b := b48) (by show (1 : Nat) ≠ 0; decide) hl8 (by omega)).ext (Ext.any hx50)
  have hl57 := (Sl.new (b := b48) (by show (3 : Nat) ≠ 0; decide) hl10 (by omega)).ext (Ext.any hx50)
  have hl58 := (Sl.new (b := b48) (by show (3 : Nat) ≠ 0; decide) hl12 (by omega)).ext (Ext.any hx50)
  have hx61 : Ext [b48] _ _ := (Ext.refl _ _).trans (Ext.any hx50)
  have hge_b48_w : w.heap.size ≤ b48 := by have := Nat.le_refl w.heap.size; omega
  refine WL.box (x := .tmp 1) (cs := [.int .u8 (m.Kind), .int .i64 (m.From), .int .i64 (m.To), .int .u64 (m.Term), .int .u64 (m.Index), .int .u64 (m.LogTerm), .int .u64 (m.Commit), .int .u64 (m.Round), .bool (m.Ok), v32, v34, .string (m.Snap)]) (Sure.none rfl) rfl rfl h1 rfl (fun b62 w63 hx64 he65 hb66 => ?_)
  have hlt_b48_b62 : b48 < b62 := by have := hb52.lt; omega
  have hb67 := hb52.ext hx64 (by simp)
  have hl68 := (Sl.new (b := b62) (by show (1 : Nat) ≠ 0; decide) hl53 (by omega)).ext (Ext.any hx64)
  have hl69 := (Sl.new (b := b62) (by show (1 : Nat) ≠ 0; decide) hl54 (by omega)).ext (Ext.any hx64)
  have hl70 := (Sl.new (b := b62) (by show (4 : Nat) ≠ 0; decide) hl55 (by omega)).ext (Ext.any hx64)
  have hl71 := (Sl.new (b := b62) (by show (1 : Nat) ≠ 0; decide) hl56 (by omega)).ext (Ext.any hx64)
  have hl72 := (Sl.new (b := b62) (by show (3 : Nat) ≠ 0; decide) hl57 (by omega)).ext (Ext.any hx64)
  have hl73 := (Sl.new (b := b62) (by show (3 : Nat) ≠ 0; decide) hl58 (by omega)).ext (Ext.any hx64)
  have hx76 : Ext [b62, b48] _ _ := (Ext.cons hx61).trans (Ext.any hx64)
  have hge_b62_w : w.heap.size ≤ b62 := by have := hx61.size; omega
  refine WL.m rfl ?_
  refine WL.nil ?_
  refine WP.seq ?_
  refine WP.sr ?_
  refine WL.z (.agg #[.int .i64 (p.Id), v1, .int .u64 (p.Term), .int .i64 (p.Vote), .int .u8 (p.Role), .int .i64 (p.Lead), .int .u64 (p.Base), .int .u64 (p.BaseTerm), v3, .string (p.Snap), v5, .int .u64 (p.Commit), .int .i64 (p.Idle), .int .i64 (p.Wait), v7, v9, .int .u64 (p.Round), v11]) (V.loadAgg (cs := [.int .i64 (p.Id), v1, .int .u64 (p.Term), .int .i64 (p.Vote), .int .u8 (p.Role), .int .i64 (p.Lead), .int .u64 (p.Base), .int .u64 (p.BaseTerm), v3, .string (p.Snap), v5, .int .u64 (p.Commit), .int .i64 (p.Idle), .int .i64 (p.Wait), v7, v9, .int .u64 (p.Round), v11]) rfl a29 rfl (At.box hb67) rfl) ?_
  refine WL.c (Sure.none rfl) rfl (C.call1 rfl cl7 rfl) (Fnc.mono (law_small (p := p) ⟨v1, v3, v5, v7, v9, v11, rfl, hl68, hl69, hl70, hl71, hl72, hl73, hk13⟩) ?_)
  rintro _ w77 ⟨rfl, hx78⟩
  have hx79 : Ext [b62, b48] w w77 := hx76.trans (Ext.any (Y := [b62, b48]) hx78)
  refine WL.z (.bool (!(smallB p))) (V.not rfl rfl) ?_
  refine WL.vbn (c := smallB p) (Sure.none rfl) rfl (V.move rfl rfl) (fun hc83 => ?_) (fun hc83 => ?_)
  rotate_left
  · exact absurd hc83 (by rw [hs]; decide)
  refine WL.skips [(23, some true)] [(28, some true)] (kc (some true) rfl kn) (by kernel_rfl) (fun E84 hK85 hE86 => ?_)
  refine WP.cond_true (hK85 28 (some true) rfl) ?_
  refine WP.sr ?_
  refine WL.c (Sure.none rfl) rfl (C.call0 rfl cl8 ) (Fnc.mono (law_alive ) ?_)
  rintro _ w87 ⟨rfl, hx88⟩
  have hx89 : Ext [b62, b48] w w87 := hx79.trans (Ext.any (Y := [b62, b48]) hx88)
  refine WL.m rfl ?_
  refine WL.nil ?_
  refine WP.ret ?_
  refine resOf.c1 rfl (v := .bool (true)) rfl ?_
  exact ⟨(bool_eq (by rfl)), ((hx89).done (geCons hge_b62_w (geCons hge_b48_w geNil)))⟩

end Go.Proofs.Ytbpamkbegggeoaa.T
