import Derived.Test.YtkcnljgennehaaaV19
import Derived.Test.YtkcnljgennehaaaW12
namespace Go.Proofs.Ytkcnljgennehaaa.T
open W Go.RowKit
set_option maxRecDepth 100000
set_option maxHeartbeats 400000

theorem sl_Backward {w : World} {X : List Nat} {v : Value} {xs : List EntryD} (h : Sl entryR X w v xs) : Fnc Try.prog 56 #[v] w (fun u w' => ∃ b, u = .func (.func 64) #[] #[.pointer (some ⟨b, 0, none⟩)] ∧ Box w' b 26 [v] ∧ w.heap.size ≤ b ∧ Ext [] w w') := by
  obtain ⟨a, c, hv⟩ := h.shape
  refine Fnc.of_WP (n := 4) Try.func56 rfl Try.ntmps56 (by simp) ?_
  intro E hE
  have h0 : E 0 = v := hE 0 (by simp)
  clear hE
  refine WP.seq ?_
  refine WP.region ?_
  refine WL.box (x := .tmp 0) (cs := [v]) (Sure.none rfl) rfl rfl h0 (by rw [hv]; rfl) (fun b w2 hx he hb => ?_)
  refine WL.v (u := .nilFunc) (Sure.none rfl) rfl (V.assign rfl rfl) ?_
  refine WL.nil ?_
  refine WP.seq ?_
  refine WP.region ?_
  refine WL.v (u := .func (.func 64) #[] #[.pointer (some ⟨b, 0, none⟩)]) (Sure.none rfl) rfl (V.makeFunc rfl (by simp) (map1 rfl)) ?_
  refine WL.v (u := .func (.func 64) #[] #[.pointer (some ⟨b, 0, none⟩)]) (Sure.none rfl) rfl (V.assign (x := .tmp 3) rfl rfl) ?_
  refine WL.nil ?_
  refine WP.ret ?_
  refine resOf.c1 rfl (v := .func (.func 64) #[] #[.pointer (some ⟨b, 0, none⟩)]) rfl ?_
  exact ⟨b, rfl, hb, by omega, hx⟩

theorem sl_Backward1 {w : World} {X : List Nat} {b l : Nat} {v : Value} {xs : List EntryD} {I : Nat → World → Prop} {D : World → Prop} (hle : xs.length ≤ 9223372036854775807)
    (hI : I xs.length w) (keep : ∀ k w', I k w' → Box w' b 26 [v] ∧ Sl entryR X w' v xs ∧ ∃ r : Loop, Blk w' l (.loop r) ∧ r.params.size = 2)
    (round : ∀ k w' cs r, k < xs.length → I (k + 1) w' → entryR.rd X w' cs (xs.getD k default) → Blk w' l (.loop r) →
      RoundIn (Fr none) 0 Try.prog l r.fn ((r.params.zip #[.int .i64 (k : Int), .agg cs.toArray]).foldl (fun tmps (x : Nat × Value) => tmps.setIfInBounds x.1 x.2) r.tmps) r.assign r.body w' fun e w'' => ∃ u, e = .returned u ∧ ((u = .bool true ∧ I k w'') ∨ (u = .bool false ∧ D w''))) :
    Fnc Try.prog 64 #[.func (.yield l) #[] #[], .pointer (some ⟨b, 0, none⟩)] w (fun _ w' => I 0 w' ∨ D w') := by
  obtain ⟨hbox, hsl, _⟩ := keep _ _ hI
  obtain ⟨a, c, hv⟩ := hsl.shape
  refine Fnc.of_WP (n := 19) Try.func64 rfl Try.ntmps64 (by simp) ?_
  intro E hE
  have h0 : E 0 = .func (.yield l) #[] #[] := hE 0 (by simp)
  have h1 : E 1 = .pointer (some ⟨b, 0, none⟩) := hE 1 (by simp)
  clear hE
  refine WP.seq ?_
  refine WP.region ?_
  refine WL.v (u := v) (Sure.none rfl) rfl (V.load (x := .tmp 1) rfl p26 h1 (hbox.cell rfl)) ?_
  refine WL.v (u := .int .i64 (xs.length : Int)) (Sure.none rfl) rfl (V.lenSlice (x := .tmp 4) rfl rfl u26 hv) ?_
  refine WL.v (u := .int .i64 ((xs.length : Int) - 1)) (Sure.none rfl) rfl (V.arith (x := .tmp 5) rfl rfl rfl rfl (wrap_i64 (by omega) (by omega))) ?_
  refine WL.v (u := .int .i64 ((xs.length : Int) - 1)) (Sure.none rfl) rfl (V.assign (x := .tmp 6) rfl rfl) ?_
  refine WL.nil ?_
  refine WP.block ?_
  refine WP.loop (σ := Nat) (fun j E w' => E 0 = .func (.yield l) #[] #[] ∧ E 1 = .pointer (some ⟨b, 0, none⟩) ∧ E 3 = .int .i64 ((j : Int) - 1) ∧ j ≤ xs.length ∧ I j w') (fun j => j) xs.length ?_ ?_
  · exact ⟨h0, h1, rfl, Nat.le_refl _, hI⟩
  · rintro j E w2 ⟨g0, g1, g3, hj, hIj⟩
    obtain ⟨hbox2, hsl2, r, hlr, hpar⟩ := keep _ _ hIj
    refine WP.seq ?_
    refine WP.seq ?_
    refine WP.region ?_
    refine WL.v (u := .int .i64 ((j : Int) - 1)) (Sure.none rfl) rfl (V.move (x := .tmp 3) rfl g3) ?_
    refine WL.v (u := .bool (decide ((j : Int) - 1 ≥ 0))) (Sure.none rfl) rfl (V.cmp (x := .tmp 7) rfl rfl rfl rfl) ?_
    refine WL.nil ?_
    refine WP.cond (t := decide ((j : Int) - 1 ≥ 0)) rfl (fun hc => ?_) (fun hc => ?_)
    · replace hc := of_decide_eq_true hc
      obtain ⟨m, rfl⟩ : ∃ m, j = m + 1 := ⟨j - 1, by omega⟩
      have g3' : E 3 = .int .i64 (m : Int) := by rw [g3]; exact int_eq (by omega)
      have hlt : m < xs.length := by omega
      obtain ⟨bb, kk, c2, cs, hv2, hnb, hr, hat⟩ := hsl2.get (i := m) (x := xs.getD m default) (getD_some hlt _)
      refine WP.skip ?_
      refine WP.seq ?_
      refine WP.block ?_
      refine WP.seq ?_
      refine WP.region ?_
      refine WL.v (u := .func (.yield l) #[] #[]) (Sure.none rfl) rfl (V.move (x := .tmp 0) rfl g0) ?_
      refine WL.v (u := .int .i64 (m : Int)) (Sure.none rfl) rfl (V.move (x := .tmp 3) rfl g3') ?_
      refine WL.v (u := v) (Sure.none rfl) rfl (V.load (x := .tmp 1) rfl p26 g1 (hbox2.cell rfl)) ?_
      refine WL.v (u := .int .i64 (m : Int)) (Sure.none rfl) rfl (V.move (x := .tmp 3) rfl g3') ?_
      refine WL.v (u := .pointer (some ⟨bb, kk + m * 4, none⟩)) (Sure.none rfl) rfl (V.indexAddr (x := .tmp 13) (i := .tmp 14) (m := m) (j := (m : Int)) rfl u26 s61 hv2 rfl rfl hlt) ?_
      refine WL.v (u := .agg cs.toArray) (Sure.none rfl) rfl (V.loadAgg (x := .tmp 15) (cs := cs) rfl a61 rfl hat (entryR.len hr)) ?_
      refine WL.yield2 (g := .tmp 11) (x := .tmp 12) (y := .tmp 16) (u := .int .i64 (m : Int)) (v := .agg cs.toArray) (Sure.none rfl) rfl rfl rfl rfl rfl hlr hpar (RoundIn.mono (round m w2 cs r hlt hIj hr hlr) ?_)
      rintro e w3 ⟨u, rfl, hu⟩
      refine ⟨u, rfl, ?_⟩
      rcases hu with ⟨rfl, hI3⟩ | ⟨rfl, hD⟩
      · refine WL.v (u := .bool false) (Sure.none rfl) rfl (V.not (x := .tmp 17) (b := true) rfl rfl) ?_
        refine WL.nil ?_
        refine WP.cond_false rfl ?_
        refine WP.skip ?_
        refine WP.region ?_
        refine WL.v (u := .int .i64 (m : Int)) (Sure.none rfl) rfl (V.move (x := .tmp 3) rfl g3') ?_
        refine WL.v (u := .int .i64 ((m : Int) - 1)) (Sure.none rfl) rfl (V.arith (x := .tmp 9) rfl rfl rfl rfl (wrap_i64 (by omega) (by omega))) ?_
        refine WL.v (u := .int .i64 ((m : Int) - 1)) (Sure.none rfl) rfl (V.assign (x := .tmp 10) rfl rfl) ?_
        refine WL.nil ?_
        exact ⟨m, ⟨g0, g1, rfl, by omega, hI3⟩, Nat.lt_succ_self m⟩
      · refine WL.v (u := .bool true) (Sure.none rfl) rfl (V.not (x := .tmp 17) (b := false) rfl rfl) ?_
        refine WL.nil ?_
        refine WP.cond_true rfl ?_
        refine WP.ret ?_
        refine resOf.none rfl ?_
        exact .inr hD
    · replace hc := of_decide_eq_false hc
      obtain rfl : j = 0 := by omega
      refine WP.exit ?_
      refine resOf.none (fn := Try.f64) (P := Try.prog) (R := fun _ w' => I 0 w' ∨ D w') rfl ?_
      exact .inl hIj
theorem memUpto_none {p : PeerD} : ∀ m, (∀ j, 0 ≤ j → j < m → (p.Log.getD j default).Kind ≠ 2) → memUpto p m = p.BaseMembers
  | 0, _ => rfl
  | m + 1, h => by
    rw [memUpto, if_neg (h m (Nat.zero_le _) (Nat.lt_succ_self m))]
    exact memUpto_none m fun j h0 hj => h j h0 (by omega)
theorem memUpto_some {p : PeerD} {k : Nat} : ∀ m, k < m → (p.Log.getD k default).Kind = 2 → (∀ j, k + 1 ≤ j → j < m → (p.Log.getD j default).Kind ≠ 2) → memUpto p m = (p.Log.getD k default).Members
  | 0, h, _, _ => by omega
  | m + 1, h, hk, hn => by
    rcases Nat.lt_or_ge k m with h1 | h1
    · rw [memUpto, if_neg (hn m h1 (Nat.lt_succ_self m))]
      exact memUpto_some m h1 hk fun j h0 hj => hn j h0 (by omega)
    · obtain rfl : k = m := by omega
      rw [memUpto, if_pos hk]

theorem sl_ClipRow {w : World} {B : Nat} {X : List Nat} {v : Value} {xs : List Int} (h : KRow B X w v xs) : Fnc Try.prog 57 #[v] w (fun u w' => KRow B X w' u xs ∧ Ext [] w w') := by
  obtain ⟨a, c, hv⟩ := h.sl.shape
  refine Fnc.of_WP (n := 9) Try.func57 rfl Try.ntmps57 (by simp) ?_
  intro E hE
  have h0 : E 0 = v := hE 0 (by simp)
  clear hE
  refine WP.seq ?_
  refine WP.region ?_
  refine WL.v (u := .slice none 0 0) (Sure.none rfl) rfl (V.assign rfl rfl) ?_
  refine WL.nil ?_
  refine WP.seq ?_
  refine WP.region ?_
  refine WL.v (u := v) (Sure.none rfl) rfl (V.move (x := .tmp 0) rfl h0) ?_
  refine WL.v (u := v) (Sure.none rfl) rfl (V.move (x := .tmp 0) rfl h0) ?_
  refine WL.v (u := .int .i64 ((xs.length : Int))) (Sure.none rfl) rfl (V.lenSlice (x := .tmp 4) rfl rfl u22 (Eq.trans (b := v) rfl hv)) ?_
  refine WL.v (u := v) (Sure.none rfl) rfl (V.move (x := .tmp 0) rfl h0) ?_
  refine WL.v (u := .int .i64 ((xs.length : Int))) (Sure.none rfl) rfl (V.lenSlice (x := .tmp 6) rfl rfl u22 (Eq.trans (b := v) rfl hv)) ?_
  refine WL.vex (Sure.none rfl) rfl (V.clipRow (x := .tmp 3) (y := .tmp 5) (z := .tmp 7) rfl u22 s3 rfl h rfl rfl) (fun v4 hl5 => ?_)
  refine WL.v (u := v4) (Sure.none rfl) rfl (V.assign (x := .tmp 8) rfl rfl) ?_
  refine WL.nil ?_
  refine WP.ret ?_
  refine resOf.c1 rfl (v := v4) rfl ?_
  exact ⟨hl5, Ext.refl _ _⟩

theorem termIs_bounds {p : PeerD} {i : Int} (h : termIs p i = true) : p.Base ≤ i ∧ i ≤ lastI p := by
  rcases Int.lt_or_le i p.Base with h1 | h1
  · rw [termIs_out (.inl h1)] at h; cases h
  · rcases Int.lt_or_le (lastI p) i with h2 | h2
    · rw [termIs_out (.inr h2)] at h; cases h
    · exact ⟨h1, h2⟩
theorem membersOf_no {p : PeerD} {i : Int} (h : termIs p i = false) : [] = membersOf p i := by rw [membersOf, h]; rfl
theorem membersOf_yes {p : PeerD} {i : Int} (h : termIs p i = true) : memUpto p (i - p.Base).toNat = membersOf p i := by rw [membersOf, h]; rfl

set_option maxHeartbeats 4000000 in
theorem vote_MembersK {w : World} {X : List Nat} {p : PeerD} {c_p : List Value} (h_p : peerR.rd X w c_p p) (i : Int) (hX : ∀ x ∈ X, x < w.heap.size) (hBase : p.Base ≤ 4611686018427387904) (hi : 0 ≤ i ∧ i < 18446744073709551616) (hF : Fits p) : Fnc Try.prog 34 #[.agg c_p.toArray, .int .u64 (i)] w (fun v w' => KRow w.heap.size X w' v (membersOf p i) ∧ Ext [] w w') := by
  obtain ⟨v1, v3, v5, v7, v9, v11, rfl, hl2, hl4, hl6, hl8, hl10, hl12, hk13⟩ := h_p
  obtain ⟨hin14, hin15, hin16, hin17, hin18, hin19, hin20, hin21, hin22, hin23, hin24, hin25⟩ := (show PeerD.InR p from hk13)
  have hin14 := inK_i64 hin14
  have hin15 := inK_u64 hin15
  have hin16 := inK_i64 hin16
  have hin17 := inK_u8 hin17
  have hin18 := inK_i64 hin18
  have hin19 := inK_u64 hin19
  have hin20 := inK_u64 hin20
  have hin22 := inK_u64 hin22
  have hin23 := inK_i64 hin23
  have hin24 := inK_i64 hin24
  have hin25 := inK_u64 hin25
  have hle26 := hl2.le'
  have hle27 := hl4.le'
  have hle28 := hl6.le'
  have hle29 := hl8.le'
  have hle30 := hl10.le'
  have hle31 := hl12.le'
  have hlI : lastI p = p.Base + (p.Log.length : Int) := rfl
  refine Fnc.of_WX (n := 38) Try.func34 rfl Try.ntmps34 (by simp) ?_
  intro E hE
  have h0 : E 0 = .agg #[.int .i64 (p.Id), v1, .int .u64 (p.Term), .int .i64 (p.Vote), .int .u8 (p.Role), .int .i64 (p.Lead), .int .u64 (p.Base), .int .u64 (p.BaseTerm), v3, .string (p.Snap), v5, .int .u64 (p.Commit), .int .i64 (p.Idle), .int .i64 (p.Wait), v7, v9, .int .u64 (p.Round), v11] := hE 0 (by simp)
  have h1 : E 1 = .int .u64 (i) := hE 1 (by simp)
  clear hE
  refine WX.seq ?_
  refine WP.region ?_
  refine WL.box (x := .tmp 0) (cs := [.int .i64 (p.Id), v1, .int .u64 (p.Term), .int .i64 (p.Vote), .int .u8 (p.Role), .int .i64 (p.Lead), .int .u64 (p.Base), .int .u64 (p.BaseTerm), v3, .string (p.Snap), v5, .int .u64 (p.Commit), .int .i64 (p.Idle), .int .i64 (p.Wait), v7, v9, .int .u64 (p.Round), v11]) (Sure.none rfl) rfl rfl h0 rfl (fun b32 w33 hx34 he35 hb36 => ?_)
  have hl37 := (Sl.new (b := b32) (by show (1 : Nat) ≠ 0; decide) hl2 (by omega)).ext (Ext.any hx34)
  have hl38 := (Sl.new (b := b32) (by show (1 : Nat) ≠ 0; decide) hl4 (by omega)).ext (Ext.any hx34)
  have hl39 := (Sl.new (b := b32) (by show (4 : Nat) ≠ 0; decide) hl6 (by omega)).ext (Ext.any hx34)
  have hl40 := (Sl.new (b := b32) (by show (1 : Nat) ≠ 0; decide) hl8 (by omega)).ext (Ext.any hx34)
  have hl41 := (Sl.new (b := b32) (by show (3 : Nat) ≠ 0; decide) hl10 (by omega)).ext (Ext.any hx34)
  have hl42 := (Sl.new (b := b32) (by show (3 : Nat) ≠ 0; decide) hl12 (by omega)).ext (Ext.any hx34)
  have hx43 : Ext [b32] _ _ := (Ext.refl _ _).trans (Ext.any hx34)
  have hge_b32_w : w.heap.size ≤ b32 := by have := Nat.le_refl w.heap.size; omega
  refine WL.m rfl ?_
  refine WL.nil ?_
  refine WX.seq ?_
  refine WP.sr ?_
  refine WL.z (.agg #[.int .i64 (p.Id), v1, .int .u64 (p.Term), .int .i64 (p.Vote), .int .u8 (p.Role), .int .i64 (p.Lead), .int .u64 (p.Base), .int .u64 (p.BaseTerm), v3, .string (p.Snap), v5, .int .u64 (p.Commit), .int .i64 (p.Idle), .int .i64 (p.Wait), v7, v9, .int .u64 (p.Round), v11]) (V.loadAgg (cs := [.int .i64 (p.Id), v1, .int .u64 (p.Term), .int .i64 (p.Vote), .int .u8 (p.Role), .int .i64 (p.Lead), .int .u64 (p.Base), .int .u64 (p.BaseTerm), v3, .string (p.Snap), v5, .int .u64 (p.Commit), .int .i64 (p.Idle), .int .i64 (p.Wait), v7, v9, .int .u64 (p.Round), v11]) rfl a30 rfl (At.box hb36) rfl) ?_
  refine WL.m rfl ?_
  refine WL.c (Sure.none rfl) rfl (C.call2 (y := .tmp 12) rfl cl44 rfl h1) (Fnc.mono (vote_Term (p := p) ⟨v1, v3, v5, v7, v9, v11, rfl, hl37, hl38, hl39, hl40, hl41, hl42, hk13⟩ i (by omega) (by omega)) ?_)
  rintro _ w44 ⟨rfl, hx45⟩
  have hx46 : Ext [b32] w w44 := hx43.trans (Ext.any (Y := [b32]) hx45)
  have hx47 : Ext [b32] w33 w44 := (Ext.any (Y := [b32]) hx45)
  have hb48 := hb36.ext hx45 (by simp)
  refine WL.m rfl ?_
  refine WL.z (.int .u64 (termOf p i)) (V.extract rfl rfl rfl) ?_
  refine WL.z (.bool (termIs p i)) (V.extract rfl rfl rfl) ?_
  refine WL.m rfl ?_
  refine WL.m rfl ?_
  refine WL.nil ?_
  refine WP.sr ?_
  refine WL.m rfl ?_
  refine WL.z (.bool (!(termIs p i))) (V.not rfl rfl) ?_
  refine WL.nil ?_
  refine WP.condn (t := termIs p i) rfl (fun hc49 => ?_) (fun hc49 => ?_)
  · refine WP.sr ?_
    refine WL.m rfl ?_
    refine WL.nil ?_
    refine WP.ret ?_
    intro az hok he
    refine PostM.plain Try.ntmps34 hok ?_
    rw [he]
    refine resOf.c1 rfl (v := .slice none 0 0) rfl ?_
    exact ⟨.inl ⟨rfl, (membersOf_no (by assumption)).symm⟩, ((hx46).done (geCons hge_b32_w geNil))⟩
  refine WP.skip ?_
  refine WX.seq ?_
  refine WP.region ?_
  have hbi := termIs_bounds (p := p) (i := i) (by assumption)
  refine WL.f (v3) fl30_8 rfl p22 (hb48.cell rfl) ?_
  refine WL.alloc (cs := [.slice none 0 0]) (Sure.none rfl) rfl rfl z22 rfl (fun b50 w51 hx52 he53 hb54 => ?_)
  have hlt_b32_b50 : b32 < b50 := by have := hb48.lt; omega
  have hb55 := hb48.ext hx52 (by simp)
  have hl57 := (Sl.new (b := b50) (by show (1 : Nat) ≠ 0; decide) (hl38.ext (Ext.pre hx47)) (by omega)).ext (Ext.any hx52)
  have hl58 := (Sl.new (b := b50) (by show (4 : Nat) ≠ 0; decide) (hl39.ext (Ext.pre hx47)) (by omega)).ext (Ext.any hx52)
  have hx62 : Ext [b50, b32] _ _ := (Ext.cons hx46).trans (Ext.any hx52)
  have hge_b50_w : w.heap.size ≤ b50 := by have := hx46.size; omega
  refine WL.store (Sure.none rfl) rfl rfl s22 rfl rfl hl57.one hb54 (by show (0 : Nat) < 1; decide) (fun w63 hs64 hb65 => ?_)
  replace hb65 : Box w63 b50 22 [v3] := hb65
  have hb66 := hb55.ext hs64 (by simp; omega)
  have hx67 : Ext [b50, b32] w w63 := hx62.trans (hs64.mono (by simp))
  have hx68 : Ext [b50, b32] w51 w63 := (hs64.mono (by simp))
  refine WL.nil ?_
  refine WX.seqRange ?_
  refine WP.region ?_
  refine WL.f (v5) fl30_10 rfl p26 (hb66.cell rfl) ?_
  refine WL.m rfl ?_
  refine WL.f (.int .u64 (p.Base)) fl30_6 rfl p24 (hb66.cell rfl) ?_
  refine WL.z (.int .u64 (i - p.Base)) (V.arith (x := .tmp 22) rfl h1 rfl rfl (wrap_u64 (by omega) (by omega))) ?_
  refine WL.vex (Sure.none rfl) rfl (V.upto (k := .u64) (h := (i - p.Base).toNat) rfl u26 s61 rfl (hl58.ext (Ext.pre hx68)) (Eq.trans rfl (int_eq (by omega))) (by omega)) (fun v69 hl70 => ?_)
  have hsz57 : w.heap.size ≤ w63.heap.size := hx67.size
  have hlt57_b32 := hb66.lt
  have hlt57_b50 := hb65.lt
  refine WL.c (Sure.none rfl) rfl (C.call1 rfl cl56 rfl) (Fnc.mono (sl_Backward hl70) ?_)
  rintro _ w72 ⟨b71, rfl, hb73, hg74, hx75⟩
  have hx76 : Ext [b50, b32] w w72 := hx67.trans (Ext.any (Y := [b50, b32]) hx75)
  have hx77 : Ext [b50, b32] w51 w72 := hx68.trans (Ext.any (Y := [b50, b32]) hx75)
  have hx78 : Ext [b50, b32] w63 w72 := (Ext.any (Y := [b50, b32]) hx75)
  have hb80 := hb65.ext hx75 (by simp)
  refine WL.nil ?_
  have hm : (i - p.Base).toNat ≤ p.Log.length := by omega
  have hm2 : (p.Log.take (i - p.Base).toNat).length = (i - p.Base).toNat := by rw [List.length_take]; omega
  have hslv : Sl entryR ((w72.heap.size + 1) :: w72.heap.size :: b50 :: X) w72 v69 (p.Log.take (i - p.Base).toNat) := (Sl.new (by show (4 : Nat) ≠ 0; decide) (Sl.new (by show (4 : Nat) ≠ 0; decide) (Sl.mono (hl70.ext (Ext.pre hx78)) (by intro b hb; simp only [List.mem_cons] at hb ⊢; exact hb.elim .inl (fun h => .inr (.inr h)))) (Nat.le_refl _)) (by omega))
  have hslb : Sl (intR .i64) ((w72.heap.size + 1) :: w72.heap.size :: b50 :: X) w72 v3 p.BaseMembers := (Sl.new (by show (1 : Nat) ≠ 0; decide) (Sl.new (by show (1 : Nat) ≠ 0; decide) (Sl.mono (hl57.ext (Ext.pre hx77)) (by intro b hb; simp only [List.mem_cons] at hb ⊢; exact hb.elim .inl (fun h => .inr (.inr h)))) (Nat.le_refl _)) (by omega))
  have hb7 := hb80
  have hb7lt := hb7.lt
  have hge7 : w.heap.size ≤ b50 := hge_b50_w
  have hgep : w.heap.size ≤ b32 := hge_b32_w
  have h95lt := hb73.lt
  have hszR : w.heap.size ≤ w72.heap.size := hx76.size
  have hxR := (hx76).done (geCons hge7 (geCons hgep geNil))
  refine ⟨64, #[.pointer (some ⟨b71, 0, none⟩)], rfl, cl64, (fun w4 => Ext [] w w4 ∧ Blk w4 w72.heap.size (.deferred (some [])) ∧ (∃ o, Blk w4 (w72.heap.size + 1) o) ∧ ∃ vm, Box w4 b50 22 [vm] ∧ Sl (intR .i64) ((w72.heap.size + 1) :: w72.heap.size :: b50 :: X) w4 vm (memUpto p (i - p.Base).toNat)), ?_, ?_⟩
  · intro rec hst hpe htm hE hpar hasg hbody W1 hx1 hs1 hd1 hl1
    have hrecE : ({ rec with state := .ready, pending := none } : Loop) = rec := by cases rec; simp only at hst hpe; subst hst; subst hpe; rfl
    have hb95' := hb73.ext hx1 (by simp)
    have hb7' := hb7.ext hx1 (by simp)
    have hI0 : Ext [(w72.heap.size + 1), b50] W1 W1 ∧ Blk W1 (w72.heap.size + 1) (.loop rec) ∧ Blk W1 w72.heap.size (.deferred (some [])) ∧ Box W1 b50 22 [v3] ∧ ∀ j, (p.Log.take (i - p.Base).toNat).length ≤ j → j < (i - p.Base).toNat → (p.Log.getD j default).Kind ≠ 2 := ⟨Ext.refl _ _, hl1, hd1, hb7', fun j h1 h2 => by omega⟩
    refine Fnc.mono (sl_Backward1 (l := (w72.heap.size + 1)) (b := b71) (v := v69) (xs := p.Log.take (i - p.Base).toNat) (X := ((w72.heap.size + 1) :: w72.heap.size :: b50 :: X))
      (I := fun k w' => Ext [(w72.heap.size + 1), b50] W1 w' ∧ Blk w' (w72.heap.size + 1) (.loop rec) ∧ Blk w' w72.heap.size (.deferred (some [])) ∧ Box w' b50 22 [v3] ∧ ∀ j, k ≤ j → j < (i - p.Base).toNat → (p.Log.getD j default).Kind ≠ 2)
      (D := fun w' => Ext [(w72.heap.size + 1), b50] W1 w' ∧ Blk w' (w72.heap.size + 1) (.loop { rec with state := .done, pending := some (.exit 0) }) ∧ Blk w' w72.heap.size (.deferred (some [])) ∧ ∃ vm, Box w' b50 22 [vm] ∧ Sl (intR .i64) ((w72.heap.size + 1) :: w72.heap.size :: b50 :: X) w' vm (memUpto p (i - p.Base).toNat)) (by omega) hI0 ?_ ?_) ?_
    · rintro k w' ⟨i1, i2, i3, i4, i5⟩
      exact ⟨hb95'.ext i1 (by simp; omega), (hslv.ext (Ext.any hx1)).ext (i1.mono (by simp)), rec, i2, by rw [hpar]; rfl⟩
    · rintro k w' cs r hk ⟨i1, i2, i3, i4, i5⟩ hr hlr
      have hrr : r = rec := by
        have h1 : w'.heap[(w72.heap.size + 1)]? = some (.loop r) := hlr
        have h2 : w'.heap[(w72.heap.size + 1)]? = some (.loop rec) := i2
        rw [h2] at h1; cases h1; rfl
      subst hrr
      have hkm : k < (i - p.Base).toNat := by omega
      have hget : (p.Log.take (i - p.Base).toNat).getD k default = p.Log.getD k default := by simp [List.getD_eq_getElem?_getD, List.getElem?_take, hkm]
      rw [hget] at hr
      obtain ⟨vM, rfl, hlM, hkM⟩ := hr
      refine round_wp (N := 38) (p1 := 28) (p2 := 29) hpar htm hE (by decide) (by decide) (J := fun E2 w2 => ∃ b9, E2 7 = .pointer (some ⟨b50, 0, none⟩) ∧ E2 9 = .pointer (some ⟨b9, 0, none⟩) ∧ Box w2 b9 61 [.int .u64 (p.Log.getD k default).Term, .int .u8 (p.Log.getD k default).Kind, .string (p.Log.getD k default).Data, vM] ∧ w'.heap.size ≤ b9 ∧ Ext [] w' w2) ?_ ?_
      · rw [hasg]
        refine WP.region ?_
        refine WL.alloc (Sure.none rfl) rfl rfl z61 rfl (fun b9 w2 hx2 he2 hb9 => ?_)
        refine WL.storeAgg (x := .tmp 9) (y := .tmp 29) (vs := [.int .u64 (p.Log.getD k default).Term, .int .u8 (p.Log.getD k default).Kind, .string (p.Log.getD k default).Data, vM]) (Sure.none rfl) rfl rfl s61 rfl rfl rfl (by intro u hu; simp only [List.mem_cons, List.not_mem_nil, or_false] at hu; rcases hu with rfl | rfl | rfl | rfl <;> first | rfl | exact Sl.one (by assumption)) hb9 (by show (0 : Nat) + 4 ≤ 4; decide) (fun w3 hx3 hb9' => ?_)
        refine WL.nil ?_
        exact ⟨b9, rfl, rfl, hb9', by omega, Ext.skip hx2 hx3 (by intro y hy; simp at hy; omega)⟩
      · rintro E2 w2 ⟨b9, e7, e9, hb9, hge9, hx2⟩
        have hLlt := i2.lt
        have h7lt := i4.lt
        refine ⟨r, i2.ext hx2 (by simp), hst, fun w3 hx3 hl3 => ?_⟩
        rw [hbody]
        have hb93 := hb9.ext hx3 (by simp; omega)
        have hb73 := (i4.ext hx2 (by simp)).ext hx3 (by simp; omega)
        have hd3 : Blk w3 w72.heap.size (.deferred (some [])) := (i3.ext hx2 (by simp)).ext hx3 (by simp)
        have hM3 : Sl (intR .i64) ((w72.heap.size + 1) :: w72.heap.size :: b50 :: X) w3 vM (p.Log.getD k default).Members := (hlM.ext (Ext.any hx2)).ext (hx3.mono (by simp))
        have hx03 : Ext [(w72.heap.size + 1), b50] W1 w3 := (i1.trans (Ext.any hx2)).trans (hx3.mono (by simp))
        refine WP.block ?_
        refine WP.seq ?_
        refine WP.region ?_
        refine WL.v (u := .pointer (some ⟨b9, 0 + 1, none⟩)) (Sure.none rfl) rfl (V.fieldAddr (x := .tmp 9) rfl fl61_1 e9) ?_
        refine WL.v (u := .int .u8 (p.Log.getD k default).Kind) (Sure.none rfl) rfl (V.load (x := .tmp 30) rfl p59 rfl (hb93.cell rfl)) ?_
        refine WL.v (u := .bool (decide ((p.Log.getD k default).Kind = 2))) (Sure.none rfl) rfl (V.cmp (x := .tmp 31) rfl rfl rfl rfl) ?_
        refine WL.nil ?_
        refine WP.cond (t := decide ((p.Log.getD k default).Kind = 2)) rfl (fun hc => ?_) (fun hc => ?_)
        · replace hc := of_decide_eq_true hc
          refine WP.seq ?_
          refine WP.region ?_
          refine WL.v (u := .pointer (some ⟨b9, 0 + 3, none⟩)) (Sure.none rfl) rfl (V.fieldAddr (x := .tmp 9) rfl fl61_3 e9) ?_
          refine WL.v (u := vM) (Sure.none rfl) rfl (V.load (x := .tmp 33) rfl p22 rfl (hb93.cell rfl)) ?_
          refine WL.store (x := .tmp 7) (y := .tmp 34) (Sure.none rfl) rfl rfl s22 e7 rfl hM3.one hb73 (by show (0 : Nat) < 1; decide) (fun w4 hx4 hb74 => ?_)
          refine WL.nil ?_
          refine WP.exit ?_
          refine ⟨{ r with state := .busy }, Blk.ext hl3 hx4 (by simp; omega), fun w5 hx5 h5 => .inr ⟨rfl, (hx03.trans (hx4.mono (by simp))).trans (hx5.mono (by simp)), (by have h := h5; simp only [Option.isNone_some, Bool.false_eq_true, if_false] at h; rw [hbody] at h; exact h), (hd3.ext hx4 (by simp; omega)).ext hx5 (by simp), vM, hb74.ext hx5 (by simp; omega), ?_⟩⟩
          exact castSl (memUpto_some _ hkm hc (fun j h1 h2 => i5 j h1 h2)).symm ((hM3.ext (hx4.mono (by simp))).ext (hx5.mono (by simp)))
        · replace hc := of_decide_eq_false hc
          refine WP.skip ?_
          refine ⟨{ r with state := .busy }, hl3, fun w5 hx5 h5 => .inl ⟨rfl, hx03.trans (hx5.mono (by simp)), ?_, hd3.ext hx5 (by simp), hb73.ext hx5 (by simp; omega), ?_⟩⟩
          · have h5' : Blk w5 (w72.heap.size + 1) (.loop { r with state := .ready, pending := none }) := h5
            rwa [hrecE] at h5'
          · intro j h1 h2
            rcases Nat.lt_or_ge k j with h3 | h3
            · exact i5 j h3 h2
            · obtain rfl : j = k := by omega
              exact hc
    · rintro _ w3 (⟨i1, i2, i3, i4, i5⟩ | ⟨i1, i2, i3, vm, i4, i5⟩)
      · have h7lt := i4.lt
        refine ⟨rec, i2, by rw [hst]; decide, .inl hpe, fun w4 hx4 => ⟨(Ext.skip hxR hx1 (by simp)).skip (i1.trans (hx4.mono (by simp))) (by intro y hy; simp at hy; omega), i3.ext hx4 (by simp), ?_, v3, i4.ext hx4 (by simp; omega), ?_⟩⟩
        · have hlt : (w72.heap.size + 1) < w4.heap.size := Nat.lt_of_lt_of_le i2.lt hx4.size
          exact ⟨_, Array.getElem?_eq_getElem hlt⟩
        · exact castSl (memUpto_none _ (fun j _ h2 => i5 j (Nat.zero_le _) h2)).symm (((hslb.ext (Ext.any hx1)).ext (i1.mono (by simp))).ext (hx4.mono (by simp)))
      · have h7lt := i4.lt
        refine ⟨_, i2, by simp, .inr rfl, fun w4 hx4 => ⟨(Ext.skip hxR hx1 (by simp)).skip (i1.trans (hx4.mono (by simp))) (by intro y hy; simp at hy; omega), i3.ext hx4 (by simp), ?_, vm, i4.ext hx4 (by simp; omega), i5.ext (hx4.mono (by simp))⟩⟩
        have hlt : (w72.heap.size + 1) < w4.heap.size := Nat.lt_of_lt_of_le i2.lt hx4.size
        exact ⟨_, Array.getElem?_eq_getElem hlt⟩
  · rintro w81 ⟨hxT, hdT, ⟨oT, hlT⟩, v82, hb7T, hvmT⟩
    have hxT' : Ext [(w72.heap.size + 1), w72.heap.size, b50] w w81 := Ext.any hxT
    have hgeD : w.heap.size ≤ w72.heap.size := hszR
    have hgeL : w.heap.size ≤ (w72.heap.size + 1) := by omega
    have hup := hF.upto (i - p.Base).toNat hm
    refine WX.seq ?_
    refine WP.region ?_
    refine WL.z (v82) (V.load rfl p22 rfl (hb7T.cell rfl)) ?_
    refine WL.c (Sure.none rfl) rfl (C.call1 rfl cl12 rfl) (Fnc.mono (sl_clone_own hvmT (by omega) (X := ((w72.heap.size + 1) :: (w72.heap.size :: (b50 :: X)))) (inCons hlT.lt (inCons hdT.lt (inCons hb7T.lt (inMono hX hxT'.size))))) ?_)
    rintro v83 w84 ⟨_, rfl, ho85, hno86, hx87⟩
    have hszB : w.heap.size ≤ w81.heap.size := hxT'.size
    have hx88 : Ext [(w72.heap.size + 1), w72.heap.size, b50] w w84 := hxT'.trans (Ext.any (Y := [(w72.heap.size + 1), w72.heap.size, b50]) hx87)
    have hb91 := hdT.ext hx87 (by simp)
    refine WL.c (Sure.none rfl) rfl (C.call1 rfl cl57 rfl) (Fnc.mono (sl_ClipRow (KRow.of ho85 hno86)) ?_)
    rintro u93 w94 ⟨hk95, hx96⟩
    have hx97 : Ext [(w72.heap.size + 1), w72.heap.size, b50] w w94 := hx88.trans (Ext.any (Y := [(w72.heap.size + 1), w72.heap.size, b50]) hx96)
    have hb101 := hb91.ext hx96 (by simp)
    refine WL.m rfl ?_
    refine WL.nil ?_
    refine WX.of ?_
    refine WP.ret ?_
    intro az hok he
    refine PostM.marked Try.ntmps34 hok hb101 (fun wz hz => ?_)
    have hx103 : Ext [(w72.heap.size + 1), w72.heap.size, b50] w wz := hx97.trans (hz.mono (by simp))
    rw [he]
    refine resOf.c1 rfl (v := u93) rfl ?_
    exact ⟨((KRow.cast (membersOf_yes (by assumption)) (hk95.ext hz (by simp))).low (by omega)).mono (fun x hx => by simp [hx]), ((hx103).done (geCons hgeL (geCons hgeD (geCons hge7 geNil))))⟩

theorem vote_Members {w : World} {X : List Nat} {p : PeerD} {c_p : List Value} (h_p : peerR.rd X w c_p p) (i : Int) (hBase : p.Base ≤ 4611686018427387904) (hi : 0 ≤ i ∧ i < 18446744073709551616) (hF : Fits p) (hX : ∀ x ∈ X, x < w.heap.size) : Fnc Try.prog 34 #[.agg c_p.toArray, .int .u64 (i)] w (fun v w' => ∃ (u0 : Value), v = u0 ∧ Sl (intR .i64) X w' u0 (membersOf p i) ∧ Ext [] w w') :=
  Fnc.mono (vote_MembersK h_p i hX hBase hi hF) fun v w' ⟨h1, h2⟩ => ⟨v, rfl, h1.sl, h2⟩

end Go.Proofs.Ytkcnljgennehaaa.T
