/- LexCuts: the law's own walk. -/
import Derived.Test.YtlfafkeamppakaaDoorQZE
set_option linter.unusedVariables false
set_option linter.unusedSimpArgs false
namespace Go.Proofs.YtlfafkeamppakaaDoor.XT
open Go Go.RowKit Go.Proofs.YtlfafkeamppakaaDoor.Sv Go.Proofs.YtlfafkeamppakaaDoor.W
set_option maxRecDepth 100000
theorem is4_ok {A : AE} (h : is4 A = true) : A.get 2 = some (.ptr 0 0) ∧ A.get 6 = some (.ptr 1 0) ∧ A.get 9 = some (.ptr 2 0) ∧ A.get 55 = some (.fn 25 [.ptr 3 0]) := by
  unfold is4 at h
  split at h
  case h_2 => cases h
  rename_i a b c f d e1 e2 e3 e4
  simp only [Bool.and_eq_true] at h
  obtain ⟨⟨⟨⟨h1, h2⟩, h3⟩, h4⟩, h5⟩ := h
  rw [Nat.eq_of_beq_eq_true h1] at e1
  rw [Nat.eq_of_beq_eq_true h2] at e2
  rw [Nat.eq_of_beq_eq_true h3] at e3
  rw [Nat.eq_of_beq_eq_true h4, Nat.eq_of_beq_eq_true h5] at e4
  exact ⟨e1, e2, e3, e4⟩
def ksI : List AK := [.box 4 [.b], .box 24 [.l tokT], .box 3 [.i .i64]]
def dsI (l : List D) (n : Int) : List D := [.t [.b false], .t [.l l], .t [.i n]]
theorem boxesI {G : Fz} {w : World} {l : List D} {n : Int} {b2 b6 b9 : Nat} (h : BoxesRd G w ksI (dsI l n) [b2, b6, b9]) :
    Box w b2 4 [.bool false] ∧ (∃ v, Box w b6 24 [v] ∧ Slc G 4 (fun x us => Rd G tokT x us) l v) ∧ Box w b9 3 [.int .i64 n] := by
  obtain ⟨x2, r2, e, ⟨c2, g2, q2⟩, x6, r6, e', ⟨c6, g6, q6⟩, x9, r9, e'', ⟨c9, g9, q9⟩, _⟩ := h
  cases e; cases e'; cases e''
  have p2 := rds1 q2
  have p6 := rds1 q6
  have p9 := rds1 q9
  simp only [Rd, nthD, D.bool, D.int, D.list, D.tup, dsI, tailD] at p2 p6 p9
  subst p2; subst p9
  obtain ⟨v, hv, h6⟩ := p6
  subst hv
  exact ⟨g2, ⟨v, g6, h6⟩, g9⟩
/-- between two rounds -/
def Mid (rec : Loop) (L b2 b6 b9 : Nat) (W1 : World) (S : ByteArray) (G1 : Fz) (k : Nat) (w' : World) : Prop :=
  Ext [L, b2, b6, b9] W1 w' ∧ Blk w' L (.loop rec) ∧ (∀ b o, G1 b = some o → w'.heap[b]? = some o) ∧ (∀ b ∈ [b2, b6, b9], G1 b = none) ∧ G1 L = none ∧
    ∃ G2 : Fz, Sub G1 G2 ∧ (∀ b o, G2 b = some o → w'.heap[b]? = some o) ∧ (∀ b, G1 b = none → G2 b ≠ none → W1.heap.size ≤ b) ∧ BoxesRd G2 w' ksI (dsI (cuT S).1 (k : Int)) [b2, b6, b9]
theorem mid_ext {rec : Loop} {L b2 b6 b9 : Nat} {W1 : World} {S : ByteArray} {G1 : Fz} {k : Nat} {w1 w2 : World} (h : Mid rec L b2 b6 b9 W1 S G1 k w1) (hx : Ext [] w1 w2) : Mid rec L b2 b6 b9 W1 S G1 k w2 := by
  obtain ⟨h1, h2, h3, h4, hL, G2, h5, h6, h7, h8⟩ := h
  exact ⟨h1.trans (hx.mono (by simp)), h2.ext hx (by simp), fun b o hb => Ext.keepB hx (h3 b o hb) (by simp), h4, hL, G2, h5, fun b o hb => Ext.keepB hx (h6 b o hb) (by simp), h7, BoxesRd.ext hx _ _ _ h8 (by simp)⟩
theorem code_eq : code4 = seqs pre4 q7 := by kernel_rfl
theorem q7_eq : q7 = .seq (.seq ask4 (.block 0 (.rangeFunc (.tmp 55) #[56] (asgOf rng4) (bodyOf rng4)))) end4 := by kernel_rfl
theorem call25 : Callable Tryd.prog 25 := ⟨_, Tryd.func25, by first | decide | kernel_rfl, by rfl⟩
theorem ids4 {s : Sg} {bs : List Nat} (h : Ids s 0 bs) (hl : bs.length = 4) : ∃ b2 b6 b9 b3, bs = [b2, b6, b9, b3] ∧ (∃ p, s.f 0 = some p ∧ p.b = b2) ∧ (∃ p, s.f 1 = some p ∧ p.b = b6) ∧ (∃ p, s.f 2 = some p ∧ p.b = b9) ∧ (∃ p, s.f 3 = some p ∧ p.b = b3) := by
  match bs, hl, h with
  | [a, b, c, d], _, ⟨h1, h2, h3, h4, _⟩ => exact ⟨a, b, c, d, rfl, h1, h2, h3, h4⟩
theorem ptr_at {s : Sg} {l b : Nat} {v : Value} (h : Rel s (.ptr l 0) v) (hb : ∃ p, s.f l = some p ∧ p.b = b) : v = .pointer (some ⟨b, 0, none⟩) := by
  obtain ⟨p, h1, rfl⟩ := hb
  simp only [Rel] at h
  obtain ⟨q, h2, h3⟩ := h
  rw [h1] at h2; cases h2
  exact h3
theorem ext_skip2 {O Y : List Nat} {a b c : World} (h : Ext O a b) (k : Ext Y b c) (hY : ∀ y ∈ Y, y ∈ O ∨ a.heap.size ≤ y) : Ext O a c :=
  ⟨k.os.trans h.os, k.tape.trans h.tape, k.output.trans h.output, Nat.le_trans h.size k.size,
    fun i hi hx => (k.block i (Nat.lt_of_lt_of_le hi h.size) (fun hy => by rcases hY i hy with h | h; exact hx h; omega)).trans (h.block i hi hx)⟩
theorem tok_eq (t : D) : ∀ p ∈ eqD tokT t (tk4 t), p := by
  intro p hp
  simp only [tokT, eqD, eqDs, List.mem_append, List.mem_cons, List.not_mem_nil, or_false, nthD_tail] at hp
  rcases hp with rfl | rfl | rfl | rfl <;> rfl
/-- one round -/
theorem round4 {rec : Loop} {L b2 b6 b9 : Nat} {W1 : World} {S : ByteArray} {G1 : Fz} {k : Nat} {w' : World} {cs : List Value} {E1 : Env} (hgl : gl.ok W1) (hn : [b2, b6, b9].Nodup) (hge : ∀ b ∈ [b2, b6, b9], gl.n ≤ b ∧ b < L) (hLl : L < W1.heap.size)
    (hst : rec.state = .ready) (hpe : rec.pending = none) (htm : rec.tmps.size = 75) (hE : (fun t => rec.tmps.getD t undef) = E1) (hpar : rec.params = #[56]) (hasg : rec.assign = asgOf rng4) (hbody : rec.body = bodyOf rng4)
    (e2 : E1 2 = .pointer (some ⟨b2, 0, none⟩)) (e6 : E1 6 = .pointer (some ⟨b6, 0, none⟩)) (e9 : E1 9 = .pointer (some ⟨b9, 0, none⟩))
    (hk : k < (cuT S).1.length) (hI : Mid rec L b2 b6 b9 W1 S G1 k w') (hrd : Rd G1 tokT (nthD (cuT S).1 k) cs) :
    RoundIn (Fr none) 0 Tryd.prog L rec.fn ((rec.params.zip #[.agg cs.toArray]).foldl (fun tmps (x : Nat × Value) => tmps.setIfInBounds x.1 x.2) rec.tmps) rec.assign rec.body w' fun e w2 => ∃ u, e = .returned u ∧ u = .bool true ∧ Mid rec L b2 b6 b9 W1 S G1 (k + 1) w2 := by
  have hrecE : ({ rec with state := .ready, pending := none } : Loop) = rec := by cases rec; simp only at hst hpe; subst hst; subst hpe; rfl
  obtain ⟨i1, i2, i3, i4, iL, G2, i5, i6, i7, i8⟩ := hI
  obtain ⟨x0, x1, x2, x3, rfl⟩ := four (Rd.len tokT _ _ hrd)
  refine round_wp1 (N := 75) (p1 := 56) (R := fun u w2 => u = .bool true ∧ Mid rec L b2 b6 b9 W1 S G1 (k + 1) w2) hpar htm hE (by decide) (J := fun E2 w2 => ∃ b10, E2 2 = .pointer (some ⟨b2, 0, none⟩) ∧ E2 6 = .pointer (some ⟨b6, 0, none⟩) ∧ E2 9 = .pointer (some ⟨b9, 0, none⟩) ∧ E2 10 = .pointer (some ⟨b10, 0, none⟩) ∧ Box w2 b10 37 [x0, x1, x2, x3] ∧ w'.heap.size ≤ b10 ∧ Ext [] w' w2) ?_ ?_
  · rw [hasg]
    refine WP.region ?_
    refine WL.alloc (Sure.none rfl) rfl rfl z37 rfl (fun b10 w2 hx2 he2 hb10 => ?_)
    refine WL.storeAgg (x := .tmp 10) (y := .tmp 56) (vs := [x0, x1, x2, x3]) (Sure.none rfl) rfl rfl s37 rfl rfl rfl (Rd.one tokT _ _ hrd) hb10 (by show (0 : Nat) + 4 ≤ 4; decide) (fun w3 hx3 hb10' => ?_)
    refine WL.nil ?_
    exact ⟨b10, e2, e6, e9, rfl, hb10', by omega, Ext.skip hx2 hx3 (by intro y hy; simp at hy; omega)⟩
  · rintro E2 w2 ⟨b10, f2, f6, f9, f10, hb10, hge10, hx2⟩
    have hLlt := i2.lt
    refine ⟨rec, i2.ext hx2 (by simp), hst, fun w3 hx3 hl3 => ?_⟩
    rw [hbody]
    have hx23 : Ext [L] w' w3 := (hx2.mono (by simp)).trans hx3
    have hW3 : Ext [L, b2, b6, b9] W1 w3 := i1.trans (hx23.mono (by simp))
    have h2L : ∀ b ∈ [b2, b6, b9], b ∉ [L] := fun b hb hm => by have := (hge b hb).2; simp at hm; omega
    have hsz : W1.heap.size ≤ w'.heap.size := i1.size
    have hG2L : G2 L = none := by
      cases hg : G2 L with
      | none => rfl
      | some o => have := i7 L iL (by rw [hg]; simp); omega
    have hG2b : ∀ b ∈ [b2, b6, b9], G2 b = none := fun b hb => by
      cases hg : G2 b with
      | none => rfl
      | some o => have h1 := i7 b (i4 b hb) (by rw [hg]; simp); have h2 := (hge b hb).2; omega
    have hfr3 : ∀ b o, G2 b = some o → w3.heap[b]? = some o := fun b o hb => Ext.keepB hx23 (i6 b o hb) (by intro hm; simp at hm; subst hm; rw [hG2L] at hb; cases hb)
    have hB3 := BoxesRd.ext hx23 _ _ _ i8 h2L
    have hG210 : G2 b10 = none := by
      cases hg : G2 b10 with
      | none => rfl
      | some o =>
        have h1 := i6 b10 o hg
        have := (Array.getElem?_eq_some_iff.1 h1).1
        omega
    have h10 : Box w3 b10 37 [x0, x1, x2, x3] := hb10.ext hx3 (by simp; omega)
    have hgl3 : gl.ok w3 := glob_ext hgl hW3 (by
      intro x hx
      simp only [List.mem_cons, List.not_mem_nil, or_false] at hx
      have q2 := hge b2 (by simp); have q6 := hge b6 (by simp); have q9 := hge b9 (by simp)
      rcases hx with rfl | rfl | rfl | rfl <;> omega)
    have hn10 : [b2, b6, b9, b10].Nodup := by
      have q2 := hge b2 (by simp); have q6 := hge b6 (by simp); have q9 := hge b9 (by simp)
      simp only [List.nodup_cons, List.mem_cons, List.not_mem_nil, or_false, not_or, not_false_eq_true, List.nodup_nil, and_true] at hn ⊢
      omega
    obtain ⟨y2, r2, e, ⟨c2, g2, q2⟩, y6, r6, e', ⟨c6, g6, q6⟩, y9, r9, e'', ⟨c9, g9, q9⟩, _⟩ := hB3
    cases e; cases e'; cases e''
    have hrdG : Rd G2 tokT (tk4 (nthD (cuT S).1 k)) [x0, x1, x2, x3] := eqD_ok tokT (nthD (cuT S).1 k) (tk4 (nthD (cuT S).1 k)) _ (tok_eq _) (Rd.mono i5 tokT _ _ hrd)
    have hargs : ArgsRd G2 G2 w3 ksB (dsB (.l (cuT S).1) (k : Int) (nthD (cuT S).1 k)) [.pointer (some ⟨b2, 0, none⟩), .pointer (some ⟨b6, 0, none⟩), .pointer (some ⟨b9, 0, none⟩), .pointer (some ⟨b10, 0, none⟩)] [b2, b6, b9, b10] :=
      ⟨_, _, _, _, rfl, rfl, rfl, ⟨c2, g2, q2⟩, _, _, _, _, rfl, rfl, rfl, ⟨c6, g6, q6⟩, _, _, _, _, rfl, rfl, rfl, ⟨c9, g9, q9⟩, _, _, _, _, rfl, rfl, rfl, ⟨[x0, x1, x2, x3], h10, by have h := hrdG; simp only [Rd, tokT] at h; exact h⟩, rfl, rfl⟩
    have hgo : XT.g2 (.l (cuT S).1) (.i (k : Int)) (nthD (cuT S).1 k) := g2_ok (l := .l (cuT S).1) (a := .i (k : Int)) rfl hk (cuT_len S)
    unfold XT.g2 at hgo
    refine WP.mono (seg_ok (ro := some L) (DD := []) mo S4_ok 200 4 75 (bodyOf rng4) (F := G2) (G := G2) (ks := ksB) (ds := dsB (.l (cuT S).1) (k : Int) (nthD (cuT S).1 k)) (es := dsB (.l (cuT S).1) ((k : Int) + 1) (nthD (cuT S).1 k)) (ts := [2, 6, 9, 10]) (bs := [b2, b6, b9, b10]) hgl3 (by
      intro b hb
      have q2 := hge b2 (by simp); have q6 := hge b6 (by simp); have q9 := hge b9 (by simp)
      simp only [List.mem_cons, List.not_mem_nil, or_false] at hb
      have := gl.low _ hgl
      rcases hb with rfl | rfl | rfl | rfl <;> omega) hfr3 (fun b o h => h) hn10 (by
      intro b hb
      simp only [List.mem_cons, List.not_mem_nil, or_false] at hb
      rcases hb with rfl | rfl | rfl | rfl
      · exact hG2b _ (by simp)
      · exact hG2b _ (by simp)
      · exact hG2b _ (by simp)
      · exact hG210) hargs ⟨_, _, rfl, f2, _, _, rfl, f6, _, _, rfl, f9, _, _, rfl, f10, rfl⟩ hgo) ?_ (fun _ _ _ h => h.elim) (fun _ _ h => h.elim)
    rintro E4 w4 ⟨hx4, G3, j1, j2, j3, j4⟩
    have q2' := hge b2 (by simp); have q6' := hge b6 (by simp); have q9' := hge b9 (by simp)
    have hs3 : W1.heap.size ≤ w3.heap.size := hW3.size
    have hL4 : L ∉ [b2, b6, b9, b10] := by simp; omega
    refine ⟨{ rec with state := .busy }, Ext.keepB hx4 hl3 hL4, fun w5 hx5 h5 => ⟨rfl, ?_⟩⟩
    have h5' : Blk w5 L (.loop { rec with state := .ready, pending := none }) := h5
    rw [hrecE] at h5'
    have hG3L : G3 L = none := by
      cases hg : G3 L with
      | none => rfl
      | some o => have := j3 L hG2L (by rw [hg]; simp); omega
    have hfr5 : ∀ b o, G3 b = some o → w5.heap[b]? = some o := fun b o hb => Ext.keepB hx5 (j2 b o hb) (by intro hm; simp at hm; subst hm; rw [hG3L] at hb; cases hb)
    refine ⟨?_, h5', fun b o hb => hfr5 b o (j1 b o (i5 b o hb)), i4, iL, G3, fun b o hb => j1 b o (i5 b o hb), hfr5, fun b hb hb' => ?_, ?_⟩
    · exact (ext_skip2 hW3 hx4 (by intro y hy; simp at hy ⊢; omega)).trans (hx5.mono (by simp))
    · cases hg : G2 b with
      | none => have := j3 b hg hb'; omega
      | some o => exact i7 b hb (by rw [hg]; simp)
    · obtain ⟨z2, s2, e, ⟨d2, m2, n2⟩, z6, s6, e', ⟨d6, m6, n6⟩, z9, s9, e'', ⟨d9, m9, n9⟩, _⟩ := BoxesRd.ext hx5 _ _ _ j4 (by intro b hb hm; simp at hm; subst hm; exact hL4 hb)
      cases e; cases e'; cases e''
      exact ⟨_, _, rfl, ⟨d2, m2, n2⟩, _, _, rfl, ⟨d6, m6, n6⟩, _, _, rfl, ⟨d9, m9, n9⟩, trivial⟩
end Go.Proofs.YtlfafkeamppakaaDoor.XT
