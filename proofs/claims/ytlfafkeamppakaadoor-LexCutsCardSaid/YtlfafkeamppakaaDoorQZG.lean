/- LexCuts: the whole law. -/
import Derived.Test.YtlfafkeamppakaaDoorQZF
set_option linter.unusedVariables false
set_option linter.unusedSimpArgs false
namespace Go.Proofs.YtlfafkeamppakaaDoor.XT
open Go Go.RowKit Go.Proofs.YtlfafkeamppakaaDoor.Sv Go.Proofs.YtlfafkeamppakaaDoor.W
set_option maxRecDepth 100000
/-- what stands behind the loop -/
def After (w : World) (S : ByteArray) (D b2 b6 b9 : Nat) (w4 : World) : Prop :=
  Ext [] w w4 ∧ Blk w4 D (.deferred (some [])) ∧ Box w4 b2 4 [.bool false] ∧ (∃ a c, Box w4 b6 24 [.slice a (cuT S).1.length c]) ∧ Box w4 b9 3 [.int .i64 ((cuT S).1.length : Int)]
theorem end_ok {w w4 : World} {S : ByteArray} {D b2 b6 b9 : Nat} {E1 : Env} (e2 : E1 2 = .pointer (some ⟨b2, 0, none⟩)) (e6 : E1 6 = .pointer (some ⟨b6, 0, none⟩)) (e9 : E1 9 = .pointer (some ⟨b9, 0, none⟩)) (hb2 : w.heap.size ≤ b2) (hD : w.heap.size ≤ D) (hne : b2 ≠ D)
    (h : After w S D b2 b6 b9 w4) : WX Tryd.prog ⟨75, [W.mark D]⟩ end4 (PostM Tryd.prog Tryd.f4 fun v w' => v = .bool true ∧ Ext [] w w') E1 w4 := by
  obtain ⟨hx, hd, h2, ⟨aa, cc, h6⟩, h9⟩ := h
  have hlen := cuT_len S
  refine WX.seq ?_
  refine WP.region ?_
  refine WL.v (u := .int .i64 ((cuT S).1.length : Int)) (Sure.none rfl) rfl (V.load (x := .tmp 9) rfl p3 e9 (h9.cell rfl)) ?_
  refine WL.v (u := .slice aa (cuT S).1.length cc) (Sure.none rfl) rfl (V.load (x := .tmp 6) rfl p24 e6 (h6.cell rfl)) ?_
  refine WL.v (u := .int .i64 ((cuT S).1.length : Int)) (Sure.none rfl) rfl (V.lenSlice (x := .tmp 72) rfl rfl u24 rfl) ?_
  refine WL.v (u := .bool (decide (((cuT S).1.length : Int) = ((cuT S).1.length : Int)))) (Sure.none rfl) rfl (V.cmp (x := .tmp 71) (y := .tmp 73) rfl rfl rfl rfl) ?_
  refine WL.store (x := .tmp 2) (y := .tmp 74) (Sure.none rfl) rfl rfl s4 e2 rfl rfl h2 (by show (0 : Nat) < 1; decide) (fun w5 hx5 hb5 => ?_)
  refine WL.nil ?_
  refine WX.of (WP.ret ?_)
  intro a ha he
  refine PostM.marked Tryd.ntmps4 ha (hd.ext hx5 (by simp; omega)) fun w6 hx6 => ?_
  rw [he]
  have hb6 : Box w6 b2 4 [.bool true] := by
    rw [show true = decide (((cuT S).1.length : Int) = ((cuT S).1.length : Int)) by simp]
    exact hb5.ext hx6 (by simp; omega)
  refine resOf.c1 rfl (v := .bool true) ⟨b2, 0, e2, run_loadVar_one p4 (hb6.cell rfl)⟩ ⟨rfl, ?_⟩
  exact Ext.skip (Ext.skip hx hx5 (by simp; omega)) hx6 (by simp; omega)
theorem lxCL_fnc {w : World} {S : ByteArray} (hgl : gl.ok w) : Fnc Tryd.prog 4 #[.string S] w fun v w' => v = .bool true ∧ Ext [] w w' := by
  refine Fnc.of_WX (n := 75) (c := code4) Tryd.func4 rfl Tryd.ntmps4 (by simp) ?_
  intro E hE
  have h0 : E 0 = .string S := hE 0 (by simp)
  rw [code_eq]
  obtain ⟨s, k1, k2, k3, k4, k5, k6, k7, k8⟩ := seg_start (Γ := gl) (F := fun _ => none) (G := fun _ => none) (w := w) (ks := [.d true .s]) (ds := [.s S]) (vs := [.string S]) (bs := []) hgl (by simp) (by intro b o h; cases h) (Sub.refl _) List.nodup_nil (by simp) ⟨_, _, rfl, ⟨[.string S], by simp [Rd, nthD, D.str], rfl⟩, rfl, rfl⟩
  have hg1 := g1_ok (.s S)
  unfold g1 at hg1
  refine pre_ok mo S4_ok 200 4 75 pre4 _ _ _ hg1 (putTs_ne _ _) k8 s w E w k5 (putTs_ok [0] _ _ k6 ⟨_, _, rfl, h0, rfl⟩) ?_ ?_ ?_
  · intro A st s1 E' w' hk hA hn hle hH hE'
    rw [q7_eq]
    have hk : evCode Tryd.prog S4 noAn 200 4 75 ask4 A st (XT.k5 (.s S)) := hk
    refine WX.seqRange (WP.mono (code_ok mo S4_ok 200 4 75 ask4 A st _ hk hA hn s1 w E' w' hH hE') ?_ ?_ ?_)
    · rintro E1 w1 ⟨A5, st5, s5, hk5, hle5, hH5, hE5⟩
      have hk5 : (bif is4 A5 then segB ks4 (es4 (.s S)) st5 else False) := hk5
      cases his : is4 A5 with
      | false => rw [his] at hk5; exact hk5.elim
      | true =>
      rw [his] at hk5
      have hk5 : segB ks4 (es4 (.s S)) st5 := hk5
      obtain ⟨a2, a6, a9, a55⟩ := is4_ok his
      obtain ⟨bs, hI, hbl, hnd, _⟩ := hasB_ids hH5 4 0 (segB_has hk5)
      obtain ⟨hx1, G', _, hfz, _, hB, hfree⟩ := segB_ok hk5 hH5 hI hbl
      obtain ⟨b2, b6, b9, b3, rfl, i2, i6, i9, i3⟩ := ids4 hI hbl
      have hX : s5.X = [] := by rw [hle5.X, hle.X, k1]
      rw [hX] at hx1
      have e2 := ptr_at (hE5 2 _ a2) i2
      have e6 := ptr_at (hE5 6 _ a6) i6
      have e9 := ptr_at (hE5 9 _ a9) i9
      have e55 : E1 55 = .func (.func 25) #[] #[.pointer (some ⟨b3, 0, none⟩)] := by
        have h := hE5 55 _ a55
        simp only [Rel] at h
        obtain ⟨vs, hr, e⟩ := h
        obtain ⟨v, vs', q1, q2, rfl⟩ := hr.uncons
        have := q2.unnil
        subst this
        rw [e, ptr_at q1 i3]
      have hge : ∀ b ∈ [b2, b6, b9, b3], w.heap.size ≤ b := fun b hb => by
        rcases (hfree b hb).2 with h | h
        · exact h
        · rw [hX] at h; simp at h
      obtain ⟨y2, r2, qa, ⟨c2, m2, n2⟩, y6, r6, qb, ⟨c6, m6, n6⟩, y9, r9, qc, ⟨c9, m9, n9⟩, y3, r3, qd, ⟨c3, m3, n3⟩, _⟩ := hB
      cases qa; cases qb; cases qc; cases qd
      have l2 := heap_lt m2; have l6 := heap_lt m6; have l9 := heap_lt m9; have l3 := heap_lt m3
      have g2 := hge b2 (by simp); have g6 := hge b6 (by simp); have g9 := hge b9 (by simp); have g3 := hge b3 (by simp)
      refine ⟨25, #[.pointer (some ⟨b3, 0, none⟩)], e55, call25, After w S w1.heap.size b2 b6 b9, ?_, fun w4 h => end_ok e2 e6 e9 g2 hx1.size (by omega) h⟩
      intro rec hst hpe htm hE0 hpar hasg hbody W1 hxW hsW hdW hlW
      have hglW : gl.ok W1 := glob_ext (glob_ext hgl hx1 (by simp)) hxW (by simp)
      have hgw := gl.low _ hgl
      have hb3 : Box W1 b3 9 [.string S] := by
        have p3 := rds1 n3
        simp only [Rd, nthD, D.str, D.tup, es4, tailD] at p3
        subst p3
        exact Box.ext m3 hxW (by simp)
      have hG'L : G' (w1.heap.size + 1) = none := by
        cases hg : G' (w1.heap.size + 1) with
        | none => rfl
        | some o => have := heap_lt (hfz _ o hg); omega
      refine Fnc.mono (iter25 (w := W1) (b := b3) (l := w1.heap.size + 1) (S := S) (F0 := G') (I := Mid rec (w1.heap.size + 1) b2 b6 b9 W1 S) hglW hb3 (fun b o hb => Ext.keepB hxW (hfz b o hb) (by simp)) ?_ (fun _ _ _ _ h hx => mid_ext h hx) (fun _ _ _ h => ⟨h.2.2.1, rec, h.2.1, by rw [hpar]; rfl⟩) ?_) ?_
      · intro w2 G1 hx2 hsub hfz2 hnew
        have hno : ∀ b, b < W1.heap.size → G' b = none → G1 b = none := fun b hb h => by
          cases hg : G1 b with
          | none => rfl
          | some o => have := hnew b h (by rw [hg]; simp); omega
        refine ⟨hx2.mono (by simp), hlW.ext hx2 (by simp), hfz2, fun b hb => ?_, hno _ (by omega) hG'L, G1, fun b o h => h, hfz2, fun b h h' => absurd h h', ?_⟩
        · simp only [List.mem_cons, List.not_mem_nil, or_false] at hb
          rcases hb with rfl | rfl | rfl
          · exact hno _ (by omega) (hfree _ (by simp)).1
          · exact hno _ (by omega) (hfree _ (by simp)).1
          · exact hno _ (by omega) (hfree _ (by simp)).1
        · have hxx := hxW.trans hx2
          exact ⟨_, _, rfl, ⟨c2, Ext.keepB hxx m2 (by simp), Rds.mono hsub _ _ _ n2⟩, _, _, rfl, ⟨c6, Ext.keepB hxx m6 (by simp), Rds.mono hsub _ _ _ n6⟩, _, _, rfl, ⟨c9, Ext.keepB hxx m9 (by simp), Rds.mono hsub _ _ _ n9⟩, trivial⟩
      · intro G1 k w2 cs r hk hI hrd hlr
        have hrr : r = rec := by
          have h1 : w2.heap[w1.heap.size + 1]? = some (.loop r) := hlr
          have h2 : w2.heap[w1.heap.size + 1]? = some (.loop rec) := hI.2.1
          rw [h2] at h1; cases h1; rfl
        subst hrr
        refine round4 hglW ?_ ?_ (by omega) hst hpe htm hE0 hpar hasg hbody e2 e6 e9 hk hI hrd
        · simp only [List.nodup_cons, List.mem_cons, List.not_mem_nil, or_false, not_or, not_false_eq_true, List.nodup_nil, and_true] at hnd ⊢
          omega
        · intro b hb
          simp only [List.mem_cons, List.not_mem_nil, or_false] at hb
          rcases hb with rfl | rfl | rfl <;> omega
      · rintro _ w3 ⟨G1, hI⟩
        refine ⟨rec, hI.2.1, by rw [hst]; decide, .inl hpe, fun w4 hx4 => ?_⟩
        obtain ⟨i1, _, _, _, _, G2, _, _, _, i8⟩ := hI
        obtain ⟨x2, ⟨vv, x6, x6'⟩, x9⟩ := boxesI i8
        obtain ⟨aa, cc, hsh, _⟩ := x6'.shape
        refine ⟨Ext.skip (hx1.trans hxW) (i1.trans (hx4.mono (by simp))) (by intro y hy; simp at hy; omega), (hdW.ext i1 (by simp; omega)).ext hx4 (by simp), x2.ext hx4 (by simp; omega), ⟨aa, cc, ?_⟩, x9.ext hx4 (by simp; omega)⟩
        rw [← hsh]
        exact x6.ext hx4 (by simp; omega)
    · rintro i E1 w1 ⟨A5, st5, s5, hk5, _⟩; exact hk5.elim
    · rintro E1 w1 ⟨A5, st5, s5, hk5, _⟩; exact hk5.elim
  · intro A st s1 E' w' hk hle hH hE' a ha he
    refine PostM.plain Tryd.ntmps4 ha ?_
    rw [he]
    intro tmps hs hte
    subst hte
    have hk : (match resAs Tryd.prog A st [.cell 2 4] with
      | some [.v (.bool b)] => b = true
      | _ => False) := hk
    split at hk
    case h_2 => exact hk.elim
    rename_i b hres
    obtain ⟨vs, r1, r2⟩ := results_ok (fn := Tryd.f4) hH hE' hres
    obtain ⟨v, vs', q1, q2, rfl⟩ := r2.uncons
    have := q2.unnil
    subst this
    have hv := q1.v_of
    subst hv
    refine ⟨.bool b, r1, by rw [hk], ?_⟩
    have := hH.ext
    rw [hle.X, k1] at this
    exact this
  · intro i A st h; exact h
def lxCLC : Con := ⟨[.d true .s], fun ds => [], [.d .b], fun ds => [.b true], fun ds => []⟩
theorem lxCLC_ok : ConOK Tryd.prog gl 4 lxCLC :=
  scal_ok (by rfl) (fun ds => ⟨[.string (nthD ds 0).str], rfl⟩) fun w ds vs e hg _ => by
    have e : some [Value.string (nthD ds 0).str] = some vs := e
    cases e
    exact lxCL_fnc hg
end Go.Proofs.YtlfafkeamppakaaDoor.XT
