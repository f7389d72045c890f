/- LexCuts: its pieces of code; the tokens that lex.All hands out, one by one. -/
import Derived.Test.YtlfafkeamppakaaDoorQZD
set_option linter.unusedVariables false
set_option linter.unusedSimpArgs false
namespace Go.Proofs.YtlfafkeamppakaaDoor.XT
open Go Go.RowKit Go.Proofs.YtlfafkeamppakaaDoor.Sv Go.Proofs.YtlfafkeamppakaaDoor.W
set_option maxRecDepth 100000
theorem cuG_len : ∀ (f : Nat) (L : List Int) (k : Nat) (l : List D), (cuG f L k l).1.length ≤ l.length + f
  | 0, L, k, l => by simp [cuG]
  | f + 1, L, k, l => by
    rw [cuG]
    split
    · simp only; omega
    · split
      · simp
      · split
        · simp
        · have := cuG_len f (List.drop (onK (List.drop (skL L false) L)) (List.drop (skL L false) L)) (k + skL L false + onK (List.drop (skL L false) L)) (l ++ [onT (List.drop (skL L false) L) (k + skL L false)])
          rw [List.length_append, List.length_singleton] at this
          omega
theorem cuT_len (s : ByteArray) : (cuT s).1.length ≤ 65537 := by
  unfold cuT
  split
  · simp
  · have := cuG_len (s.size + 1) (bys s) 0 []
    simp only [List.length_nil] at this; omega
theorem eqTk_self (x : D) : eqTk x x = true := by simp [eqTk]
theorem allL_self : ∀ l : List D, allL eqTk l l = true
  | [] => rfl
  | x :: r => by rw [allL, eqTk_self, allL_self r]; rfl
theorem g1_vc (a : D) : (bif decide (3000 < (↑a.str.size : Int)) && decide ((↑a.str.size : Int) ≤ 65536) then true = true
  else
    (cuT a.str).fst.length ≤ 1099511627776 ∧
      bif
          !allL eqTk (cuT a.str).fst (cuT a.str).fst || !decide ((↑(cuT a.str).snd.fst : Int) = (↑(cuT a.str).snd.fst : Int)) || !decide ((cuT a.str).snd.snd = (cuT a.str).snd.snd) ||
            !decide ((cuT a.str).snd.snd = 0) == decide ((cuT a.str).snd.snd = 0) then
        false = true
      else false = false ∧ (cuT a.str).fst = (cuT a.str).fst ∧ EqI 0 0 ∧ a.str = a.str) = g1 a := by kernel_rfl
theorem g1_ok (a : D) : g1 a := by
  rw [← g1_vc]
  refine cond_of (fun _ => rfl) (fun _ => ⟨Nat.le_trans (cuT_len a.str) (by decide), cond_of (fun h => ?_) (fun _ => ⟨rfl, rfl, rfl, rfl⟩)⟩)
  rw [allL_self] at h
  simp at h
theorem g2_vc (l a t : D) : ((decide ((↑l.list.length : Int) ≤ a.int) = false → Idx a.int l.list.length) ∧
    bif
        decide ((↑l.list.length : Int) ≤ a.int) ||
          !(decide ((t.fld 0).int = ((nthD l.list a.int.toNat).fld 0).int) &&
              (decide ((t.fld 1).str = ((nthD l.list a.int.toNat).fld 1).str) &&
                (decide ((t.fld 2).int = ((nthD l.list a.int.toNat).fld 2).int) && (decide ((t.fld 3).int = ((nthD l.list a.int.toNat).fld 3).int) && true)))) then
      False
    else
      I64 (a.int + 1) ∧
        false = false ∧ l.list = l.list ∧ a.int + 1 = a.int + 1 ∧ (t.fld 0).int = (t.fld 0).int ∧ (t.fld 1).str = (t.fld 1).str ∧ (t.fld 2).int = (t.fld 2).int ∧ (t.fld 3).int = (t.fld 3).int) = g2 l a t := by kernel_rfl
theorem g2_ok {l a : D} {m : Nat} (ha : a.int = m) (hm : m < l.list.length) (hl : l.list.length ≤ 65537) : g2 l a (nthD l.list m) := by
  rw [← g2_vc, ha]
  simp only [Int.toNat_natCast]
  refine ⟨fun _ => ⟨by omega, by omega⟩, cond_of (fun h => ?_) (fun _ => ⟨⟨by omega, by omega⟩, by simp⟩)⟩
  rw [decide_eq_false (by omega)] at h
  simp at h
theorem p9 : Plain Tryd.prog 9 := plain_of (d := .string) (by kernel_rfl) rfl
theorem p3 : Plain Tryd.prog 3 := plain_of (d := .int .i64) (by kernel_rfl) rfl
theorem p4 : Plain Tryd.prog 4 := plain_of (d := .bool) (by kernel_rfl) rfl
theorem p24 : Plain Tryd.prog 24 := plain_of (d := .slice 37) (by kernel_rfl) rfl
theorem s37 : Sized Tryd.prog 37 4 := by unfold Sized; kernel_rfl
theorem s4 : Sized Tryd.prog 4 1 := by unfold Sized; kernel_rfl
theorem u24 : Tryd.prog.underlying 24 = some (.slice 37) := by kernel_rfl
theorem a37 : Aggr Tryd.prog 37 4 := ⟨by
  have h : ∃ fs, Tryd.prog.underlying 37 = some (.struct fs) := ⟨_, Tryd.underlying37⟩
  obtain ⟨fs, h⟩ := h
  exact ⟨_, h, .inl ⟨fs, rfl⟩⟩, s37⟩
theorem z37 : W.Zero Tryd.prog 37 (.agg #[.int .u8 0, .string (ByteArray.mk #[]), .int .i64 0, .int .i64 0]) := by unfold W.Zero; kernel_rfl
theorem call8 : Callable Tryd.prog 8 := ⟨_, Tryd.func8, by first | decide | kernel_rfl, by rfl⟩
theorem four {cs : List Value} (h : cs.length = 4) : ∃ a b c d, cs = [a, b, c, d] := by
  match cs, h with
  | [a, b, c, d], _ => exact ⟨a, b, c, d, rfl⟩
theorem out8 {G : Fz} {w : World} {S : ByteArray} {rs : List Value} {os : List Nat} (h : OutsRd G w lxcC.res (lxcC.out [.s S]) rs os) : ∃ va x y, rs = [va, x, y] ∧ Slc G 4 (fun x us => Rd G tokT x us) (cuT S).1 va := by
  simp only [lxcC, OutsRd] at h
  obtain ⟨v, vs', cs, o1, o2, rfl, _, hv, hk, v2, vs2, cs2, o3, o4, rfl, _, _, _, v3, vs3, cs3, o5, o6, rfl, _, _, _, rfl, _⟩ := h
  refine ⟨v, v2, v3, rfl, ?_⟩
  simp only [Val, RK.isAgg, DT.isT, cond_false] at hv
  subst hv
  simp only [RkRd, Rd, nthD, D.list, D.str] at hk
  obtain ⟨_, u, e, h⟩ := hk
  cases e
  exact h
theorem iter25 {w : World} {b l : Nat} {S : ByteArray} {F0 : Fz} {I : Fz → Nat → World → Prop} (hgl : gl.ok w) (hbox : Box w b 9 [.string S]) (hF0 : ∀ b o, F0 b = some o → w.heap[b]? = some o)
    (start : ∀ w1 G1, Ext [] w w1 → Sub F0 G1 → (∀ b o, G1 b = some o → w1.heap[b]? = some o) → (∀ b, F0 b = none → G1 b ≠ none → w.heap.size ≤ b) → I G1 0 w1)
    (ext : ∀ G1 k w1 w2, I G1 k w1 → Ext [] w1 w2 → I G1 k w2)
    (keep : ∀ G1 k w1, I G1 k w1 → (∀ b o, G1 b = some o → w1.heap[b]? = some o) ∧ ∃ r : Loop, Blk w1 l (.loop r) ∧ r.params.size = 1)
    (round : ∀ G1 k w1 cs r, k < (cuT S).1.length → I G1 k w1 → Rd G1 tokT (nthD (cuT S).1 k) cs → Blk w1 l (.loop r) →
      RoundIn (Fr none) 0 Tryd.prog l r.fn ((r.params.zip #[.agg cs.toArray]).foldl (fun tmps (x : Nat × Value) => tmps.setIfInBounds x.1 x.2) r.tmps) r.assign r.body w1 fun e w2 => ∃ u, e = .returned u ∧ u = .bool true ∧ I G1 (k + 1) w2) :
    Fnc Tryd.prog 25 #[.func (.yield l) #[] #[], .pointer (some ⟨b, 0, none⟩)] w fun _ w' => ∃ G1, I G1 (cuT S).1.length w' := by
  refine Fnc.of_WP (n := 25) Tryd.func25 rfl Tryd.ntmps25 (by simp) ?_
  intro E hE
  have h0 : E 0 = .func (.yield l) #[] #[] := hE 0 (by simp)
  have h1 : E 1 = .pointer (some ⟨b, 0, none⟩) := hE 1 (by simp)
  clear hE
  refine WP.seq ?_
  refine WP.region ?_
  refine WL.v (u := .string S) (Sure.none rfl) rfl (V.load (x := .tmp 1) rfl p9 h1 (hbox.cell rfl)) ?_
  refine WL.c (Sure.none rfl) rfl (C.call1 rfl call8 rfl) (Fnc.mono (lxcC_ok F0 F0 w [.string S] [.s S] [] hgl (by simp) hF0 (fun b o h => h) List.nodup_nil (by simp) ⟨_, _, rfl, ⟨[.string S], by simp [Rd, nthD, D.str], rfl⟩, rfl, rfl⟩ rfl (by simp [lxcC])) ?_)
  rintro v w1 ⟨G1, os, rs, hx, hs, hfz, hnew, _, _, hout, rfl, _⟩
  obtain ⟨va, vx, vy, rfl, hva⟩ := out8 hout
  have hI := start w1 G1 hx hs hfz hnew
  obtain ⟨aa, cc, hsh, _⟩ := hva.shape
  have hlen := cuT_len S
  refine WL.v (u := .tuple #[va, vx, vy]) (Sure.none rfl) rfl (V.move (x := .tmp 10) rfl rfl) ?_
  refine WL.v (u := va) (Sure.none rfl) rfl (V.extract (x := .tmp 8) rfl rfl rfl) ?_
  refine WL.v (u := vx) (Sure.none rfl) rfl (V.extract (x := .tmp 8) rfl rfl rfl) ?_
  refine WL.v (u := vy) (Sure.none rfl) rfl (V.extract (x := .tmp 8) rfl rfl rfl) ?_
  refine WL.v (u := va) (Sure.none rfl) rfl (V.assign (x := .tmp 11) rfl rfl) ?_
  refine WL.v (u := vx) (Sure.none rfl) rfl (V.assign (x := .tmp 12) rfl rfl) ?_
  refine WL.v (u := vy) (Sure.none rfl) rfl (V.assign (x := .tmp 13) rfl rfl) ?_
  refine WL.nil ?_
  refine WP.seq ?_
  refine WP.region ?_
  refine WL.v (u := va) (Sure.none rfl) rfl (V.move (x := .tmp 3) rfl rfl) ?_
  refine WL.v (u := .int .i64 ((cuT S).1.length : Int)) (Sure.none rfl) rfl (V.lenSlice (x := .tmp 14) rfl rfl u24 hsh) ?_
  refine WL.v (u := .int .i64 0) (Sure.none rfl) rfl (V.move (x := .const (.int .i64 0)) rfl rfl) ?_
  refine WL.nil ?_
  refine WP.block ?_
  refine WP.loop (σ := Nat) (fun j E w' => E 0 = .func (.yield l) #[] #[] ∧ E 14 = va ∧ E 15 = .int .i64 ((cuT S).1.length : Int) ∧ E 16 = .int .i64 (j : Int) ∧ j ≤ (cuT S).1.length ∧ I G1 j w') (fun j => (cuT S).1.length - j) 0 ?_ ?_
  · exact ⟨h0, rfl, rfl, rfl, Nat.zero_le _, hI⟩
  · rintro j E w2 ⟨g0, g14, g15, g16, hj, hIj⟩
    refine WP.seq ?_
    refine WP.region ?_
    refine WL.v (u := .bool (decide ((j : Int) < ((cuT S).1.length : Int)))) (Sure.none rfl) rfl (V.cmp (x := .tmp 16) (y := .tmp 15) rfl g16 g15 rfl) ?_
    refine WL.nil ?_
    refine WP.seq ?_
    refine WP.cond (t := decide ((j : Int) < ((cuT S).1.length : Int))) rfl (fun hc => ?_) (fun hc => ?_)
    · replace hc := of_decide_eq_true hc
      have hlt : j < (cuT S).1.length := by omega
      obtain ⟨bb, kk, c2, cs, hv2, hl4, hat, hrd⟩ := hva.elem hlt
      obtain ⟨hfz2, r, hlr, hpar⟩ := keep _ _ _ hIj
      obtain ⟨x0, x1, x2, x3, rfl⟩ := four hl4
      refine WP.skip ?_
      refine WP.seq ?_
      refine WP.block ?_
      refine WP.seq ?_
      refine WP.region ?_
      refine WL.v (u := .pointer (some ⟨bb, kk + j * 4, none⟩)) (Sure.none rfl) rfl (V.indexAddr (x := .tmp 14) (i := .tmp 16) (m := j) (j := (j : Int)) rfl u24 s37 (g14.trans hv2) g16 rfl hlt) ?_
      refine WL.v (u := .agg #[x0, x1, x2, x3]) (Sure.none rfl) rfl (V.loadAgg (x := .tmp 18) (cs := [x0, x1, x2, x3]) rfl a37 rfl (hat.at hfz2) rfl) ?_
      refine WL.alloc (Sure.none rfl) rfl rfl z37 rfl (fun b7 w3 hx3 he3 hb7 => ?_)
      refine WL.storeAgg (x := .tmp 7) (y := .tmp 19) (vs := [x0, x1, x2, x3]) (Sure.none rfl) rfl rfl s37 rfl rfl rfl (Rd.one tokT _ _ hrd) hb7 (by show (0 : Nat) + 4 ≤ 4; decide) (fun w4 hx4 hb74 => ?_)
      refine WL.nil ?_
      have hx24 : Ext [] w2 w4 := Ext.skip hx3 hx4 (by intro y hy; simp at hy; omega)
      have hI4 := ext _ _ _ _ hIj hx24
      obtain ⟨hfz4, r4, hlr4, hpar4⟩ := keep _ _ _ hI4
      have hb74' : Box w4 b7 37 [x0, x1, x2, x3] := hb74
      refine WP.seq ?_
      refine WP.region ?_
      refine WL.v (u := .func (.yield l) #[] #[]) (Sure.none rfl) rfl (V.move (x := .tmp 0) rfl g0) ?_
      refine WL.v (u := .agg #[x0, x1, x2, x3]) (Sure.none rfl) rfl (V.loadAgg (x := .tmp 7) (cs := [x0, x1, x2, x3]) rfl a37 rfl (At.seg hb74' 0 4) rfl) ?_
      refine WL.yield1 (g := .tmp 20) (x := .tmp 21) (u := .agg #[x0, x1, x2, x3]) (Sure.none rfl) rfl rfl rfl rfl hlr4 hpar4 (RoundIn.mono (round _ _ _ [x0, x1, x2, x3] r4 hlt hI4 hrd hlr4) ?_)
      rintro e w5 ⟨u, rfl, rfl, hI5⟩
      refine ⟨.bool true, rfl, ?_⟩
      refine WL.v (u := .bool false) (Sure.none rfl) rfl (V.not (x := .tmp 22) (b := true) rfl rfl) ?_
      refine WL.nil ?_
      refine WP.cond_false rfl ?_
      refine WP.skip ?_
      refine WP.region ?_
      refine WL.v (u := .int .i64 ((j : Int) + 1)) (Sure.none rfl) rfl (V.arith (x := .tmp 16) rfl g16 rfl rfl (wrap_i64 (by omega) (by omega))) ?_
      refine WL.v (u := .int .i64 ((j : Int) + 1)) (Sure.none rfl) rfl (V.move (x := .tmp 24) rfl rfl) ?_
      refine WL.nil ?_
      exact ⟨j + 1, ⟨g0, g14, g15, by simp [updO, upd], by omega, hI5⟩, by omega⟩
    · replace hc := of_decide_eq_false hc
      obtain rfl : j = (cuT S).1.length := by omega
      refine WP.exit ?_
      refine resOf.none (fn := Tryd.f25) (P := Tryd.prog) (R := fun _ w' => ∃ G1, I G1 (cuT S).1.length w') rfl ?_
      exact ⟨G1, hIj⟩
end Go.Proofs.YtlfafkeamppakaaDoor.XT
