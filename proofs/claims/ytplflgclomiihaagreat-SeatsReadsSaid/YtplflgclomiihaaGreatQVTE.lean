/- Contracts. -/
import Derived.Test.YtplflgclomiihaaGreatQVTD
set_option linter.unusedVariables false
set_option linter.unusedSimpArgs false
namespace Go.Proofs.YtplflgclomiihaaGreat.XT
open Go Go.RowKit Go.Proofs.YtplflgclomiihaaGreat.Sv Go.Proofs.YtplflgclomiihaaGreat.W
set_option maxRecDepth 100000
theorem ext_skip2 {O Y:List Nat} {a b c:World} (h:Ext O a b) (k:Ext Y b c) (hY:∀ y ∈ Y,y ∈ O ∨ a.heap.size ≤ y):Ext O a c :=
 ⟨k.os.trans h.os,k.tape.trans h.tape,k.output.trans h.output,Nat.le_trans h.size k.size,
  fun i hi hx=>(k.block i (Nat.lt_of_lt_of_le hi h.size) (fun hy=>by rcases hY i hy with h | h; exact hx h; omega)).trans (h.block i hi hx)⟩
theorem four {cs:List Value} (h:cs.length=4):∃ a b c d,cs=[a,b,c,d]:=by
 match cs,h with
 | [a,b,c,d],_=>exact ⟨a,b,c,d,rfl⟩
theorem ent_eq (t:D):∀ p ∈ eqD entT t (etaD entT t),p:=by
 intro p hp
 simp only [entT,eqD,eqDs,List.mem_append,List.mem_cons,List.not_mem_nil,or_false,nthD_tail] at hp
 rcases hp with rfl | rfl | rfl | rfl <;> rfl
def ksL:List AK:=[.box 22 [.l (.i .i64)]]
def St20 (r:Loop) (L b7:Nat) (W1:World) (G0:Fz) (xs:List D) (w':World):Prop :=
 Ext [L,b7] W1 w'∧Blk w' L (.loop r)∧(∀ b o,G0 b=some o → w'.heap[b]?=some o) ∧
  ∃ G2:Fz,Sub G0 G2∧(∀ b o,G2 b=some o → w'.heap[b]?=some o)∧(∀ b,G0 b=none → G2 b ≠ none → W1.heap.size ≤ b)∧BoxesRd G2 w' ksL [.t [.l xs]] [b7]
theorem memL_at {base xs:List D} {k m:Nat} (hk:k < m) (h2:((nthD xs k).fld 1).int=2) (hno:∀ j,k + 1 ≤ j → j < m → ((nthD xs j).fld 1).int ≠ 2):memL base xs m=((nthD xs k).fld 3).list:=by
 induction m with
 | zero=>omega
 | succ m ih =>
  rcases Nat.lt_or_ge k m with h | h
  ·rw [memL,if_neg (hno m (by omega) (by omega))]
   exact ih h fun j h1 h2=>hno j h1 (by omega)
  ·obtain rfl:k=m:=by omega
   rw [memL,if_pos h2]
theorem memL_no {base xs:List D}:∀ {m:Nat},(∀ j,j < m → ((nthD xs j).fld 1).int ≠ 2) → memL base xs m=base
 | 0,_=>rfl
 | m + 1,h=>by rw [memL,if_neg (h m (Nat.lt_succ_self m))]; exact memL_no fun j hj=>h j (by omega)
theorem round20 {rec : Loop} {L b7 : Nat} {W1 : World} {G0 : Fz} {base xs : List D} {k : Nat} {w' : World} {cs : List Value} {E1 : Env} (hbL : b7 < L) (hLl : L < W1.heap.size)
    (hst : rec.state = .ready) (hpe : rec.pending = none) (htm : rec.tmps.size = 38) (hE : (fun t => rec.tmps.getD t undef) = E1) (hpar : rec.params = #[28, 29]) (hasg : rec.assign = asgOf rng20) (hbody : rec.body = bodyOf rng20)
    (e7 : E1 7 = .pointer (some ⟨b7, 0, none⟩)) (g7 : G0 b7 = none) (gL : G0 L = none)
    (hk : k < xs.length) (hI : St20 rec L b7 W1 G0 base w') (hno : ∀ j, k + 1 ≤ j → j < xs.length → ((nthD xs j).fld 1).int ≠ 2) (hrd : Rd G0 entT (nthD xs k) cs) :
    RoundIn (Fr none) 0 Tryz.prog L rec.fn ((rec.params.zip #[.int .i64 (k : Int), .agg cs.toArray]).foldl (fun tmps (x : Nat × Value) => tmps.setIfInBounds x.1 x.2) rec.tmps) rec.assign rec.body w' fun e w'' => ∃ u, e = .returned u ∧
      ((u = .bool true ∧ St20 rec L b7 W1 G0 base w'' ∧ ∀ j, k ≤ j → j < xs.length → ((nthD xs j).fld 1).int ≠ 2) ∨ (u = .bool false ∧ St20 { rec with state := .done, pending := some (.exit 0) } L b7 W1 G0 (memL base xs xs.length) w'')) := by
  have hrecE : ({ rec with state := .ready, pending := none } : Loop) = rec := by cases rec; simp only at hst hpe; subst hst; subst hpe; rfl
  obtain ⟨i1, i2, i3, G2, i5, i6, i7, i8⟩ := hI
  obtain ⟨x0, x1, x2, x3, rfl⟩ := four (Rd.len entT _ _ hrd)
  refine round_wp (N := 38) (p1 := 28) (p2 := 29) (R := fun u w'' => (u = .bool true ∧ St20 rec L b7 W1 G0 base w'' ∧ ∀ j, k ≤ j → j < xs.length → ((nthD xs j).fld 1).int ≠ 2) ∨ (u = .bool false ∧ St20 { rec with state := .done, pending := some (.exit 0) } L b7 W1 G0 (memL base xs xs.length) w'')) hpar htm hE (by decide) (by decide) (J := fun E2 w2 => ∃ b9, E2 7 = .pointer (some ⟨b7, 0, none⟩) ∧ E2 9 = .pointer (some ⟨b9, 0, none⟩) ∧ Box w2 b9 88 [x0, x1, x2, x3] ∧ w'.heap.size ≤ b9 ∧ Ext [] w' w2) ?_ ?_
  · rw [hasg]
    refine WP.region ?_
    refine WL.alloc (Sure.none rfl) rfl rfl o90 rfl (fun b9 w2 hx2 he2 hb9 => ?_)
    refine WL.storeAgg (x := .tmp 9) (y := .tmp 29) (vs := [x0, x1, x2, x3]) (Sure.none rfl) rfl rfl d90 rfl rfl rfl (Rd.one entT _ _ hrd) hb9 (by show (0 : Nat) + 4 ≤ 4; decide) (fun w3 hx3 hb9' => ?_)
    refine WL.nil ?_
    exact ⟨b9, e7, rfl, hb9', by omega, Ext.skip hx2 hx3 (by intro y hy; simp at hy; omega)⟩
  · rintro E2 w2 ⟨b9, f7, f9, hb9, hge9, hx2⟩
    have hLlt := i2.lt
    refine ⟨rec, i2.ext hx2 (by simp), hst, fun w3 hx3 hl3 => ?_⟩
    rw [hbody]
    have hx23 : Ext [L] w' w3 := (hx2.mono (by simp)).trans hx3
    have hW3 : Ext [L, b7] W1 w3 := i1.trans (hx23.mono (by simp))
    have hsz : W1.heap.size ≤ w'.heap.size := i1.size
    have hG2L : G2 L = none := by
      cases hg : G2 L with
      | none => rfl
      | some o => have := i7 L gL (by rw [hg]; simp); omega
    have hG27 : G2 b7 = none := by
      cases hg : G2 b7 with
      | none => rfl
      | some o => have := i7 b7 g7 (by rw [hg]; simp); omega
    have hfr3 : ∀ b o, G2 b = some o → w3.heap[b]? = some o := fun b o hb => Ext.keepB hx23 (i6 b o hb) (by intro hm; simp at hm; subst hm; rw [hG2L] at hb; cases hb)
    have hB3 := BoxesRd.ext hx23 _ _ _ i8 (by intro b hb hm; simp at hb hm; omega)
    have hG29 : G2 b9 = none := by
      cases hg : G2 b9 with
      | none => rfl
      | some o => have := heap_lt (i6 b9 o hg); omega
    have h9 : Box w3 b9 88 [x0, x1, x2, x3] := hb9.ext hx3 (by simp; omega)
    have hn79 : [b7, b9].Nodup := by simp; omega
    obtain ⟨y7, r7, q, ⟨c7, m7, n7⟩, _⟩ := hB3
    cases q
    have hrdG : Rd G2 entT (etaD entT (nthD xs k)) [x0, x1, x2, x3] := eqD_ok entT (nthD xs k) (etaD entT (nthD xs k)) _ (ent_eq _) (Rd.mono i5 entT _ _ hrd)
    have hargs : ArgsRd G2 G2 w3 ksR (dsR (.l base) (nthD xs k)) [.pointer (some ⟨b7, 0, none⟩), .pointer (some ⟨b9, 0, none⟩)] [b7, b9] :=
      ⟨_, _, _, _, rfl, rfl, rfl, ⟨c7, m7, n7⟩, _, _, _, _, rfl, rfl, rfl, ⟨[x0, x1, x2, x3], h9, by have h := hrdG; simp only [Rd, entT] at h; exact h⟩, rfl, rfl⟩
    have hL4 : L ∉ [b7, b9] := by simp; omega
    have hs3 : W1.heap.size ≤ w3.heap.size := hW3.size
    have fin : ∀ (l : List D) (st : Loop) w4 w5, SegPost G2 ksR (dsR (.l l) (nthD xs k)) [b7, b9] w3 w4 → Ext [L] w4 w5 → Blk w5 L (.loop st) → St20 st L b7 W1 G0 l w5 := by
      rintro l st w4 w5 ⟨hx4, G3, j1, j2, j3, j4⟩ hx5 h5
      have hG3L : G3 L = none := by
        cases hg : G3 L with
        | none => rfl
        | some o => have := j3 L hG2L (by rw [hg]; simp); omega
      have hfr5 : ∀ b o, G3 b = some o → w5.heap[b]? = some o := fun b o hb => Ext.keepB hx5 (j2 b o hb) (by intro hm; simp at hm; subst hm; rw [hG3L] at hb; cases hb)
      refine ⟨(ext_skip2 hW3 hx4 (by intro y hy; simp at hy ⊢; omega)).trans (hx5.mono (by simp)), h5, fun b o hb => hfr5 b o (j1 b o (i5 b o hb)), G3, fun b o hb => j1 b o (i5 b o hb), hfr5, fun b hb hb' => ?_, ?_⟩
      · cases hg : G2 b with
        | none => have := j3 b hg hb'; omega
        | some o => exact i7 b hb (by rw [hg]; simp)
      · obtain ⟨z7, s7, e, ⟨d7, m7, n7⟩, _⟩ := BoxesRd.ext hx5 _ _ _ j4 (by intro b hb hm; simp at hm; subst hm; exact hL4 hb)
        cases e
        exact ⟨_, _, rfl, ⟨d7, m7, n7⟩, trivial⟩
    have hbF : ∀ b ∈ [b7, b9], G2 b = none := by
      intro b hb
      simp only [List.mem_cons, List.not_mem_nil, or_false] at hb
      rcases hb with rfl | rfl
      · exact hG27
      · exact hG29
    by_cases hk2 : ((nthD xs k).fld 1).int = 2
    · have hgo : gB2 (.l base) (nthD xs k) := gB2_ok hk2
      unfold gB2 at hgo
      refine WP.mono (seg_ok2 (Γ := Gl.none) (ro := some L) (DD := []) mo S20_ok 200 70 38 (bodyOf rng20) (F := G2) (G := G2) (ks := ksR) (ds := dsR (.l base) (nthD xs k)) (ts := [7, 9]) (bs := [b7, b9]) trivial (fun _ _ => Nat.zero_le _) hfr3 (fun b o h => h) hn79 hbF hargs ⟨_, _, rfl, f7, _, _, rfl, f9, rfl⟩ hgo) ?_ ?_ (fun _ _ h => h.elim)
      · rintro E4 w4 ⟨es, e, _⟩; cases e
      · rintro i E4 w4 ⟨es, e, hp⟩
        cases hi : Nat.beq i 0 with
        | false => rw [hi] at e; cases e
        | true =>
        rw [hi] at e
        have hi := Nat.eq_of_beq_eq_true hi
        subst hi
        cases e
        refine ⟨{ rec with state := .busy }, Ext.keepB hp.1 hl3 hL4, fun w5 hx5 h5 => .inr ⟨rfl, ?_⟩⟩
        rw [memL_at hk hk2 hno]
        exact fin _ _ w4 w5 hp hx5 (by rw [← hbody]; exact h5)
    · have hgo : gB1 (.l base) (nthD xs k) := gB1_ok hk2
      unfold gB1 at hgo
      refine WP.mono (seg_ok2 (Γ := Gl.none) (ro := some L) (DD := []) mo S20_ok 200 70 38 (bodyOf rng20) (F := G2) (G := G2) (ks := ksR) (ds := dsR (.l base) (nthD xs k)) (ts := [7, 9]) (bs := [b7, b9]) trivial (fun _ _ => Nat.zero_le _) hfr3 (fun b o h => h) hn79 hbF hargs ⟨_, _, rfl, f7, _, _, rfl, f9, rfl⟩ hgo) ?_ ?_ (fun _ _ h => h.elim)
      · rintro E4 w4 ⟨es, e, hp⟩
        cases e
        refine ⟨{ rec with state := .busy }, Ext.keepB hp.1 hl3 hL4, fun w5 hx5 h5 => .inl ⟨rfl, ?_, fun j h1 h2 => ?_⟩⟩
        · refine fin _ _ w4 w5 hp hx5 ?_
          have h5' : Blk w5 L (.loop { rec with state := .ready, pending := none }) := h5
          rwa [hrecE] at h5'
        · rcases Nat.lt_or_ge k j with h | h
          · exact hno j h h2
          · obtain rfl : j = k := by omega
            exact hk2
      · rintro i E4 w4 ⟨es, e, _⟩; cases e
end Go.Proofs.YtplflgclomiihaaGreat.XT
