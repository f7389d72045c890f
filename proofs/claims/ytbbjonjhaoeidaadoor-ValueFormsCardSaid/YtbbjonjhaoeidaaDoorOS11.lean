/- The symbolic evaluator is right: what a call hands back. Program-agnostic. -/
import Derived.Test.YtbbjonjhaoeidaaDoorOS10
set_option linter.unusedVariables false
set_option linter.unusedSimpArgs false
namespace Go.Proofs.YtbbjonjhaoeidaaDoor.Sv
open Go.RowKit Go.Proofs.YtbbjonjhaoeidaaDoor.W
variable {Γ : Gl}

section
variable {s : Sg} {w0 w w' : World} {st st' : Stt} {A : AE} {E : Env} {P : Program} {o : Oper}
theorem noDup_ok : ∀ {l : List Nat}, noDup l = true → l.Nodup
  | [], _ => List.nodup_nil
  | x :: r, h => by
    simp only [noDup, Bool.and_eq_true, Bool.not_eq_true'] at h
    exact List.nodup_cons.2 ⟨by simpa using h.1, noDup_ok h.2⟩
theorem LocsOf.blocks : ∀ {ls bs : List Nat}, LocsOf s st ls bs → bs = ls.filterMap fun l => (s.f l).map Loc.b
  | [], bs, h => by simpa [LocsOf] using h
  | l :: ls, bs, h => by
    obtain ⟨b, bs', rfl, ⟨p, et, cs, h1, rfl, _⟩, h2⟩ := h
    simp only [List.filterMap_cons, h1, Option.map_some]
    rw [LocsOf.blocks h2]
theorem LocsOf.mem : ∀ {ls bs : List Nat}, LocsOf s st ls bs → ∀ {b : Nat}, b ∈ bs → ∃ l p et cs, l ∈ ls ∧ s.f l = some p ∧ p.b = b ∧ st.h.get l = some (.c et cs)
  | [], bs, h, b, hb => by simp only [LocsOf] at h; subst h; simp at hb
  | l :: ls, bs, h, b, hb => by
    obtain ⟨b', bs', rfl, ⟨p, et, cs, h1, h3, h4⟩, h2⟩ := h
    rcases List.mem_cons.1 hb with rfl | hb
    · exact ⟨l, p, et, cs, by simp, h1, h3, h4⟩
    · obtain ⟨l', p', et', cs', k1, k2⟩ := LocsOf.mem h2 hb
      exact ⟨l', p', et', cs', List.mem_cons_of_mem _ k1, k2⟩
theorem LocsOf.mem' : ∀ {ls bs : List Nat}, LocsOf s st ls bs → ∀ {l : Nat}, l ∈ ls → ∃ p et cs, s.f l = some p ∧ p.b ∈ bs ∧ st.h.get l = some (.c et cs)
  | [], bs, h, l, hl => by simp at hl
  | l0 :: ls, bs, h, l, hl => by
    obtain ⟨b', bs', rfl, ⟨p, et, cs, h1, h3, h4⟩, h2⟩ := h
    rcases List.mem_cons.1 hl with rfl | hl
    · exact ⟨p, et, cs, h1, by simp [h3], h4⟩
    · obtain ⟨p', et', cs', k1, k2, k3⟩ := LocsOf.mem' h2 hl
      exact ⟨p', et', cs', k1, List.mem_cons_of_mem _ k2, k3⟩
theorem LocsOf.nodup (hH : Hold Γ s w0 st w) : ∀ {ls bs : List Nat}, LocsOf s st ls bs → ls.Nodup → bs.Nodup
  | [], bs, h, _ => by simp only [LocsOf] at h; subst h; exact List.nodup_nil
  | l :: ls, bs, h, hn => by
    obtain ⟨b, bs', rfl, ⟨p, et, cs, h1, rfl, h4⟩, h2⟩ := h
    obtain ⟨n1, n2⟩ := List.nodup_cons.1 hn
    refine List.nodup_cons.2 ⟨fun hb => ?_, LocsOf.nodup hH h2 n2⟩
    obtain ⟨l', p', et', cs', k1, k2, k3, k4⟩ := LocsOf.mem h2 hb
    have := hH.inj l l' _ _ p p' h4 k4 h1 k2 trivial trivial k3.symm
    subst this
    exact n1 k1
theorem setBoxes_nx : ∀ (ks : List AK) (ls : List Nat) (es : List D) (st1 : Stt), (setBoxes st1 ks ls es).nx = st1.nx
  | [], _, _, _ => by simp [setBoxes]
  | .d _ _ :: r, ls, es, st1 => by simp only [setBoxes]; exact setBoxes_nx r ls es st1
  | .box et ts :: r, [], es, st1 => by simp [setBoxes]
  | .box et ts :: r, l :: ls, es, st1 => by simp only [setBoxes]; rw [setBoxes_nx r ls]; rfl
theorem boxes_get {G' : Fz} {s1 : Sg} (hG : s1.G = G') (hf : s1.f = s.f) : ∀ (ks : List AK) (ls bs : List Nat) (es : List D) (st1 : Stt) (k : Nat) (x : AX), LocsOf s st ls bs → ls.length = nBox ks → BoxesRd G' w' ks es bs → (setBoxes st1 ks ls es).h.get k = some x →
    (k ∈ ls ∧ ∃ p et cs, s.f k = some p ∧ ObjAt s1 w' p x ∧ x = .c et cs) ∨ (k ∉ ls ∧ st1.h.get k = some x)
  | [], ls, bs, es, st1, k, x, hL, hn, hB, h => by
    have : ls = [] := List.eq_nil_of_length_eq_zero hn
    subst this
    exact .inr ⟨by simp, by simpa [setBoxes] using h⟩
  | .d _ _ :: r, ls, bs, es, st1, k, x, hL, hn, hB, h => by
    simp only [setBoxes] at h
    exact boxes_get hG hf r ls bs es st1 k x hL hn hB h
  | .box et ts :: r, [], bs, es, st1, k, x, hL, hn, hB, h => by simp [nBox] at hn
  | .box et ts :: r, l :: ls, bs, es, st1, k, x, hL, hn, hB, h => by
    obtain ⟨b, bs', rfl, ⟨p, et', cs', h1, rfl, h4⟩, h2⟩ := hL
    obtain ⟨b2, bs2, he, ⟨cs, h5, h6⟩, h7⟩ := hB
    simp only [List.cons.injEq] at he
    obtain ⟨rfl, rfl⟩ := he
    simp only [setBoxes] at h
    rcases boxes_get hG hf r ls bs' _ _ k x h2 (by simpa [nBox] using hn) h7 h with ⟨k1, k2⟩ | ⟨k1, k2⟩
    · exact .inl ⟨List.mem_cons_of_mem _ k1, k2⟩
    · rcases setX_key k2 with ⟨rfl, rfl⟩ | ⟨hne, _, k3⟩
      · refine .inl ⟨by simp, p, et, _, h1, ⟨cs, h5, cellsDs_ok (F := G') (by simp [Sg.H, hG]) ts _ 0 _ cs (fun i => by rw [Nat.zero_add]; rfl) h6⟩, rfl⟩
      · exact .inr ⟨by simp [hne, k1], k3⟩
theorem oneD_cells (m : Bool) (t : DT) (d : D) : cellsA (oneD m t d) = cellsD m t d := by
  cases t <;> simp [oneD, cellsD, cellsA]
theorem oneD_agg (m : Bool) (t : DT) (d : D) : (t.isT = true → ∃ l, oneD m t d = .agg l) ∧ (t.isT = false → cellsA (oneD m t d) = [oneD m t d]) := by
  cases t <;> simp [oneD, cellsD, cellsA, DT.isT]
theorem val_rel {a : AV} {v : Value} {cs : List Value} {g : Bool} (h1 : g = true → ∃ l, a = .agg l) (h2 : g = false → cellsA a = [a]) (hr : RelL s (cellsA a) cs) (hv : Val g cs v) : Rel s a v := by
  cases g with
  | true =>
    obtain ⟨l, rfl⟩ := h1 rfl
    simp only [Val, cond_true] at hv
    subst hv
    simp only [Rel]
    exact ⟨cs, hr, rfl⟩
  | false =>
    rw [h2 rfl] at hr
    simp only [Val, cond_false] at hv
    subst hv
    obtain ⟨u, us, k1, k2, k3⟩ := hr.uncons
    cases k3
    exact k1
/-- the live blocks are elder than N, or known -/
def Inv (s : Sg) (st : Stt) (N : Nat) (used : List Nat) : Prop := ∀ l o p, st.h.get l = some o → s.f l = some p → there o p → p.b < N ∨ p.b ∈ used
theorem add_own (hH : Hold Γ s w0 st w) {o : AX} {p : Loc} {N : Nat} {used : List Nat} (hI : Inv s st N used) (hN : w0.heap.size ≤ N) (hp : there o p → N ≤ p.b ∧ s.F p.b = none ∧ p.b ∉ used) (ho : ObjAt (s.ins st.nx p) w p o) : Hold Γ (s.ins st.nx p) w0 (newX st o) w ∧ Inv (s.ins st.nx p) (newX st o) N (p.b :: used) := by
  refine ⟨hH.upd (hH.le_new p) rfl rfl (fun k x hk => newX_key hk) Sg.ins_same ?_ hH.ext (fun _ _ _ _ _ _ _ _ => rfl) hH.frz ⟨fun ht => ⟨(hp ht).2.1, .inl (Nat.le_trans hN (hp ht).1)⟩, ho⟩ ?_, ?_⟩
  · intro k hk
    have hk' : st.nx + 1 ≤ k := hk
    simp only [Sg.ins]
    rw [if_neg (by omega)]
    exact hH.dom k (by omega)
  · intro k x q _ _ hk hq ht hto e
    obtain ⟨h1, _, h3⟩ := hp hto
    rcases hI k x q hk hq ht with h | h
    · omega
    · rw [e] at h; exact h3 h
  · intro l x q hl hq ht
    rcases newX_key hl with ⟨rfl, rfl⟩ | ⟨hne, _, hx⟩
    · rw [Sg.ins_same] at hq; cases hq
      exact .inr (by simp)
    · simp only [Sg.ins, if_neg hne] at hq
      rcases hI l x q hx hq ht with h | h
      · exact .inl h
      · exact .inr (List.mem_cons_of_mem _ h)
theorem Inv.more {N : Nat} {used used' : List Nat} (h : Inv s st N used) (k : ∀ b ∈ used, b ∈ used') : Inv s st N used' := fun l o p h1 h2 h3 => (h l o p h1 h2 h3).imp id (k _)
mutual
theorem mkRes_ok {G' : Fz} {N : Nat} (hN : w0.heap.size ≤ N) : ∀ (k : RK) (d : D) (cs : List Value) (os used : List Nat) (s : Sg) (st st' : Stt) (a : AV), Hold Γ s w0 st w → s.G = G' → (∀ b ∈ os, N ≤ b ∧ s.F b = none ∧ b ∉ used) → os.Nodup → Inv s st N used → RkRd G' w k d cs os → mkRes st k d = (a, st') →
    ∃ s', s.le s' ∧ s'.F = s.F ∧ s'.G = s.G ∧ Hold Γ s' w0 st' w ∧ RelL s' (cellsA a) cs ∧ (k.isAgg = true → ∃ l, a = .agg l) ∧ (k.isAgg = false → cellsA a = [a]) ∧ Inv s' st' N (os ++ used)
  | .d t, d, cs, os, used, s, st, st', a, hH, hG, hos, hnd, hI, hr, h => by
    simp only [mkRes, Prod.mk.injEq] at h
    obtain ⟨rfl, rfl⟩ := h
    simp only [RkRd] at hr
    obtain ⟨rfl, hr⟩ := hr
    exact ⟨s, Sg.le.refl s, rfl, rfl, hH, by rw [oneD_cells]; exact cellsD_ok (by simp [Sg.H, hG]) t d cs hr, (oneD_agg true t d).1, (oneD_agg true t d).2, hI⟩
  | .own et t, d, cs, os, used, s, st, st', a, hH, hG, hos, hnd, hI, hr, h => by
    simp only [mkRes, Prod.mk.injEq] at h
    obtain ⟨rfl, rfl⟩ := h
    simp only [RkRd] at hr
    obtain ⟨v, rfl, hr⟩ := hr
    rcases hr with ⟨hv, hx, rfl⟩ | ⟨p, rfl, hc0, rfl, hob⟩
    · have hab := add_own hH (o := .q et t d.list) (p := ⟨0, 0, 0⟩) hI hN (fun h => absurd rfl h) ⟨by rw [hx]; rfl, Nat.le_refl _, by simp [maxLen], fun h => absurd rfl h⟩
      refine ⟨_, hH.le_new _, rfl, rfl, hab.1, ?_, (fun h => by cases h), fun _ => rfl, ?_⟩
      · refine RelL.cons ?_ RelL.nil
        simp only [Rel]
        exact ⟨_, Sg.ins_same, by rw [hx]; exact Nat.le_refl _, Nat.le_refl _, .inr ⟨rfl, hv⟩⟩
      · intro l x q hl hq ht
        rcases newX_key hl with ⟨rfl, rfl⟩ | ⟨hne, _, hx'⟩
        · rw [Sg.ins_same] at hq; cases hq
          exact absurd rfl ht
        · simp only [Sg.ins, if_neg hne] at hq
          exact hI l x q hx' hq ht
    · obtain ⟨g1, g2, g3, g4⟩ := hob
      have hp := hos p.b (by simp)
      have hob' : ObjAt (s.ins st.nx p) w p (.q et t d.list) := ⟨g1, g2, g3, fun hc => by
        obtain ⟨cur, h1, h2, h3, h4⟩ := g4 hc
        exact ⟨cur, h1, h2, h3, fun i x hi => by show Rd s.G t x _; rw [hG]; exact h4 i x hi⟩⟩
      have hab := add_own hH (o := .q et t d.list) (p := p) hI hN (fun _ => hp) hob'
      refine ⟨_, hH.le_new _, rfl, rfl, hab.1, ?_, (fun h => by cases h), fun _ => rfl, hab.2⟩
      refine RelL.cons ?_ RelL.nil
      simp only [Rel]
      exact ⟨_, Sg.ins_same, by rw [g1]; exact Nat.le_refl _, g2, .inl (by rw [g1])⟩
  | .agg ks, d, cs, os, used, s, st, st', a, hH, hG, hos, hnd, hI, hr, h => by
    simp only [mkRes] at h
    generalize hm : mkRess st ks d.tup = qq at h
    obtain ⟨cs', st1⟩ := qq
    cases h
    simp only [RkRd] at hr
    obtain ⟨s', h1, h2, h3, h4, h5, h6⟩ := mkRess_ok hN ks d.tup cs os used s st _ cs' hH hG hos hnd hI hr hm
    exact ⟨s', h1, h2, h3, h4, h5, fun _ => ⟨_, rfl⟩, (fun h => by cases h), h6⟩
theorem mkRess_ok {G' : Fz} {N : Nat} (hN : w0.heap.size ≤ N) : ∀ (ks : List RK) (ds : List D) (cs : List Value) (os used : List Nat) (s : Sg) (st st' : Stt) (as' : List AV), Hold Γ s w0 st w → s.G = G' → (∀ b ∈ os, N ≤ b ∧ s.F b = none ∧ b ∉ used) → os.Nodup → Inv s st N used → RkRds G' w ks ds cs os → mkRess st ks ds = (as', st') →
    ∃ s', s.le s' ∧ s'.F = s.F ∧ s'.G = s.G ∧ Hold Γ s' w0 st' w ∧ RelL s' as' cs ∧ Inv s' st' N (os ++ used)
  | [], ds, cs, os, used, s, st, st', as', hH, hG, hos, hnd, hI, hr, h => by
    simp only [mkRess, Prod.mk.injEq] at h
    obtain ⟨rfl, rfl⟩ := h
    simp only [RkRds] at hr
    obtain ⟨rfl, rfl⟩ := hr
    exact ⟨s, Sg.le.refl s, rfl, rfl, hH, RelL.nil, hI⟩
  | k :: ks, ds, cs, os, used, s, st, st', as', hH, hG, hos, hnd, hI, hr, h => by
    simp only [mkRess] at h
    generalize h1 : mkRes st k (nthD ds 0) = qq at h
    obtain ⟨a, st1⟩ := qq
    generalize h2 : mkRess st1 ks (tailD ds) = qq at h
    obtain ⟨r, st2⟩ := qq
    cases h
    simp only [RkRds] at hr
    obtain ⟨c1, c2, o1, o2, rfl, rfl, hr1, hr2⟩ := hr
    obtain ⟨n1, n2, n3⟩ := List.nodup_append.1 hnd
    obtain ⟨s1, k1, k2, k3, k4, k5, _, _, k6⟩ := mkRes_ok hN k _ c1 o1 used s st st1 a hH hG (fun b hb => hos b (List.mem_append_left _ hb)) n1 hI hr1 h1
    obtain ⟨s2, m1, m2, m3, m4, m5, m6⟩ := mkRess_ok hN ks _ c2 o2 (o1 ++ used) s1 st1 _ r k4 (k3.trans hG) (fun b hb => by
      obtain ⟨g1, g2, g3⟩ := hos b (List.mem_append_right _ hb)
      refine ⟨g1, by rw [k2]; exact g2, fun hm => ?_⟩
      rcases List.mem_append.1 hm with hm | hm
      · exact n3 b hm b hb rfl
      · exact g3 hm) n2 k6 hr2 h2
    exact ⟨s2, k1.trans m1, m2.trans k2, m3.trans k3, m4, (RelL.mono m1 _ _ k5).append m5, m6.more (fun b hb => by simp only [List.mem_append] at hb ⊢; rcases hb with h | h | h <;> simp [h])⟩
end
theorem mkOuts_ok {G' : Fz} {N : Nat} (hN : w0.heap.size ≤ N) : ∀ (ks : List RK) (ds : List D) (vs : List Value) (os used : List Nat) (s : Sg) (st st' : Stt) (as' : List AV), Hold Γ s w0 st w → s.G = G' → (∀ b ∈ os, N ≤ b ∧ s.F b = none ∧ b ∉ used) → os.Nodup → Inv s st N used → OutsRd G' w ks ds vs os → mkOuts st ks ds = (as', st') →
    ∃ s', s.le s' ∧ Hold Γ s' w0 st' w ∧ RelL s' as' vs
  | [], ds, vs, os, used, s, st, st', as', hH, hG, hos, hnd, hI, hr, h => by
    simp only [mkOuts, Prod.mk.injEq] at h
    obtain ⟨rfl, rfl⟩ := h
    simp only [OutsRd] at hr
    obtain ⟨rfl, rfl⟩ := hr
    exact ⟨s, Sg.le.refl s, hH, RelL.nil⟩
  | k :: ks, ds, vs, os, used, s, st, st', as', hH, hG, hos, hnd, hI, hr, h => by
    simp only [mkOuts] at h
    generalize h1 : mkRes st k (nthD ds 0) = qq at h
    obtain ⟨a, st1⟩ := qq
    generalize h2 : mkOuts st1 ks (tailD ds) = qq at h
    obtain ⟨r, st2⟩ := qq
    cases h
    simp only [OutsRd] at hr
    obtain ⟨v, vs', cs, o1, o2, rfl, rfl, hv, hr1, hr2⟩ := hr
    obtain ⟨n1, n2, n3⟩ := List.nodup_append.1 hnd
    obtain ⟨s1, k1, k2, k3, k4, k5, k7, k8, k6⟩ := mkRes_ok hN k _ cs o1 used s st st1 a hH hG (fun b hb => hos b (List.mem_append_left _ hb)) n1 hI hr1 h1
    obtain ⟨s2, m1, m2, m3⟩ := mkOuts_ok hN ks _ vs' o2 (o1 ++ used) s1 st1 _ r k4 (k3.trans hG) (fun b hb => by
      obtain ⟨g1, g2, g3⟩ := hos b (List.mem_append_right _ hb)
      refine ⟨g1, by rw [k2]; exact g2, fun hm => ?_⟩
      rcases List.mem_append.1 hm with hm | hm
      · exact n3 b hm b hb rfl
      · exact g3 hm) n2 k6 hr2 h2
    exact ⟨s2, k1.trans m1, m2, RelL.cons (Rel.mono m1 _ _ (val_rel k7 k8 k5 hv)) m3⟩
theorem tup1_rel {as' : List AV} {vs : List Value} (h : RelL s as' vs) : Rel s (tup1 as') (tupV vs) := by
  cases as' with
  | nil => rw [h.unnil]; simp only [tup1, tupV, Rel]; exact ⟨[], RelL.nil, rfl⟩
  | cons a r =>
    obtain ⟨v, vs', h1, h2, rfl⟩ := h.uncons
    cases r with
    | nil => rw [h2.unnil]; exact h1
    | cons b r =>
      obtain ⟨u, us, h3, h4, rfl⟩ := h2.uncons
      simp only [tup1, tupV, Rel]
      exact ⟨_, RelL.cons h1 (RelL.cons h3 h4), rfl⟩
theorem con_ok {f : FuncId} {c : Con} (hc : ConOK P Γ f c) (hH : Hold Γ s w0 st w) {as' : List AV} {vs : List Value} {ps : Ps} {a : AV} {q : Bool} (h : conStep c as' st = some (ps, a, st', q)) (hp : ∀ p ∈ ps, p) (hr : RelL s as' vs) :
    Fnc P f vs.toArray w fun v w' => ∃ s', s.le s' ∧ Hold Γ s' w0 st' w' ∧ Rel s' a v := by
  unfold conStep at h
  split at h
  case h_2 => cases h
  rename_i ds ls hm
  cases hnd : noDup ls with
  | false => rw [hnd] at h; cases h
  | true =>
  rw [hnd] at h
  simp only [cond_true] at h
  generalize hmk : mkOuts (setBoxes st c.args ls (c.boxes ds)) c.res (c.out ds) = qq at h
  obtain ⟨r, st1⟩ := qq
  cases h
  have hpre : ∀ p ∈ c.pre ds, p := hp
  obtain ⟨hln, hids⟩ := matchArgs_ids _ _ _ _ hm
  have hls := noDup_ok hnd
  -- the memory that the callee may read
  let B : List Nat := ls.filterMap fun l => (s.f l).map Loc.b
  let F : Fz := fun b => if b ∈ B then none else w.heap[b]?
  have hBm : ∀ b, b ∈ B → ∃ l p et cs, l ∈ ls ∧ s.f l = some p ∧ p.b = b ∧ st.h.get l = some (.c et cs) := by
    intro b hb
    obtain ⟨l, hl, hlb⟩ := List.mem_filterMap.1 hb
    obtain ⟨et, cs, hg⟩ := hids l hl
    obtain ⟨p, hp1, _⟩ := hH.obj l _ hg
    rw [hp1] at hlb
    simp only [Option.map_some, Option.some.injEq] at hlb
    exact ⟨l, p, et, cs, hl, hp1, hlb, hg⟩
  have hBF : ∀ b, b ∈ B → s.F b = none ∧ b < w.heap.size := by
    intro b hb
    obtain ⟨l, p, et, cs, _, h2, h3, h4⟩ := hBm b hb
    obtain ⟨p', h5, h6⟩ := hH.obj l _ h4
    rw [h2] at h5; cases h5
    rw [← h3]
    exact ⟨(h6.free trivial).1, h6.cur.lt trivial⟩
  have hFsub : Sub s.F F := by
    intro b o hb
    have hnb : b ∉ B := fun hm => by rw [(hBF b hm).1] at hb; cases hb
    show (if b ∈ B then none else w.heap[b]?) = some o
    rw [if_neg hnb]; exact hH.frz b o hb
  have hS : Sees s st w false F := ⟨hH.gf.trans hFsub, fun _ => hFsub, fun _ l et t xs p hl hp1 hc0 => by
    show (if p.b ∈ B then none else w.heap[p.b]?) = _
    rw [if_neg]
    intro hm
    obtain ⟨l', p', et', cs', k1, k2, k3, k4⟩ := hBm p.b hm
    have := hH.inj l' l _ _ p' p k4 hl k2 hp1 trivial hc0 k3
    subst this
    rw [hl] at k4; cases k4⟩
  obtain ⟨hdl, bs, hargs, hL⟩ := matchArgs_ok hH hS _ _ _ _ _ hm hr
  have hbs : bs = B := hL.blocks
  refine Fnc.mono (hc F s.G w vs ds bs hH.gl (fun b hb => ?_) (fun b o hb => ?_) (hH.gf.trans hFsub) (hL.nodup hH hls) (fun b hb => ?_) hargs hdl hpre) ?_
  · obtain ⟨l, p, et, cs, _, h2, h3, h4⟩ := hBm b (hbs ▸ hb)
    obtain ⟨p', h5, h6⟩ := hH.obj l _ h4
    rw [h2] at h5; cases h5
    rw [← h3]
    exact hH.glb ((h6.free trivial).2.imp id fun h => h.1)
  · have hb' : (if b ∈ B then none else w.heap[b]?) = some o := hb
    split at hb'
    · cases hb'
    · exact hb'
  · show (if b ∈ B then none else w.heap[b]?) = none
    rw [if_pos (hbs ▸ hb)]
  rintro v w' ⟨G', os, rs, hx, hGG, hGw, hnew, hosn, hos, hout, rfl, hbox⟩
  have hG0 : ∀ b, b < w.heap.size → s.F b = none → G' b = none := by
    intro b hb hF
    cases hg : G' b with
    | none => rfl
    | some o =>
      have hgn : s.G b = none := by
        cases hg2 : s.G b with
        | none => rfl
        | some o' => rw [hH.gf _ _ hg2] at hF; cases hF
      have := hnew b hgn (by rw [hg]; simp)
      omega
  have hBsz : ∀ b, b ∈ bs → b < w.heap.size := fun b hb => (hBF b (hbs ▸ hb)).2
  let s1 : Sg := { s with F := fun b => match G' b with | some o => some o | none => s.F b, G := G' }
  have hF1 : ∀ b o, s.F b = some o → w'.heap[b]? = some o := fun b o hb => by
    refine Ext.keepB hx (hH.frz b o hb) fun hm => ?_
    rw [(hBF b (hbs ▸ hm)).1] at hb; cases hb
  have hle1 : s.le s1 := by
    refine ⟨fun _ _ h => h, fun b o hb => ?_, hGG, rfl, rfl⟩
    show (match G' b with | some o => some o | none => s.F b) = some o
    cases hg : G' b with
    | none => exact hb
    | some o' =>
      have h1 := hGw b o' hg
      rw [hF1 b o hb] at h1
      cases h1
      rfl
  have hF0 : ∀ b, b < w.heap.size → s.F b = none → s1.F b = none := by
    intro b hb hF
    show (match G' b with | some o => some o | none => s.F b) = none
    rw [hG0 b hb hF]; exact hF
  have hext : Ext s.X w0 w' := by
    refine ⟨hx.os.trans hH.ext.os, hx.tape.trans hH.ext.tape, hx.output.trans hH.ext.output, Nat.le_trans hH.ext.size hx.size, fun k hk hX => (hx.block k (Nat.lt_of_lt_of_le hk hH.ext.size) fun hm => ?_).trans (hH.ext.block k hk hX)⟩
    obtain ⟨l, p, et, cs, _, k2, k3, k4⟩ := LocsOf.mem hL hm
    obtain ⟨p', h5, h6⟩ := hH.obj l _ k4
    rw [k2] at h5; cases h5
    subst k3
    rcases (h6.free trivial).2 with h | h
    · omega
    · exact hX h.1
  have hget : ∀ k x, (setBoxes st c.args ls (c.boxes ds)).h.get k = some x → (k ∈ ls ∧ ∃ p et cs, s.f k = some p ∧ ObjAt s1 w' p x ∧ x = .c et cs) ∨ (k ∉ ls ∧ st.h.get k = some x) :=
    fun k x hk => boxes_get (s := s) (G' := G') (s1 := s1) rfl rfl _ ls bs _ st k x hL hln hbox hk
  have hold : ∀ k x, (setBoxes st c.args ls (c.boxes ds)).h.get k = some x → ∃ x0 p, st.h.get k = some x0 ∧ s.f k = some p ∧ (there x p → there x0 p) := by
    intro k x hk
    rcases hget k x hk with ⟨k1, p, et, cs, k2, _, _⟩ | ⟨_, k2⟩
    · obtain ⟨p', et', cs', m1, _, m3⟩ := LocsOf.mem' hL k1
      exact ⟨_, p', m3, m1, fun _ => trivial⟩
    · obtain ⟨p, m1, _⟩ := hH.obj k x k2
      exact ⟨x, p, k2, m1, id⟩
  have hfar : ∀ k x p, k ∉ ls → st.h.get k = some x → s.f k = some p → there x p → p.b ∉ bs := by
    intro k x p hk hx hp1 ht hm
    obtain ⟨l, q, et, cs, k1, k2, k3, k4⟩ := LocsOf.mem hL hm
    have := hH.inj k l _ _ p q hx k4 hp1 k2 ht trivial k3.symm
    subst this
    exact hk k1
  have hH1 : Hold Γ s1 w0 (setBoxes st c.args ls (c.boxes ds)) w' := by
    refine ⟨hext, fun b o hb => ?_, fun b o hb => ?_, fun l hl => hH.dom l (by rw [setBoxes_nx] at hl; exact hl), fun k x hk => ?_, fun k k' x x' p p' hk hk' hp1 hp2 ht ht' e => ?_, fun b hb => ?_, hH.glob⟩
    · have hb' : (match G' b with | some o => some o | none => s.F b) = some o := hb
      cases hg : G' b with
      | none => rw [hg] at hb'; exact hF1 b o hb'
      | some o' => rw [hg] at hb'; cases hb'; exact hGw b o hg
    · show (match G' b with | some o => some o | none => s.F b) = some o
      rw [show G' b = some o from hb]
    · rcases hget k x hk with ⟨k1, p, et, cs, k2, k3, rfl⟩ | ⟨k1, k2⟩
      · obtain ⟨p', et', cs', m1, m2, m3⟩ := LocsOf.mem' hL k1
        rw [k2] at m1; cases m1
        obtain ⟨p', h5, h6⟩ := hH.obj k _ m3
        rw [k2] at h5; cases h5
        exact ⟨p, k2, fun _ => ⟨hF0 _ (h6.cur.lt trivial) (h6.free trivial).1, (h6.free trivial).2⟩, k3⟩
      · obtain ⟨p, m1, m2⟩ := hH.obj k x k2
        refine ⟨p, m1, fun ht => ⟨hF0 _ (m2.cur.lt ht) (m2.free ht).1, (m2.free ht).2⟩, m2.cur.step hle1 fun ht => hx.block p.b (m2.cur.lt ht) (hfar k x p k1 k2 m1 ht)⟩
    · obtain ⟨x0, q, m1, m2, m3⟩ := hold k x hk
      obtain ⟨x0', q', m1', m2', m3'⟩ := hold k' x' hk'
      have e1 : q = p := by have : s.f k = some p := hp1; rw [this] at m2; cases m2; rfl
      have e2 : q' = p' := by have : s.f k' = some p' := hp2; rw [this] at m2'; cases m2'; rfl
      subst e1; subst e2
      exact hH.inj k k' x0 x0' q q' m1 m1' m2 m2' (m3 ht) (m3' ht') e
    · cases hg : s.G b with
      | none => exact .inr (Nat.le_trans hH.ext.size (hnew b hg hb))
      | some o => exact hH.gnew b (by rw [hg]; simp)
  have hI : Inv s1 (setBoxes st c.args ls (c.boxes ds)) w.heap.size [] := by
    intro l x p hl hp1 ht
    obtain ⟨x0, q, m1, m2, m3⟩ := hold l x hl
    have e1 : q = p := by have : s.f l = some p := hp1; rw [this] at m2; cases m2; rfl
    subst e1
    obtain ⟨q', h5, h6⟩ := hH.obj l x0 m1
    rw [m2] at h5; cases h5
    exact .inl (h6.cur.lt (m3 ht))
  obtain ⟨s2, k1, k2, k3⟩ := mkOuts_ok (G' := G') (N := w.heap.size) hH.ext.size _ _ rs os [] s1 _ _ r hH1 rfl (fun b hb => by
    obtain ⟨h1, h2⟩ := hos b hb
    refine ⟨h1, ?_, by simp⟩
    show (match G' b with | some o => some o | none => s.F b) = none
    rw [h2]; exact hH.none_at h1) hosn hI hout hmk
  exact ⟨s2, hle1.trans k1, k2, tup1_rel k3⟩
end
end Go.Proofs.YtbbjonjhaoeidaaDoor.Sv
