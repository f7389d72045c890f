/- The symbolic evaluator is right: what a function hands back; a contract out of a function's code. Program-agnostic. -/
import Derived.Test.YtbbjonjhaoeidaaDoorOS18
set_option linter.unusedVariables false
set_option linter.unusedSimpArgs false
namespace Go.Proofs.YtbbjonjhaoeidaaDoor.Sv
open Go.RowKit Go.Proofs.YtbbjonjhaoeidaaDoor.W
variable {Γ : Gl}

mutual
theorem eqD_ok {F : Fz} : ∀ (t : DT) (d e : D) (cs : List Value), (∀ p ∈ eqD t d e, p) → Rd F t d cs → Rd F t e cs
  | .i _, d, e, cs, hp, h => by simp only [Rd] at h ⊢; rw [← hp (d.int = e.int) (by simp [eqD])]; exact h
  | .b, d, e, cs, hp, h => by simp only [Rd] at h ⊢; rw [← hp (d.bool = e.bool) (by simp [eqD])]; exact h
  | .s, d, e, cs, hp, h => by simp only [Rd] at h ⊢; rw [← hp (d.str = e.str) (by simp [eqD])]; exact h
  | .l _, d, e, cs, hp, h => by simp only [Rd] at h ⊢; rw [← hp (d.list = e.list) (by simp [eqD])]; exact h
  | .t fs, d, e, cs, hp, h => by simp only [Rd] at h ⊢; exact eqDs_ok fs d.tup e.tup cs (by simpa only [eqD] using hp) h
theorem eqDs_ok {F : Fz} : ∀ (ts : List DT) (ds es : List D) (cs : List Value), (∀ p ∈ eqDs ts ds es, p) → Rds F ts ds cs → Rds F ts es cs
  | [], _, _, _, _, h => by simpa only [Rds] using h
  | t :: r, ds, es, cs, hp, h => by
    simp only [eqDs] at hp
    simp only [Rds] at h ⊢
    obtain ⟨us, vs, h1, h2, h3⟩ := h
    exact ⟨us, vs, h1, eqD_ok t _ _ us (fun p hpp => hp p (List.mem_append_left _ hpp)) h2, eqDs_ok r _ _ vs (fun p hpp => hp p (List.mem_append_right _ hpp)) h3⟩
end
theorem OwnRd.mono {G G' : Fz} {w : World} {et : TypeId} {t : DT} {xs : List D} {v : Value} {os : List Nat} (k : Sub G G') (h : OwnRd G w et t xs v os) : OwnRd G' w et t xs v os := by
  rcases h with h | ⟨p, h1, h2, h3, h4⟩
  · exact .inl h
  · refine .inr ⟨p, h1, h2, h3, ?_⟩
    obtain ⟨a1, a2, a3, a4⟩ := h4
    refine ⟨a1, a2, a3, fun hc => ?_⟩
    obtain ⟨cur, b1, b2, b3, b4⟩ := a4 hc
    exact ⟨cur, b1, b2, b3, fun i x hi => Rd.mono k t x _ (b4 i x hi)⟩
mutual
theorem RkRd.mono {G G' : Fz} {w : World} (k : Sub G G') : ∀ (r : RK) (d : D) (cs : List Value) (os : List Nat), RkRd G w r d cs os → RkRd G' w r d cs os
  | .d t, d, cs, os, h => by simp only [RkRd] at h ⊢; exact ⟨h.1, Rd.mono k t d cs h.2⟩
  | .own et t, d, cs, os, h => by simp only [RkRd] at h ⊢; obtain ⟨v, h1, h2⟩ := h; exact ⟨v, h1, h2.mono k⟩
  | .agg ks, d, cs, os, h => by simp only [RkRd] at h ⊢; exact RkRds.mono k ks d.tup cs os h
theorem RkRds.mono {G G' : Fz} {w : World} (k : Sub G G') : ∀ (rs : List RK) (ds : List D) (cs : List Value) (os : List Nat), RkRds G w rs ds cs os → RkRds G' w rs ds cs os
  | [], _, _, _, h => by simpa only [RkRds] using h
  | r :: rs, ds, cs, os, h => by
    simp only [RkRds] at h ⊢
    obtain ⟨c1, c2, o1, o2, h1, h2, h3, h4⟩ := h
    exact ⟨c1, c2, o1, o2, h1, h2, RkRd.mono k r _ c1 o1 h3, RkRds.mono k rs _ c2 o2 h4⟩
end
theorem OutsRd.mono {G G' : Fz} {w : World} (k : Sub G G') : ∀ (rs : List RK) (ds : List D) (vs : List Value) (os : List Nat), OutsRd G w rs ds vs os → OutsRd G' w rs ds vs os
  | [], _, _, _, h => h
  | r :: rs, ds, vs, os, h => by
    obtain ⟨v, vs', cs, o1, o2, h1, h2, h3, h4, h5⟩ := h
    exact ⟨v, vs', cs, o1, o2, h1, h2, h3, RkRd.mono k r _ cs o1 h4, OutsRd.mono k rs _ vs' o2 h5⟩
theorem BoxesRd.mono {G G' : Fz} {w : World} (k : Sub G G') : ∀ (ks : List AK) (es : List D) (bs : List Nat), BoxesRd G w ks es bs → BoxesRd G' w ks es bs
  | [], _, _, _ => trivial
  | .d _ _ :: r, es, bs, h => BoxesRd.mono k r es bs h
  | .box et ts :: r, es, bs, h => by
    obtain ⟨b, bs', h1, ⟨cs, h2, h3⟩, h4⟩ := h
    exact ⟨b, bs', h1, ⟨cs, h2, Rds.mono k ts _ cs h3⟩, BoxesRd.mono k r _ bs' h4⟩
mutual
theorem rk_one {G : Fz} {w : World} : ∀ (k : RK) (d : D) (cs : List Value) (os : List Nat), RkRd G w k d cs os → ∀ u ∈ cs, u.oneCell' = true
  | .d t, d, cs, os, h => by simp only [RkRd] at h; exact Rd.one t d cs h.2
  | .own et t, d, cs, os, h => by
    simp only [RkRd] at h
    obtain ⟨v, rfl, hown⟩ := h
    intro x hx
    simp only [List.mem_singleton] at hx
    subst hx
    rcases hown with ⟨hz, _⟩ | ⟨p, rfl, _⟩
    · exact hz.one
    · rfl
  | .agg ks, d, cs, os, h => by simp only [RkRd] at h; exact rks_one ks d.tup cs os h
theorem rks_one {G : Fz} {w : World} : ∀ (ks : List RK) (ds : List D) (cs : List Value) (os : List Nat), RkRds G w ks ds cs os → ∀ u ∈ cs, u.oneCell' = true
  | [], _, _, _, h => by simp only [RkRds] at h; rw [h.1]; simp
  | k :: ks, ds, cs, os, h => by
    simp only [RkRds] at h
    obtain ⟨c1, c2, o1, o2, rfl, _, h1, h2⟩ := h
    intro u hu
    rcases List.mem_append.1 hu with hu | hu
    · exact rk_one k _ c1 o1 h1 u hu
    · exact rks_one ks _ c2 o2 h2 u hu
end
/-- how states turn where values are handed back; os: the blocks that are handed over -/
structure RetOK (Γ : Gl) (s : Sg) (st : Stt) (w0 w : World) (s' : Sg) (st' : Stt) (os : List Nat) : Prop where
  le : s.le s'
  hold : Hold Γ s' w0 st' w
  frz : FrzRel s st s' st'
  nd : os.Nodup
  live : ∀ b ∈ os, ∃ l o p, st.h.get l = some o ∧ s.f l = some p ∧ there o p ∧ p.b = b
  new : ∀ b ∈ os, w0.heap.size ≤ b ∧ s'.F b = none
  apart : ∀ l o p, st'.h.get l = some o → s'.f l = some p → there o p → p.b ∉ os
theorem RetOK.comp {s s1 s2 : Sg} {st st1 st2 : Stt} {w0 w : World} {o1 o2 : List Nat} (h : RetOK Γ s st w0 w s1 st1 o1) (k : RetOK Γ s1 st1 w0 w s2 st2 o2) : RetOK Γ s st w0 w s2 st2 (o1 ++ o2) where
  le := h.le.trans k.le
  hold := k.hold
  frz := h.frz.trans k.frz
  nd := by
    refine List.nodup_append.2 ⟨h.nd, k.nd, fun a ha b hb e => ?_⟩
    subst e
    obtain ⟨l, o, p, h1, h2, h3, h4⟩ := k.live a hb
    exact h.apart l o p h1 h2 h3 (h4 ▸ ha)
  live := by
    intro b hb
    rcases List.mem_append.1 hb with hb | hb
    · exact h.live b hb
    · obtain ⟨l, o, p, h1, h2, h3⟩ := k.live b hb
      exact ⟨l, o, p, h.frz.sub l o h1, by rw [← h.frz.f]; exact h2, h3⟩
  new := by
    intro b hb
    rcases List.mem_append.1 hb with hb | hb
    · obtain ⟨h1, h2⟩ := h.new b hb
      exact ⟨h1, k.frz.F b h2 fun l o p g1 g2 g3 e => h.apart l o p g1 g2 g3 (e ▸ hb)⟩
    · exact k.new b hb
  apart := by
    intro l o p h1 h2 h3 hb
    rcases List.mem_append.1 hb with hb | hb
    · exact h.apart l o p (k.frz.sub l o h1) (by rw [← k.frz.f]; exact h2) h3 hb
    · exact k.apart l o p h1 h2 h3 hb
theorem RetOK.of_frz {s s' : Sg} {st st' : Stt} {w0 w : World} (h1 : s.le s') (h2 : Hold Γ s' w0 st' w) (h3 : FrzRel s st s' st') : RetOK Γ s st w0 w s' st' [] :=
  ⟨h1, h2, h3, List.nodup_nil, by simp, by simp, by simp⟩
section
variable {P : Program} {w0 w : World}
/-- a row that is handed over -/
theorem own_ret {s : Sg} {st : Stt} (hH : Hold Γ s w0 st w) {l n c : Nat} {et : TypeId} {t : DT} {xs : List D} {p : Loc} {v : Value} {e : D} (hl : st.h.get l = some (.q et t xs)) (hp : s.f l = some p) (hn : n ≤ p.m) (hc : n ≤ c ∧ c ≤ p.c) (hv : v = .slice (some ⟨p.b, 0, none⟩) n c ∨ (p.c = 0 ∧ ZV v)) (he : xs.take n = e.list) :
    ∃ os, RetOK Γ s st w0 w s (delX st l) os ∧ OwnRd s.G w et t e.list v os := by
  obtain ⟨p', hp', g1, g2, g3, g4⟩ := hH.row hl
  rw [hp] at hp'; cases hp'
  have hlen : (xs.take n).length = n := by rw [List.length_take]; omega
  have hbase : FrzRel s st s (delX st l) := ⟨rfl, fun k x hk => (delX_key hk).2, fun _ h _ => h⟩
  by_cases hcz : c = 0
  · refine ⟨[], RetOK.of_frz (Sg.le.refl s) (hH.del l) hbase, .inl ⟨?_, ?_, rfl⟩⟩
    · rcases hv with rfl | ⟨_, hv⟩
      · have : n = 0 := by omega
        subst this; subst hcz
        exact .inr ⟨_, rfl⟩
      · exact hv
    · rw [← he]; exact List.eq_nil_of_length_eq_zero (by omega)
  · have hc0 : p.c ≠ 0 := by omega
    have hv' : v = .slice (some ⟨p.b, 0, none⟩) n c := by
      rcases hv with hv | ⟨h, _⟩
      · exact hv
      · exact absurd h hc0
    obtain ⟨q, hq, hob⟩ := hH.obj l _ hl
    rw [hp] at hq; cases hq
    obtain ⟨hF, hge⟩ := hob.free hc0
    have hge' : w0.heap.size ≤ p.b := by
      rcases hge with h | ⟨_, h⟩
      · exact h
      · cases h
    obtain ⟨cur, h1, h2, h3, h4⟩ := hH.els hl hp hc0
    have h5 := h4.cut n (by omega)
    rw [List.take_take, Nat.min_eq_left (Nat.mul_le_mul_right _ (by omega)), he] at h5
    have hll : e.list.length = n := by rw [← he]; exact hlen
    refine ⟨[p.b], ⟨Sg.le.refl s, hH.del l, hbase, by simp, fun b hb => ?_, fun b hb => ?_, fun k x q hk hq ht hb => ?_⟩, .inr ⟨⟨p.b, c, n⟩, by rw [hll]; exact hv', hcz, rfl, ?_⟩⟩
    · simp only [List.mem_singleton] at hb
      exact ⟨l, _, p, hl, hp, hc0, hb.symm⟩
    · simp only [List.mem_singleton] at hb
      subst hb; exact ⟨hge', hF⟩
    · simp only [List.mem_singleton] at hb
      obtain ⟨hne, hx⟩ := delX_key hk
      exact hne (hH.inj k l x _ q p hx hl hq hp ht hc0 hb)
    · refine obj_row (s := ⟨fun _ => none, s.G, s.G, [], s.G⟩) (us := cur.toList.take (n * t.sz)) (cur := cur) h5 h1 (Nat.le_trans (Nat.mul_le_mul_right _ hc.2) h2) h3 ?_ hll hc.1 (Nat.le_trans hc.2 g3)
      rw [List.length_take, Nat.min_eq_left]
      rw [Array.length_toList]
      exact Nat.le_trans (Nat.mul_le_mul_right _ (by omega)) h2
mutual
theorem retRes_ok : ∀ (k : RK) (cs : List AV) (e : D) (ps : Ps) (s : Sg) (st st' : Stt) (vs : List Value), retRes st k cs e = some (ps, st') → (∀ p ∈ ps, p) → Hold Γ s w0 st w → RelL s cs vs → ∃ s' os, RetOK Γ s st w0 w s' st' os ∧ RkRd s'.G w k e vs os
  | .d t, cs, e, ps, s, st, st', vs, h, hp, hH, hr => by
    simp only [retRes] at h
    split at h
    case h_2 => cases h
    rename_i cs' st1 hf
    split at h
    case h_2 => cases h
    rename_i d hd
    cases h
    obtain ⟨s', k1, k2, k3, k4⟩ := freezeL_ok' hH hf hr
    obtain ⟨us, ws, h1, h2, h3⟩ := toD_ok k2 (Sees.self _ w) t cs' vs d [] hd k3
    have := h3.unnil
    subst this
    rw [List.append_nil] at h1
    subst h1
    exact ⟨s', [], RetOK.of_frz k1 k2 k4, by simp only [RkRd]; exact ⟨trivial, eqD_ok t d e _ hp h2⟩⟩
  | .own et t, cs, e, ps, s, st, st', vs, h, hp, hH, hr => by
    cases cs with
    | nil => simp [retRes] at h
    | cons a r =>
    cases r with
    | cons b r => simp [retRes] at h
    | nil =>
    obtain ⟨v, vs', h1, h2, rfl⟩ := hr.uncons
    have := h2.unnil
    subst this
    have zero : ∀ {w' : World}, ZV v → ([] : List D) = e.list → ∃ s' os, RetOK Γ s st w0 w s' st os ∧ RkRd s'.G w (.own et t) e [v] os := fun hv he =>
      ⟨s, [], RetOK.of_frz (Sg.le.refl s) hH (FrzRel.refl _ _), by simp only [RkRd]; exact ⟨v, rfl, .inl ⟨hv, he.symm, rfl⟩⟩⟩
    simp only [retRes] at h
    split at h
    · rename_i l n
      split at h
      case h_2 => cases h
      rename_i et' t' xs hl
      cases hc : (Nat.beq et et' && t.beq t') with
      | false => rw [hc] at h; cases h
      | true =>
      rw [hc] at h
      cases h
      simp only [Bool.and_eq_true] at hc
      have e1 := beq_t hc.1; have e2 := DT.beq_ok hc.2
      subst e1; subst e2
      simp only [Rel] at h1
      obtain ⟨p, hp1, hn, hmc, hv⟩ := h1
      obtain ⟨os, k1, k2⟩ := own_ret hH hl hp1 hn ⟨by omega, Nat.le_refl _⟩ hv (hp _ (List.mem_singleton.2 rfl))
      exact ⟨s, os, k1, by simp only [RkRd]; exact ⟨v, rfl, k2⟩⟩
    · rename_i l n
      split at h
      case h_2 => cases h
      rename_i et' t' xs hl
      cases hc : (Nat.beq et et' && t.beq t') with
      | false => rw [hc] at h; cases h
      | true =>
      rw [hc] at h
      cases h
      simp only [Bool.and_eq_true] at hc
      have e1 := beq_t hc.1; have e2 := DT.beq_ok hc.2
      subst e1; subst e2
      simp only [Rel] at h1
      obtain ⟨p, hp1, hn, hmc, hv⟩ := h1
      obtain ⟨os, k1, k2⟩ := own_ret hH hl hp1 hn ⟨Nat.le_refl _, by omega⟩ hv (hp _ (List.mem_singleton.2 rfl))
      exact ⟨s, os, k1, by simp only [RkRd]; exact ⟨v, rfl, k2⟩⟩
    · cases h
      exact zero (w' := w) (.inl h1.v_of) (hp _ (List.mem_singleton.2 rfl))
    · cases h
      simp only [Rel] at h1
      exact zero (w' := w) h1 (hp _ (List.mem_singleton.2 rfl))
    · cases h
  | .agg ks, cs, e, ps, s, st, st', vs, h, hp, hH, hr => by
    simp only [retRes] at h
    obtain ⟨s', os, h1, h2⟩ := retRess_ok ks cs e.tup ps s st st' vs h hp hH hr
    exact ⟨s', os, h1, by simp only [RkRd]; exact h2⟩
theorem retRess_ok : ∀ (ks : List RK) (cs : List AV) (es : List D) (ps : Ps) (s : Sg) (st st' : Stt) (vs : List Value), retRess st ks cs es = some (ps, st') → (∀ p ∈ ps, p) → Hold Γ s w0 st w → RelL s cs vs → ∃ s' os, RetOK Γ s st w0 w s' st' os ∧ RkRds s'.G w ks es vs os
  | [], cs, es, ps, s, st, st', vs, h, hp, hH, hr => by
    cases cs with
    | cons a r => simp [retRess] at h
    | nil =>
    simp only [retRess, Option.some.injEq, Prod.mk.injEq] at h
    obtain ⟨_, rfl⟩ := h
    exact ⟨s, [], RetOK.of_frz (Sg.le.refl s) hH (FrzRel.refl _ _), by simp only [RkRds]; exact ⟨hr.unnil, trivial⟩⟩
  | k :: ks, cs, es, ps, s, st, st', vs, h, hp, hH, hr => by
    simp only [retRess] at h
    split at h
    case h_2 => cases h
    rename_i ps1 st1 h1
    split at h
    case h_2 => cases h
    rename_i ps2 st2 h2
    cases h
    obtain ⟨s1, o1, a1, a2⟩ := retRes_ok k _ _ ps1 s st st1 _ h1 (fun p hpp => hp p (List.mem_append_left _ hpp)) hH (hr.take k.sz)
    obtain ⟨s2, o2, b1, b2⟩ := retRess_ok ks _ _ ps2 s1 st1 _ _ h2 (fun p hpp => hp p (List.mem_append_right _ hpp)) a1.hold (RelL.mono a1.le _ _ (hr.drop k.sz))
    exact ⟨s2, o1 ++ o2, a1.comp b1, by simp only [RkRds]; exact ⟨_, _, o1, o2, (List.take_append_drop k.sz vs).symm, rfl, RkRd.mono b1.le.G k _ _ o1 a2, b2⟩⟩
end
theorem retOuts_ok : ∀ (ks : List RK) (as' : List AV) (es : List D) (ps : Ps) (s : Sg) (st st' : Stt) (vs : List Value), retOuts st ks as' es = some (ps, st') → (∀ p ∈ ps, p) → Hold Γ s w0 st w → RelL s as' vs → ∃ s' os, RetOK Γ s st w0 w s' st' os ∧ OutsRd s'.G w ks es vs os
  | [], as', es, ps, s, st, st', vs, h, hp, hH, hr => by
    cases as' with
    | cons a r => simp [retOuts] at h
    | nil =>
    simp only [retOuts, Option.some.injEq, Prod.mk.injEq] at h
    obtain ⟨_, rfl⟩ := h
    exact ⟨s, [], RetOK.of_frz (Sg.le.refl s) hH (FrzRel.refl _ _), ⟨hr.unnil, rfl⟩⟩
  | k :: ks, as', es, ps, s, st, st', vs, h, hp, hH, hr => by
    cases as' with
    | nil => simp [retOuts] at h
    | cons a r =>
    simp only [retOuts] at h
    cases hg : (isAggA a == k.isAgg) with
    | false => rw [hg] at h; cases h
    | true =>
    rw [hg] at h
    simp only [cond_true] at h
    split at h
    case h_2 => cases h
    rename_i ps1 st1 h1
    split at h
    case h_2 => cases h
    rename_i ps2 st2 h2
    cases h
    obtain ⟨v, vs', hv, hvs, rfl⟩ := hr.uncons
    obtain ⟨s1, o1, a1, a2⟩ := retRes_ok k _ _ ps1 s st st1 _ h1 (fun p hpp => hp p (List.mem_append_left _ hpp)) hH hv.cells
    obtain ⟨s2, o2, b1, b2⟩ := retOuts_ok ks r _ ps2 s1 st1 _ vs' h2 (fun p hpp => hp p (List.mem_append_right _ hpp)) a1.hold (RelL.mono a1.le _ _ hvs)
    refine ⟨s2, o1 ++ o2, a1.comp b1, v, vs', v.cells.toList, o1, o2, rfl, rfl, ?_, RkRd.mono b1.le.G k _ _ o1 a2, b2⟩
    have hb : isAggA a = k.isAgg := by simpa using hg
    refine isAggA_val hv hb ?_ ?_
    · cases k with
      | d t =>
        simp only [RkRd] at a2
        have := Rd.len _ _ _ a2.2
        rw [this]
        cases t <;> simp [RK.isAgg, DT.isT, DT.sz]
      | own et t => simp only [RkRd] at a2; obtain ⟨u, hu, _⟩ := a2; rw [hu]; exact .inl rfl
      | agg ks => exact .inr rfl
    · exact rk_one k _ _ o1 a2
end
end Go.Proofs.YtbbjonjhaoeidaaDoor.Sv
