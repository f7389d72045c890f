/- The symbolic evaluator is right: a contract out of a function's code. Program-agnostic. -/
import Derived.Test.YtbbjonjhaoeidaaDoorOS19
set_option linter.unusedVariables false
set_option linter.unusedSimpArgs false
namespace Go.Proofs.YtbbjonjhaoeidaaDoor.Sv
open Go.RowKit Go.Proofs.YtbbjonjhaoeidaaDoor.W
variable {Γ : Gl}

section
variable {P : Program} {w0 w : World}
/-- the names of the variables that were handed over, and their blocks -/
def Ids (s : Sg) : Nat → List Nat → Prop
  | _, [] => True
  | k, b :: bs => (∃ p, s.f k = some p ∧ p.b = b) ∧ Ids s (k + 1) bs
theorem Ids.mono {s s' : Sg} (h : s.le s') : ∀ (bs : List Nat) (k : Nat), Ids s k bs → Ids s' k bs
  | [], _, _ => trivial
  | b :: bs, k, ⟨⟨p, h1, h2⟩, h3⟩ => ⟨⟨p, h.f _ _ h1, h2⟩, Ids.mono h bs (k + 1) h3⟩
theorem retBoxes_ok : ∀ (ks : List AK) (k : Nat) (es : List D) (ps : Ps) (s : Sg) (st st' : Stt) (bs : List Nat), retBoxes st ks k es = some (ps, st') → (∀ p ∈ ps, p) → Hold Γ s w0 st w → Ids s k bs → bs.length = nBox ks → ∃ s', s.le s' ∧ Hold Γ s' w0 st' w ∧ FrzRel s st s' st' ∧ BoxesRd s'.G w ks es bs
  | [], k, es, ps, s, st, st', bs, h, hp, hH, hI, hn => by
    simp only [retBoxes, Option.some.injEq, Prod.mk.injEq] at h
    obtain ⟨_, rfl⟩ := h
    exact ⟨s, Sg.le.refl s, hH, FrzRel.refl _ _, trivial⟩
  | .d _ _ :: r, k, es, ps, s, st, st', bs, h, hp, hH, hI, hn => by
    simp only [retBoxes] at h
    exact retBoxes_ok r k es ps s st st' bs h hp hH hI hn
  | .box et ts :: r, k, es, ps, s, st, st', bs, h, hp, hH, hI, hn => by
    cases bs with
    | nil => simp [nBox] at hn
    | cons b bs =>
    simp only [retBoxes] at h
    split at h
    case h_2 => cases h
    rename_i et' cs hl
    split at h
    case h_2 => cases h
    rename_i cs' st1 hf
    split at h
    case h_2 => cases h
    rename_i ds hds
    split at h
    case h_2 => cases h
    rename_i qs st2 hr
    cases hc : Nat.beq et et' with
    | false => rw [hc] at h; cases h
    | true =>
    rw [hc] at h
    cases h
    have := beq_t hc
    subst this
    obtain ⟨⟨p, hp1, rfl⟩, hI2⟩ := hI
    obtain ⟨p', hp', hob⟩ := hH.obj k _ hl
    rw [hp1] at hp'; cases hp'
    obtain ⟨vs, h1, h2⟩ := hob.cur
    obtain ⟨s1, k1, k2, k3, k4⟩ := freezeL_ok' hH hf h2
    obtain ⟨us, ws, h3, h4, h5⟩ := toDs_ok k2 (Sees.self _ w) ts cs' vs ds [] hds k3
    have := h5.unnil
    subst this
    rw [List.append_nil] at h3
    subst h3
    obtain ⟨s2, m1, m2, m3, m4⟩ := retBoxes_ok r (k + 1) _ qs s1 st1 _ bs hr (fun p hpp => hp p (List.mem_append_right _ hpp)) k2 (Ids.mono k1 bs _ hI2) (by simpa [nBox] using hn)
    exact ⟨s2, k1.trans m1, m2, k4.trans m3, p.b, bs, rfl, ⟨vs, h1, Rds.mono m1.G ts _ vs (eqDs_ok ts ds _ vs (fun p hpp => hp p (List.mem_append_left _ hpp)) h4)⟩, m4⟩
theorem args_nBox {F G : Fz} : ∀ (ks : List AK) (ds : List D) (vs : List Value) (bs : List Nat), ArgsRd F G w ks ds vs bs → bs.length = nBox ks
  | [], _, _, _, h => by rw [h.2]; rfl
  | .d _ _ :: r, ds, _, bs, h => by obtain ⟨v, vs', rfl, _, h2⟩ := h; exact args_nBox r _ _ _ h2
  | .box _ _ :: r, ds, _, _, h => by obtain ⟨v, vs', b, bs', rfl, rfl, _, _, h2⟩ := h; simp [nBox, args_nBox r _ _ _ h2]
/-- what a function begins with -/
theorem start_ok {F G : Fz} : ∀ (ks : List AK) (ds : List D) (vs : List Value) (bs : List Nat) (s : Sg) (st : Stt), ArgsRd F G w ks ds vs bs → Hold Γ s w st w → s.F = F → s.G = G → (∀ b ∈ bs, F b = none ∧ b ∈ s.X) → bs.Nodup → (∀ l o p, st.h.get l = some o → s.f l = some p → there o p → p.b ∉ bs) → st.h ≠ [] →
    ∃ s', s.le s' ∧ s'.F = F ∧ s'.G = G ∧ Hold Γ s' w (startSt ks ds st) w ∧ RelL s' (startAs ks ds st.nx) vs ∧ Ids s' st.nx bs ∧ (startSt ks ds st).h ≠ []
  | [], ds, vs, bs, s, st, hA, hH, hF, hG, hb, hnd, hap, hn => by
    obtain ⟨rfl, rfl⟩ := hA
    exact ⟨s, Sg.le.refl s, hF, hG, hH, RelL.nil, trivial, hn⟩
  | .d wf t :: r, ds, vs, bs, s, st, hA, hH, hF, hG, hb, hnd, hap, hn => by
    obtain ⟨v, vs', rfl, ⟨cs, h1, h2⟩, h3⟩ := hA
    obtain ⟨s', k1, k2, k3, k4, k5, k6, k7⟩ := start_ok r _ vs' bs s st h3 hH hF hG hb hnd hap hn
    have hHm : s'.H wf = (bif wf then G else F) := by cases wf <;> simp [Sg.H, k2, k3]
    have hrel : Rel s' (oneD wf t (nthD ds 0)) v := val_rel (oneD_agg wf t _).1 (oneD_agg wf t _).2 (by rw [oneD_cells]; exact cellsD_ok hHm t _ cs h1) h2
    exact ⟨s', k1, k2, k3, k4, RelL.cons hrel k5, k6, k7⟩
  | .box et ts :: r, ds, vs, bs, s, st, hA, hH, hF, hG, hb, hnd, hap, hn => by
    obtain ⟨v, vs', b, bs', rfl, rfl, rfl, ⟨cs, h1, h2⟩, h3⟩ := hA
    obtain ⟨n1, n2⟩ := List.nodup_cons.1 hnd
    have hle := hH.le_new ⟨b, 0, 0⟩
    have hob : ObjAt (s.ins st.nx ⟨b, 0, 0⟩) w ⟨b, 0, 0⟩ (.c et (cellsDs true ts (nthD ds 0) 0)) := ⟨cs, h1, cellsDs_ok (F := G) (by simp [Sg.H, Sg.ins, hG]) ts _ 0 _ cs (fun i => by rw [Nat.zero_add]; rfl) h2⟩
    have hH' : Hold Γ (s.ins st.nx ⟨b, 0, 0⟩) w (newX st (.c et (cellsDs true ts (nthD ds 0) 0))) w := by
      refine hH.upd hle rfl rfl (fun k x hk => newX_key hk) Sg.ins_same ?_ hH.ext (fun _ _ _ _ _ _ _ _ => rfl) hH.frz ⟨fun _ => ⟨by show s.F b = none; rw [hF]; exact (hb b (by simp)).1, .inr ⟨(hb b (by simp)).2, rfl⟩⟩, hob⟩ ?_
      · intro k hk
        have hk' : st.nx + 1 ≤ k := hk
        simp only [Sg.ins]
        rw [if_neg (by omega)]
        exact hH.dom k (by omega)
      · intro k x q _ _ hk hq ht _ e
        exact hap k x q hk hq ht (by rw [e]; simp)
    obtain ⟨s', k1, k2, k3, k4, k5, k6, k7⟩ := start_ok r _ vs' bs' (s.ins st.nx ⟨b, 0, 0⟩) (newX st (.c et (cellsDs true ts (nthD ds 0) 0))) h3 hH' hF hG (fun b hbm => hb b (List.mem_cons_of_mem _ hbm)) n2 (fun l o p hl hp ht hm => by
      rcases newX_key hl with ⟨rfl, rfl⟩ | ⟨hne, _, hx⟩
      · rw [Sg.ins_same] at hp; cases hp
        exact n1 hm
      · simp only [Sg.ins, if_neg hne] at hp
        exact hap l o p hx hp ht (List.mem_cons_of_mem _ hm)) (((Suf.refl hn).set _ _).ne)
    exact ⟨s', hle.trans k1, k2, k3, k4, RelL.cons (by simp only [Rel]; exact ⟨_, k1.f _ _ Sg.ins_same, rfl⟩) k5, ⟨⟨_, k1.f _ _ Sg.ins_same, rfl⟩, k6⟩, k7⟩
theorem tupV_outs {s : Sg} {n : Nat} {a : AV} {v : Value} {as' : List AV} (h : outsOf n a = some as') (hr : Rel s a v) : ∃ vs, RelL s as' vs ∧ (as'.length = n → v = tupV vs) := by
  unfold outsOf at h
  split at h
  · cases h; exact ⟨[v], RelL.cons hr RelL.nil, fun _ => rfl⟩
  · rename_i hne
    split at h
    · cases h
      simp only [Rel] at hr
      obtain ⟨vs, h1, rfl⟩ := hr
      refine ⟨vs, h1, fun hl => ?_⟩
      rw [h1.len] at hl
      match vs, hl with
      | [], _ => rfl
      | [x], hl => exact absurd hl.symm (by simpa using hne)
      | _ :: _ :: _, _ => rfl
    · cases h
theorem retOuts_len : ∀ (ks : List RK) (as' : List AV) (es : List D) (st : Stt) (r : Ps × Stt), retOuts st ks as' es = some r → as'.length = ks.length
  | [], [], _, _, _, _ => rfl
  | [], _ :: _, _, _, _, h => by simp [retOuts] at h
  | _ :: _, [], _, _, _, h => by simp [retOuts] at h
  | k :: ks, a :: as', es, st, r, h => by
    simp only [retOuts] at h
    cases hg : (isAggA a == k.isAgg) with
    | false => rw [hg] at h; cases h
    | true =>
    rw [hg] at h
    simp only [cond_true] at h
    split at h
    case h_2 => cases h
    split at h
    case h_2 => cases h
    rename_i h2
    simp [retOuts_len ks as' _ _ _ h2]
/-- A contract holds, if what its function's code asks for holds. -/
theorem con_of (hm : P.follows .mixedOrders = true) {S : Sums} (hS : SumsOK P Γ S) {an : Anns} (n : Nat) {f : FuncId} {c : Con} (h : ∀ ds : List D, ds.length = c.args.length → (∀ p ∈ c.pre ds, p) → conGoal P S an n f c ds) : ConOK P Γ f c := by
  intro F G w vs ds bs hgl hgb hF hGF hnd hbF hargs hlen hpre
  have hg := h ds hlen hpre
  unfold conGoal at hg
  have hbw : ∀ (ks : List AK) (ds : List D) (vs : List Value) (bs : List Nat), ArgsRd F G w ks ds vs bs → ∀ b ∈ bs, b < w.heap.size := by
    intro ks
    induction ks with
    | nil => intro ds vs bs h b hb; rw [h.2] at hb; simp at hb
    | cons k ks ih =>
      intro ds vs bs h b hb
      cases k with
      | d wf t => obtain ⟨v, vs', _, _, h3⟩ := h; exact ih _ _ _ h3 b hb
      | box et ts =>
        obtain ⟨v, vs', b', bs', _, rfl, _, ⟨cs, h4, _⟩, h3⟩ := h
        rcases List.mem_cons.1 hb with rfl | hb
        · exact (Array.getElem?_eq_some_iff.1 h4).1
        · exact ih _ _ _ h3 b hb
  have hH0 : Hold Γ ⟨fun _ => none, F, G, bs, G⟩ w ⟨[.nil], 0⟩ w := by
    have hno : ∀ l o, (⟨[.nil], 0⟩ : Stt).h.get l = some o → False := by
      intro l o hl
      simp only [Ly.get, Ly.go, Tr.get] at hl
      cases hb : Nat.blt l 1000000 <;> rw [hb] at hl <;> cases hl
    exact ⟨Ext.refl _ w, hF, hGF, fun _ _ => rfl, fun l o hl => (hno l o hl).elim, fun l l' o o' p p' hl => (hno l o hl).elim, fun b hb => .inl hb, hgl, hgb⟩
  obtain ⟨s, k1, k2, k3, k4, k5, k6, k7⟩ := start_ok c.args ds vs bs ⟨fun _ => none, F, G, bs, G⟩ ⟨[.nil], 0⟩ hargs hH0 rfl rfl (fun b hb => ⟨hbF b hb, hb⟩) hnd (fun l o p _ hp => by cases hp) (by simp)
  refine Fnc.mono (inl_ok (code_ok hm hS n) (code_imp n) f _ _ _ hg k7 s w w vs k4 k5) ?_
  rintro v w' ⟨a, st, s', hret, hn, hle, hH', hrel⟩
  unfold retOK at hret
  split at hret
  · exact hret.elim
  rename_i as' hout
  split at hret
  · exact hret.elim
  rename_i ps st1 hbx
  split at hret
  case h_2 => exact hret.elim
  rename_i qs st2 hro
  have hps := conj_ok hret
  obtain ⟨s1, b1, b2, b3, b4⟩ := retBoxes_ok c.args 0 _ ps s' st st1 bs hbx (fun p hp => hps p (List.mem_append_left _ hp)) hH' (Ids.mono hle bs 0 k6) (args_nBox _ _ _ _ hargs)
  obtain ⟨us, u1, u2⟩ := tupV_outs hout hrel
  obtain ⟨s2, os, r1, r2⟩ := retOuts_ok c.res as' _ qs s1 st1 st2 us hro (fun p hp => hps p (List.mem_append_right _ hp)) b2 (RelL.mono b1 _ _ u1)
  have hall : (⟨fun _ => none, F, G, bs, G⟩ : Sg).le s2 := k1.trans (hle.trans (b1.trans r1.le))
  have hX : s2.X = bs := hall.X
  have hG0 : s2.G0 = G := hall.G0
  refine ⟨s2.G, os, us, hX ▸ r1.hold.ext, hall.G, fun b o hb => r1.hold.frz b o (r1.hold.gf b o hb), fun b h1 h2 => ?_, r1.nd, fun b hb => ⟨(r1.new b hb).1, ?_⟩, r2, u2 (retOuts_len _ _ _ _ _ hro), BoxesRd.mono r1.le.G _ _ _ b4⟩
  · rcases r1.hold.gnew b h2 with h | h
    · rw [hG0] at h; exact absurd h1 h
    · exact h
  · cases hg2 : s2.G b with
    | none => rfl
    | some o => have := r1.hold.gf b o hg2; rw [(r1.new b hb).2] at this; cases this
end
end Go.Proofs.YtbbjonjhaoeidaaDoor.Sv
