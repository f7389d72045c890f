/- The symbolic evaluator is right: cells as data, rows that become data. Program-agnostic. -/
import Derived.Test.YtbbjonjhaoeidaaDoorOS7
set_option linter.unusedVariables false
set_option linter.unusedSimpArgs false
namespace Go.Proofs.YtbbjonjhaoeidaaDoor.Sv
open Go.RowKit Go.Proofs.YtbbjonjhaoeidaaDoor.W
variable {Γ : Gl}

section
variable {s : Sg} {w0 w : World} {st st' : Stt}
mutual
theorem toD_ok (hH : Hold Γ s w0 st w) {b : Bool} {F' : Fz} (hS : Sees s st w b F') : ∀ (t : DT) (cs : List AV) (vs : List Value) (d : D) (r : List AV), toD b st t cs = some (d, r) → RelL s cs vs → ∃ us ws, vs = us ++ ws ∧ Rd F' t d us ∧ RelL s r ws
  | .i k, cs, vs, d, r, h, hr => by
    simp only [toD] at h
    split at h
    case h_2 => cases h
    rename_i k' n r'
    cases hk : decide (k = k') with
    | false => rw [hk] at h; cases h
    | true =>
    rw [hk] at h
    cases h
    simp only [decide_eq_true_eq] at hk
    subst hk
    obtain ⟨v, vs', h1, h2, rfl⟩ := hr.uncons
    exact ⟨[v], vs', rfl, by simp only [Rd, D.int]; rw [h1.v_of], h2⟩
  | .b, cs, vs, d, r, h, hr => by
    simp only [toD] at h
    split at h
    case h_2 => cases h
    cases h
    obtain ⟨v, vs', h1, h2, rfl⟩ := hr.uncons
    exact ⟨[v], vs', rfl, by simp only [Rd, D.bool]; rw [h1.v_of], h2⟩
  | .s, cs, vs, d, r, h, hr => by
    simp only [toD] at h
    split at h
    case h_2 => cases h
    cases h
    obtain ⟨v, vs', h1, h2, rfl⟩ := hr.uncons
    exact ⟨[v], vs', rfl, by simp only [Rd, D.str]; rw [h1.v_of], h2⟩
  | .l e, cs, vs, d, r, h, hr => by
    simp only [toD] at h
    split at h
    · cases h
      obtain ⟨v, vs', h1, h2, rfl⟩ := hr.uncons
      exact ⟨[v], vs', rfl, by simp only [Rd, D.list]; exact ⟨v, rfl, Slc.zv (.inl h1.v_of)⟩, h2⟩
    · cases h
      obtain ⟨v, vs', h1, h2, rfl⟩ := hr.uncons
      simp only [Rel] at h1
      exact ⟨[v], vs', rfl, by simp only [Rd, D.list]; exact ⟨v, rfl, Slc.zv h1⟩, h2⟩
    · rename_i m e' xs r'
      cases hk : (e.beq e' && (m || !b)) with
      | false => rw [hk] at h; cases h
      | true =>
      rw [hk] at h
      cases h
      simp only [Bool.and_eq_true] at hk
      have := DT.beq_ok hk.1
      subst this
      obtain ⟨v, vs', h1, h2, rfl⟩ := hr.uncons
      simp only [Rel] at h1
      have hsub : Sub (s.H m) F' := by
        cases m with
        | true => exact hS.G
        | false => refine hS.F ?_; cases b <;> simp_all
      exact ⟨[v], vs', rfl, by simp only [Rd, D.list]; exact ⟨v, rfl, h1.mono hsub fun x us hx => Rd.mono hsub e x us hx⟩, h2⟩
    · rename_i l n r'
      split at h
      · rename_i et e' xs hl
        cases hk : (e.beq e' && !b) with
        | false => rw [hk] at h; cases h
        | true =>
        rw [hk] at h
        cases h
        simp only [Bool.and_eq_true, Bool.not_eq_true'] at hk
        have := DT.beq_ok hk.1
        subst this
        obtain ⟨_, rfl⟩ := hk
        obtain ⟨v, vs', h1, h2, rfl⟩ := hr.uncons
        simp only [Rel] at h1
        obtain ⟨p, hp, hn, hmc, hv⟩ := h1
        exact ⟨[v], vs', rfl, by simp only [Rd, D.list]; exact ⟨v, rfl, slc_row hH hS hl hp hn ⟨by omega, Nat.le_refl _⟩ hv⟩, h2⟩
      · cases h
    · rename_i l n r'
      split at h
      · rename_i et e' xs hl
        cases hk : (e.beq e' && !b) with
        | false => rw [hk] at h; cases h
        | true =>
        rw [hk] at h
        cases h
        simp only [Bool.and_eq_true, Bool.not_eq_true'] at hk
        have := DT.beq_ok hk.1
        subst this
        obtain ⟨_, rfl⟩ := hk
        obtain ⟨v, vs', h1, h2, rfl⟩ := hr.uncons
        simp only [Rel] at h1
        obtain ⟨p, hp, hn, hmc, hv⟩ := h1
        exact ⟨[v], vs', rfl, by simp only [Rd, D.list]; exact ⟨v, rfl, slc_row hH hS hl hp hn ⟨Nat.le_refl _, by omega⟩ hv⟩, h2⟩
      · cases h
    · rename_i l lo n sz r'
      split at h
      · rename_i et e' xs hl
        cases hk : (e.beq e' && !b && Nat.beq sz e.sz) with
        | false => rw [hk] at h; cases h
        | true =>
        rw [hk] at h
        cases h
        simp only [Bool.and_eq_true, Bool.not_eq_true'] at hk
        have := DT.beq_ok hk.1.1
        subst this
        have hsz := beq_t hk.2
        obtain ⟨⟨_, rfl⟩, _⟩ := hk
        subst hsz
        obtain ⟨v, vs', h1, h2, rfl⟩ := hr.uncons
        simp only [Rel] at h1
        obtain ⟨p, hp, hn, hmc, hv⟩ := h1
        refine ⟨[v], vs', rfl, ?_, h2⟩
        simp only [Rd, D.list]
        refine ⟨v, rfl, ?_⟩
        rcases hv with ⟨hc0, cv, k1, k2, rfl⟩ | ⟨hc0, hv⟩
        · exact slc_view hH hS hl hp hn hc0 k1 k2
        · have hn0 : n = 0 := hc0
          subst hn0
          rw [List.take_zero]
          exact Slc.zv hv
      · cases h
    · cases h
  | .t fs, cs, vs, d, r, h, hr => by
    simp only [toD] at h
    split at h
    · rename_i ds r' hds
      cases h
      obtain ⟨us, ws, h1, h2, h3⟩ := toDs_ok hH hS fs cs vs ds r hds hr
      exact ⟨us, ws, h1, by simp only [Rd, D.tup]; exact h2, h3⟩
    · cases h
theorem toDs_ok (hH : Hold Γ s w0 st w) {b : Bool} {F' : Fz} (hS : Sees s st w b F') : ∀ (ts : List DT) (cs : List AV) (vs : List Value) (ds : List D) (r : List AV), toDs b st ts cs = some (ds, r) → RelL s cs vs → ∃ us ws, vs = us ++ ws ∧ Rds F' ts ds us ∧ RelL s r ws
  | [], cs, vs, ds, r, h, hr => by
    simp only [toDs, Option.some.injEq, Prod.mk.injEq] at h
    obtain ⟨rfl, rfl⟩ := h
    exact ⟨[], vs, rfl, by simp only [Rds], hr⟩
  | t :: ts, cs, vs, ds, r, h, hr => by
    simp only [toDs] at h
    split at h
    · rename_i d r1 hd
      split at h
      · rename_i ds' r2 hds
        cases h
        obtain ⟨us, ws, rfl, h2, h3⟩ := toD_ok hH hS t cs vs d r1 hd hr
        obtain ⟨us', ws', rfl, h5, h6⟩ := toDs_ok hH hS ts r1 ws ds' _ hds h3
        exact ⟨us ++ us', ws', by simp, by simp only [Rds]; exact ⟨us, us', rfl, h2, h5⟩, h6⟩
      · cases h
    · cases h
end
theorem toDn_ok (hH : Hold Γ s w0 st w) {b : Bool} {F' : Fz} (hS : Sees s st w b F') (t : DT) : ∀ (n : Nat) (cs : List AV) (vs : List Value) (ds : List D), toDn b st t n cs = some ds → RelL s cs vs → ds.length = n ∧ Els F' t ds vs
  | 0, [], vs, ds, h, hr => by simp only [toDn, Option.some.injEq] at h; subst h; rw [hr.unnil]; exact ⟨rfl, Els.nil⟩
  | 0, _ :: _, _, _, h, _ => by simp [toDn] at h
  | n + 1, cs, vs, ds, h, hr => by
    simp only [toDn] at h
    split at h
    · rename_i d r hd
      split at h
      · rename_i ds' hds
        cases h
        obtain ⟨us, ws, rfl, h2, h3⟩ := toD_ok hH hS t cs vs d r hd hr
        obtain ⟨h4, h5⟩ := toDn_ok hH hS t n r ws ds' hds h3
        exact ⟨by simp [h4], Els.cons h2 h5⟩
      · cases h
    · cases h
mutual
theorem toD_zero {st : Stt} {w : Bool} : ∀ (t : DT) (cs : List AV) (d : D) (r : List AV), toD w ⟨[], 0⟩ t cs = some (d, r) → toD w st t cs = some (d, r)
  | .i _, cs, d, r, h => by simpa only [toD] using h
  | .b, cs, d, r, h => by simpa only [toD] using h
  | .s, cs, d, r, h => by simpa only [toD] using h
  | .l e, cs, d, r, h => by
    have hno : ∀ l : Nat, (⟨[], 0⟩ : Stt).h.get l = none := fun l => by simp only [Ly.get, Ly.go]; cases Nat.blt l 1000000 <;> rfl
    simp only [toD, hno] at h ⊢
    split at h
    · exact h
    · exact h
    · exact h
    · cases h
    · cases h
    · cases h
    · cases h
  | .t fs, cs, d, r, h => by
    simp only [toD] at h ⊢
    split at h
    case h_2 => cases h
    rename_i ds r' hds
    rw [toDs_zero fs cs ds r' hds]; exact h
theorem toDs_zero {st : Stt} {w : Bool} : ∀ (ts : List DT) (cs : List AV) (ds : List D) (r : List AV), toDs w ⟨[], 0⟩ ts cs = some (ds, r) → toDs w st ts cs = some (ds, r)
  | [], cs, ds, r, h => by simpa only [toDs] using h
  | t :: ts, cs, ds, r, h => by
    simp only [toDs] at h ⊢
    split at h
    case h_2 => cases h
    rename_i d r' hd
    split at h
    case h_2 => cases h
    rename_i ds' r'' hds
    rw [toD_zero t cs d r' hd]
    simp only
    rw [toDs_zero ts r' ds' r'' hds]; exact h
end
theorem Sees.self (st : Stt) (W : World) : Sees s st W true s.G := ⟨Sub.refl _, (fun h => by cases h), (fun h => by cases h)⟩

/-! ### Rows that become data -/
def Sg.frz (s : Sg) (b : Nat) (o : Obj) : Sg := { s with F := fun k => if k = b then some o else s.F k, G := fun k => if k = b then some o else s.G k }
/-- how states turn where rows become data -/
structure FrzRel (s : Sg) (st : Stt) (s' : Sg) (st' : Stt) : Prop where
  f : s'.f = s.f
  sub : ∀ k x, st'.h.get k = some x → st.h.get k = some x
  F : ∀ b, s.F b = none → (∀ l o p, st.h.get l = some o → s.f l = some p → there o p → p.b ≠ b) → s'.F b = none
theorem FrzRel.refl (s : Sg) (st : Stt) : FrzRel s st s st := ⟨rfl, fun _ _ h => h, fun _ h _ => h⟩
theorem FrzRel.trans {a b c : Sg} {x y z : Stt} (h : FrzRel a x b y) (k : FrzRel b y c z) : FrzRel a x c z :=
  ⟨k.f.trans h.f, fun i o hi => h.sub i o (k.sub i o hi), fun i hi hl => k.F i (h.F i hi hl) fun l o p h1 h2 => hl l o p (h.sub l o h1) (by rw [← h.f]; exact h2)⟩
theorem freeze_row (hH : Hold Γ s w0 st w) {l n c : Nat} {et : TypeId} {t : DT} {xs : List D} {p : Loc} {v : Value} (hl : st.h.get l = some (.q et t xs)) (hp : s.f l = some p) (hn : n ≤ p.m) (hc : n ≤ c ∧ c ≤ p.c) (hv : v = .slice (some ⟨p.b, 0, none⟩) n c ∨ (p.c = 0 ∧ ZV v)) :
    ∃ s', s.le s' ∧ Hold Γ s' w0 (delX st l) w ∧ Rel s' (.dl true t (xs.take n)) v ∧ FrzRel s st s' (delX st l) := by
  by_cases hc0 : p.c = 0
  · refine ⟨s, Sg.le.refl s, hH.del l, ?_, ⟨rfl, fun k x hk => (delX_key hk).2, fun _ h _ => h⟩⟩
    have hn0 : n = 0 := by
      obtain ⟨p', hp', g1, g2, _⟩ := hH.row hl
      rw [hp] at hp'; cases hp'
      omega
    subst hn0
    have hcc : c = 0 := by omega
    subst hcc
    simp only [Rel, List.take_zero]
    rcases hv with rfl | ⟨_, hv⟩
    · exact Slc.zv (.inr ⟨_, rfl⟩)
    · exact Slc.zv hv
  · obtain ⟨cur, h1, h2, h3, h4⟩ := hH.els hl hp hc0
    obtain ⟨p', hp', ho⟩ := hH.obj l _ hl
    rw [hp] at hp'; cases hp'
    have hF : s.F p.b = none := (ho.free hc0).1
    have hG : s.G p.b = none := by
      cases hg : s.G p.b with
      | none => rfl
      | some x => rw [hH.gf _ _ hg] at hF; cases hF
    have hle : s.le (s.frz p.b (.cells cur et (0, 0))) := by
      refine ⟨fun _ _ h => h, fun b o hb => ?_, fun b o hb => ?_, rfl, rfl⟩
      · simp only [Sg.frz]; split
        · rename_i e; subst e; rw [hF] at hb; cases hb
        · exact hb
      · simp only [Sg.frz]; split
        · rename_i e; subst e; rw [hG] at hb; cases hb
        · exact hb
    have hH' : Hold Γ (s.frz p.b (.cells cur et (0, 0))) w0 (delX st l) w := by
      refine ⟨hH.ext, fun b o hb => ?_, fun b o hb => ?_, hH.dom, fun k x hk => ?_, fun k k' x x' q q' hk hk' => hH.inj k k' x x' q q' (delX_key hk).2 (delX_key hk').2, fun b hb => ?_, hH.glob⟩
      · simp only [Sg.frz] at hb
        split at hb
        · rename_i e; subst e; cases hb; exact h1
        · exact hH.frz b o hb
      · simp only [Sg.frz] at hb ⊢
        split at hb
        · rename_i e; rw [if_pos e]; exact hb
        · rename_i e; rw [if_neg e]; exact hH.gf b o hb
      · obtain ⟨hne, hx⟩ := delX_key hk
        obtain ⟨q, g1, g2⟩ := hH.obj k x hx
        refine ⟨q, g1, fun ht => ?_, g2.cur.step hle fun _ => rfl⟩
        obtain ⟨g3, g4⟩ := g2.free ht
        refine ⟨?_, g4⟩
        simp only [Sg.frz]
        rw [if_neg (fun e => hne (hH.inj k l x _ q p hx hl g1 hp ht hc0 e))]
        exact g3
      · simp only [Sg.frz] at hb ⊢
        split at hb
        · rename_i e
          rcases (ho.free hc0).2 with h | ⟨_, h⟩
          · exact .inr (e ▸ h)
          · cases h
        · exact hH.gnew b hb
    refine ⟨_, hle, hH', ?_, ⟨rfl, fun k x hk => (delX_key hk).2, fun b hb hlv => ?_⟩⟩
    rotate_left
    · simp only [Sg.frz]
      rw [if_neg (fun e => hlv l _ p hl hp hc0 e.symm)]; exact hb
    have hS : Sees (s.frz p.b (.cells cur et (0, 0))) st w true (s.frz p.b (.cells cur et (0, 0))).G := Sees.self st w
    have hlen : (xs.take n).length = n := by rw [List.length_take, ho.cur.1]; omega
    simp only [Rel, Sg.H, cond_true]
    rcases hv with rfl | ⟨h0, _⟩
    · refine .inr ⟨p.b, 0, c, by rw [hlen], by rw [hlen]; exact hc.1, Nat.le_trans hc.2 ho.cur.2.2.1, fun i x hi => ?_⟩
      rw [List.getElem?_take] at hi
      split at hi
      · have hx := h4.rd i x hi
        refine ⟨_, Rd.len _ _ _ hx, ⟨cur, et, (0, 0), by simp [Sg.frz], fun j u hj => ?_⟩, Rd.mono hle.G t x _ hx⟩
        rw [List.getElem?_take] at hj
        split at hj
        · rw [List.getElem?_drop, List.getElem?_take] at hj
          split at hj
          · simpa using hj
          · cases hj
        · cases hj
      · cases hi
    · exact absurd h0 hc0
theorem freeze_ok (hH : Hold Γ s w0 st w) {a a' : AV} {v : Value} (h : freeze st a = some (a', st')) (hr : Rel s a v) : ∃ s', s.le s' ∧ Hold Γ s' w0 st' w ∧ Rel s' a' v ∧ FrzRel s st s' st' := by
  cases a with
  | ow l n =>
    simp only [freeze] at h
    split at h
    · rename_i et t xs hl
      cases h
      simp only [Rel] at hr
      obtain ⟨p, hp, hn, hmc, hv⟩ := hr
      exact freeze_row hH hl hp hn ⟨by omega, Nat.le_refl _⟩ hv
    · cases h
  | oc l n =>
    simp only [freeze] at h
    split at h
    · rename_i et t xs hl
      cases h
      simp only [Rel] at hr
      obtain ⟨p, hp, hn, hmc, hv⟩ := hr
      exact freeze_row hH hl hp hn ⟨Nat.le_refl _, by omega⟩ hv
    · cases h
  | _ => simp only [freeze, Option.some.injEq, Prod.mk.injEq] at h; obtain ⟨rfl, rfl⟩ := h; exact ⟨s, Sg.le.refl s, hH, hr, FrzRel.refl _ _⟩
theorem freezeL_ok' : ∀ {cs cs' : List AV} {vs : List Value} {s : Sg} {st st' : Stt}, Hold Γ s w0 st w → freezeL st cs = some (cs', st') → RelL s cs vs → ∃ s', s.le s' ∧ Hold Γ s' w0 st' w ∧ RelL s' cs' vs ∧ FrzRel s st s' st'
  | [], cs', vs, s, st, st', hH, h, hr => by simp only [freezeL, Option.some.injEq, Prod.mk.injEq] at h; obtain ⟨rfl, rfl⟩ := h; exact ⟨s, Sg.le.refl s, hH, hr, FrzRel.refl _ _⟩
  | a :: r, cs', vs, s, st, st', hH, h, hr => by
    simp only [freezeL] at h
    split at h
    · rename_i a1 st1 h1
      split at h
      · rename_i r1 st2 h2
        cases h
        obtain ⟨v, vs', h3, h4, rfl⟩ := hr.uncons
        obtain ⟨s1, k1, k2, k3, q1⟩ := freeze_ok hH h1 h3
        obtain ⟨s2, k4, k5, k6, q2⟩ := freezeL_ok' k2 h2 (RelL.mono k1 _ _ h4)
        exact ⟨s2, k1.trans k4, k5, RelL.cons (Rel.mono k4 _ _ k3) k6, q1.trans q2⟩
      · cases h
    · cases h
theorem freezeL_ok {cs cs' : List AV} {vs : List Value} (hH : Hold Γ s w0 st w) (h : freezeL st cs = some (cs', st')) (hr : RelL s cs vs) : ∃ s', s.le s' ∧ Hold Γ s' w0 st' w ∧ RelL s' cs' vs := by
  obtain ⟨s', h1, h2, h3, _⟩ := freezeL_ok' hH h hr
  exact ⟨s', h1, h2, h3⟩
end
end Go.Proofs.YtbbjonjhaoeidaaDoor.Sv
