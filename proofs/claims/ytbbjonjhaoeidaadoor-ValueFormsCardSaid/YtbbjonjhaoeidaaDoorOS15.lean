/- The symbolic evaluator is right: regions that draw their order, and make or write, to the end. Program-agnostic. -/
import Derived.Test.YtbbjonjhaoeidaaDoorOS14
set_option linter.unusedVariables false
set_option linter.unusedSimpArgs false
namespace Go.Proofs.YtbbjonjhaoeidaaDoor.Sv
open Go.RowKit Go.Proofs.YtbbjonjhaoeidaaDoor.W
variable {Γ : Gl}

structure DV (Γ : Gl) (s0 : Sg) (w0 : World) (N : Nat) (l : List Oper) (A A0 : AE) (G : List Inf) (T : List Stt) (listed : Array Bool) (a : Act) (w : World) (k : Nat) (s : Sg) (st : Stt) : Prop where
  le : s0.le s
  at_ : T[k]? = some st
  hold : Hold Γ s w0 st w
  maks : ∀ i x, G[i]? = some x → x.mak = true → (listed.getD i false = true ↔ x.num < k)
  lo : ∀ i x, G[i]? = some x → listed.getD i false = true → x.aft ≤ k
  vals : ∀ i x o d, G[i]? = some x → l[i]? = some o → listed.getD i false = true → o.dst = some d → Rel s x.u (envOf a d)
  base : EnvOK s A0 (envOf a)
  old : ∀ i o d b, l[i]? = some o → listed.getD i false = false → o.dst = some d → A.get d = some b → Rel s b (envOf a d)
  closed : ∀ i o, l[i]? = some o → listed.getD i false = true → ∀ p ∈ preds o, listed.getD p false = true

section
variable {w0 : World} {P : Program}
theorem drawn_ok (hm : P.follows .mixedOrders = true) {S : Sums} (hS : SumsOK P Γ S) {N id : Nat} {DD : List Deferred} {ops : Array Oper} {A A' : AE} {st0 st' : Stt} {ps : Ps} {Nn R : Env → World → Prop} {X : Nat → Env → World → Prop} (h : evDrawn P S N ops A st0 = some (ps, A', st')) (hps : ∀ p ∈ ps, p) (s0 : Sg) (E : Env) (w : World)
    (hH : Hold Γ s0 w0 st0 w) (hE : EnvOK s0 A E) (k : ∀ s' E' w', s0.le s' → Hold Γ s' w0 st' w' → EnvOK s' A' E' → Nn E' w') : WP P ⟨N, DD⟩ (.region id ops true) ⟨Nn, X, R⟩ E w := by
  obtain ⟨l⟩ := ops
  unfold evDrawn at h
  simp only at h
  cases hchk : (Nat.ble l.length 4000 && l.all (fun o => dstB N o.dst) && noDup (dsts l) && backOk l 0 && l.all (fun o => isNone o.guard)) with
  | false => rw [hchk] at h; cases h
  | true =>
  rw [hchk] at h
  simp only [cond_true] at h
  simp only [Bool.and_eq_true] at hchk
  obtain ⟨⟨⟨⟨c1, c2⟩, c3⟩, c4⟩, c5⟩ := hchk
  have c1 := ble_t c1
  have hback : ∀ i o, l[i]? = some o → ∀ p ∈ preds o, p < i := fun i o ho p hp => by have := backOk_ok l 0 c4 i o ho p hp; omega
  have hguard : ∀ (i : Nat) (o : Oper), l[i]? = some o → o.guard = none := fun i o ho => by
    have := List.all_eq_true.1 c5 o (List.mem_of_getElem? ho)
    cases hg : o.guard with
    | none => rfl
    | some g => rw [hg] at this; cases this
  split at h
  · cases h
  rename_i G T hp1
  split at h
  case h_2 => cases h
  rename_i ps2 stL hp2 hlast
  cases h
  obtain ⟨hGl, hS0, hSl⟩ := pass1_len _ _ _ _ _ _ _ hp1
  have hM : T.length - 1 = cnt G G.length := by rw [hSl]; unfold cnt; rw [List.take_of_length_le (Nat.le_refl _)]; omega
  have hgood : ∀ i o, l[i]? = some o → ∃ x, G[i]? = some x ∧ Good P S l A (killA A (dsts l)) G T i o x := fun i o ho => by
    have := pass1_ok c1 hback G T l 0 .nil st0 0 G T hp1 rfl rfl rfl (by simp [cnt]) (fun p => by simp [Tr.get]) i o ho
    simpa using this
  have hsec : ∀ i o x, l[i]? = some o → G[i]? = some x → Sec P S l G T (T.length - 1) i o x := fun i o x ho hx => by
    have := pass2_ok l G 0 _ hp2 hps i o x ho hx
    simpa using this
  have hnum : ∀ i x, G[i]? = some x → x.num = cnt G i := fun i x hx => by
    have hi : i < l.length := by rw [← hGl]; exact (List.getElem?_eq_some_iff.1 hx).1
    obtain ⟨y, hy, hg⟩ := hgood i _ (List.getElem?_eq_getElem hi)
    rw [hx] at hy; cases hy; exact hg.num
  have hapart := noDupD l c3
  refine WP.anyGen hm (fun listed a w => listed.size = l.length ∧ Ok ⟨N, DD⟩ a ∧ ∃ k s st, DV Γ s0 w0 N l A (killA A (dsts l)) G T listed a w k s st) (fun _ _ _ hV => hV.1) ?_ ?_ ?_
  · -- the end
    rintro listed a w ⟨hsz, hok, kk, s, st, D⟩ hr
    have hall := all_listed' hsz hback hr
    have hall' : ∀ i, i < l.length → listed.getD i false = true := fun i hi => by
      have := hall i hi
      have hsz' : i < listed.size := by omega
      rw [Array.getD_eq_getD_getElem?, Array.getElem?_eq_getElem hsz'] at this ⊢
      exact this
    have hk : kk = T.length - 1 := by
      have h1 : kk < T.length := by
        have := D.at_
        exact (List.getElem?_eq_some_iff.1 this).1
      rcases Nat.lt_or_ge kk (T.length - 1) with h2 | h2
      · rw [hM] at h2
        obtain ⟨i, x, hx, hmk, hci⟩ := cnt_hit _ h2
        have hi : i < l.length := by rw [← hGl]; exact (List.getElem?_eq_some_iff.1 hx).1
        have := (D.maks i x hx hmk).1 (hall' i hi)
        rw [hnum i x hx] at this; omega
      · omega
    have hst : st = st' := by
      have := D.at_
      rw [hk] at this
      rw [List.getLast?_eq_getElem?] at hlast
      rw [hlast] at this; exact (Option.some.inj this).symm
    subst hst
    exact ⟨hok, k s _ _ D.le D.hold (putAll_ok l G _ D.base fun j o x d hj hx hd => D.vals j x o d hx hj (hall' j (List.getElem?_eq_some_iff.1 hj).1) hd)⟩
  · -- one operation
    rintro listed a w i o ⟨hsz, hok, kk, s, st, D⟩ ho hun hpre
    have hi : i < l.length := (List.getElem?_eq_some_iff.1 ho).1
    have hsz' : i < listed.size := by omega
    have hun' : listed.getD i false = false := by
      rw [Array.getD_eq_getD_getElem?, Array.getElem?_eq_getElem hsz'] at hun ⊢
      exact hun
    have hpre' : ∀ p ∈ preds o, listed.getD p false = true := by
      intro p hp
      obtain ⟨e, he, rfl⟩ := List.mem_map.1 hp
      obtain ⟨h1, h2⟩ := List.mem_filter.1 he
      exact hpre e h1 h2
    obtain ⟨x, hx, g⟩ := hgood i o ho
    have sec := hsec i o x ho hx
    have hdst : dstOk ⟨N, DD⟩ o.dst = true := dst_of (List.all_eq_true.1 c2 o (List.mem_of_getElem? ho))
    have hlo : x.lo ≤ kk := g.lub kk fun p hp y hy => D.lo p y hy (hpre' p hp)
    have henv : EnvOK s x.env (envOf a) := g.env s (envOf a) D.base (fun p hp y q d hy hq hd => D.vals p y q d hy hq (hpre' p hp) hd) (fun q hq hiq d hd b hb => by
      obtain ⟨j, hj⟩ := List.mem_iff_getElem?.1 hq
      refine D.old j q d b hj ?_ hd hb
      cases hjl : listed.getD j false with
      | false => rfl
      | true => rw [D.closed j q hj hjl i hiq] at hun'; cases hun')
    have hkM : kk ≤ T.length - 1 := by have := (List.getElem?_eq_some_iff.1 D.at_).1; omega
    -- what stands behind it
    have next : ∀ (s1 : Sg) (st1 : Stt) (k1 : Nat) (v : Value) (w1 : World), s.le s1 → T[k1]? = some st1 → Hold Γ s1 w0 st1 w1 → Rel s1 x.u v → kk ≤ k1 → x.aft ≤ k1 →
        (∀ j y, G[j]? = some y → y.mak = true → ((listed.setIfInBounds i true).getD j false = true ↔ y.num < k1)) →
        (listed.setIfInBounds i true).size = l.length ∧ Ok ⟨N, DD⟩ (a.put o.dst v) ∧ ∃ k s st, DV Γ s0 w0 N l A (killA A (dsts l)) G T (listed.setIfInBounds i true) (a.put o.dst v) w1 k s st := by
      intro s1 st1 k1 v w1 hle hat hh hrel hk1 haft hmaks
      have he : envOf (a.put o.dst v) = updO (envOf a) o.dst v := envOf_put hok o.dst hdst v
      have old : ∀ t, (∀ d, o.dst = some d → t ≠ d) → envOf (a.put o.dst v) t = envOf a t := by
        intro t ht
        rw [he]
        cases hd : o.dst with
        | none => rfl
        | some d => exact upd_ne _ _ _ _ (ht d hd)
      refine ⟨by simpa using hsz, hok.put _ _, k1, s1, st1, D.le.trans hle, hat, hh, hmaks, ?_, ?_, ?_, ?_, ?_⟩
      · intro j y hy hj
        rw [W.getD_set] at hj
        by_cases e : i = j
        · subst e; rw [hx] at hy; cases hy; exact haft
        · rw [if_neg (fun h => e h.1)] at hj; exact Nat.le_trans (D.lo j y hy hj) hk1
      · intro j y q d hy hq hj hd
        rw [W.getD_set] at hj
        by_cases e : i = j
        · subst e
          rw [hx] at hy; cases hy
          rw [ho] at hq; cases hq
          rw [he, hd, updO, upd_same]; exact hrel
        · rw [if_neg (fun h => e h.1)] at hj
          rw [old d (fun d' hd' e' => by subst e'; exact e (hapart i j o q d ho hq hd' hd))]
          exact Rel.mono hle _ _ (D.vals j y q d hy hq hj hd)
      · intro t b hb
        obtain ⟨hno, _⟩ := killA_get (dsts l) A t b hb
        rw [old t (fun d hd e => by subst e; exact hno (List.mem_filterMap.2 ⟨o, List.mem_of_getElem? ho, hd⟩))]
        exact Rel.mono hle _ _ (D.base t b hb)
      · intro j q d b hq hj hd hb
        rw [W.getD_set] at hj
        by_cases e : i = j
        · subst e
          rw [if_pos ⟨rfl, hsz'⟩] at hj; cases hj
        · rw [if_neg (fun h => e h.1)] at hj
          rw [old d (fun d' hd' e' => by subst e'; exact e (hapart i j o q d ho hq hd' hd))]
          exact Rel.mono hle _ _ (D.old j q d b hq hj hd hb)
      · intro j q hq hj p hp
        rw [W.getD_set] at hj ⊢
        by_cases e : i = j
        · subst e
          rw [ho] at hq; cases hq
          split
          · rfl
          · exact hpre' p hp
        · rw [if_neg (fun h => e h.1)] at hj
          split
          · rfl
          · exact D.closed j q hq hj p hp
    obtain ⟨stn, hstn, hval⟩ := g.val
    have hsure : Sure l.toArray o (envOf a) := Sure.none (hguard i o ho)
    rcases hval with ⟨hmk, haft, hrd⟩ | ⟨hmk, haft, stn', hstn', hop⟩
    · -- a reader
      have hrd' : ∃ qs, evOp P S st x.env o = some (.rd qs x.u) ∧ ∀ p ∈ qs, p := by
        by_cases e : kk = x.num
        · have := D.at_; rw [e, hstn] at this; cases this; exact ⟨_, hrd, sec.ps⟩
        · rcases sec.rd hmk with hM0 | hno | ⟨qs, hrda, hqs⟩
          · have h1 := hnum i x hx
            have h2 : cnt G i ≤ cnt G G.length := cnt_mono G (by have := (List.getElem?_eq_some_iff.1 hx).1; omega)
            omega
          · exact ⟨_, (noMem_op hno).trans hrd, sec.ps⟩
          · refine rdAt_ok T 0 qs hrda hqs kk st D.at_ (by omega) ?_ (by omega)
            rw [Nat.zero_add]
            refine hiOf_ge hkM l G fun j q y hq hy hmj hij => ?_
            have : ¬ (listed.getD j false = true) := fun hj => by rw [D.closed j q hq hj i hij] at hun'; cases hun'
            have := mt (D.maks j y hy hmj).2 this
            omega
      have maks' : ∀ j y, G[j]? = some y → y.mak = true → ((listed.setIfInBounds i true).getD j false = true ↔ y.num < kk) := by
        intro j y hy hmj
        rw [W.getD_set]
        by_cases e : i = j
        · subst e; rw [hx] at hy; cases hy; rw [hmk] at hmj; cases hmj
        · rw [if_neg (fun h => e h.1)]; exact D.maks j y hy hmj
      obtain ⟨qs, hop, hqs⟩ := hrd'
      obtain ⟨v, hrel, hq⟩ := evOp_rd hS D.hold henv hop hqs
      rcases hq with hq | ⟨f, args, h1, h2⟩
      · exact .inr ⟨hsure, .inl ⟨v, w, (hq w (Ext.refl _ _)).x, next s st kk v w (Sg.le.refl s) D.at_ D.hold hrel (Nat.le_refl _) (by omega) maks'⟩⟩
      · refine .inr ⟨hsure, .inr (.inl ⟨f, args, h1 w (Ext.refl _ _), Fnc.mono (h2 w (Ext.refl _ _)) ?_⟩)⟩
        rintro u w' ⟨rfl, hx'⟩
        exact next s st kk u w' (Sg.le.refl s) D.at_ (D.hold.grow hx') hrel (Nat.le_refl _) (by omega) maks'
    · -- a maker
      have hk : kk = x.num := by
        have h1 : ¬ (x.num < kk) := fun hlt => by rw [(D.maks i x hx hmk).2 hlt] at hun'; cases hun'
        have h2 : x.num ≤ kk := by
          have := sec.mak hmk
          omega
        omega
      have hst : st = stn := by have := D.at_; rw [hk, hstn] at this; exact (Option.some.inj this).symm
      subst hst
      have maks' : ∀ j y, G[j]? = some y → y.mak = true → ((listed.setIfInBounds i true).getD j false = true ↔ y.num < x.num + 1) := by
        intro j y hy hmj
        rw [W.getD_set]
        by_cases e : i = j
        · subst e; rw [hx] at hy; cases hy; simp [hsz']
        · rw [if_neg (fun h => e h.1), D.maks j y hy hmj, hk]
          have e1 := hnum j y hy; have e2 := hnum i x hx
          have e3 := cnt_succ hy; have e4 := cnt_succ hx
          rw [hmj] at e3; rw [hmk] at e4
          simp only [if_true] at e3 e4
          constructor
          · intro hlt; omega
          · intro hlt
            rcases Nat.lt_or_ge j i with hji | hji
            · have := cnt_mono G (show j + 1 ≤ i by omega); omega
            · have := cnt_mono G (show i + 1 ≤ j by omega); omega
      rcases evOp_wr hS D.hold henv hop sec.ps with ⟨v, w', hx1, s', hle, hH', hrel⟩ | ⟨f, args, hx1, hf⟩
      · exact .inr ⟨hsure, .inl ⟨v, w', hx1, next s' stn' (x.num + 1) v w' hle hstn' hH' hrel (by omega) (by omega) maks'⟩⟩
      · refine .inr ⟨hsure, .inr (.inl ⟨f, args, hx1, Fnc.mono hf ?_⟩)⟩
        rintro v w' ⟨s', hle, hH', hrel⟩
        exact next s' stn' (x.num + 1) v w' hle hstn' hH' hrel (by omega) (by omega) maks'
  · -- the beginning
    intro a d hok he
    subst he
    have no : ∀ i, (Array.replicate l.length false).getD i false = false := by
      intro i; rw [Array.getD_eq_getD_getElem?]
      by_cases hi : i < l.length <;> simp [hi]
    refine ⟨by simp, hok, 0, s0, st0, Sg.le.refl s0, hS0, hH.drew d, ?_, ?_, ?_, ?_, ?_, ?_⟩
    · intro i x _ _; rw [no i]; simp
    · intro i x _ hi; rw [no i] at hi; cases hi
    · intro i x o d _ _ hi; rw [no i] at hi; cases hi
    · intro t b hb; exact hE t b (killA_get (dsts l) A t b hb).2
    · intro i o d b _ _ _ hb; exact hE d b hb
    · intro i o _ hi; rw [no i] at hi; cases hi
end
end Go.Proofs.YtbbjonjhaoeidaaDoor.Sv
