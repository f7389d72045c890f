/- The evaluator is right: drawn regions, code, calls. Program-agnostic. -/
import Derived.Test.YtkcnljgennehaaaE8
namespace Go.Proofs.Ytkcnljgennehaaa.Ev
open Go.RowKit Go.Proofs.Ytkcnljgennehaaa.W

structure Sec (P : Program) (l : List Oper) (G : List Inf) (S : List Stt) (M : Nat) (i : Nat) (o : Oper) (x : Inf) : Prop where
  mak : x.mak = true → x.lo = x.num
  rd : x.mak = false → M = 0 ∨ rdAt P l.toArray o x (hiOf i M l G) 0 S = true
theorem pass2_ok {P : Program} {l : List Oper} {G : List Inf} {S : List Stt} {M : Nat} : ∀ (r : List Oper) (xs : List Inf) (i : Nat) (last : Option Nat), pass2 P l.toArray G S M r xs i last = true → ∀ j o x, r[j]? = some o → xs[j]? = some x → Sec P l G S M (i + j) o x := by
  intro r
  induction r with
  | nil => intro xs i last _ j o x hj; simp at hj
  | cons o r ih =>
    intro xs i last h j o' x' hj hx
    cases xs with
    | nil => simp at hx
    | cons x xs =>
      simp only [pass2, Bool.and_eq_true] at h
      obtain ⟨ha, hb⟩ := h
      cases j with
      | zero =>
        simp only [List.getElem?_cons_zero, Option.some.injEq] at hj hx
        subst hj; subst hx
        constructor
        · intro hm
          rw [hm] at ha
          simp only [cond_true] at ha
          exact beq_t ha
        · intro hm
          rw [hm] at ha
          simp only [cond_false, List.toList_toArray] at ha
          cases hM : Nat.beq M 0 with
          | true => exact .inl (beq_t hM)
          | false => rw [hM] at ha; exact .inr ha
      | succ j =>
        have := ih xs (i + 1) _ hb j o' x' (by simpa using hj) (by simpa using hx)
        rwa [show i + 1 + j = i + (j + 1) from by omega] at this
theorem hiOf_ge {i M k : Nat} (hM : k ≤ M) : ∀ (r : List Oper) (xs : List Inf), (∀ (j : Nat) (o : Oper) (x : Inf), r[j]? = some o → xs[j]? = some x → x.mak = true → i ∈ preds o → k ≤ x.num) → k ≤ hiOf i M r xs
  | [], _, _ => by unfold hiOf; exact hM
  | _ :: _, [], _ => by unfold hiOf; exact hM
  | o :: r, x :: xs, h => by
    have ih := hiOf_ge hM r xs (fun j o' x' hj hx => h (j + 1) o' x' (by simpa using hj) (by simpa using hx))
    unfold hiOf
    cases hc : (x.mak && (preds o).contains i) with
    | false => exact ih
    | true =>
      simp only [Bool.and_eq_true] at hc
      exact Nat.le_min.2 ⟨h 0 o x rfl rfl hc.1 (by simpa using hc.2), ih⟩
theorem rdAt_ok {P : Program} {ops : Array Oper} {o : Oper} {x : Inf} {hi : Nat} : ∀ (ss : List Stt) (k0 : Nat), rdAt P ops o x hi k0 ss = true → ∀ j st, ss[j]? = some st → x.lo ≤ k0 + j → k0 + j ≤ hi → k0 + j ≠ x.num → evRd P ops st x.env o = some x.u
  | [], _, _, j, st, hj, _, _, _ => by simp at hj
  | s1 :: r, k0, h, j, st, hj, h1, h2, h3 => by
    simp only [rdAt, Bool.and_eq_true] at h
    cases j with
    | zero =>
      simp only [List.getElem?_cons_zero, Option.some.injEq] at hj
      subst hj
      have e : (Nat.ble x.lo k0 && Nat.ble k0 hi && !Nat.beq k0 x.num) = true := by
        simp only [Bool.and_eq_true, Bool.not_eq_true']
        exact ⟨⟨Nat.ble_eq_true_of_le h1, Nat.ble_eq_true_of_le h2⟩, beq_no h3⟩
      rw [e] at h
      simp only [cond_true] at h
      have h4 := h.1
      split at h4
      · rename_i a ha; rw [ha, eqA_ok _ _ _ h4]
      · cases h4
    | succ j =>
      exact rdAt_ok r (k0 + 1) h.2 j st (by simpa using hj) (by omega) (by omega) (by omega)
theorem backOk_ok : ∀ (l : List Oper) (i : Nat), backOk l i = true → ∀ j o, l[j]? = some o → ∀ p ∈ preds o, p < i + j
  | [], _, _, j, o, hj, _, _ => by simp at hj
  | a :: r, i, h, j, o, hj, p, hp => by
    simp only [backOk, Bool.and_eq_true] at h
    cases j with
    | zero =>
      simp only [List.getElem?_cons_zero, Option.some.injEq] at hj
      subst hj
      exact blt_t (List.all_eq_true.1 h.1 p hp)
    | succ j => have := backOk_ok r (i + 1) h.2 j o (by simpa using hj) p hp; omega
theorem noDup_ok : ∀ (l : List Oper), noDup (l.filterMap (·.dst)) = true → ∀ (i j : Nat) (oi oj : Oper) (d : Nat), l[i]? = some oi → l[j]? = some oj → oi.dst = some d → oj.dst = some d → i = j
  | [], _, i, _, _, _, _, hi, _, _, _ => by simp at hi
  | a :: r, h, i, j, oi, oj, d, hi, hj, di, dj => by
    have tail : noDup (r.filterMap (·.dst)) = true := by
      cases ha : a.dst with
      | none => simpa [List.filterMap_cons, ha] using h
      | some d' => simp only [List.filterMap_cons, ha, noDup, Bool.and_eq_true] at h; exact h.2
    have head : ∀ d', a.dst = some d' → d' ∉ r.filterMap (·.dst) := by
      intro d' ha
      simp only [List.filterMap_cons, ha, noDup, Bool.and_eq_true, Bool.not_eq_true'] at h
      simpa using h.1
    cases i with
    | zero =>
      simp only [List.getElem?_cons_zero, Option.some.injEq] at hi
      subst hi
      cases j with
      | zero => rfl
      | succ j =>
        simp only [List.getElem?_cons_succ] at hj
        exact absurd (List.mem_filterMap.2 ⟨oj, List.mem_of_getElem? hj, dj⟩) (head d di)
    | succ i =>
      simp only [List.getElem?_cons_succ] at hi
      cases j with
      | zero =>
        simp only [List.getElem?_cons_zero, Option.some.injEq] at hj
        subst hj
        exact absurd (List.mem_filterMap.2 ⟨oi, List.mem_of_getElem? hi, di⟩) (head d dj)
      | succ j =>
        simp only [List.getElem?_cons_succ] at hj
        rw [noDup_ok r tail i j oi oj d hi hj di dj]
theorem clear_get : ∀ (l : List Oper) (A : AE) (t : Nat) (a : AV), (clear A l).get t = some a → A.get t = some a ∧ ∀ o ∈ l, o.dst ≠ some t
  | [], A, t, a, h => ⟨h, by simp⟩
  | o :: r, A, t, a, h => by
    simp only [clear] at h
    split at h
    · rename_i d hd
      obtain ⟨h1, h2⟩ := clear_get r _ t a h
      rcases Tr.get_set _ _ _ _ _ _ h1 with ⟨_, e⟩ | ⟨hne, e⟩
      · cases e
      · refine ⟨e, fun o' ho' => ?_⟩
        rcases List.mem_cons.1 ho' with rfl | ho'
        · rw [hd]; intro e'; cases e'; exact hne rfl
        · exact h2 o' ho'
    · rename_i hd
      obtain ⟨h1, h2⟩ := clear_get r A t a h
      refine ⟨h1, fun o' ho' => ?_⟩
      rcases List.mem_cons.1 ho' with rfl | ho'
      · rw [hd]; simp
      · exact h2 o' ho'
theorem putAll_ok {ω : Nat → Value} {s : Sg} {E : Env} : ∀ (l : List Oper) (G : List Inf) (A : AE), EnvOK ω s A E → (∀ (j : Nat) (o : Oper) (x : Inf) (d : Nat), l[j]? = some o → G[j]? = some x → o.dst = some d → Rel ω s x.u (E d)) → EnvOK ω s (putAll A l G) E
  | [], _, A, h, _ => by unfold putAll; exact h
  | _ :: _, [], A, h, _ => by unfold putAll; exact h
  | o :: r, x :: G, A, h, k => by
    unfold putAll
    refine putAll_ok r G _ ?_ (fun j o' x' d hj hx => k (j + 1) o' x' d (by simpa using hj) (by simpa using hx))
    intro t a ht
    cases hd : o.dst with
    | none => rw [hd] at ht; exact h t a ht
    | some d =>
      rw [hd] at ht
      rcases Tr.get_set _ _ _ _ _ _ ht with ⟨rfl, e⟩ | ⟨_, e⟩
      · cases e; exact k 0 o x _ rfl rfl hd
      · exact h t a e
theorem all_listed' {l : List Oper} {listed : Array Bool} (hsize : listed.size = l.length) (hback : ∀ i o, l[i]? = some o → ∀ p ∈ preds o, p < i) (h : Region.ready .any l.toArray listed = []) : ∀ k, k < l.length → listed.getD k true = true := by
  intro k
  induction k using Nat.strongRecOn with
  | _ k ih =>
    intro hk
    cases hl : listed.getD k true with
    | true => rfl
    | false =>
      have ho : l[k]? = some l[k] := List.getElem?_eq_getElem hk
      have : k ∈ Region.ready .any l.toArray listed := W.mem_ready.2 ⟨by simpa using hk, hl, l[k], by simp [ho], fun e he hb => by
        have hlt := hback k _ ho e.on (List.mem_map.2 ⟨e, List.mem_filter.2 ⟨he, hb⟩, rfl⟩)
        have := ih e.on hlt (by omega)
        have hsz : e.on < listed.size := by omega
        rw [Array.getD_eq_getD_getElem?, Array.getElem?_eq_getElem hsz] at this ⊢
        exact this⟩
      rw [h] at this; cases this
theorem cnt_hit {G : List Inf} {m : Nat} : ∀ n, m < cnt G n → ∃ i x, G[i]? = some x ∧ x.mak = true ∧ cnt G i = m
  | 0, h => by simp [cnt] at h
  | n + 1, h => by
    cases hx : G[n]? with
    | none =>
      have hn := List.getElem?_eq_none_iff.1 hx
      have : cnt G (n + 1) = cnt G n := by unfold cnt; rw [List.take_of_length_le (by omega), List.take_of_length_le hn]
      exact cnt_hit n (by omega)
    | some x =>
      have e := cnt_succ hx
      cases hm : x.mak with
      | false => rw [hm] at e; exact cnt_hit n (by simp at e; omega)
      | true =>
        rw [hm] at e
        rcases Nat.lt_or_ge m (cnt G n) with h1 | h1
        · exact cnt_hit n h1
        · simp at e; exact ⟨n, x, hx, hm, by omega⟩
theorem evOp_rd {P : Program} {st : Stt} {A : AE} {o : Oper} {a : AV} (h : evOp P st A o = some (.rd a)) {ω : Nat → Value} {s : Sg} {w0 w : World} {E : Env} (hω : OneW ω) (hH : Hold ω s w0 st w) (hE : EnvOK ω s A E) : ∃ v, OpV P o E w v ∧ Rel ω s a v := by
  unfold evOp at h
  split at h
  · rename_i a1 h1; cases h; exact rd_ok hω hH hE h1
  · split at h
    · cases h
    · split at h
      · cases h
      · split at h
        · cases h
        · split at h
          · rename_i a1 h1; cases h; exact pure_ok hE h1
          · cases h
theorem evOp_wr {P : Program} {st st' : Stt} {A : AE} {o : Oper} {a : AV} (h : evOp P st A o = some (.wr a st')) : evWrSp P st A o.op = some (a, st') := by
  unfold evOp at h
  split at h
  · cases h
  · split at h
    · rename_i h1; cases h; exact h1
    · split at h
      · cases h
      · split at h
        · cases h
        · split at h <;> cases h
theorem evOp_rnd {P : Program} {st : Stt} {A : AE} {o : Oper} {b : Nat} {l : List AV} (h : evOp P st A o = some (.rnd b l)) : evRndSp A o.op = some (b, l) := by
  unfold evOp at h
  split at h
  · cases h
  · split at h
    · cases h
    · split at h
      · cases h
      · split at h
        · rename_i h1; cases h; exact h1
        · split at h <;> cases h
theorem evOp_call {P : Program} {st : Stt} {A : AE} {o : Oper} {f : FuncId} {l : List AV} (h : evOp P st A o = some (.call f l)) : evCallSp P A o.op = some (f, l) := by
  unfold evOp at h
  split at h
  · cases h
  · split at h
    · cases h
    · split at h
      · rename_i h1; cases h; exact h1
      · split at h
        · cases h
        · split at h <;> cases h

structure DV (ω : Nat → Value) (s0 : Sg) (w0 : World) (N : Nat) (l : List Oper) (A A0 : AE) (G : List Inf) (S : List Stt) (listed : Array Bool) (a : Act) (w : World) (k : Nat) (s : Sg) (st : Stt) : Prop where
  le : s0.le s
  at_ : S[k]? = some st
  hold : Hold ω s w0 st w
  maks : ∀ i x, G[i]? = some x → x.mak = true → (listed.getD i false = true ↔ x.num < k)
  lo : ∀ i x, G[i]? = some x → listed.getD i false = true → x.aft ≤ k
  vals : ∀ i x o d, G[i]? = some x → l[i]? = some o → listed.getD i false = true → o.dst = some d → Rel ω s x.u (envOf a d)
  base : EnvOK ω s A0 (envOf a)
  old : ∀ i o d b, l[i]? = some o → listed.getD i false = false → o.dst = some d → A.get d = some b → Rel ω s b (envOf a d)
  closed : ∀ i o, l[i]? = some o → listed.getD i false = true → ∀ p ∈ preds o, listed.getD p false = true

section
variable {ω : Nat → Value} {w0 : World} {P : Program}
theorem drawn_ok (hω : OneW ω) (hm : P.follows .mixedOrders = true) {cf : CallF} (hc : CallOK ω w0 P cf) {N id : Nat} {DD : List Deferred} {ro : Option Nat} {rf : RndF} (hrf : RoundOK ω w0 P rf ro) {ops : Array Oper} {A A' : AE} {st0 st' : Stt} {Nn R : Env → World → Prop} {X : Nat → Env → World → Prop} (h : evDrawn P cf rf N ops A st0 = some (A', st')) (s0 : Sg) (E : Env) (w : World)
    (hH : Hold ω s0 w0 st0 w) (hE : EnvOK ω s0 A E) (k : ∀ s' E' w', s0.le s' → Hold ω s' w0 st' w' → EnvOK ω s' A' E' → Nn E' w') : WPr ro P ⟨N, DD⟩ (.region id ops true) ⟨Nn, X, R⟩ E w := by
  obtain ⟨l⟩ := ops
  unfold evDrawn at h
  simp only at h
  cases hchk : (Nat.ble l.length 4000 && l.all (fun o => dstB N o.dst) && noDup (l.filterMap (·.dst)) && backOk l 0) with
  | false => rw [hchk] at h; cases h
  | true =>
  rw [hchk] at h
  simp only [cond_true] at h
  simp only [Bool.and_eq_true] at hchk
  obtain ⟨⟨⟨c1, c2⟩, c3⟩, c4⟩ := hchk
  have c1 := ble_t c1
  have hback : ∀ i o, l[i]? = some o → ∀ p ∈ preds o, p < i := fun i o ho p hp => by have := backOk_ok l 0 c4 i o ho p hp; omega
  split at h
  · cases h
  rename_i G S hp1
  cases hp2 : pass2 P l.toArray G S (S.length - 1) l G 0 none with
  | false => rw [hp2] at h; cases h
  | true =>
  rw [hp2] at h
  simp only [cond_true] at h
  split at h
  case h_2 => cases h
  rename_i stL hlast
  cases h
  obtain ⟨hGl, hS0, hSl⟩ := pass1_len _ _ _ _ _ _ _ hp1
  have hM : S.length - 1 = cnt G G.length := by rw [hSl]; unfold cnt; rw [List.take_of_length_le (Nat.le_refl _)]; omega
  have hgood : ∀ i o, l[i]? = some o → ∃ x, G[i]? = some x ∧ Good P cf rf l A (clear A l) G S i o x := fun i o ho => by
    have := pass1_ok c1 hback G S l 0 .nil st0 0 G S hp1 rfl rfl rfl (by simp [cnt]) (fun p => by simp [Tr.get_nil]) i o ho
    simpa using this
  have hsec : ∀ i o x, l[i]? = some o → G[i]? = some x → Sec P l G S (S.length - 1) i o x := fun i o x ho hx => by
    have := pass2_ok l G 0 none hp2 i o x ho hx
    simpa using this
  have hnum : ∀ i x, G[i]? = some x → x.num = cnt G i := fun i x hx => by
    have hi : i < l.length := by rw [← hGl]; exact (List.getElem?_eq_some_iff.1 hx).1
    obtain ⟨y, hy, hg⟩ := hgood i _ (List.getElem?_eq_getElem hi)
    rw [hx] at hy; cases hy; exact hg.num
  have hapart := noDup_ok l c3
  refine WP.anyGen hm (fun listed a w => listed.size = l.length ∧ Ok ⟨N, DD⟩ a ∧ ∃ k s st, DV ω s0 w0 N l A (clear A l) G S listed a w k s st) (fun _ _ _ hV => hV.1) ?_ ?_ ?_
  · -- the end
    rintro listed a w ⟨hsz, hok, kk, s, st, D⟩ hr
    have hall := all_listed' hsz hback hr
    have hall' : ∀ i, i < l.length → listed.getD i false = true := fun i hi => by
      have := hall i hi
      have hsz' : i < listed.size := by omega
      rw [Array.getD_eq_getD_getElem?, Array.getElem?_eq_getElem hsz'] at this ⊢
      exact this
    have hk : kk = S.length - 1 := by
      have h1 : kk < S.length := by
        have := D.at_
        exact (List.getElem?_eq_some_iff.1 this).1
      rcases Nat.lt_or_ge kk (S.length - 1) with h2 | h2
      · rw [hM] at h2
        obtain ⟨i, x, hx, hmk, hci⟩ := cnt_hit _ h2
        have hi : i < l.length := by rw [← hGl]; exact (List.getElem?_eq_some_iff.1 hx).1
        have := (D.maks i x hx hmk).1 (hall' i hi)
        rw [hnum i x hx] at this; omega
      · omega
    have hst : st = st' := by
      have := D.at_
      rw [hk] at this
      rw [List.getLast?_eq_getElem?] at hlast
      rw [hlast] at this; exact (Option.some.inj this).symm
    subst hst
    exact ⟨hok, k s _ _ D.le D.hold (putAll_ok l G _ D.base fun j o x d hj hx hd => D.vals j x o d hx hj (hall' j (List.getElem?_eq_some_iff.1 hj).1) hd)⟩
  · -- one operation
    rintro listed a w i o ⟨hsz, hok, kk, s, st, D⟩ ho hun hpre
    have hi : i < l.length := (List.getElem?_eq_some_iff.1 ho).1
    have hsz' : i < listed.size := by omega
    have hun' : listed.getD i false = false := by
      rw [Array.getD_eq_getD_getElem?, Array.getElem?_eq_getElem hsz'] at hun ⊢
      exact hun
    have hpre' : ∀ p ∈ preds o, listed.getD p false = true := by
      intro p hp
      obtain ⟨e, he, rfl⟩ := List.mem_map.1 hp
      obtain ⟨h1, h2⟩ := List.mem_filter.1 he
      exact hpre e h1 h2
    obtain ⟨x, hx, g⟩ := hgood i o ho
    have sec := hsec i o x ho hx
    have hdst : dstOk ⟨N, DD⟩ o.dst = true := dst_of (List.all_eq_true.1 c2 o (List.mem_of_getElem? ho))
    have hlo : x.lo ≤ kk := g.lub kk fun p hp y hy => D.lo p y hy (hpre' p hp)
    have henv : EnvOK ω s x.env (envOf a) := g.env ω s (envOf a) D.base (fun p hp y q d hy hq hd => D.vals p y q d hy hq (hpre' p hp) hd) (fun q hq hiq d hd b hb => by
      obtain ⟨j, hj⟩ := List.mem_iff_getElem?.1 hq
      refine D.old j q d b hj ?_ hd hb
      cases hjl : listed.getD j false with
      | false => rfl
      | true => rw [D.closed j q hj hjl i hiq] at hun'; cases hun')
    have hkM : kk ≤ S.length - 1 := by have := (List.getElem?_eq_some_iff.1 D.at_).1; omega
    -- what stands behind it
    have next : ∀ (s1 : Sg) (st1 : Stt) (k1 : Nat) (v : Value) (w1 : World), s.le s1 → S[k1]? = some st1 → Hold ω s1 w0 st1 w1 → Rel ω s1 x.u v → kk ≤ k1 → x.aft ≤ k1 →
        (∀ j y, G[j]? = some y → y.mak = true → ((listed.setIfInBounds i true).getD j false = true ↔ y.num < k1)) →
        (listed.setIfInBounds i true).size = l.length ∧ Ok ⟨N, DD⟩ (a.put o.dst v) ∧ ∃ k s st, DV ω s0 w0 N l A (clear A l) G S (listed.setIfInBounds i true) (a.put o.dst v) w1 k s st := by
      intro s1 st1 k1 v w1 hle hat hh hrel hk1 haft hmaks
      have he : envOf (a.put o.dst v) = updO (envOf a) o.dst v := envOf_put hok o.dst hdst v
      have old : ∀ t, (∀ d, o.dst = some d → t ≠ d) → envOf (a.put o.dst v) t = envOf a t := by
        intro t ht
        rw [he]
        cases hd : o.dst with
        | none => rfl
        | some d => exact upd_ne _ _ _ _ (ht d hd)
      refine ⟨by simpa using hsz, hok.put _ _, k1, s1, st1, D.le.trans hle, hat, hh, hmaks, ?_, ?_, ?_, ?_, ?_⟩
      · intro j y hy hj
        rw [W.getD_set] at hj
        by_cases e : i = j
        · subst e; rw [hx] at hy; cases hy; exact haft
        · rw [if_neg (fun h => e h.1)] at hj; exact Nat.le_trans (D.lo j y hy hj) hk1
      · intro j y q d hy hq hj hd
        rw [W.getD_set] at hj
        by_cases e : i = j
        · subst e
          rw [hx] at hy; cases hy
          rw [ho] at hq; cases hq
          rw [he, hd, updO, upd_same]; exact hrel
        · rw [if_neg (fun h => e h.1)] at hj
          rw [old d (fun d' hd' e' => by subst e'; exact e (hapart i j o q d ho hq hd' hd))]
          exact Rel.mono hle _ _ (D.vals j y q d hy hq hj hd)
      · intro t b hb
        obtain ⟨_, hno⟩ := clear_get l A t b hb
        rw [old t (fun d hd e => by subst e; exact hno o (List.mem_of_getElem? ho) hd)]
        exact Rel.mono hle _ _ (D.base t b hb)
      · intro j q d b hq hj hd hb
        rw [W.getD_set] at hj
        by_cases e : i = j
        · subst e
          rw [if_pos ⟨rfl, hsz'⟩] at hj; cases hj
        · rw [if_neg (fun h => e h.1)] at hj
          rw [old d (fun d' hd' e' => by subst e'; exact e (hapart i j o q d ho hq hd' hd))]
          exact Rel.mono hle _ _ (D.old j q d b hq hj hd hb)
      · intro j q hq hj p hp
        rw [W.getD_set] at hj ⊢
        by_cases e : i = j
        · subst e
          rw [ho] at hq; cases hq
          split
          · rfl
          · exact hpre' p hp
        · rw [if_neg (fun h => e h.1)] at hj
          split
          · rfl
          · exact D.closed j q hq hj p hp
    obtain ⟨stn, hstn, hval⟩ := g.val
    rcases hval with ⟨hmk, haft, hrd⟩ | ⟨hmk, haft, hgd, stn', hstn', hop⟩
    · -- a reader
      have hrd' : evRd P l.toArray st x.env o = some x.u := by
        by_cases e : kk = x.num
        · have := D.at_; rw [e, hstn] at this; cases this; exact hrd
        · rcases sec.rd hmk with hM0 | hrda
          · have h1 := hnum i x hx
            have h2 : cnt G i ≤ cnt G G.length := cnt_mono G (by have := (List.getElem?_eq_some_iff.1 hx).1; omega)
            omega
          · refine rdAt_ok S 0 hrda kk st D.at_ (by omega) ?_ (by omega)
            rw [Nat.zero_add]
            refine hiOf_ge hkM l G fun j q y hq hy hmj hij => ?_
            have : ¬ (listed.getD j false = true) := fun hj => by rw [D.closed j q hq hj i hij] at hun'; cases hun'
            have := mt (D.maks j y hy hmj).2 this
            omega
      have maks' : ∀ j y, G[j]? = some y → y.mak = true → ((listed.setIfInBounds i true).getD j false = true ↔ y.num < kk) := by
        intro j y hy hmj
        rw [W.getD_set]
        by_cases e : i = j
        · subst e; rw [hx] at hy; cases hy; rw [hmk] at hmj; cases hmj
        · rw [if_neg (fun h => e h.1)]; exact D.maks j y hy hmj
      unfold evRd at hrd'
      split at hrd'
      · rename_i hg
        simp only [Option.some.injEq] at hrd'
        exact .inl ⟨guard_skip henv hg, next s st kk undef w (Sg.le.refl s) D.at_ D.hold (hrd' ▸ Rel.mkv _) (Nat.le_refl _) (by omega) maks'⟩
      · rename_i hg
        split at hrd'
        · rename_i a' hop
          cases hrd'
          obtain ⟨v, hv, hrel⟩ := evOp_rd hop hω D.hold henv
          exact .inr ⟨guard_run henv hg, .inl ⟨v, w, hv.x, next s st kk v w (Sg.le.refl s) D.at_ D.hold hrel (Nat.le_refl _) (by omega) maks'⟩⟩
        · cases hrd'
      · cases hrd'
    · -- a maker
      have hk : kk = x.num := by
        have h1 : ¬ (x.num < kk) := fun hlt => by rw [(D.maks i x hx hmk).2 hlt] at hun'; cases hun'
        have h2 : x.num ≤ kk := by
          have := sec.mak hmk
          omega
        omega
      have hst : st = stn := by have := D.at_; rw [hk, hstn] at this; exact (Option.some.inj this).symm
      subst hst
      have maks' : ∀ j y, G[j]? = some y → y.mak = true → ((listed.setIfInBounds i true).getD j false = true ↔ y.num < x.num + 1) := by
        intro j y hy hmj
        rw [W.getD_set]
        by_cases e : i = j
        · subst e; rw [hx] at hy; cases hy; simp [hsz']
        · rw [if_neg (fun h => e h.1), D.maks j y hy hmj, hk]
          have e1 := hnum j y hy; have e2 := hnum i x hx
          have e3 := cnt_succ hy; have e4 := cnt_succ hx
          rw [hmj] at e3; rw [hmk] at e4
          simp only [if_true] at e3 e4
          constructor
          · intro hlt; omega
          · intro hlt
            rcases Nat.lt_or_ge j i with hji | hji
            · have := cnt_mono G (show j + 1 ≤ i by omega); omega
            · have := cnt_mono G (show i + 1 ≤ j by omega); omega
      have hsure := guard_run (ops := l.toArray) henv hgd
      rcases hop with hop | ⟨f, as', hop, hcf⟩ | ⟨bl, as', hop, hcf⟩
      · obtain ⟨v, w', s', hx1, hle, hH', hrel⟩ := wr_ok hω D.hold henv (evOp_wr hop)
        exact .inr ⟨hsure, .inl ⟨v, w', hx1, next s' stn' (x.num + 1) v w' hle hstn' hH' hrel (by omega) (by omega) maks'⟩⟩
      · obtain ⟨vs, hx1, hr⟩ := call_ok (w := w) henv (evOp_call hop)
        refine .inr ⟨hsure, .inr (.inl ⟨f, _, hx1, Fnc.mono (hc f as' st x.u stn' hcf s w vs D.hold hr) ?_⟩)⟩
        rintro v w' ⟨s', hle, hH', hrel⟩
        exact next s' stn' (x.num + 1) v w' hle hstn' hH' hrel (by omega) (by omega) maks'
      · obtain ⟨b, c, vs, hb, hr, hx1⟩ := rnd_ok henv (evOp_rnd hop)
        obtain ⟨r, hl, hsz2, hrd⟩ := hrf bl as' st x.u stn' hcf s w vs b c D.hold hr hb
        refine .inr ⟨hsure, .inr (.inr ⟨_, _, _, _, _, hx1 P w _ _ _ _ _ (run_yield hl hsz2), RoundIn.mono hrd ?_⟩)⟩
        rintro e w' ⟨v, s', rfl, hle, hH', hrel⟩
        exact ⟨v, rfl, next s' stn' (x.num + 1) v w' hle hstn' hH' hrel (by omega) (by omega) maks'⟩
  · -- the beginning
    intro a d hok he
    subst he
    have no : ∀ i, (Array.replicate l.length false).getD i false = false := by
      intro i; rw [Array.getD_eq_getD_getElem?]
      by_cases hi : i < l.length <;> simp [hi]
    refine ⟨by simp, hok, 0, s0, st0, Sg.le.refl s0, hS0, hH.drew d, ?_, ?_, ?_, ?_, ?_, ?_⟩
    · intro i x _ _; rw [no i]; simp
    · intro i x _ hi; rw [no i] at hi; cases hi
    · intro i x o d _ _ hi; rw [no i] at hi; cases hi
    · intro t b hb; exact hE t b (clear_get l A t b hb).1
    · intro i o d b _ _ _ hb; exact hE d b hb
    · intro i o _ hi; rw [no i] at hi; cases hi
end
end Go.Proofs.Ytkcnljgennehaaa.Ev
