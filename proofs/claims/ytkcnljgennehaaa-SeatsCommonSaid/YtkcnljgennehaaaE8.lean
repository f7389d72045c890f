/- The evaluator is right: regions that draw their order. Program-agnostic. -/
import Derived.Test.YtkcnljgennehaaaE7
import Derived.OrdersIn
namespace Go.Proofs.Ytkcnljgennehaaa.Ev
open Go.RowKit Go.Proofs.Ytkcnljgennehaaa.W

theorem Tr.get_set' {α : Type} : ∀ (d : Nat) (t : Tr α) (k j : Nat) (x : Option α), k + 1 < 2 ^ d → (Tr.set d t k x).get j = if j = k then x else t.get j
  | 0, t, k, j, x, h => by simp at h
  | d + 1, t, k, j, x, h => by
    have hd : Tr.set (d + 1) t k x = bif Nat.beq k 0 then .node t.left x t.right else bif Nat.beq (k % 2) 1 then .node (Tr.set d t.left (k / 2) x) t.val t.right else .node t.left t.val (Tr.set d t.right ((k - 1) / 2) x) := rfl
    have hpow : 2 ^ (d + 1) = 2 * 2 ^ d := by rw [Nat.pow_succ]; omega
    rw [hd, Tr.get_eq t j]
    by_cases hk : k = 0
    · subst hk
      simp only [beq_self, cond_true]
      rw [Tr.get_eq]
      simp only [Tr.left, Tr.val, Tr.right]
      by_cases hj : j = 0
      · subst hj; simp [beq_self]
      · simp only [beq_no hj, cond_false, if_neg hj]
    · simp only [beq_no hk, cond_false]
      by_cases hp : k % 2 = 1
      · simp only [hp, beq_self, cond_true]
        rw [Tr.get_eq]
        simp only [Tr.left, Tr.val, Tr.right]
        by_cases hj : j = 0
        · subst hj; simp only [beq_self, cond_true]; rw [if_neg (fun e => hk e.symm)]
        · simp only [beq_no hj, cond_false]
          by_cases hq : j % 2 = 1
          · simp only [hq, beq_self, cond_true]
            rw [Tr.get_set' d _ _ _ _ (by omega)]
            by_cases e : j = k
            · subst e; simp
            · rw [if_neg (by omega), if_neg e]
          · simp only [beq_no hq, cond_false]; rw [if_neg (fun e : j = k => hq (by rw [e]; exact hp))]
      · simp only [beq_no hp, cond_false]
        rw [Tr.get_eq]
        simp only [Tr.left, Tr.val, Tr.right]
        by_cases hj : j = 0
        · subst hj; simp only [beq_self, cond_true]; rw [if_neg (fun e => hk e.symm)]
        · simp only [beq_no hj, cond_false]
          by_cases hq : j % 2 = 1
          · simp only [hq, beq_self, cond_true]; rw [if_neg (fun e : j = k => hp (by rw [← e]; exact hq))]
          · simp only [beq_no hq, cond_false]
            rw [Tr.get_set' d _ _ _ _ (by omega)]
            by_cases e : j = k
            · subst e; simp
            · rw [if_neg (by omega), if_neg e]

theorem eqVs_ok {f : Value → Value → Bool} (hf : ∀ a b, f a b = true → a = b) : ∀ {l r : List Value}, eqVs f l r = true → l = r
  | [], [], _ => rfl
  | [], _ :: _, h => by simp [eqVs] at h
  | _ :: _, [], h => by simp [eqVs] at h
  | a :: l, b :: r, h => by
    simp only [eqVs, Bool.and_eq_true] at h
    rw [hf _ _ h.1, eqVs_ok hf h.2]
theorem eqV_ok : ∀ (n : Nat) (a b : Value), eqV n a b = true → a = b
  | 0, a, b, h => by simp [eqV] at h
  | n + 1, a, b, h => by
    unfold eqV at h
    split at h
    · cases ‹_ + 1 = 0›
    · simp only [Bool.and_eq_true, decide_eq_true_eq] at h; rw [h.1, h.2]
    · simp at h; rw [h]
    · simp only [decide_eq_true_eq] at h
      congr 1
      exact ByteArray.ext (Array.ext' h)
    · rfl
    · simp only [Bool.and_eq_true] at h; rw [beq_t h.1, beq_t h.2]
    · rfl
    · rfl
    · rfl
    · rename_i heq; cases heq; congr 1; exact Array.ext' (eqVs_ok (eqV_ok n) h)
    · rename_i heq; cases heq; congr 1; exact Array.ext' (eqVs_ok (eqV_ok n) h)
    · cases h
theorem eqAs_ok {f : AV → AV → Bool} (hf : ∀ a b, f a b = true → a = b) : ∀ {l r : List AV}, eqAs f l r = true → l = r
  | [], [], _ => rfl
  | [], _ :: _, h => by simp [eqAs] at h
  | _ :: _, [], h => by simp [eqAs] at h
  | a :: l, b :: r, h => by
    simp only [eqAs, Bool.and_eq_true] at h
    rw [hf _ _ h.1, eqAs_ok hf h.2]
theorem eqA_ok : ∀ (n : Nat) (a b : AV), eqA n a b = true → a = b
  | 0, a, b, h => by simp [eqA] at h
  | n + 1, a, b, h => by
    unfold eqA at h
    split at h
    · cases ‹_ + 1 = 0›
    · rename_i heq; cases heq; rw [eqV_ok _ _ _ h]
    · simp only [Bool.and_eq_true] at h; rw [beq_t h.1, beq_t h.2]
    · simp only [Bool.and_eq_true] at h
      obtain ⟨⟨⟨⟨h1, h2⟩, h3⟩, h4⟩, h5⟩ := h
      rw [beq_t h1, beq_t h2, beq_t h3, beq_t h4, eq_of_beq h5]
    · rename_i heq; cases heq; rw [eqAs_ok (eqA_ok n) h]
    · rename_i heq; cases heq; rw [eqAs_ok (eqA_ok n) h]
    · rename_i heq; cases heq; simp only [Bool.and_eq_true] at h; rw [beq_t h.1, eqAs_ok (eqA_ok n) h.2]
    · rw [beq_t h]
    · rw [beq_t h]
    · rw [beq_t h]
    · rw [beq_t h]
    · rfl
    · rfl
    · simp only [Bool.and_eq_true] at h; rw [beq_t h.1, beq_t h.2]
    · cases h

/-- A region that draws its order, by what holds of (what is listed, the activation, the world). -/
theorem wpAny_gen {P : Program} {n : Fsz} {ro : Option Nat} {l : List Oper} {N R : Env → World → Prop} {X : Nat → Env → World → Prop} (V : Array Bool → Act → World → Prop)
    (hsize : ∀ listed a w, V listed a w → listed.size = l.length)
    (hfin : ∀ listed a w, V listed a w → Region.ready .any l.toArray listed = [] → lift n ⟨N, X, R⟩ .normal a w)
    (hstep : ∀ listed a w i o, V listed a w → l[i]? = some o → listed.getD i true = false → (∀ e ∈ o.after.toList, Region.binds .any e = true → listed.getD e.on false = true) →
      (Shut l.toArray o (envOf a) ∧ V (listed.setIfInBounds i true) (a.put o.dst undef) w) ∨ (Sure l.toArray o (envOf a) ∧
        ((∃ v w', OpX P o (envOf a) w v w' ∧ V (listed.setIfInBounds i true) (a.put o.dst v) w') ∨ (∃ f args, OpC P o (envOf a) w f args ∧ Fnc P f args w fun v w' => V (listed.setIfInBounds i true) (a.put o.dst v) w') ∨
          (∃ b f tmps asg body, (execOp (ev (envOf a)) o).run P w = .ok (.round b f tmps asg body) w ∧ RoundIn (Fr ro) 0 P b f tmps asg body w fun e w' => ∃ v, e = .returned v ∧ V (listed.setIfInBounds i true) (a.put o.dst v) w')))) :
    ∀ (fuel : Nat) (listed : Array Bool) (a : Act) (w : World), V listed a w → (unl l.length listed).length ≤ fuel → wpAnyIn (Fr ro) 1 P .any l.toArray (lift n ⟨N, X, R⟩) fuel listed a w := by
  intro fuel
  induction fuel with
  | zero =>
    intro listed a w hV hu
    have hnil : Region.ready .any l.toArray listed = [] := by
      rw [List.eq_nil_iff_forall_not_mem]
      intro i hi
      obtain ⟨h1, h2, _⟩ := W.mem_ready.1 hi
      have : i ∈ unl l.length listed := by simp only [unl, List.mem_filter, List.mem_range, h2]; exact ⟨by simpa using h1, rfl⟩
      rw [List.eq_nil_of_length_eq_zero (by omega : (unl l.length listed).length = 0)] at this
      cases this
    exact ⟨hnil, hfin _ _ _ hV hnil⟩
  | succ fuel ih =>
    intro listed a w hV hu
    refine ⟨hfin _ _ _ hV, fun i hi => ?_⟩
    obtain ⟨h1, h2, o, ho, h3⟩ := W.mem_ready.1 hi
    have h1' : i < l.length := by simpa using h1
    have ho' : l[i]? = some o := by simpa using ho
    have hcount : (unl l.length (listed.setIfInBounds i true)).length ≤ fuel := by
      have := unl_set (listed := listed) (hsize _ _ _ hV) h1' h2; omega
    unfold wpOpIn
    simp only [ho]
    rcases hstep listed a w i o hV ho' h2 h3 with ⟨hs, hF⟩ | ⟨hs, hx | ⟨f, args, hc, hf⟩ | ⟨b, f, tmps, asg, body, hx, hrd⟩⟩
    · rw [if_neg (by rw [hs a.tmps rfl]; simp)]
      exact ⟨fun _ _ => trivial, ih _ _ _ hF hcount⟩
    · rw [if_pos (hs a.tmps rfl)]
      obtain ⟨v, w', hx, hV'⟩ := hx
      refine ⟨fun _ _ => trivial, ?_⟩
      rw [eval_envOf]
      rcases hx with hx | ⟨rfl, hx⟩
      · rw [semAt_of hx (by simp)]; exact ih _ _ _ hV' hcount
      · rw [semAt_of hx (by simp)]; exact ih _ _ _ hV' hcount
    · rw [if_pos (hs a.tmps rfl)]
      refine ⟨fun _ _ => trivial, ?_⟩
      rw [eval_envOf, semAt_of hc (by simp)]
      refine ⟨fun _ => Nat.le_refl 1, ?_⟩
      have hc' : CallsIn (Fr ro) (1 - 1) P f args w (fun e w' => ∃ v, e = .returned v ∧ V (listed.setIfInBounds i true) (a.put o.dst v) w') := by
        have := (callsIn_wide (n := 1 - 1)).2 hf
        exact this
      refine CallsIn.mono hc' ?_
      rintro e w' ⟨v, rfl, hV'⟩
      exact ih _ _ _ hV' hcount
    · rw [if_pos (hs a.tmps rfl)]
      refine ⟨fun _ _ => trivial, ?_⟩
      rw [eval_envOf, semAt_of hx (by simp)]
      refine ⟨fun _ => Nat.le_refl 1, RoundIn.mono hrd ?_⟩
      rintro e w' ⟨v, rfl, hV'⟩
      exact ih _ _ _ hV' hcount
theorem WP.anyGen {P : Program} {n : Fsz} {ro : Option Nat} {id : Nat} {l : List Oper} {E : Env} {w : World} {N R : Env → World → Prop} {X : Nat → Env → World → Prop} (hm : P.follows .mixedOrders = true) (V : Array Bool → Act → World → Prop)
    (hsize : ∀ listed a w, V listed a w → listed.size = l.length)
    (hfin : ∀ listed a w, V listed a w → Region.ready .any l.toArray listed = [] → lift n ⟨N, X, R⟩ .normal a w)
    (hstep : ∀ listed a w i o, V listed a w → l[i]? = some o → listed.getD i true = false → (∀ e ∈ o.after.toList, Region.binds .any e = true → listed.getD e.on false = true) →
      (Shut l.toArray o (envOf a) ∧ V (listed.setIfInBounds i true) (a.put o.dst undef) w) ∨ (Sure l.toArray o (envOf a) ∧
        ((∃ v w', OpX P o (envOf a) w v w' ∧ V (listed.setIfInBounds i true) (a.put o.dst v) w') ∨ (∃ f args, OpC P o (envOf a) w f args ∧ Fnc P f args w fun v w' => V (listed.setIfInBounds i true) (a.put o.dst v) w') ∨
          (∃ b f tmps asg body, (execOp (ev (envOf a)) o).run P w = .ok (.round b f tmps asg body) w ∧ RoundIn (Fr ro) 0 P b f tmps asg body w fun e w' => ∃ v, e = .returned v ∧ V (listed.setIfInBounds i true) (a.put o.dst v) w'))))
    (h0 : ∀ a d, Ok n a → envOf a = E → V (Array.replicate l.length false) a { w with drawn := d }) : WPr ro P n (.region id l.toArray true) ⟨N, X, R⟩ E w := by
  intro a ha he
  refine wpIn_region_any hm ?_
  have hsz : l.toArray.size = l.length := by simp
  rw [hsz]
  refine wpAny_gen V hsize hfin hstep _ _ _ _ (h0 a _ ha he) ?_
  have := List.length_filter_le (fun i => !(Array.replicate l.length false).getD i true) (List.range l.length)
  simpa [unl] using this

/-! ### What the first pass says -/
def cnt (G : List Inf) (i : Nat) : Nat := ((G.take i).filter (·.mak)).length
theorem cnt_succ {G : List Inf} {i : Nat} {x : Inf} (h : G[i]? = some x) : cnt G (i + 1) = cnt G i + (if x.mak then 1 else 0) := by
  unfold cnt
  rw [List.take_add_one, h, List.filter_append, List.length_append]
  cases hx : x.mak <;> simp [hx]
theorem cnt_mono (G : List Inf) {i j : Nat} (h : i ≤ j) : cnt G i ≤ cnt G j := by
  induction j with
  | zero => have : i = 0 := by omega
            subst this; exact Nat.le_refl _
  | succ j ih =>
    rcases Nat.lt_or_ge i (j + 1) with h1 | h1
    · refine Nat.le_trans (ih (by omega)) ?_
      cases hx : G[j]? with
      | none => unfold cnt; rw [List.take_of_length_le (by have := List.getElem?_eq_none_iff.1 hx; omega), List.take_of_length_le (by have := List.getElem?_eq_none_iff.1 hx; omega)]; exact Nat.le_refl _
      | some x => rw [cnt_succ hx]; omega
    · have : i = j + 1 := by omega
      subst this; exact Nat.le_refl _
structure Good (P : Program) (cf : CallF) (rf : RndF) (l : List Oper) (A A0 : AE) (G : List Inf) (S : List Stt) (i : Nat) (o : Oper) (x : Inf) : Prop where
  num : x.num = cnt G i
  lo : ∀ p ∈ preds o, ∀ y, G[p]? = some y → y.aft ≤ x.lo
  lub : ∀ k, (∀ p ∈ preds o, ∀ y, G[p]? = some y → y.aft ≤ k) → x.lo ≤ k
  env : ∀ (ω : Nat → Value) (s : Sg) (E : Env), EnvOK ω s A0 E → (∀ p ∈ preds o, ∀ y q d, G[p]? = some y → l[p]? = some q → q.dst = some d → Rel ω s y.u (E d)) → (∀ q ∈ l, i ∈ preds q → ∀ d, q.dst = some d → ∀ b, A.get d = some b → Rel ω s b (E d)) → EnvOK ω s x.env E
  val : ∃ st, S[x.num]? = some st ∧ ((x.mak = false ∧ x.aft = x.lo ∧ evRd P l.toArray st x.env o = some x.u) ∨
    (x.mak = true ∧ x.aft = x.num + 1 ∧ guardA x.env l.toArray o = some .run ∧ ∃ st', S[x.num + 1]? = some st' ∧ (evOp P st x.env o = some (.wr x.u st') ∨ (∃ f as', evOp P st x.env o = some (.call f as') ∧ cf f as' st = some (x.u, st')) ∨ ∃ b as', evOp P st x.env o = some (.rnd b as') ∧ rf b as' st = some (x.u, st'))))
theorem predEnv_ok {l : List Oper} {tr : Tr Inf} {G : List Inf} (htr : ∀ p y, tr.get p = some y → G[p]? = some y) (ω : Nat → Value) (s : Sg) (E : Env) : ∀ (ps : List Nat) (A : AE), EnvOK ω s A E → (∀ p ∈ ps, ∀ y q d, G[p]? = some y → l[p]? = some q → q.dst = some d → Rel ω s y.u (E d)) → EnvOK ω s (predEnv l.toArray tr ps A) E
  | [], A, h, _ => h
  | p :: r, A, h, k => by
    unfold predEnv
    split
    · rename_i y q hy hq
      refine predEnv_ok htr ω s E r _ ?_ (fun p' hp' => k p' (by simp [hp']))
      have hq' : l[p]? = some q := by simpa using hq
      intro t a ht
      cases hd : q.dst with
      | none => rw [hd] at ht; exact h t a ht
      | some d =>
        rw [hd] at ht
        rcases Tr.get_set _ _ _ _ _ _ ht with ⟨rfl, e⟩ | ⟨_, e⟩
        · cases e; exact k p (by simp) y q _ (htr p y hy) hq' hd
        · exact h t a e
    · exact predEnv_ok htr ω s E r A h (fun p' hp' => k p' (by simp [hp']))
theorem restore_ok {A : AE} {l : List Oper} {i : Nat} {ω : Nat → Value} {s : Sg} {E : Env} (k : ∀ q ∈ l, i ∈ preds q → ∀ d, q.dst = some d → ∀ b, A.get d = some b → Rel ω s b (E d)) : ∀ (xs : List Operand) (E0 : AE), EnvOK ω s E0 E → EnvOK ω s (restore A l i xs E0) E
  | [], E0, h => h
  | .tmp t :: r, E0, h => by
    unfold restore
    refine restore_ok k r _ ?_
    split
    · exact h
    · split
      · rename_i q hq
        cases hc : (preds q).contains i with
        | false => exact h
        | true =>
          have hd := List.find?_some hq
          have hm := List.mem_of_find?_eq_some hq
          intro t' a ht
          rcases Tr.get_set _ _ _ _ _ _ ht with ⟨rfl, e⟩ | ⟨_, e⟩
          · split at hd
            · rename_i d hd'
              have := beq_t hd
              subst this
              exact k q hm (by simpa using hc) d hd' a e
            · cases hd
          · exact h t' a e
      · exact h
  | .const _ :: r, E0, h => by unfold restore; exact restore_ok k r _ h
  | .global _ :: r, E0, h => by unfold restore; exact restore_ok k r _ h
  | .func _ :: r, E0, h => by unfold restore; exact restore_ok k r _ h
theorem loOf_ge {tr : Tr Inf} : ∀ (ps : List Nat) (p : Nat) (y : Inf), p ∈ ps → tr.get p = some y → y.aft ≤ loOf tr ps
  | [], p, y, h, _ => by cases h
  | q :: r, p, y, h, hy => by
    unfold loOf
    rcases List.mem_cons.1 h with rfl | h
    · rw [hy]; exact Nat.le_max_left _ _
    · have := loOf_ge r p y h hy
      split
      · exact Nat.le_trans this (Nat.le_max_right _ _)
      · exact this
theorem loOf_le {tr : Tr Inf} {k : Nat} : ∀ (ps : List Nat), (∀ p ∈ ps, ∀ y, tr.get p = some y → y.aft ≤ k) → loOf tr ps ≤ k
  | [], _ => Nat.zero_le _
  | q :: r, h => by
    unfold loOf
    have := loOf_le r (fun p hp => h p (by simp [hp]))
    split
    · rename_i i hi; exact Nat.max_le.2 ⟨h q (by simp) i hi, this⟩
    · exact this
theorem pass1_len {P : Program} {cf : CallF} {rf : RndF} {ops : Array Oper} {A A0 : AE} : ∀ (r : List Oper) (i : Nat) (tr : Tr Inf) (st : Stt) (m : Nat) (xs : List Inf) (ss : List Stt), pass1 P cf rf ops A A0 r i tr st m = some (xs, ss) → xs.length = r.length ∧ ss[0]? = some st ∧ ss.length = (xs.filter (·.mak)).length + 1 := by
  intro r
  induction r with
  | nil => intro i tr st m xs ss h; simp only [pass1, Option.some.injEq, Prod.mk.injEq] at h; obtain ⟨rfl, rfl⟩ := h; simp
  | cons o r ih =>
    intro i tr st m xs ss h
    simp only [pass1] at h
    split at h
    · cases h
    · split at h
      · rename_i hr; cases h; have := ih _ _ _ _ _ _ hr; simpa using this
      · cases h
    · split at h
      · cases h
      · split at h
        · rename_i hr; cases h; have := ih _ _ _ _ _ _ hr; simpa using this
        · cases h
      · split at h
        · rename_i hr; cases h; have := ih _ _ _ _ _ _ hr; simp [this.1, this.2.2]
        · cases h
      · split at h
        · cases h
        · split at h
          · rename_i hr; cases h; have := ih _ _ _ _ _ _ hr; simp [this.1, this.2.2]
          · cases h
      · split at h
        · cases h
        · split at h
          · rename_i hr; cases h; have := ih _ _ _ _ _ _ hr; simp [this.1, this.2.2]
          · cases h
theorem pass1_ok {P : Program} {cf : CallF} {rf : RndF} {l : List Oper} {A A0 : AE} (hsm : l.length ≤ 4000) (hback : ∀ i o, l[i]? = some o → ∀ p ∈ preds o, p < i) (G : List Inf) (S : List Stt) : ∀ (r : List Oper) (i : Nat) (tr : Tr Inf) (st : Stt) (m : Nat) (xs : List Inf) (ss : List Stt),
    pass1 P cf rf l.toArray A A0 r i tr st m = some (xs, ss) → l.drop i = r → G.drop i = xs → S.drop m = ss → m = cnt G i → (∀ p, tr.get p = if p < i then G[p]? else none) →
    ∀ j o, r[j]? = some o → ∃ x, G[i + j]? = some x ∧ Good P cf rf l A A0 G S (i + j) o x := by
  intro r
  induction r with
  | nil => intro i tr st m xs ss h _ _ _ _ _ j o hj; simp at hj
  | cons o r ih =>
    intro i tr st m xs ss h hl hG hS hm htr
    have hi : i < l.length := by
      rcases Nat.lt_or_ge i l.length with h1 | h1
      · exact h1
      · rw [List.drop_of_length_le h1] at hl; cases hl
    have ho : l[i]? = some o := by
      have := congrArg (fun z => z[0]?) hl
      simpa [List.getElem?_drop] using this
    have hl' : l.drop (i + 1) = r := by rw [← List.drop_drop, hl]; rfl
    have htr' : ∀ p y, tr.get p = some y → G[p]? = some y := by
      intro p y hp; rw [htr] at hp; split at hp
      · exact hp
      · cases hp
    -- the tail
    have step : ∀ (x : Inf) (xs' : List Inf) (ss' : List Stt) (st' : Stt) (m' : Nat), pass1 P cf rf l.toArray A A0 r (i + 1) (tr.set 12 i (some x)) st' m' = some (xs', ss') → xs = x :: xs' → S.drop m' = ss' → m' = cnt G i + (if x.mak then 1 else 0) →
        Good P cf rf l A A0 G S i o x → ∀ j o', (o :: r)[j]? = some o' → ∃ y, G[i + j]? = some y ∧ Good P cf rf l A A0 G S (i + j) o' y := by
      intro x xs' ss' st' m' hp hx hs hm' hgood j o' hj
      subst hx
      have hGi : G[i]? = some x := by
        have := congrArg (fun z => z[0]?) hG
        simpa [List.getElem?_drop] using this
      cases j with
      | zero => simp only [List.getElem?_cons_zero, Option.some.injEq] at hj; subst hj; exact ⟨x, hGi, hgood⟩
      | succ j =>
        have := ih (i + 1) _ st' m' xs' ss' hp hl' (by rw [← List.drop_drop, hG]; rfl) hs (by rw [hm', cnt_succ hGi]) (fun p => by
          rw [Tr.get_set' 12 tr i p (some x) (by omega), htr]
          by_cases e : p = i
          · subst e; rw [if_pos rfl, if_pos (by omega), hGi]
          · rw [if_neg e]
            by_cases e2 : p < i
            · rw [if_pos e2, if_pos (by omega)]
            · rw [if_neg e2, if_neg (by omega)]) j o' (by simpa using hj)
        rwa [show i + 1 + j = i + (j + 1) from by omega] at this
    have lo_ge : ∀ p ∈ preds o, ∀ y, G[p]? = some y → y.aft ≤ loOf tr (preds o) := fun p hp y hy => loOf_ge _ p y hp (by rw [htr, if_pos (hback i o ho p hp)]; exact hy)
    have lo_le : ∀ k, (∀ p ∈ preds o, ∀ y, G[p]? = some y → y.aft ≤ k) → loOf tr (preds o) ≤ k := fun k hk => loOf_le _ fun p hp y hy => hk p hp y (htr' p y hy)
    have henv := fun (ω : Nat → Value) (s : Sg) (E : Env) (h1 : EnvOK ω s A0 E) h2 (h3 : ∀ q ∈ l, i ∈ preds q → ∀ d, q.dst = some d → ∀ b, A.get d = some b → Rel ω s b (E d)) => restore_ok (A := A) h3 o.op.operands.toList _ (predEnv_ok (l := l) htr' ω s E (preds o) A0 h1 h2)
    have hS0 : ∀ (q : List Stt), S.drop m = st :: q → S[m]? = some st := by
      intro q hq
      have := congrArg (fun z => z[0]?) hq
      simpa [List.getElem?_drop] using this
    have hS1 : ∀ (q : List Stt), S.drop m = st :: q → S.drop (m + 1) = q := by
      intro q hq; rw [← List.drop_drop, hq]; rfl
    simp only [pass1] at h
    split at h
    · cases h
    · rename_i hg
      split at h
      · rename_i xs' ss' hr
        cases h
        obtain ⟨_, h0, _⟩ := pass1_len _ _ _ _ _ _ _ hr
        have hSm : S[m]? = some st := by rw [← hS, List.getElem?_drop] at h0; simpa using h0
        refine step ⟨false, m, _, _, .v undef, _⟩ xs' _ st m hr rfl hS (by simpa using hm) ⟨hm, lo_ge, lo_le, henv, st, hSm, .inl ⟨rfl, rfl, ?_⟩⟩
        unfold evRd; rw [hg]
      · cases h
    · rename_i hg
      split at h
      · cases h
      · rename_i a hop
        split at h
        · rename_i xs' ss' hr
          cases h
          obtain ⟨_, h0, _⟩ := pass1_len _ _ _ _ _ _ _ hr
          have hSm : S[m]? = some st := by rw [← hS, List.getElem?_drop] at h0; simpa using h0
          refine step ⟨false, m, _, _, a, _⟩ xs' _ st m hr rfl hS (by simpa using hm) ⟨hm, lo_ge, lo_le, henv, st, hSm, .inl ⟨rfl, rfl, ?_⟩⟩
          unfold evRd; rw [hg]; simp only [hop]
        · cases h
      · rename_i a st' hop
        split at h
        · rename_i xs' ss' hr
          cases h
          obtain ⟨_, h0, _⟩ := pass1_len _ _ _ _ _ _ _ hr
          have hS' := hS1 _ hS
          have hSm' : S[m + 1]? = some st' := by rw [← hS', List.getElem?_drop] at h0; simpa using h0
          exact step ⟨true, m, _, _, a, _⟩ xs' _ st' (m + 1) hr rfl hS' (by simp [hm]) ⟨hm, lo_ge, lo_le, henv, st, hS0 _ hS, .inr ⟨rfl, rfl, hg, st', hSm', .inl hop⟩⟩
        · cases h
      · rename_i f as' hop
        split at h
        · cases h
        · rename_i a st' hcf
          split at h
          · rename_i xs' ss' hr
            cases h
            obtain ⟨_, h0, _⟩ := pass1_len _ _ _ _ _ _ _ hr
            have hS' := hS1 _ hS
            have hSm' : S[m + 1]? = some st' := by rw [← hS', List.getElem?_drop] at h0; simpa using h0
            exact step ⟨true, m, _, _, a, _⟩ xs' _ st' (m + 1) hr rfl hS' (by simp [hm]) ⟨hm, lo_ge, lo_le, henv, st, hS0 _ hS, .inr ⟨rfl, rfl, hg, st', hSm', .inr (.inl ⟨f, as', hop, hcf⟩)⟩⟩
          · cases h
      · rename_i f as' hop
        split at h
        · cases h
        · rename_i a st' hcf
          split at h
          · rename_i xs' ss' hr
            cases h
            obtain ⟨_, h0, _⟩ := pass1_len _ _ _ _ _ _ _ hr
            have hS' := hS1 _ hS
            have hSm' : S[m + 1]? = some st' := by rw [← hS', List.getElem?_drop] at h0; simpa using h0
            exact step ⟨true, m, _, _, a, _⟩ xs' _ st' (m + 1) hr rfl hS' (by simp [hm]) ⟨hm, lo_ge, lo_le, henv, st, hS0 _ hS, .inr ⟨rfl, rfl, hg, st', hSm', .inr (.inr ⟨f, as', hop, hcf⟩)⟩⟩
          · cases h
end Go.Proofs.Ytkcnljgennehaaa.Ev
