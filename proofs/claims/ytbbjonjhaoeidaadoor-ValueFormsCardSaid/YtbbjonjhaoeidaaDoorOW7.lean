/- A region that draws its order, in which memory is made or written: one fact an operation, whatever the order. Program-agnostic. -/
import Derived.Test.YtbbjonjhaoeidaaDoorOW6
set_option linter.unusedVariables false
set_option linter.unusedSimpArgs false
namespace Go.Proofs.YtbbjonjhaoeidaaDoor.W
open Go.RowKit

def StepW (P : Program) (o : Oper) (E : Env) (w : World) (Kp : Value → World → Prop) : Prop :=
  (∃ v w', OpX P o E w v w' ∧ Kp v w') ∨ (∃ f args, OpC P o E w f args ∧ Fnc P f args w Kp)
def dstAt (l : List Oper) (i : Nat) : Option Nat := (l[i]?).bind Oper.dst
/-- What operation i leaves behind in its slot. -/
def holdsF (l : List Oper) (F : Nat → Value → World → Prop) (i : Nat) (E : Env) (w : World) : Prop :=
  match dstAt l i with
  | some d => F i (E d) w
  | none => ∃ u, F i u w
/-- Must i come before j? -/
def isPred (l : List Oper) (i j : Nat) : Prop := ∃ o, l[j]? = some o ∧ ∃ e ∈ o.after.toList, Region.binds .any e = true ∧ e.on = i
structure AnyOk (P : Program) (n : Fsz) (l : List Oper) (E : Env) (I : World → Prop) (F : Nat → Value → World → Prop) : Prop where
  dst : ∀ (i : Nat) (o : Oper), l[i]? = some o → dstOk n o.dst = true
  apart : ∀ (i j d : Nat), dstAt l i = some d → dstAt l j = some d → i = j
  back : ∀ (i : Nat) (o : Oper), l[i]? = some o → ∀ e ∈ o.after.toList, Region.binds .any e = true → e.on < i
  step : ∀ (i : Nat) (o : Oper), l[i]? = some o → ∀ E' w', I w' → (∀ t, (∀ j, dstAt l j = some t → j = i ∨ isPred l i j) → E' t = E t) →
    (∀ e ∈ o.after.toList, Region.binds .any e = true → holdsF l F e.on E' w') →
    (Shut l.toArray o E' ∧ F i undef w') ∨ (Sure l.toArray o E' ∧ StepW P o E' w' fun v w'' => I w'' ∧ F i v w'' ∧ ∀ j u, j ≠ i → F j u w' → F j u w'')

def unl (n : Nat) (listed : Array Bool) : List Nat := (List.range n).filter fun i => !listed.getD i true
theorem unl_set {n i : Nat} {listed : Array Bool} (hs : listed.size = n) (hi : i < n) (hl : listed.getD i true = false) : (unl n (listed.setIfInBounds i true)).length + 1 ≤ (unl n listed).length := by
  have e : unl n (listed.setIfInBounds i true) = (unl n listed).filter (fun k => decide (k ≠ i)) := by
    unfold unl
    rw [List.filter_filter]
    apply List.filter_congr
    intro k hk
    have hk' : k < n := List.mem_range.1 hk
    simp only [Array.getD_eq_getD_getElem?, Array.getElem?_setIfInBounds]
    by_cases h : i = k
    · subst h; simp [hs, hi]
    · rw [if_neg h]; have : k ≠ i := fun e => h e.symm; simp [this]
  rw [e]
  exact List.length_filter_lt_length_iff_exists.2 ⟨i, by simp only [unl, List.mem_filter, List.mem_range, hl]; exact ⟨hi, rfl⟩, by simp⟩
theorem getD_set {i j : Nat} {listed : Array Bool} {d : Bool} : (listed.setIfInBounds i true).getD j d = if i = j ∧ j < listed.size then true else listed.getD j d := by
  simp only [Array.getD_eq_getD_getElem?, Array.getElem?_setIfInBounds]
  by_cases h : i = j
  · subst h
    by_cases hb : i < listed.size
    · simp [hb]
    · simp [hb, Array.getElem?_eq_none (Nat.le_of_not_lt hb)]
  · simp [h]

structure AnyInv (n : Fsz) (l : List Oper) (E : Env) (I : World → Prop) (F : Nat → Value → World → Prop) (listed : Array Bool) (a : Act) (w : World) : Prop where
  size : listed.size = l.length
  ok : Ok n a
  inv : I w
  closed : ∀ k o, l[k]? = some o → listed.getD k true = true → ∀ e ∈ o.after.toList, Region.binds .any e = true → listed.getD e.on true = true
  base : ∀ t, (∀ j, dstAt l j = some t → listed.getD j true = false) → envOf a t = E t
  facts : ∀ k, k < l.length → listed.getD k true = true → holdsF l F k (envOf a) w

theorem mem_ready {ops : Array Oper} {listed : Array Bool} {i : Nat} : i ∈ Region.ready .any ops listed ↔ i < ops.size ∧ listed.getD i true = false ∧ ∃ o, ops[i]? = some o ∧ ∀ e ∈ o.after.toList, Region.binds .any e = true → listed.getD e.on false = true := by
  unfold Region.ready
  simp only [List.mem_filter, List.mem_range, Bool.and_eq_true, Bool.not_eq_true']
  constructor
  · rintro ⟨h1, h2, h3⟩
    refine ⟨h1, h2, ?_⟩
    cases ho : ops[i]? with
    | none => rw [ho] at h3; cases h3
    | some o =>
      rw [ho] at h3
      refine ⟨o, rfl, fun e he hb => ?_⟩
      simp only [Option.map_some, Option.getD_some, Array.all_eq_true', Bool.or_eq_true, Bool.not_eq_true'] at h3
      rcases h3 e (Array.mem_toList_iff.1 he) with h | h
      · rw [hb] at h; cases h
      · exact h
  · rintro ⟨h1, h2, o, ho, h3⟩
    refine ⟨h1, h2, ?_⟩
    rw [ho]
    simp only [Option.map_some, Option.getD_some, Array.all_eq_true', Bool.or_eq_true, Bool.not_eq_true']
    intro e he
    cases hb : Region.binds .any e with
    | false => exact .inl rfl
    | true => exact .inr (h3 e (Array.mem_toList_iff.2 he) hb)

theorem all_listed {n : Fsz} {l : List Oper} {E : Env} {P : Program} {I : World → Prop} {F : Nat → Value → World → Prop} (H : AnyOk P n l E I F) {listed : Array Bool} {a : Act} {w : World} (V : AnyInv n l E I F listed a w)
    (h : Region.ready .any l.toArray listed = []) : ∀ k, k < l.length → listed.getD k true = true := by
  intro k
  induction k using Nat.strongRecOn with
  | _ k ih =>
    intro hk
    cases hl : listed.getD k true with
    | true => rfl
    | false =>
      have ho : l[k]? = some l[k] := List.getElem?_eq_getElem hk
      have : k ∈ Region.ready .any l.toArray listed := mem_ready.2 ⟨by simpa using hk, hl, l[k], by simp [ho], fun e he hb => by
        have hlt := H.back k _ ho e he hb
        have := ih e.on hlt (by omega)
        have hsz : e.on < listed.size := by rw [V.size]; omega
        rw [Array.getD_eq_getD_getElem?, Array.getElem?_eq_getElem hsz] at this ⊢
        exact this⟩
      rw [h] at this; cases this

theorem wpAny_of {P : Program} {n : Fsz} {l : List Oper} {E : Env} {I : World → Prop} {F : Nat → Value → World → Prop} {N R : Env → World → Prop} {X : Nat → Env → World → Prop} (H : AnyOk P n l E I F)
    (fin : ∀ E' w', I w' → (∀ t, (∀ j, dstAt l j ≠ some t) → E' t = E t) → (∀ i, i < l.length → holdsF l F i E' w') → N E' w') :
    ∀ (fuel : Nat) (listed : Array Bool) (a : Act) (w : World), AnyInv n l E I F listed a w → (unl l.length listed).length ≤ fuel → wpAny P .any l.toArray (lift n ⟨N, X, R⟩) fuel listed a w := by
  have done : ∀ listed a w, AnyInv n l E I F listed a w → Region.ready .any l.toArray listed = [] → lift n ⟨N, X, R⟩ .normal a w := by
    intro listed a w V h
    have hall := all_listed H V h
    exact ⟨V.ok, fin _ _ V.inv (fun t ht => V.base t fun j hj => absurd hj (ht j)) fun i hi => V.facts i hi (hall i hi)⟩
  intro fuel
  induction fuel with
  | zero =>
    intro listed a w V hu
    have hnil : Region.ready .any l.toArray listed = [] := by
      rw [List.eq_nil_iff_forall_not_mem]
      intro i hi
      obtain ⟨h1, h2, _⟩ := mem_ready.1 hi
      have : i ∈ unl l.length listed := by simp only [unl, List.mem_filter, List.mem_range, h2]; exact ⟨by simpa using h1, rfl⟩
      rw [List.eq_nil_of_length_eq_zero (by omega : (unl l.length listed).length = 0)] at this
      cases this
    exact ⟨hnil, done _ _ _ V hnil⟩
  | succ fuel ih =>
    intro listed a w V hu
    refine ⟨done _ _ _ V, fun i hi => ?_⟩
    obtain ⟨h1, h2, o, ho, h3⟩ := mem_ready.1 hi
    have h1' : i < l.length := by simpa using h1
    have ho' : l[i]? = some o := by simpa using ho
    have hpre : ∀ e ∈ o.after.toList, Region.binds .any e = true → e.on < l.length ∧ listed.getD e.on true = true := by
      intro e he hb
      have hlt := H.back i o ho' e he hb
      have := h3 e he hb
      have hsz : e.on < listed.size := by rw [V.size]; omega
      rw [Array.getD_eq_getD_getElem?, Array.getElem?_eq_getElem hsz] at this
      exact ⟨by omega, by rw [Array.getD_eq_getD_getElem?, Array.getElem?_eq_getElem hsz]; exact this⟩
    have hstep := H.step i o ho' (envOf a) w V.inv
      (fun t ht => V.base t fun j hj => by
        rcases ht j hj with rfl | ⟨oj, hoj, e, he, hb, rfl⟩
        · exact h2
        · cases hl : listed.getD j true with
          | false => rfl
          | true => have := V.closed j oj hoj hl e he hb; rw [h2] at this; cases this)
      (fun e he hb => V.facts e.on (hpre e he hb).1 (hpre e he hb).2)
    have hcount : (unl l.length (listed.setIfInBounds i true)).length ≤ fuel := by
      have := unl_set (listed := listed) V.size h1' h2; omega
    -- the state behind the operation
    have next : ∀ v w', I w' → F i v w' → (∀ j u, j ≠ i → F j u w → F j u w') → AnyInv n l E I F (listed.setIfInBounds i true) (a.put o.dst v) w' := by
      intro v w' hI hF hkeep
      have henv : envOf (a.put o.dst v) = updO (envOf a) o.dst v := envOf_put V.ok o.dst (H.dst i o ho') v
      have hdi : dstAt l i = o.dst := by simp [dstAt, ho']
      refine ⟨by simpa using V.size, V.ok.put _ _, hI, ?_, ?_, ?_⟩
      · intro k ok hok hl e he hb
        rw [getD_set] at hl ⊢
        split
        · rfl
        · split at hl
          · rename_i hik; obtain ⟨rfl, _⟩ := hik
            rw [ho'] at hok; cases hok
            exact (hpre e he hb).2
          · exact V.closed k ok hok hl e he hb
      · intro t ht
        rw [henv]
        have hti : o.dst ≠ some t := by
          intro e
          have := ht i (by rw [hdi]; exact e)
          rw [getD_set, if_pos ⟨rfl, by rw [V.size]; exact h1'⟩] at this; cases this
        have : updO (envOf a) o.dst v t = envOf a t := by
          cases hd : o.dst with
          | none => rfl
          | some d => exact upd_ne _ _ _ _ (fun e => hti (by rw [hd, e]))
        rw [this]
        refine V.base t fun j hj => ?_
        have := ht j hj
        rw [getD_set] at this
        split at this
        · cases this
        · exact this
      · intro k hk hl
        rw [getD_set] at hl
        by_cases hki : k = i
        · subst hki
          unfold holdsF
          rw [hdi]
          cases hd : o.dst with
          | none => exact ⟨v, hF⟩
          | some d =>
            simp only
            rw [hd] at henv
            rw [henv, updO, upd_same]; exact hF
        · rw [if_neg (fun h => hki h.1.symm)] at hl
          have hf := V.facts k hk hl
          unfold holdsF at hf ⊢
          cases hdk : dstAt l k with
          | none => rw [hdk] at hf; obtain ⟨u, hf⟩ := hf; exact ⟨u, hkeep k _ hki hf⟩
          | some d =>
            rw [hdk] at hf
            simp only at hf ⊢
            have : envOf (a.put o.dst v) d = envOf a d := by
              rw [henv]
              cases hd : o.dst with
              | none => rfl
              | some d' => exact upd_ne _ _ _ _ (fun e => hki (H.apart k i d hdk (by rw [hdi, hd, e])))
            rw [this]
            exact hkeep k _ hki hf
    unfold wpOp
    simp only [ho]
    rcases hstep with ⟨hs, hF⟩ | ⟨hs, hx | ⟨f, args, hc, hf⟩⟩
    · rw [if_neg (by rw [hs a.tmps rfl]; simp)]
      exact ih _ _ _ (next undef w V.inv hF (fun _ _ _ h => h)) hcount
    · rw [if_pos (hs a.tmps rfl)]
      left
      obtain ⟨v, w', hx, hI, hF, hk⟩ := hx
      unfold Oper.wp
      rw [eval_envOf]
      rcases hx with hx | ⟨rfl, hx⟩ <;> rw [hx] <;> exact ih _ _ _ (next _ w' hI hF hk) hcount
    · rw [if_pos (hs a.tmps rfl)]
      left
      unfold Oper.wp
      rw [eval_envOf, hc]
      refine Calls.mono hf ?_
      rintro e w' ⟨v, rfl, hI, hF, hk⟩
      exact ih _ _ _ (next v w' hI hF hk) hcount

/-- a region that draws its order -/
theorem WP.any {P : Program} {n : Fsz} {id : Nat} {l : List Oper} {E : Env} {w : World} {N R : Env → World → Prop} {X : Nat → Env → World → Prop} (I : World → Prop) (F : Nat → Value → World → Prop) (hm : P.follows .mixedOrders = true)
    (hI : ∀ d, I { w with drawn := d }) (H : AnyOk P n l E I F)
    (fin : ∀ E' w', I w' → (∀ t, (∀ j, dstAt l j ≠ some t) → E' t = E t) → (∀ i, i < l.length → holdsF l F i E' w') → N E' w') : WP P n (.region id l.toArray true) ⟨N, X, R⟩ E w := by
  intro a ha he
  subst he
  refine wpIn_wide.2 (wp_region_any hm ?_)
  refine wpAny_of H fin _ _ _ _ ⟨by simp, ha, hI _, ?_, fun _ _ => rfl, ?_⟩ ?_
  · intro k o ho hl
    rw [Array.getD_eq_getD_getElem?] at hl
    have hk : k < l.length := by
      rcases Nat.lt_or_ge k l.length with h | h
      · exact h
      · rw [List.getElem?_eq_none h] at ho; cases ho
    simp [hk] at hl
  · intro k hk hl
    rw [Array.getD_eq_getD_getElem?] at hl
    simp [hk] at hl
  · have := List.length_filter_le (fun i => !(Array.replicate l.toArray.size false).getD i true) (List.range l.length)
    simpa [unl] using this
end Go.Proofs.YtbbjonjhaoeidaaDoor.W

