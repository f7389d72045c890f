/- Draw regions whose facts may speak of the slots of what came before. Program-agnostic. -/
import Derived.Test.YtbpamkbegggeoaaW12
namespace Go.Proofs.Ytbpamkbegggeoaa.W
open Go.RowKit

def holdsE (l : List Oper) (F : Nat → Env → Value → World → Prop) (i : Nat) (E : Env) (w : World) : Prop :=
  match dstAt l i with
  | some d => F i E (E d) w
  | none => ∃ u, F i E u w
structure AnyOkE (P : Program) (n : Fsz) (l : List Oper) (E : Env) (I : World → Prop) (F : Nat → Env → Value → World → Prop) : Prop where
  dst : ∀ (i : Nat) (o : Oper), l[i]? = some o → dstOk n o.dst = true
  apart : ∀ (i j d : Nat), dstAt l i = some d → dstAt l j = some d → i = j
  back : ∀ (i : Nat) (o : Oper), l[i]? = some o → ∀ e ∈ o.after.toList, Region.binds .any e = true → e.on < i
  dep : ∀ (i : Nat) (E E' : Env) (v : Value) (w : World), (∀ t, (∀ j, dstAt l j = some t → isPred l j i) → E t = E' t) → F i E v w → F i E' v w
  step : ∀ (i : Nat) (o : Oper), l[i]? = some o → ∀ E' w', I w' → (∀ t, (∀ j, dstAt l j = some t → j = i ∨ isPred l i j) → E' t = E t) →
    (∀ e ∈ o.after.toList, Region.binds .any e = true → holdsE l F e.on E' w') →
    (Shut l.toArray o E' ∧ F i E' undef w') ∨ (Sure l.toArray o E' ∧ StepW P o E' w' fun v w'' => I w'' ∧ F i E' v w'' ∧ ∀ j E0 u, j ≠ i → F j E0 u w' → F j E0 u w'')

structure AnyInvE (n : Fsz) (l : List Oper) (E : Env) (I : World → Prop) (F : Nat → Env → Value → World → Prop) (listed : Array Bool) (a : Act) (w : World) : Prop where
  size : listed.size = l.length
  ok : Ok n a
  inv : I w
  closed : ∀ k o, l[k]? = some o → listed.getD k true = true → ∀ e ∈ o.after.toList, Region.binds .any e = true → listed.getD e.on true = true
  base : ∀ t, (∀ j, dstAt l j = some t → listed.getD j true = false) → envOf a t = E t
  facts : ∀ k, k < l.length → listed.getD k true = true → holdsE l F k (envOf a) w

theorem all_listedE {n : Fsz} {l : List Oper} {E : Env} {P : Program} {I : World → Prop} {F : Nat → Env → Value → World → Prop} (H : AnyOkE P n l E I F) {listed : Array Bool} {a : Act} {w : World} (V : AnyInvE n l E I F listed a w)
    (h : Region.ready .any l.toArray listed = []) : ∀ k, k < l.length → listed.getD k true = true := by
  intro k
  induction k using Nat.strongRecOn with
  | _ k ih =>
    intro hk
    cases hl : listed.getD k true with
    | true => rfl
    | false =>
      have ho : l[k]? = some l[k] := List.getElem?_eq_getElem hk
      have : k ∈ Region.ready .any l.toArray listed := mem_ready.2 ⟨by simpa using hk, hl, l[k], by simp [ho], fun e he hb => by
        have hlt := H.back k _ ho e he hb
        have := ih e.on hlt (by omega)
        have hsz : e.on < listed.size := by rw [V.size]; omega
        rw [Array.getD_eq_getD_getElem?, Array.getElem?_eq_getElem hsz] at this ⊢
        exact this⟩
      rw [h] at this; cases this

theorem wpAny_ofE {P : Program} {n : Fsz} {l : List Oper} {E : Env} {I : World → Prop} {F : Nat → Env → Value → World → Prop} {N R : Env → World → Prop} {X : Nat → Env → World → Prop} (H : AnyOkE P n l E I F)
    (fin : ∀ E' w', I w' → (∀ t, (∀ j, dstAt l j ≠ some t) → E' t = E t) → (∀ i, i < l.length → holdsE l F i E' w') → N E' w') :
    ∀ (fuel : Nat) (listed : Array Bool) (a : Act) (w : World), AnyInvE n l E I F listed a w → (unl l.length listed).length ≤ fuel → wpAny P .any l.toArray (lift n ⟨N, X, R⟩) fuel listed a w := by
  have done : ∀ listed a w, AnyInvE n l E I F listed a w → Region.ready .any l.toArray listed = [] → lift n ⟨N, X, R⟩ .normal a w := by
    intro listed a w V h
    have hall := all_listedE H V h
    exact ⟨V.ok, fin _ _ V.inv (fun t ht => V.base t fun j hj => absurd hj (ht j)) fun i hi => V.facts i hi (hall i hi)⟩
  intro fuel
  induction fuel with
  | zero =>
    intro listed a w V hu
    have hnil : Region.ready .any l.toArray listed = [] := by
      rw [List.eq_nil_iff_forall_not_mem]
      intro i hi
      obtain ⟨h1, h2, _⟩ := mem_ready.1 hi
      have : i ∈ unl l.length listed := by simp only [unl, List.mem_filter, List.mem_range, h2]; exact ⟨by simpa using h1, rfl⟩
      rw [List.eq_nil_of_length_eq_zero (by omega : (unl l.length listed).length = 0)] at this
      cases this
    exact ⟨hnil, done _ _ _ V hnil⟩
  | succ fuel ih =>
    intro listed a w V hu
    refine ⟨done _ _ _ V, fun i hi => ?_⟩
    obtain ⟨h1, h2, o, ho, h3⟩ := mem_ready.1 hi
    have h1' : i < l.length := by simpa using h1
    have ho' : l[i]? = some o := by simpa using ho
    have hpre : ∀ e ∈ o.after.toList, Region.binds .any e = true → e.on < l.length ∧ listed.getD e.on true = true := by
      intro e he hb
      have hlt := H.back i o ho' e he hb
      have := h3 e he hb
      have hsz : e.on < listed.size := by rw [V.size]; omega
      rw [Array.getD_eq_getD_getElem?, Array.getElem?_eq_getElem hsz] at this
      exact ⟨by omega, by rw [Array.getD_eq_getD_getElem?, Array.getElem?_eq_getElem hsz]; exact this⟩
    have hstep := H.step i o ho' (envOf a) w V.inv
      (fun t ht => V.base t fun j hj => by
        rcases ht j hj with rfl | ⟨oj, hoj, e, he, hb, rfl⟩
        · exact h2
        · cases hl : listed.getD j true with
          | false => rfl
          | true => have := V.closed j oj hoj hl e he hb; rw [h2] at this; cases this)
      (fun e he hb => V.facts e.on (hpre e he hb).1 (hpre e he hb).2)
    have hcount : (unl l.length (listed.setIfInBounds i true)).length ≤ fuel := by
      have := unl_set (listed := listed) V.size h1' h2; omega
    -- the state behind the operation
    have next : ∀ v w', I w' → F i (envOf a) v w' → (∀ j E0 u, j ≠ i → F j E0 u w → F j E0 u w') → AnyInvE n l E I F (listed.setIfInBounds i true) (a.put o.dst v) w' := by
      intro v w' hI hF hkeep
      have henv : envOf (a.put o.dst v) = updO (envOf a) o.dst v := envOf_put V.ok o.dst (H.dst i o ho') v
      have hdi : dstAt l i = o.dst := by simp [dstAt, ho']
      refine ⟨by simpa using V.size, V.ok.put _ _, hI, ?_, ?_, ?_⟩
      · intro k ok hok hl e he hb
        rw [getD_set] at hl ⊢
        split
        · rfl
        · split at hl
          · rename_i hik; obtain ⟨rfl, _⟩ := hik
            rw [ho'] at hok; cases hok
            exact (hpre e he hb).2
          · exact V.closed k ok hok hl e he hb
      · intro t ht
        rw [henv]
        have hti : o.dst ≠ some t := by
          intro e
          have := ht i (by rw [hdi]; exact e)
          rw [getD_set, if_pos ⟨rfl, by rw [V.size]; exact h1'⟩] at this; cases this
        have : updO (envOf a) o.dst v t = envOf a t := by
          cases hd : o.dst with
          | none => rfl
          | some d => exact upd_ne _ _ _ _ (fun e => hti (by rw [hd, e]))
        rw [this]
        refine V.base t fun j hj => ?_
        have := ht j hj
        rw [getD_set] at this
        split at this
        · cases this
        · exact this
      · intro k hk hl
        rw [getD_set] at hl
        by_cases hki : k = i
        · subst hki
          unfold holdsE
          rw [hdi]
          have hF' : F k (envOf (a.put o.dst v)) v w' := by
            refine H.dep k _ _ _ _ (fun t ht => ?_) hF
            rw [henv]
            cases hd : o.dst with
            | none => rfl
            | some d' =>
              refine (upd_ne _ _ _ _ (fun e => ?_)).symm
              subst e
              obtain ⟨ok, hok, e, he, hb, hon⟩ := ht k (by rw [hdi, hd])
              have := H.back k ok hok e he hb
              omega
          cases hd : o.dst with
          | none => exact ⟨v, by rw [hd] at hF'; exact hF'⟩
          | some d =>
            simp only
            rw [hd] at henv hF'
            have e2 : envOf (a.put (some d) v) d = v := by rw [henv, updO, upd_same]
            rw [e2]; exact hF'
        · rw [if_neg (fun h => hki h.1.symm)] at hl
          have hf := V.facts k hk hl
          have hdep : ∀ u, F k (envOf a) u w → F k (envOf (a.put o.dst v)) u w' := by
            intro u hu
            refine H.dep k _ _ _ _ (fun t ht => ?_) (hkeep k _ _ hki hu)
            rw [henv]
            cases hd : o.dst with
            | none => rfl
            | some d' =>
              refine (upd_ne _ _ _ _ (fun e => ?_)).symm
              subst e
              obtain ⟨ok, hok, e, he, hb, hon⟩ := ht i (by rw [hdi, hd])
              have := V.closed k ok hok hl e he hb
              rw [hon, h2] at this; cases this
          unfold holdsE at hf ⊢
          cases hdk : dstAt l k with
          | none => rw [hdk] at hf; obtain ⟨u, hf⟩ := hf; exact ⟨u, hdep u hf⟩
          | some d =>
            rw [hdk] at hf
            simp only at hf ⊢
            have : envOf (a.put o.dst v) d = envOf a d := by
              rw [henv]
              cases hd : o.dst with
              | none => rfl
              | some d' => exact upd_ne _ _ _ _ (fun e => hki (H.apart k i d hdk (by rw [hdi, hd, e])))
            rw [this]
            exact hdep _ hf
    unfold wpOp
    simp only [ho]
    rcases hstep with ⟨hs, hF⟩ | ⟨hs, hx | ⟨f, args, hc, hf⟩⟩
    · rw [if_neg (by rw [hs a.tmps rfl]; simp)]
      exact ih _ _ _ (next undef w V.inv hF (fun _ _ _ _ h => h)) hcount
    · rw [if_pos (hs a.tmps rfl)]
      left
      obtain ⟨v, w', hx, hI, hF, hk⟩ := hx
      unfold Oper.wp
      rw [eval_envOf]
      rcases hx with hx | ⟨rfl, hx⟩ <;> rw [hx] <;> exact ih _ _ _ (next _ w' hI hF hk) hcount
    · rw [if_pos (hs a.tmps rfl)]
      left
      unfold Oper.wp
      rw [eval_envOf, hc]
      refine Calls.mono hf ?_
      rintro e w' ⟨v, rfl, hI, hF, hk⟩
      exact ih _ _ _ (next v w' hI hF hk) hcount

/-- a region that draws its order -/
theorem WP.anyE {P : Program} {n : Fsz} {id : Nat} {l : List Oper} {E : Env} {w : World} {N R : Env → World → Prop} {X : Nat → Env → World → Prop} (I : World → Prop) (F : Nat → Env → Value → World → Prop) (hm : P.follows .mixedOrders = true)
    (hI : ∀ d, I { w with drawn := d }) (H : AnyOkE P n l E I F)
    (fin : ∀ E' w', I w' → (∀ t, (∀ j, dstAt l j ≠ some t) → E' t = E t) → (∀ i, i < l.length → holdsE l F i E' w') → N E' w') : WP P n (.region id l.toArray true) ⟨N, X, R⟩ E w := by
  intro a ha he
  subst he
  refine wpIn_wide.2 (wp_region_any hm ?_)
  refine wpAny_ofE H fin _ _ _ _ ⟨by simp, ha, hI _, ?_, fun _ _ => rfl, ?_⟩ ?_
  · intro k o ho hl
    rw [Array.getD_eq_getD_getElem?] at hl
    have hk : k < l.length := by
      rcases Nat.lt_or_ge k l.length with h | h
      · exact h
      · rw [List.getElem?_eq_none h] at ho; cases ho
    simp [hk] at hl
  · intro k hk hl
    rw [Array.getD_eq_getD_getElem?] at hl
    simp [hk] at hl
  · have := List.length_filter_le (fun i => !(Array.replicate l.toArray.size false).getD i true) (List.range l.length)
    simpa [unl] using this

theorem Rep.newRow {α : Type} {R : Rep α} {X : List Nat} {w : World} {cs : List Value} {x : α} {v : Value} (h : R.rd X w cs x) (k : ∀ y ∈ rowOf v, w.heap.size ≤ y) : R.rd (rowOf v ++ X) w cs x := by
  unfold rowOf at *
  cases hv : v.ownBlock with
  | none => simpa using h
  | some g => rw [hv] at k; exact R.new h (k g (by simp))
theorem KRow.ge {B : Nat} {X : List Nat} {w : World} {v : Value} {L : List Int} (h : KRow B X w v L) : ∀ y ∈ rowOf v, B ≤ y := by
  rcases h with ⟨rfl, _⟩ | ⟨g, cap, T, rfl, h1, h2, h3, h4, h5, h6⟩
  · simp [rowOf, Value.ownBlock]
  · intro y hy; simp [rowOf, Value.ownBlock] at hy; omega
theorem KRow.lt {B : Nat} {X : List Nat} {w : World} {v : Value} {L : List Int} (h : KRow B X w v L) : ∀ y ∈ rowOf v, y < w.heap.size := by
  rcases h with ⟨rfl, _⟩ | ⟨g, cap, T, rfl, h1, h2, h3, h4, h5, h6⟩
  · simp [rowOf, Value.ownBlock]
  · intro y hy; simp [rowOf, Value.ownBlock] at hy; have := h1.lt; omega
theorem inApp {w : World} {Y X : List Nat} (h : ∀ y ∈ Y, y < w.heap.size) (k : ∀ x ∈ X, x < w.heap.size) : ∀ x ∈ Y ++ X, x < w.heap.size := fun x hx => (List.mem_append.1 hx).elim (h x) (k x)
/-- a row of one's own at a known block, or none -/
def RowAt (g : Nat) (w : World) (v : Value) (L : List Int) : Prop := (v = .slice none 0 0 ∧ L = []) ∨ ∃ cap T, v = .slice (some ⟨g, 0, none⟩) L.length cap ∧ Box w g 3 (irow L T)
theorem KRow.at {B K : Nat} {X : List Nat} {w : World} {v : Value} {L : List Int} (h : KRow B X w v L) (hK : B ≤ K) (hX : K ∉ X) : ∃ g, g = v.ownBlock.getD K ∧ B ≤ g ∧ g ∉ X ∧ RowAt g w v L := by
  rcases h with ⟨rfl, h0⟩ | ⟨g, cap, T, rfl, h1, h2, h3, h4, h5, h6⟩
  · exact ⟨K, rfl, hK, hX, .inl ⟨rfl, h0⟩⟩
  · exact ⟨g, rfl, h5, h6, .inr ⟨cap, T, rfl, h1⟩⟩
theorem Sl.atRow {α : Type} {R : Rep α} {X : List Nat} {w : World} {u v : Value} {xs : List α} {K : Nat} (hz : R.sz ≠ 0) (h : Sl R (rowOf v ++ X) w u xs) (hK : w.heap.size ≤ K) : Sl R (v.ownBlock.getD K :: X) w u xs := by
  unfold rowOf at h
  cases hv : v.ownBlock with
  | none => rw [hv] at h; exact Sl.new hz (by simpa using h) hK
  | some g => rw [hv] at h; exact h
def markL (L : List Int) (x : Int) (j : Nat) : List Int := List.replicate j x ++ L.drop j
theorem markL_zero (L : List Int) (x : Int) : markL L x 0 = L := by simp [markL]
theorem markL_len {L : List Int} {x : Int} {j : Nat} (h : j ≤ L.length) : (markL L x j).length = L.length := by simp [markL]; omega
theorem markL_get {L : List Int} {x : Int} {j : Nat} (h : j < L.length) : (markL L x j).getD j 0 = L.getD j 0 := by
  simp only [markL, List.getD_eq_getElem?_getD]
  rw [List.getElem?_append_right (by simp), List.length_replicate, Nat.sub_self, List.getElem?_drop, Nat.add_zero]
theorem markL_set {L : List Int} {x : Int} {j : Nat} (h : j < L.length) : (markL L x j).set j x = markL L x (j + 1) := by
  simp only [markL]
  rw [List.set_append_right _ _ (by simp), List.length_replicate, Nat.sub_self, List.drop_eq_getElem_cons h, List.set_cons_zero, List.replicate_succ', List.append_assoc]; rfl
/-! ### In lists -/
def depB (l : List Oper) (i t : Nat) : Bool := (List.range l.length).all fun j => !(dstAt l j == some t) || match l[i]? with
  | some o => hasPred o j
  | none => false
theorem depB_pred {l : List Oper} {i t : Nat} (h : depB l i t = true) : ∀ j, dstAt l j = some t → isPred l j i := by
  intro j hj
  simp only [depB, List.all_eq_true, List.mem_range] at h
  have := h j (lt_of_dst hj)
  simp only [hj, beq_self_eq_true, Bool.not_true, Bool.false_or] at this
  cases ho : l[i]? with
  | none => rw [ho] at this; cases this
  | some o =>
    rw [ho] at this
    simp only [hasPred, List.any_eq_true, Bool.and_eq_true, decide_eq_true_eq] at this
    obtain ⟨e, he, hb, hon⟩ := this
    exact ⟨o, ho, e, he, hb, hon⟩
/-- a fact, and the slots that it speaks of beside its own -/
structure DFact where
  f : Env → Value → World → Prop
  ts : List Nat
  dep : ∀ E E' v w, (∀ t ∈ ts, E t = E' t) → f E v w → f E' v w
  stab : ∀ E, Stab (f E)
def DFact.eq (c : Value) : DFact := ⟨fun _ v _ => v = c, [], fun _ _ _ _ _ h => h, fun _ _ _ _ _ h => h⟩
def FD (fs : List DFact) (i : Nat) (E : Env) (v : Value) (w : World) : Prop := match fs[i]? with
  | some f => f.f E v w
  | none => True
theorem FD.stab {fs : List DFact} (i : Nat) {E : Env} {v : Value} {w w' : World} (k : Ext [] w w') (hf : FD fs i E v w) : FD fs i E v w' := by
  unfold FD at *
  cases h : fs[i]? with
  | none => trivial
  | some f => rw [h] at hf; exact f.stab E _ _ _ k hf
def depsB (l : List Oper) (fs : List DFact) : Bool := (List.range l.length).all fun i => match fs[i]? with
  | some f => f.ts.all fun t => depB l i t
  | none => true
def DStep (P : Program) (l : List Oper) (E : Env) (w : World) (fs : List DFact) (i : Nat) (o : Oper) : Prop :=
  ∀ (E' : Env) (w' : World), Ext [] w w' → (∀ t, noDst l t = true → E' t = E t) → (∀ k, hasPred o k = true → holdsE l (FD fs) k E' w') →
    (Shut l.toArray o E' ∧ FD fs i E' undef w') ∨ (Sure l.toArray o E' ∧ ((∃ v, OpV P o E' w' v ∧ FD fs i E' v w') ∨ ∃ f args, OpC P o E' w' f args ∧ Fnc P f args w' fun v w'' => Ext [] w' w'' ∧ FD fs i E' v w''))
def DSteps (P : Program) (l : List Oper) (E : Env) (w : World) (fs : List DFact) : Nat → List Oper → Prop
  | _, [] => True
  | i, o :: r => DStep P l E w fs i o ∧ DSteps P l E w fs (i + 1) r
theorem DSteps.get {P : Program} {l : List Oper} {E : Env} {w : World} {fs : List DFact} {i : Nat} {r : List Oper} (h : DSteps P l E w fs i r) {j : Nat} {o : Oper} (hj : r[j]? = some o) : DStep P l E w fs (i + j) o := by
  induction r generalizing i j with
  | nil => simp at hj
  | cons a r ih =>
    cases j with
    | zero => simp only [List.getElem?_cons_zero, Option.some.injEq] at hj; subst hj; exact h.1
    | succ j =>
      have := ih h.2 (j := j) (by simpa using hj)
      rwa [show i + 1 + j = i + (j + 1) from by omega] at this
theorem WP.anyD {P : Program} {n : Fsz} {id : Nat} {l : List Oper} {E : Env} {w : World} {N R : Env → World → Prop} {X : Nat → Env → World → Prop} (fs : List DFact) (hm : P.follows .mixedOrders = true)
    (h1 : chkDst n l = true) (h2 : chkApart l = true) (h3 : chkBack l = true) (hs : depsB l fs = true) (steps : DSteps P l E w fs 0 l) (hlen : fs.length = l.length)
    (fin : ∀ E' w', Ext [] w w' → (∀ t, noDst l t = true → E' t = E t) → (∀ i, i < l.length → holdsE l (FD fs) i E' w') → N E' w') : WP P n (.region id l.toArray true) ⟨N, X, R⟩ E w := by
  refine WP.anyE (fun w' => Ext [] w w') (FD fs) hm (fun d => ⟨rfl, rfl, rfl, Nat.le_refl _, fun _ _ _ => rfl⟩) ⟨?_, apart_of h2, back_of h3, ?_, ?_⟩ (fun E' w' hI hE hF => fin E' w' hI (fun t ht => hE t (noDst_ne ht)) hF)
  · intro i o ho
    simp only [chkDst, List.all_eq_true] at h1
    exact h1 o (List.mem_of_getElem? ho)
  · intro i E E' v w hE hf
    unfold FD at *
    cases h : fs[i]? with
    | none => trivial
    | some f =>
      rw [h] at hf
      refine f.dep E E' v w (fun t ht => hE t ?_) hf
      simp only [depsB, List.all_eq_true, List.mem_range] at hs
      have hi : i < l.length := by
        rw [← hlen]
        rcases Nat.lt_or_ge i fs.length with h1 | h1
        · exact h1
        · rw [List.getElem?_eq_none h1] at h; cases h
      have := hs i hi
      rw [h] at this
      exact depB_pred (List.all_eq_true.1 this t ht)
  · intro i o ho E' w' hI hE hF
    have st := steps.get (j := i) ho
    rw [Nat.zero_add] at st
    have hp : ∀ k, hasPred o k = true → holdsE l (FD fs) k E' w' := by
      intro k hk
      simp only [hasPred, List.any_eq_true, Bool.and_eq_true, decide_eq_true_eq] at hk
      obtain ⟨e, he, hb, rfl⟩ := hk
      exact hF e he hb
    rcases st E' w' hI (fun t ht => hE t fun j hj => absurd hj (noDst_ne ht j)) hp with ⟨hs', hf⟩ | ⟨hs', hv | hc⟩
    · exact .inl ⟨hs', hf⟩
    · obtain ⟨v, hv, hf⟩ := hv
      exact .inr ⟨hs', .inl ⟨v, w', OpV.x hv, hI, hf, fun _ _ _ _ h => h⟩⟩
    · obtain ⟨f, args, hc, hf⟩ := hc
      exact .inr ⟨hs', .inr ⟨f, args, hc, Fnc.mono hf fun v w'' ⟨hx, hq⟩ => ⟨hI.trans hx, hq, fun j E0 u _ hj => FD.stab j hx hj⟩⟩⟩
end Go.Proofs.Ytbpamkbegggeoaa.W
