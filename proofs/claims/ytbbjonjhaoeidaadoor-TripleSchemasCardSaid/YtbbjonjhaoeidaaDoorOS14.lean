/- The symbolic evaluator is right: regions that draw their order, and make or write. Program-agnostic. -/
import Derived.Test.YtbbjonjhaoeidaaDoorOS13
import Derived.OrdersIn
set_option linter.unusedVariables false
set_option linter.unusedSimpArgs false
namespace Go.Proofs.YtbbjonjhaoeidaaDoor.Sv
open Go.RowKit Go.Proofs.YtbbjonjhaoeidaaDoor.W
variable {Γ : Gl}

/-! ### Values that are alike -/
mutual
def renA (ρ : Nat → Nat) : AV → AV
  | .ptr l o => .ptr (ρ l) o
  | .sl l o n c => .sl (ρ l) o n c
  | .agg cs => .agg (renAs ρ cs)
  | .tup cs => .tup (renAs ρ cs)
  | .fn f cs => .fn f (renAs ρ cs)
  | .ow l n => .ow (ρ l) n
  | .oc l n => .oc (ρ l) n
  | .pe l i sz off js t => .pe (ρ l) i sz off js t
  | .vw l lo n sz => .vw (ρ l) lo n sz
  | a => a
def renAs (ρ : Nat → Nat) : List AV → List AV
  | [] => []
  | a :: r => renA ρ a :: renAs ρ r
end
theorem eqNs_ok : ∀ {a b : List Nat}, eqNs a b = true → a = b
  | [], [], _ => rfl
  | [], _ :: _, h => by simp [eqNs] at h
  | _ :: _, [], h => by simp [eqNs] at h
  | a :: r, b :: s, h => by
    simp only [eqNs, Bool.and_eq_true] at h
    rw [beq_t h.1, eqNs_ok h.2]
mutual
theorem eqA_ok {ρ : Nat → Nat} : ∀ {a b : AV} {ps : Ps}, eqA ρ a b = some ps → (∀ p ∈ ps, p) → b = renA ρ a
  | .v x, b, ps, h, hp => by
    cases b <;> simp only [eqA] at h <;> try (cases h; done)
    rename_i y
    simp only [renA]
    split at h
    · rename_i k i k' j
      cases hk : decide (k = k') with
      | false => rw [hk] at h; cases h
      | true =>
      rw [hk] at h
      cases h
      simp only [decide_eq_true_eq] at hk
      rw [hk, hp _ (List.mem_singleton.2 rfl)]
    · cases h; rw [hp _ (List.mem_singleton.2 rfl)]
    · cases h; rw [hp _ (List.mem_singleton.2 rfl)]
    · rfl
    · rfl
    · rfl
    · cases h; rw [hp _ (List.mem_singleton.2 rfl)]
  | .ptr l o, b, ps, h, hp => by
    cases b <;> simp only [eqA] at h <;> try (cases h; done)
    rename_i l' o'
    cases hc : (Nat.beq (ρ l) l' && Nat.beq o o') with
    | false => rw [hc] at h; cases h
    | true => simp only [Bool.and_eq_true] at hc; simp only [renA]; rw [beq_t hc.1, beq_t hc.2]
  | .sl l o n c, b, ps, h, hp => by
    cases b <;> simp only [eqA] at h <;> try (cases h; done)
    rename_i l' o' n' c'
    cases hc : (Nat.beq (ρ l) l' && Nat.beq o o' && Nat.beq n n' && Nat.beq c c') with
    | false => rw [hc] at h; cases h
    | true => simp only [Bool.and_eq_true] at hc; simp only [renA]; rw [beq_t hc.1.1.1, beq_t hc.1.1.2, beq_t hc.1.2, beq_t hc.2]
  | .agg cs, b, ps, h, hp => by
    cases b <;> simp only [eqA] at h <;> try (cases h; done)
    simp only [renA]; rw [eqAs_ok h hp]
  | .tup cs, b, ps, h, hp => by
    cases b <;> simp only [eqA] at h <;> try (cases h; done)
    simp only [renA]; rw [eqAs_ok h hp]
  | .fn f cs, b, ps, h, hp => by
    cases b <;> simp only [eqA] at h <;> try (cases h; done)
    rename_i f' cs'
    cases hc : Nat.beq f f' with
    | false => rw [hc] at h; cases h
    | true => rw [hc] at h; simp only [renA]; rw [eqAs_ok h hp, beq_t hc]
  | .dl m t xs, b, ps, h, hp => by
    cases b <;> simp only [eqA] at h <;> try (cases h; done)
    rename_i m' t' xs'
    cases hc : ((m == m') && t.beq t') with
    | false => rw [hc] at h; cases h
    | true =>
    rw [hc] at h
    cases h
    simp only [Bool.and_eq_true] at hc
    simp only [renA]; rw [eq_of_beq hc.1, DT.beq_ok hc.2, hp _ (List.mem_singleton.2 rfl)]
  | .e0, b, ps, h, hp => by
    cases b <;> simp only [eqA] at h <;> try (cases h; done)
    rfl
  | .pd m t d, b, ps, h, hp => by
    cases b <;> simp only [eqA] at h <;> try (cases h; done)
    rename_i m' t' d'
    cases hc : ((m == m') && t.beq t') with
    | false => rw [hc] at h; cases h
    | true =>
    rw [hc] at h
    cases h
    simp only [Bool.and_eq_true] at hc
    simp only [renA]; rw [eq_of_beq hc.1, DT.beq_ok hc.2, hp _ (List.mem_singleton.2 rfl)]
  | .ow l n, b, ps, h, hp => by
    cases b <;> simp only [eqA] at h <;> try (cases h; done)
    rename_i l' n'
    cases hc : Nat.beq (ρ l) l' with
    | false => rw [hc] at h; cases h
    | true => rw [hc] at h; cases h; simp only [renA]; rw [beq_t hc, hp _ (List.mem_singleton.2 rfl)]
  | .oc l n, b, ps, h, hp => by
    cases b <;> simp only [eqA] at h <;> try (cases h; done)
    rename_i l' n'
    cases hc : Nat.beq (ρ l) l' with
    | false => rw [hc] at h; cases h
    | true => rw [hc] at h; cases h; simp only [renA]; rw [beq_t hc, hp _ (List.mem_singleton.2 rfl)]
  | .vw l lo n sz, b, ps, h, hp => by
    cases b <;> simp only [eqA] at h <;> try (cases h; done)
    rename_i l' lo' n' sz'
    cases hc : (Nat.beq (ρ l) l' && Nat.beq sz sz') with
    | false => rw [hc] at h; cases h
    | true =>
    rw [hc] at h
    cases h
    simp only [Bool.and_eq_true] at hc
    simp only [renA]
    rw [beq_t hc.1, beq_t hc.2, hp (lo' = lo) (by simp), hp (n' = n) (by simp)]
  | .pe l i sz off js t, b, ps, h, hp => by
    cases b <;> simp only [eqA] at h <;> try (cases h; done)
    rename_i l' i' sz' off' js' t'
    cases hc : (Nat.beq (ρ l) l' && Nat.beq sz sz' && Nat.beq off off' && eqNs js js' && t.beq t') with
    | false => rw [hc] at h; cases h
    | true =>
    rw [hc] at h
    cases h
    simp only [Bool.and_eq_true] at hc
    simp only [renA]
    rw [beq_t hc.1.1.1.1, beq_t hc.1.1.1.2, beq_t hc.1.1.2, eqNs_ok hc.1.2, DT.beq_ok hc.2, hp _ (List.mem_singleton.2 rfl)]
theorem eqAs_ok {ρ : Nat → Nat} : ∀ {as' bs : List AV} {ps : Ps}, eqAs ρ as' bs = some ps → (∀ p ∈ ps, p) → bs = renAs ρ as'
  | [], [], _, _, _ => by simp only [renAs]
  | [], _ :: _, _, h, _ => by simp [eqAs] at h
  | _ :: _, [], _, h, _ => by simp [eqAs] at h
  | a :: r, b :: s, ps, h, hp => by
    simp only [eqAs] at h
    split at h
    · rename_i ps1 ps2 h1 h2
      cases h
      simp only [renAs]
      rw [eqA_ok h1 (fun p hpp => hp p (List.mem_append_left _ hpp)), eqAs_ok h2 (fun p hpp => hp p (List.mem_append_right _ hpp))]
    · cases h
end
mutual
theorem renA_id : ∀ a : AV, renA (fun l => l) a = a
  | .v _ | .ptr _ _ | .sl _ _ _ _ | .dl _ _ _ | .e0 | .pd _ _ _ | .ow _ _ | .oc _ _ | .vw _ _ _ _ | .pe _ _ _ _ _ _ => by simp only [renA]
  | .agg cs | .tup cs | .fn _ cs => by simp only [renA, renAs_id cs]
theorem renAs_id : ∀ as' : List AV, renAs (fun l => l) as' = as'
  | [] => by simp only [renAs]
  | a :: r => by simp only [renAs, renA_id a, renAs_id r]
end

/-- A region that draws its order, by what holds of (what is listed, the activation, the world). -/
theorem wpAny_gen {P : Program} {n : Fsz} {ro : Option Nat} {l : List Oper} {N R : Env → World → Prop} {X : Nat → Env → World → Prop} (V : Array Bool → Act → World → Prop)
    (hsize : ∀ listed a w, V listed a w → listed.size = l.length)
    (hfin : ∀ listed a w, V listed a w → Region.ready .any l.toArray listed = [] → lift n ⟨N, X, R⟩ .normal a w)
    (hstep : ∀ listed a w i o, V listed a w → l[i]? = some o → listed.getD i true = false → (∀ e ∈ o.after.toList, Region.binds .any e = true → listed.getD e.on false = true) →
      (Shut l.toArray o (envOf a) ∧ V (listed.setIfInBounds i true) (a.put o.dst undef) w) ∨ (Sure l.toArray o (envOf a) ∧
        ((∃ v w', OpX P o (envOf a) w v w' ∧ V (listed.setIfInBounds i true) (a.put o.dst v) w') ∨ (∃ f args, OpC P o (envOf a) w f args ∧ Fnc P f args w fun v w' => V (listed.setIfInBounds i true) (a.put o.dst v) w') ∨
          (∃ b f tmps asg body, (execOp (ev (envOf a)) o).run P w = .ok (.round b f tmps asg body) w ∧ RoundIn (Fr ro) 0 P b f tmps asg body w fun e w' => ∃ v, e = .returned v ∧ V (listed.setIfInBounds i true) (a.put o.dst v) w')))) :
    ∀ (fuel : Nat) (listed : Array Bool) (a : Act) (w : World), V listed a w → (unl l.length listed).length ≤ fuel → wpAnyIn (Fr ro) 1 P .any l.toArray (lift n ⟨N, X, R⟩) fuel listed a w := by
  intro fuel
  induction fuel with
  | zero =>
    intro listed a w hV hu
    have hnil : Region.ready .any l.toArray listed = [] := by
      rw [List.eq_nil_iff_forall_not_mem]
      intro i hi
      obtain ⟨h1, h2, _⟩ := W.mem_ready.1 hi
      have : i ∈ unl l.length listed := by simp only [unl, List.mem_filter, List.mem_range, h2]; exact ⟨by simpa using h1, rfl⟩
      rw [List.eq_nil_of_length_eq_zero (by omega : (unl l.length listed).length = 0)] at this
      cases this
    exact ⟨hnil, hfin _ _ _ hV hnil⟩
  | succ fuel ih =>
    intro listed a w hV hu
    refine ⟨hfin _ _ _ hV, fun i hi => ?_⟩
    obtain ⟨h1, h2, o, ho, h3⟩ := W.mem_ready.1 hi
    have h1' : i < l.length := by simpa using h1
    have ho' : l[i]? = some o := by simpa using ho
    have hcount : (unl l.length (listed.setIfInBounds i true)).length ≤ fuel := by
      have := unl_set (listed := listed) (hsize _ _ _ hV) h1' h2; omega
    unfold wpOpIn
    simp only [ho]
    rcases hstep listed a w i o hV ho' h2 h3 with ⟨hs, hF⟩ | ⟨hs, hx | ⟨f, args, hc, hf⟩ | ⟨b, f, tmps, asg, body, hx, hrd⟩⟩
    · rw [if_neg (by rw [hs a.tmps rfl]; simp)]
      exact ⟨fun _ _ => trivial, ih _ _ _ hF hcount⟩
    · rw [if_pos (hs a.tmps rfl)]
      obtain ⟨v, w', hx, hV'⟩ := hx
      refine ⟨fun _ _ => trivial, ?_⟩
      rw [eval_envOf]
      rcases hx with hx | ⟨rfl, hx⟩
      · rw [semAt_of hx (by simp)]; exact ih _ _ _ hV' hcount
      · rw [semAt_of hx (by simp)]; exact ih _ _ _ hV' hcount
    · rw [if_pos (hs a.tmps rfl)]
      refine ⟨fun _ _ => trivial, ?_⟩
      rw [eval_envOf, semAt_of hc (by simp)]
      refine ⟨fun _ => Nat.le_refl 1, ?_⟩
      have hc' : CallsIn (Fr ro) (1 - 1) P f args w (fun e w' => ∃ v, e = .returned v ∧ V (listed.setIfInBounds i true) (a.put o.dst v) w') := by
        have := (callsIn_wide (n := 1 - 1)).2 hf
        exact this
      refine CallsIn.mono hc' ?_
      rintro e w' ⟨v, rfl, hV'⟩
      exact ih _ _ _ hV' hcount
    · rw [if_pos (hs a.tmps rfl)]
      refine ⟨fun _ _ => trivial, ?_⟩
      rw [eval_envOf, semAt_of hx (by simp)]
      refine ⟨fun _ => Nat.le_refl 1, RoundIn.mono hrd ?_⟩
      rintro e w' ⟨v, rfl, hV'⟩
      exact ih _ _ _ hV' hcount
theorem WP.anyGen {P : Program} {n : Fsz} {ro : Option Nat} {id : Nat} {l : List Oper} {E : Env} {w : World} {N R : Env → World → Prop} {X : Nat → Env → World → Prop} (hm : P.follows .mixedOrders = true) (V : Array Bool → Act → World → Prop)
    (hsize : ∀ listed a w, V listed a w → listed.size = l.length)
    (hfin : ∀ listed a w, V listed a w → Region.ready .any l.toArray listed = [] → lift n ⟨N, X, R⟩ .normal a w)
    (hstep : ∀ listed a w i o, V listed a w → l[i]? = some o → listed.getD i true = false → (∀ e ∈ o.after.toList, Region.binds .any e = true → listed.getD e.on false = true) →
      (Shut l.toArray o (envOf a) ∧ V (listed.setIfInBounds i true) (a.put o.dst undef) w) ∨ (Sure l.toArray o (envOf a) ∧
        ((∃ v w', OpX P o (envOf a) w v w' ∧ V (listed.setIfInBounds i true) (a.put o.dst v) w') ∨ (∃ f args, OpC P o (envOf a) w f args ∧ Fnc P f args w fun v w' => V (listed.setIfInBounds i true) (a.put o.dst v) w') ∨
          (∃ b f tmps asg body, (execOp (ev (envOf a)) o).run P w = .ok (.round b f tmps asg body) w ∧ RoundIn (Fr ro) 0 P b f tmps asg body w fun e w' => ∃ v, e = .returned v ∧ V (listed.setIfInBounds i true) (a.put o.dst v) w'))))
    (h0 : ∀ a d, Ok n a → envOf a = E → V (Array.replicate l.length false) a { w with drawn := d }) : WPr ro P n (.region id l.toArray true) ⟨N, X, R⟩ E w := by
  intro a ha he
  refine wpIn_region_any hm ?_
  have hsz : l.toArray.size = l.length := by simp
  rw [hsz]
  refine wpAny_gen V hsize hfin hstep _ _ _ _ (h0 a _ ha he) ?_
  have := List.length_filter_le (fun i => !(Array.replicate l.length false).getD i true) (List.range l.length)
  simpa [unl] using this


/-! ### What the first pass says -/
def cnt (G : List Inf) (i : Nat) : Nat := ((G.take i).filter (·.mak)).length
theorem cnt_succ {G : List Inf} {i : Nat} {x : Inf} (h : G[i]? = some x) : cnt G (i + 1) = cnt G i + (if x.mak then 1 else 0) := by
  unfold cnt
  rw [List.take_add_one, h, List.filter_append, List.length_append]
  cases hx : x.mak <;> simp [hx]
theorem cnt_mono (G : List Inf) {i j : Nat} (h : i ≤ j) : cnt G i ≤ cnt G j := by
  induction j with
  | zero => have : i = 0 := by omega
            subst this; exact Nat.le_refl _
  | succ j ih =>
    rcases Nat.lt_or_ge i (j + 1) with h1 | h1
    · refine Nat.le_trans (ih (by omega)) ?_
      cases hx : G[j]? with
      | none => unfold cnt; rw [List.take_of_length_le (by have := List.getElem?_eq_none_iff.1 hx; omega), List.take_of_length_le (by have := List.getElem?_eq_none_iff.1 hx; omega)]; exact Nat.le_refl _
      | some x => rw [cnt_succ hx]; omega
    · have : i = j + 1 := by omega
      subst this; exact Nat.le_refl _
structure Good (P : Program) (S : Sums) (l : List Oper) (A A0 : AE) (G : List Inf) (T : List Stt) (i : Nat) (o : Oper) (x : Inf) : Prop where
  num : x.num = cnt G i
  lo : ∀ p ∈ preds o, ∀ y, G[p]? = some y → y.aft ≤ x.lo
  lub : ∀ k, (∀ p ∈ preds o, ∀ y, G[p]? = some y → y.aft ≤ k) → x.lo ≤ k
  env : ∀ (s : Sg) (E : Env), EnvOK s A0 E → (∀ p ∈ preds o, ∀ y q d, G[p]? = some y → l[p]? = some q → q.dst = some d → Rel s y.u (E d)) → (∀ q ∈ l, i ∈ preds q → ∀ d, q.dst = some d → ∀ b, A.get d = some b → Rel s b (E d)) → EnvOK s x.env E
  val : ∃ st, T[x.num]? = some st ∧ ((x.mak = false ∧ x.aft = x.lo ∧ evOp P S st x.env o = some (.rd x.ps x.u)) ∨
    (x.mak = true ∧ x.aft = x.num + 1 ∧ ∃ st', T[x.num + 1]? = some st' ∧ evOp P S st x.env o = some (.wr x.ps x.u st')))
theorem predEnv_ok {l : List Oper} {tr : Tr Inf} {G : List Inf} (htr : ∀ p y, tr.get p = some y → G[p]? = some y) (s : Sg) (E : Env) : ∀ (ps : List Nat) (A : AE), EnvOK s A E → (∀ p ∈ ps, ∀ y q d, G[p]? = some y → l[p]? = some q → q.dst = some d → Rel s y.u (E d)) → EnvOK s (predEnv l.toArray tr ps A) E
  | [], A, h, _ => h
  | p :: r, A, h, k => by
    unfold predEnv
    split
    · rename_i y q hy hq
      refine predEnv_ok htr s E r _ ?_ (fun p' hp' => k p' (by simp [hp']))
      have hq' : l[p]? = some q := by simpa using hq
      intro t a ht
      cases hd : q.dst with
      | none => rw [hd] at ht; exact h t a ht
      | some d =>
        rw [hd] at ht
        rcases Ly.get_set ht with ⟨rfl, e⟩ | ⟨_, e⟩
        · cases e; exact k p (by simp) y q _ (htr p y hy) hq' hd
        · exact h t a e
    · exact predEnv_ok htr s E r A h (fun p' hp' => k p' (by simp [hp']))
theorem restore_ok {A : AE} {l : List Oper} {i : Nat} {s : Sg} {E : Env} (k : ∀ q ∈ l, i ∈ preds q → ∀ d, q.dst = some d → ∀ b, A.get d = some b → Rel s b (E d)) : ∀ (xs : List Operand) (E0 : AE), EnvOK s E0 E → EnvOK s (restore A l i xs E0) E
  | [], E0, h => h
  | .tmp t :: r, E0, h => by
    unfold restore
    refine restore_ok k r _ ?_
    split
    · exact h
    · split
      · rename_i q hq
        cases hc : (preds q).contains i with
        | false => exact h
        | true =>
          have hd := List.find?_some hq
          have hm := List.mem_of_find?_eq_some hq
          intro t' a ht
          rcases Ly.get_set ht with ⟨rfl, e⟩ | ⟨_, e⟩
          · split at hd
            · rename_i d hd'
              have := beq_t hd
              subst this
              exact k q hm (by simpa using hc) d hd' a e
            · cases hd
          · exact h t' a e
      · exact h
  | .const _ :: r, E0, h => by unfold restore; exact restore_ok k r _ h
  | .global _ :: r, E0, h => by unfold restore; exact restore_ok k r _ h
  | .func _ :: r, E0, h => by unfold restore; exact restore_ok k r _ h
theorem loOf_ge {tr : Tr Inf} : ∀ (ps : List Nat) (p : Nat) (y : Inf), p ∈ ps → tr.get p = some y → y.aft ≤ loOf tr ps
  | [], p, y, h, _ => by cases h
  | q :: r, p, y, h, hy => by
    unfold loOf
    rcases List.mem_cons.1 h with rfl | h
    · rw [hy]; exact Nat.le_max_left _ _
    · have := loOf_ge r p y h hy
      split
      · exact Nat.le_trans this (Nat.le_max_right _ _)
      · exact this
theorem loOf_le {tr : Tr Inf} {k : Nat} : ∀ (ps : List Nat), (∀ p ∈ ps, ∀ y, tr.get p = some y → y.aft ≤ k) → loOf tr ps ≤ k
  | [], _ => Nat.zero_le _
  | q :: r, h => by
    unfold loOf
    have := loOf_le r (fun p hp => h p (by simp [hp]))
    split
    · rename_i i hi; exact Nat.max_le.2 ⟨h q (by simp) i hi, this⟩
    · exact this
theorem pass1_len {P : Program} {S : Sums} {ops : Array Oper} {A A0 : AE} : ∀ (r : List Oper) (i : Nat) (tr : Tr Inf) (st : Stt) (m : Nat) (xs : List Inf) (ss : List Stt), pass1 P S ops A A0 r i tr st m = some (xs, ss) → xs.length = r.length ∧ ss[0]? = some st ∧ ss.length = (xs.filter (·.mak)).length + 1 := by
  intro r
  induction r with
  | nil => intro i tr st m xs ss h; simp only [pass1, Option.some.injEq, Prod.mk.injEq] at h; obtain ⟨rfl, rfl⟩ := h; simp
  | cons o r ih =>
    intro i tr st m xs ss h
    simp only [pass1] at h
    split at h
    · cases h
    · split at h
      · rename_i hr; cases h; have := ih _ _ _ _ _ _ hr; simpa using this
      · cases h
    · split at h
      · rename_i hr; cases h; have := ih _ _ _ _ _ _ hr; simp [this.1, this.2.2]
      · cases h
theorem pass1_ok {P : Program} {S : Sums} {l : List Oper} {A A0 : AE} (hsm : l.length ≤ 4000) (hback : ∀ i o, l[i]? = some o → ∀ p ∈ preds o, p < i) (G : List Inf) (T : List Stt) : ∀ (r : List Oper) (i : Nat) (tr : Tr Inf) (st : Stt) (m : Nat) (xs : List Inf) (ss : List Stt),
    pass1 P S l.toArray A A0 r i tr st m = some (xs, ss) → l.drop i = r → G.drop i = xs → T.drop m = ss → m = cnt G i → (∀ p, tr.get p = if p < i then G[p]? else none) →
    ∀ j o, r[j]? = some o → ∃ x, G[i + j]? = some x ∧ Good P S l A A0 G T (i + j) o x := by
  intro r
  induction r with
  | nil => intro i tr st m xs ss h _ _ _ _ _ j o hj; simp at hj
  | cons o r ih =>
    intro i tr st m xs ss h hl hG hT hm htr
    have hi : i < l.length := by
      rcases Nat.lt_or_ge i l.length with h1 | h1
      · exact h1
      · rw [List.drop_of_length_le h1] at hl; cases hl
    have ho : l[i]? = some o := by
      have := congrArg (fun z => z[0]?) hl
      simpa [List.getElem?_drop] using this
    have hl' : l.drop (i + 1) = r := by rw [← List.drop_drop, hl]; rfl
    have htr' : ∀ p y, tr.get p = some y → G[p]? = some y := by
      intro p y hp; rw [htr] at hp; split at hp
      · exact hp
      · cases hp
    have step : ∀ (x : Inf) (xs' : List Inf) (ss' : List Stt) (st' : Stt) (m' : Nat), pass1 P S l.toArray A A0 r (i + 1) (tr.set 12 i (some x)) st' m' = some (xs', ss') → xs = x :: xs' → T.drop m' = ss' → m' = cnt G i + (if x.mak then 1 else 0) →
        Good P S l A A0 G T i o x → ∀ j o', (o :: r)[j]? = some o' → ∃ y, G[i + j]? = some y ∧ Good P S l A A0 G T (i + j) o' y := by
      intro x xs' ss' st' m' hp hx hs hm' hgood j o' hj
      subst hx
      have hGi : G[i]? = some x := by
        have := congrArg (fun z => z[0]?) hG
        simpa [List.getElem?_drop] using this
      cases j with
      | zero => simp only [List.getElem?_cons_zero, Option.some.injEq] at hj; subst hj; exact ⟨x, hGi, hgood⟩
      | succ j =>
        have := ih (i + 1) _ st' m' xs' ss' hp hl' (by rw [← List.drop_drop, hG]; rfl) hs (by rw [hm', cnt_succ hGi]) (fun p => by
          rw [Tr.get_set' 12 tr i p (some x) (by omega), htr]
          by_cases e : p = i
          · subst e; rw [if_pos rfl, if_pos (by omega), hGi]
          · rw [if_neg e]
            by_cases e2 : p < i
            · rw [if_pos e2, if_pos (by omega)]
            · rw [if_neg e2, if_neg (by omega)]) j o' (by simpa using hj)
        rwa [show i + 1 + j = i + (j + 1) from by omega] at this
    have lo_ge : ∀ p ∈ preds o, ∀ y, G[p]? = some y → y.aft ≤ loOf tr (preds o) := fun p hp y hy => loOf_ge _ p y hp (by rw [htr, if_pos (hback i o ho p hp)]; exact hy)
    have lo_le : ∀ k, (∀ p ∈ preds o, ∀ y, G[p]? = some y → y.aft ≤ k) → loOf tr (preds o) ≤ k := fun k hk => loOf_le _ fun p hp y hy => hk p hp y (htr' p y hy)
    have henv := fun (s : Sg) (E : Env) (h1 : EnvOK s A0 E) h2 (h3 : ∀ q ∈ l, i ∈ preds q → ∀ d, q.dst = some d → ∀ b, A.get d = some b → Rel s b (E d)) => restore_ok (A := A) h3 o.op.operands.toList _ (predEnv_ok (l := l) htr' s E (preds o) A0 h1 h2)
    have hT0 : ∀ (q : List Stt), T.drop m = st :: q → T[m]? = some st := by
      intro q hq
      have := congrArg (fun z => z[0]?) hq
      simpa [List.getElem?_drop] using this
    have hT1 : ∀ (q : List Stt), T.drop m = st :: q → T.drop (m + 1) = q := by
      intro q hq; rw [← List.drop_drop, hq]; rfl
    simp only [pass1] at h
    split at h
    · cases h
    · rename_i ps a hop
      split at h
      · rename_i xs' ss' hr
        cases h
        obtain ⟨_, h0, _⟩ := pass1_len _ _ _ _ _ _ _ hr
        have hTm : T[m]? = some st := by rw [← hT, List.getElem?_drop] at h0; simpa using h0
        exact step ⟨false, m, _, _, ps, a, _⟩ xs' _ st m hr rfl hT (by simpa using hm) ⟨hm, lo_ge, lo_le, henv, st, hTm, .inl ⟨rfl, rfl, hop⟩⟩
      · cases h
    · rename_i ps a st' hop
      split at h
      · rename_i xs' ss' hr
        cases h
        obtain ⟨_, h0, _⟩ := pass1_len _ _ _ _ _ _ _ hr
        have hT' := hT1 _ hT
        have hTm' : T[m + 1]? = some st' := by rw [← hT', List.getElem?_drop] at h0; simpa using h0
        exact step ⟨true, m, _, _, ps, a, _⟩ xs' _ st' (m + 1) hr rfl hT' (by simp [hm]) ⟨hm, lo_ge, lo_le, henv, st, hT0 _ hT, .inr ⟨rfl, rfl, st', hTm', hop⟩⟩
      · cases h
/-! ### What the second pass says -/
structure Sec (P : Program) (S : Sums) (l : List Oper) (G : List Inf) (T : List Stt) (M : Nat) (i : Nat) (o : Oper) (x : Inf) : Prop where
  ps : ∀ p ∈ x.ps, p
  mak : x.mak = true → x.lo = x.num
  rd : x.mak = false → M = 0 ∨ noMem o.op = true ∨ ∃ qs, rdAt P S o x (hiOf i M l G) 0 T = some qs ∧ ∀ p ∈ qs, p
theorem pass2_ok {P : Program} {S : Sums} {l : List Oper} {G : List Inf} {T : List Stt} {M : Nat} : ∀ (r : List Oper) (xs : List Inf) (i : Nat) (qs : Ps), pass2 P S l.toArray G T M r xs i = some qs → (∀ p ∈ qs, p) → ∀ j o x, r[j]? = some o → xs[j]? = some x → Sec P S l G T M (i + j) o x := by
  intro r
  induction r with
  | nil => intro xs i qs _ _ j o x hj; simp at hj
  | cons o r ih =>
    intro xs i qs h hq j o' x' hj hx
    cases xs with
    | nil => simp at hx
    | cons x xs =>
      simp only [pass2] at h
      split at h
      · cases h
      rename_i qs' hrest
      have both : (∀ p ∈ qs', p) ∧ Sec P S l G T M i o x := by
        cases hmk : x.mak with
        | true =>
          rw [hmk] at h
          simp only [cond_true] at h
          cases hc : Nat.beq x.lo x.num with
          | false => rw [hc] at h; cases h
          | true =>
          rw [hc] at h
          cases h
          exact ⟨fun p hp => hq p (List.mem_append_right _ hp), fun p hp => hq p (List.mem_append_left _ hp), fun _ => beq_t hc, (fun e => by rw [hmk] at e; cases e)⟩
        | false =>
          rw [hmk] at h
          simp only [cond_false] at h
          cases hc : (Nat.beq M 0 || noMem o.op) with
          | true =>
            rw [hc] at h
            cases h
            simp only [Bool.or_eq_true] at hc
            refine ⟨fun p hp => hq p (List.mem_append_right _ hp), fun p hp => hq p (List.mem_append_left _ hp), (fun e => by rw [hmk] at e; cases e), fun _ => ?_⟩
            rcases hc with hc | hc
            · exact .inl (beq_t hc)
            · exact .inr (.inl hc)
          | false =>
            rw [hc] at h
            simp only [cond_false] at h
            split at h
            · rename_i es hes
              cases h
              refine ⟨fun p hp => hq p (List.mem_append_right _ hp), fun p hp => hq p (List.mem_append_left _ (List.mem_append_left _ hp)), (fun e => by rw [hmk] at e; cases e), fun _ => .inr (.inr ⟨es, by simpa using hes, fun p hp => hq p (List.mem_append_left _ (List.mem_append_right _ hp))⟩)⟩
            · cases h
      cases j with
      | zero =>
        simp only [List.getElem?_cons_zero, Option.some.injEq] at hj hx
        subst hj; subst hx
        exact both.2
      | succ j =>
        have := ih xs (i + 1) _ hrest both.1 j o' x' (by simpa using hj) (by simpa using hx)
        rwa [show i + 1 + j = i + (j + 1) from by omega] at this
theorem hiOf_ge {i M k : Nat} (hM : k ≤ M) : ∀ (r : List Oper) (xs : List Inf), (∀ (j : Nat) (o : Oper) (x : Inf), r[j]? = some o → xs[j]? = some x → x.mak = true → i ∈ preds o → k ≤ x.num) → k ≤ hiOf i M r xs
  | [], _, _ => by unfold hiOf; exact hM
  | _ :: _, [], _ => by unfold hiOf; exact hM
  | o :: r, x :: xs, h => by
    have ih := hiOf_ge hM r xs (fun j o' x' hj hx => h (j + 1) o' x' (by simpa using hj) (by simpa using hx))
    unfold hiOf
    cases hc : (x.mak && (preds o).contains i) with
    | false => exact ih
    | true =>
      simp only [Bool.and_eq_true] at hc
      exact Nat.le_min.2 ⟨h 0 o x rfl rfl hc.1 (by simpa using hc.2), ih⟩
theorem rdAt_ok {P : Program} {S : Sums} {o : Oper} {x : Inf} {hi : Nat} : ∀ (ss : List Stt) (k0 : Nat) (qs : Ps), rdAt P S o x hi k0 ss = some qs → (∀ p ∈ qs, p) → ∀ j st, ss[j]? = some st → x.lo ≤ k0 + j → k0 + j ≤ hi → k0 + j ≠ x.num → ∃ ps, evOp P S st x.env o = some (.rd ps x.u) ∧ ∀ p ∈ ps, p
  | [], _, _, _, _, j, st, hj, _, _, _ => by simp at hj
  | s1 :: r, k0, qs, h, hq, j, st, hj, h1, h2, h3 => by
    simp only [rdAt] at h
    split at h
    · cases h
    rename_i qs' hrest
    cases j with
    | zero =>
      simp only [List.getElem?_cons_zero, Option.some.injEq] at hj
      subst hj
      have e : (Nat.ble x.lo k0 && Nat.ble k0 hi && !Nat.beq k0 x.num) = true := by
        simp only [Bool.and_eq_true, Bool.not_eq_true']
        exact ⟨⟨Nat.ble_eq_true_of_le h1, Nat.ble_eq_true_of_le h2⟩, beq_no h3⟩
      rw [e] at h
      simp only [cond_true] at h
      split at h
      · rename_i ps a hrd
        split at h
        · rename_i es hes
          cases h
          have hau := eqA_ok hes (fun p hp => hq p (List.mem_append_left _ (List.mem_append_right _ hp)))
          rw [renA_id] at hau
          subst hau
          unfold evRd at hrd
          split at hrd
          · rename_i ps' a' hop
            cases hrd
            exact ⟨_, hop, fun p hp => hq p (List.mem_append_left _ (List.mem_append_left _ hp))⟩
          · cases hrd
        · cases h
      · cases h
    | succ j =>
      have hq' : ∀ p ∈ qs', p := by
        intro p hp
        refine hq p ?_
        cases hc : (Nat.ble x.lo k0 && Nat.ble k0 hi && !Nat.beq k0 x.num) with
        | true =>
          rw [hc] at h
          simp only [cond_true] at h
          split at h
          · split at h
            · cases h; exact List.mem_append_right _ hp
            · cases h
          · cases h
        | false => rw [hc] at h; cases h; exact hp
      exact rdAt_ok r (k0 + 1) qs' hrest hq' j st (by simpa using hj) (by omega) (by omega) (by omega)
theorem noMem_op {P : Program} {S : Sums} {st st' : Stt} {A : AE} {o : Oper} (h : noMem o.op = true) : evOp P S st A o = evOp P S st' A o := by
  have key : ∀ op : Op, noMem op = true → evRdS P st A op = evRdS P st' A op ∧ evWrS P st A op = none ∧ evWrS P st' A op = none ∧ evCallS P A op = none := by
    intro op h
    cases op <;> first | exact ⟨rfl, rfl, rfl, rfl⟩ | (cases h; done) | (rename_i q _ _; cases q <;> exact ⟨rfl, rfl, rfl, rfl⟩)
  obtain ⟨h1, h2, h3, h4⟩ := key o.op h
  unfold evOp
  rw [h1, h2, h3, h4]
theorem backOk_ok : ∀ (l : List Oper) (i : Nat), backOk l i = true → ∀ j o, l[j]? = some o → ∀ p ∈ preds o, p < i + j
  | [], _, _, j, o, hj, _, _ => by simp at hj
  | a :: r, i, h, j, o, hj, p, hp => by
    simp only [backOk, Bool.and_eq_true] at h
    cases j with
    | zero =>
      simp only [List.getElem?_cons_zero, Option.some.injEq] at hj
      subst hj
      exact blt_t (List.all_eq_true.1 h.1 p hp)
    | succ j => have := backOk_ok r (i + 1) h.2 j o (by simpa using hj) p hp; omega
theorem noDupD : ∀ (l : List Oper), noDup (l.filterMap (·.dst)) = true → ∀ (i j : Nat) (oi oj : Oper) (d : Nat), l[i]? = some oi → l[j]? = some oj → oi.dst = some d → oj.dst = some d → i = j
  | [], _, i, _, _, _, _, hi, _, _, _ => by simp at hi
  | a :: r, h, i, j, oi, oj, d, hi, hj, di, dj => by
    have tail : noDup (r.filterMap (·.dst)) = true := by
      cases ha : a.dst with
      | none => simpa [List.filterMap_cons, ha] using h
      | some d' => simp only [List.filterMap_cons, ha, noDup, Bool.and_eq_true] at h; exact h.2
    have head : ∀ d', a.dst = some d' → d' ∉ r.filterMap (·.dst) := by
      intro d' ha
      simp only [List.filterMap_cons, ha, noDup, Bool.and_eq_true, Bool.not_eq_true'] at h
      simpa using h.1
    cases i with
    | zero =>
      simp only [List.getElem?_cons_zero, Option.some.injEq] at hi
      subst hi
      cases j with
      | zero => rfl
      | succ j =>
        simp only [List.getElem?_cons_succ] at hj
        exact absurd (List.mem_filterMap.2 ⟨oj, List.mem_of_getElem? hj, dj⟩) (head d di)
    | succ i =>
      simp only [List.getElem?_cons_succ] at hi
      cases j with
      | zero =>
        simp only [List.getElem?_cons_zero, Option.some.injEq] at hj
        subst hj
        exact absurd (List.mem_filterMap.2 ⟨oi, List.mem_of_getElem? hi, di⟩) (head d dj)
      | succ j =>
        simp only [List.getElem?_cons_succ] at hj
        rw [noDupD r tail i j oi oj d hi hj di dj]
theorem putAll_ok {s : Sg} {E : Env} : ∀ (l : List Oper) (G : List Inf) (A : AE), EnvOK s A E → (∀ (j : Nat) (o : Oper) (x : Inf) (d : Nat), l[j]? = some o → G[j]? = some x → o.dst = some d → Rel s x.u (E d)) → EnvOK s (putAll A l G) E
  | [], _, A, h, _ => by unfold putAll; exact h
  | _ :: _, [], A, h, _ => by unfold putAll; exact h
  | o :: r, x :: G, A, h, k => by
    unfold putAll
    refine putAll_ok r G _ ?_ (fun j o' x' d hj hx => k (j + 1) o' x' d (by simpa using hj) (by simpa using hx))
    intro t a ht
    cases hd : o.dst with
    | none => rw [hd] at ht; exact h t a ht
    | some d =>
      rw [hd] at ht
      rcases Ly.get_set ht with ⟨rfl, e⟩ | ⟨_, e⟩
      · cases e; exact k 0 o x _ rfl rfl hd
      · exact h t a e
theorem all_listed' {l : List Oper} {listed : Array Bool} (hsize : listed.size = l.length) (hback : ∀ i o, l[i]? = some o → ∀ p ∈ preds o, p < i) (h : Region.ready .any l.toArray listed = []) : ∀ k, k < l.length → listed.getD k true = true := by
  intro k
  induction k using Nat.strongRecOn with
  | _ k ih =>
    intro hk
    cases hl : listed.getD k true with
    | true => rfl
    | false =>
      have ho : l[k]? = some l[k] := List.getElem?_eq_getElem hk
      have : k ∈ Region.ready .any l.toArray listed := W.mem_ready.2 ⟨by simpa using hk, hl, l[k], by simp [ho], fun e he hb => by
        have hlt := hback k _ ho e.on (List.mem_map.2 ⟨e, List.mem_filter.2 ⟨he, hb⟩, rfl⟩)
        have := ih e.on hlt (by omega)
        have hsz : e.on < listed.size := by omega
        rw [Array.getD_eq_getD_getElem?, Array.getElem?_eq_getElem hsz] at this ⊢
        exact this⟩
      rw [h] at this; cases this
theorem cnt_hit {G : List Inf} {m : Nat} : ∀ n, m < cnt G n → ∃ i x, G[i]? = some x ∧ x.mak = true ∧ cnt G i = m
  | 0, h => by simp [cnt] at h
  | n + 1, h => by
    cases hx : G[n]? with
    | none =>
      have hn := List.getElem?_eq_none_iff.1 hx
      have : cnt G (n + 1) = cnt G n := by unfold cnt; rw [List.take_of_length_le (by omega), List.take_of_length_le hn]
      exact cnt_hit n (by omega)
    | some x =>
      have e := cnt_succ hx
      cases hm : x.mak with
      | false => rw [hm] at e; exact cnt_hit n (by simp at e; omega)
      | true =>
        rw [hm] at e
        rcases Nat.lt_or_ge m (cnt G n) with h1 | h1
        · exact cnt_hit n h1
        · simp at e; exact ⟨n, x, hx, hm, by omega⟩
end Go.Proofs.YtbbjonjhaoeidaaDoor.Sv
