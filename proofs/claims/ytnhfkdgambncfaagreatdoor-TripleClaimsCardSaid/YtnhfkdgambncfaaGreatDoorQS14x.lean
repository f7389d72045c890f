/- The symbolic evaluator is right: regions that draw their order, and make or write. Program-agnostic. -/
import Derived.Test.YtnhfkdgambncfaaGreatDoorQS9x
import Derived.Test.YtnhfkdgambncfaaGreatDoorQP1x
import Derived.ChangeArms
import Derived.SizedLaws
set_option linter.unusedVariables false
set_option linter.unusedSimpArgs false
set_option linter.unusedSectionVars false
namespace Go.Proofs.YtnhfkdgambncfaaGreatDoor.Sv
open Go.RowKit Go.Proofs.YtnhfkdgambncfaaGreatDoor.W
variable {Γ : Gl}

/-! ### Values that are alike -/
mutual
def renA (ρ : Nat → Nat) : AV → AV
  | .ptr l o => .ptr (ρ l) o
  | .sl l o n c => .sl (ρ l) o n c
  | .agg cs => .agg (renAs ρ cs)
  | .tup cs => .tup (renAs ρ cs)
  | .fn f cs => .fn f (renAs ρ cs)
  | .ow l n => .ow (ρ l) n
  | .oc l n => .oc (ρ l) n
  | .pe l i sz off js t => .pe (ρ l) i sz off js t
  | .mpv l => .mpv (ρ l)
  | .vw l lo n sz => .vw (ρ l) lo n sz
  | a => a
def renAs (ρ : Nat → Nat) : List AV → List AV
  | [] => []
  | a :: r => renA ρ a :: renAs ρ r
end
theorem eqNs_ok : ∀ {a b : List Nat}, eqNs a b = true → a = b
  | [], [], _ => rfl
  | [], _ :: _, h => by simp [eqNs] at h
  | _ :: _, [], h => by simp [eqNs] at h
  | a :: r, b :: s, h => by
    simp only [eqNs, Bool.and_eq_true] at h
    rw [beq_t h.1, eqNs_ok h.2]
mutual
theorem eqA_ok {ρ : Nat → Nat} : ∀ {a b : AV} {ps : Ps}, eqA ρ a b = some ps → (∀ p ∈ ps, p) → b = renA ρ a
  | .v x, b, ps, h, hp => by
    cases b <;> simp only [eqA] at h <;> try (cases h; done)
    rename_i y
    simp only [renA]
    split at h
    · rename_i k i k' j
      cases hk : decide (k = k') with
      | false => rw [hk] at h; cases h
      | true =>
      rw [hk] at h
      cases h
      simp only [decide_eq_true_eq] at hk
      rw [hk, hp _ (List.mem_singleton.2 rfl)]
    · cases h; rw [hp _ (List.mem_singleton.2 rfl)]
    · cases h; rw [hp _ (List.mem_singleton.2 rfl)]
    · rfl
    · rfl
    · rfl
    · cases h; rw [hp _ (List.mem_singleton.2 rfl)]
  | .ptr l o, b, ps, h, hp => by
    cases b <;> simp only [eqA] at h <;> try (cases h; done)
    rename_i l' o'
    cases hc : (Nat.beq (ρ l) l' && Nat.beq o o') with
    | false => rw [hc] at h; cases h
    | true => simp only [Bool.and_eq_true] at hc; simp only [renA]; rw [beq_t hc.1, beq_t hc.2]
  | .sl l o n c, b, ps, h, hp => by
    cases b <;> simp only [eqA] at h <;> try (cases h; done)
    rename_i l' o' n' c'
    cases hc : (Nat.beq (ρ l) l' && Nat.beq o o' && Nat.beq n n' && Nat.beq c c') with
    | false => rw [hc] at h; cases h
    | true => simp only [Bool.and_eq_true] at hc; simp only [renA]; rw [beq_t hc.1.1.1, beq_t hc.1.1.2, beq_t hc.1.2, beq_t hc.2]
  | .agg cs, b, ps, h, hp => by
    cases b <;> simp only [eqA] at h <;> try (cases h; done)
    simp only [renA]; rw [eqAs_ok h hp]
  | .tup cs, b, ps, h, hp => by
    cases b <;> simp only [eqA] at h <;> try (cases h; done)
    simp only [renA]; rw [eqAs_ok h hp]
  | .fn f cs, b, ps, h, hp => by
    cases b <;> simp only [eqA] at h <;> try (cases h; done)
    rename_i f' cs'
    cases hc : Nat.beq f f' with
    | false => rw [hc] at h; cases h
    | true => rw [hc] at h; simp only [renA]; rw [eqAs_ok h hp, beq_t hc]
  | .dl m t xs, b, ps, h, hp => by
    cases b <;> simp only [eqA] at h <;> try (cases h; done)
    rename_i m' t' xs'
    cases hc : ((m == m') && t.beq t') with
    | false => rw [hc] at h; cases h
    | true =>
    rw [hc] at h
    cases h
    simp only [Bool.and_eq_true] at hc
    simp only [renA]; rw [eq_of_beq hc.1, DT.beq_ok hc.2, hp _ (List.mem_singleton.2 rfl)]
  | .e0, b, ps, h, hp => by
    cases b <;> simp only [eqA] at h <;> try (cases h; done)
    rfl
  | .any, b, ps, h, hp => by
    cases b <;> simp only [eqA] at h <;> try (cases h; done)
    rfl
  | .er x, b, ps, h, hp => by
    cases b <;> simp only [eqA] at h <;> try (cases h; done)
    cases h
    simp only [renA]; rw [hp _ (List.mem_singleton.2 rfl)]
  | .pd m t d, b, ps, h, hp => by
    cases b <;> simp only [eqA] at h <;> try (cases h; done)
    rename_i m' t' d'
    cases hc : ((m == m') && t.beq t') with
    | false => rw [hc] at h; cases h
    | true =>
    rw [hc] at h
    cases h
    simp only [Bool.and_eq_true] at hc
    simp only [renA]; rw [eq_of_beq hc.1, DT.beq_ok hc.2, hp _ (List.mem_singleton.2 rfl)]
  | .ow l n, b, ps, h, hp => by
    cases b <;> simp only [eqA] at h <;> try (cases h; done)
    rename_i l' n'
    cases hc : Nat.beq (ρ l) l' with
    | false => rw [hc] at h; cases h
    | true => rw [hc] at h; cases h; simp only [renA]; rw [beq_t hc, hp _ (List.mem_singleton.2 rfl)]
  | .oc l n, b, ps, h, hp => by
    cases b <;> simp only [eqA] at h <;> try (cases h; done)
    rename_i l' n'
    cases hc : Nat.beq (ρ l) l' with
    | false => rw [hc] at h; cases h
    | true => rw [hc] at h; cases h; simp only [renA]; rw [beq_t hc, hp _ (List.mem_singleton.2 rfl)]
  | .vw l lo n sz, b, ps, h, hp => by
    cases b <;> simp only [eqA] at h <;> try (cases h; done)
    rename_i l' lo' n' sz'
    cases hc : (Nat.beq (ρ l) l' && Nat.beq sz sz') with
    | false => rw [hc] at h; cases h
    | true =>
    rw [hc] at h
    cases h
    simp only [Bool.and_eq_true] at hc
    simp only [renA]
    rw [beq_t hc.1, beq_t hc.2, hp (lo' = lo) (by simp), hp (n' = n) (by simp)]
  | .mpv l, b, ps, h, hp => by
    cases b <;> simp only [eqA] at h <;> try (cases h; done)
    rename_i l'
    cases hc : Nat.beq (ρ l) l' with
    | false => rw [hc] at h; cases h
    | true =>
    simp only [renA]
    rw [beq_t hc]
  | .pe l i sz off js t, b, ps, h, hp => by
    cases b <;> simp only [eqA] at h <;> try (cases h; done)
    rename_i l' i' sz' off' js' t'
    cases hc : (Nat.beq (ρ l) l' && Nat.beq sz sz' && Nat.beq off off' && eqNs js js' && t.beq t') with
    | false => rw [hc] at h; cases h
    | true =>
    rw [hc] at h
    cases h
    simp only [Bool.and_eq_true] at hc
    simp only [renA]
    rw [beq_t hc.1.1.1.1, beq_t hc.1.1.1.2, beq_t hc.1.1.2, eqNs_ok hc.1.2, DT.beq_ok hc.2, hp _ (List.mem_singleton.2 rfl)]
theorem eqAs_ok {ρ : Nat → Nat} : ∀ {as' bs : List AV} {ps : Ps}, eqAs ρ as' bs = some ps → (∀ p ∈ ps, p) → bs = renAs ρ as'
  | [], [], _, _, _ => by simp only [renAs]
  | [], _ :: _, _, h, _ => by simp [eqAs] at h
  | _ :: _, [], _, h, _ => by simp [eqAs] at h
  | a :: r, b :: s, ps, h, hp => by
    simp only [eqAs] at h
    split at h
    · rename_i ps1 ps2 h1 h2
      cases h
      simp only [renAs]
      rw [eqA_ok h1 (fun p hpp => hp p (List.mem_append_left _ hpp)), eqAs_ok h2 (fun p hpp => hp p (List.mem_append_right _ hpp))]
    · cases h
end
mutual
theorem renA_id : ∀ a : AV, renA (fun l => l) a = a
  | .v _ | .ptr _ _ | .sl _ _ _ _ | .dl _ _ _ | .e0 | .any | .er _ | .pd _ _ _ | .ow _ _ | .oc _ _ | .vw _ _ _ _ | .pe _ _ _ _ _ _ | .mpv _ => by simp only [renA]
  | .agg cs | .tup cs | .fn _ cs => by simp only [renA, renAs_id cs]
theorem renAs_id : ∀ as' : List AV, renAs (fun l => l) as' = as'
  | [] => by simp only [renAs]
  | a :: r => by simp only [renAs, renA_id a, renAs_id r]
end

/-! ### What the first pass says -/
def cnt (G : List Inf) (i : Nat) : Nat := ((G.take i).filter (·.mak)).length
theorem cnt_succ {G : List Inf} {i : Nat} {x : Inf} (h : G[i]? = some x) : cnt G (i + 1) = cnt G i + (if x.mak then 1 else 0) := by
  unfold cnt
  rw [List.take_add_one, h, List.filter_append, List.length_append]
  cases hx : x.mak <;> simp [hx]
theorem cnt_mono (G : List Inf) {i j : Nat} (h : i ≤ j) : cnt G i ≤ cnt G j := by
  induction j with
  | zero => have : i = 0 := by omega
            subst this; exact Nat.le_refl _
  | succ j ih =>
    rcases Nat.lt_or_ge i (j + 1) with h1 | h1
    · refine Nat.le_trans (ih (by omega)) ?_
      cases hx : G[j]? with
      | none => unfold cnt; rw [List.take_of_length_le (by have := List.getElem?_eq_none_iff.1 hx; omega), List.take_of_length_le (by have := List.getElem?_eq_none_iff.1 hx; omega)]; exact Nat.le_refl _
      | some x => rw [cnt_succ hx]; omega
    · have : i = j + 1 := by omega
      subst this; exact Nat.le_refl _
structure Good (fr : Bool) (P : Program) (S : Sums) (l : List Oper) (A A0 : AE) (G : List Inf) (T : List Stt) (i : Nat) (o : Oper) (x : Inf) : Prop where
  num : x.num = cnt G i
  lo : ∀ p ∈ preds o, ∀ y, G[p]? = some y → y.aft ≤ x.lo
  lub : ∀ k, (∀ p ∈ preds o, ∀ y, G[p]? = some y → y.aft ≤ k) → x.lo ≤ k
  env : ∀ (s : Sg) (E : Env), EnvOK s A0 E → (∀ p ∈ preds o, ∀ y q d, G[p]? = some y → l[p]? = some q → q.dst = some d → Rel s y.u (E d)) → (∀ q ∈ l, i ∈ preds q → ∀ d, q.dst = some d → ∀ b, A.get d = some b → Rel s b (E d)) → EnvOK s x.env E
  val : ∃ st, T[x.num]? = some st ∧ ((x.mak = false ∧ x.aft = x.lo ∧ evOpG fr P S st x.env o = some (.rd x.ps x.u)) ∨
    (x.mak = true ∧ x.aft = x.num + 1 ∧ ∃ st', T[x.num + 1]? = some st' ∧ evOpG fr P S st x.env o = some (.wr x.ps x.u st')))
theorem predEnv_ok {l : List Oper} {tr : Tr Inf} {G : List Inf} (htr : ∀ p y, tr.get p = some y → G[p]? = some y) (s : Sg) (E : Env) : ∀ (ps : List Nat) (A : AE), EnvOK s A E → (∀ p ∈ ps, ∀ y q d, G[p]? = some y → l[p]? = some q → q.dst = some d → Rel s y.u (E d)) → EnvOK s (predEnv l.toArray tr ps A) E
  | [], A, h, _ => h
  | p :: r, A, h, k => by
    unfold predEnv
    split
    · rename_i y q hy hq
      refine predEnv_ok htr s E r _ ?_ (fun p' hp' => k p' (by simp [hp']))
      have hq' : l[p]? = some q := by simpa using hq
      intro t a ht
      cases hd : q.dst with
      | none => rw [hd] at ht; exact h t a ht
      | some d =>
        rw [hd] at ht
        rcases Ly.get_set ht with ⟨rfl, e⟩ | ⟨_, e⟩
        · cases e; exact k p (by simp) y q _ (htr p y hy) hq' hd
        · exact h t a e
    · exact predEnv_ok htr s E r A h (fun p' hp' => k p' (by simp [hp']))
theorem restore_ok {A : AE} {l : List Oper} {i : Nat} {s : Sg} {E : Env} (k : ∀ q ∈ l, i ∈ preds q → ∀ d, q.dst = some d → ∀ b, A.get d = some b → Rel s b (E d)) : ∀ (xs : List Operand) (E0 : AE), EnvOK s E0 E → EnvOK s (restore A l i xs E0) E
  | [], E0, h => h
  | .tmp t :: r, E0, h => by
    unfold restore
    refine restore_ok k r _ ?_
    split
    · exact h
    · split
      · rename_i q hq
        cases hc : (preds q).contains i with
        | false => exact h
        | true =>
          have hd := List.find?_some hq
          have hm := List.mem_of_find?_eq_some hq
          intro t' a ht
          rcases Ly.get_set ht with ⟨rfl, e⟩ | ⟨_, e⟩
          · split at hd
            · rename_i d hd'
              have := beq_t hd
              subst this
              exact k q hm (by simpa using hc) d hd' a e
            · cases hd
          · exact h t' a e
      · exact h
  | .const _ :: r, E0, h => by unfold restore; exact restore_ok k r _ h
  | .global _ :: r, E0, h => by unfold restore; exact restore_ok k r _ h
  | .func _ :: r, E0, h => by unfold restore; exact restore_ok k r _ h
theorem loOf_ge {tr : Tr Inf} : ∀ (ps : List Nat) (p : Nat) (y : Inf), p ∈ ps → tr.get p = some y → y.aft ≤ loOf tr ps
  | [], p, y, h, _ => by cases h
  | q :: r, p, y, h, hy => by
    unfold loOf
    rcases List.mem_cons.1 h with rfl | h
    · rw [hy]; exact Nat.le_max_left _ _
    · have := loOf_ge r p y h hy
      split
      · exact Nat.le_trans this (Nat.le_max_right _ _)
      · exact this
theorem loOf_le {tr : Tr Inf} {k : Nat} : ∀ (ps : List Nat), (∀ p ∈ ps, ∀ y, tr.get p = some y → y.aft ≤ k) → loOf tr ps ≤ k
  | [], _ => Nat.zero_le _
  | q :: r, h => by
    unfold loOf
    have := loOf_le r (fun p hp => h p (by simp [hp]))
    split
    · rename_i i hi; exact Nat.max_le.2 ⟨h q (by simp) i hi, this⟩
    · exact this
theorem pass1_len {fr : Bool} {P : Program} {S : Sums} {ops : Array Oper} {A A0 : AE} : ∀ (r : List Oper) (i : Nat) (tr : Tr Inf) (st : Stt) (m : Nat) (xs : List Inf) (ss : List Stt), pass1 fr P S ops A A0 r i tr st m = some (xs, ss) → xs.length = r.length ∧ ss[0]? = some st ∧ ss.length = (xs.filter (·.mak)).length + 1 := by
  intro r
  induction r with
  | nil => intro i tr st m xs ss h; simp only [pass1, Option.some.injEq, Prod.mk.injEq] at h; obtain ⟨rfl, rfl⟩ := h; simp
  | cons o r ih =>
    intro i tr st m xs ss h
    simp only [pass1] at h
    split at h
    · cases h
    · split at h
      · rename_i hr; cases h; have := ih _ _ _ _ _ _ hr; simpa using this
      · cases h
    · split at h
      · rename_i hr; cases h; have := ih _ _ _ _ _ _ hr; simp [this.1, this.2.2]
      · cases h
theorem pass1_ok {fr : Bool} {P : Program} {S : Sums} {l : List Oper} {A A0 : AE} (hsm : l.length ≤ 4000) (hback : ∀ i o, l[i]? = some o → ∀ p ∈ preds o, p < i) (G : List Inf) (T : List Stt) : ∀ (r : List Oper) (i : Nat) (tr : Tr Inf) (st : Stt) (m : Nat) (xs : List Inf) (ss : List Stt),
    pass1 fr P S l.toArray A A0 r i tr st m = some (xs, ss) → l.drop i = r → G.drop i = xs → T.drop m = ss → m = cnt G i → (∀ p, tr.get p = if p < i then G[p]? else none) →
    ∀ j o, r[j]? = some o → ∃ x, G[i + j]? = some x ∧ Good fr P S l A A0 G T (i + j) o x := by
  intro r
  induction r with
  | nil => intro i tr st m xs ss h _ _ _ _ _ j o hj; simp at hj
  | cons o r ih =>
    intro i tr st m xs ss h hl hG hT hm htr
    have hi : i < l.length := by
      rcases Nat.lt_or_ge i l.length with h1 | h1
      · exact h1
      · rw [List.drop_of_length_le h1] at hl; cases hl
    have ho : l[i]? = some o := by
      have := congrArg (fun z => z[0]?) hl
      simpa [List.getElem?_drop] using this
    have hl' : l.drop (i + 1) = r := by rw [← List.drop_drop, hl]; rfl
    have htr' : ∀ p y, tr.get p = some y → G[p]? = some y := by
      intro p y hp; rw [htr] at hp; split at hp
      · exact hp
      · cases hp
    have step : ∀ (x : Inf) (xs' : List Inf) (ss' : List Stt) (st' : Stt) (m' : Nat), pass1 fr P S l.toArray A A0 r (i + 1) (tr.set 12 i (some x)) st' m' = some (xs', ss') → xs = x :: xs' → T.drop m' = ss' → m' = cnt G i + (if x.mak then 1 else 0) →
        Good fr P S l A A0 G T i o x → ∀ j o', (o :: r)[j]? = some o' → ∃ y, G[i + j]? = some y ∧ Good fr P S l A A0 G T (i + j) o' y := by
      intro x xs' ss' st' m' hp hx hs hm' hgood j o' hj
      subst hx
      have hGi : G[i]? = some x := by
        have := congrArg (fun z => z[0]?) hG
        simpa [List.getElem?_drop] using this
      cases j with
      | zero => simp only [List.getElem?_cons_zero, Option.some.injEq] at hj; subst hj; exact ⟨x, hGi, hgood⟩
      | succ j =>
        have := ih (i + 1) _ st' m' xs' ss' hp hl' (by rw [← List.drop_drop, hG]; rfl) hs (by rw [hm', cnt_succ hGi]) (fun p => by
          rw [Tr.get_set' 12 tr i p (some x) (by omega), htr]
          by_cases e : p = i
          · subst e; rw [if_pos rfl, if_pos (by omega), hGi]
          · rw [if_neg e]
            by_cases e2 : p < i
            · rw [if_pos e2, if_pos (by omega)]
            · rw [if_neg e2, if_neg (by omega)]) j o' (by simpa using hj)
        rwa [show i + 1 + j = i + (j + 1) from by omega] at this
    have lo_ge : ∀ p ∈ preds o, ∀ y, G[p]? = some y → y.aft ≤ loOf tr (preds o) := fun p hp y hy => loOf_ge _ p y hp (by rw [htr, if_pos (hback i o ho p hp)]; exact hy)
    have lo_le : ∀ k, (∀ p ∈ preds o, ∀ y, G[p]? = some y → y.aft ≤ k) → loOf tr (preds o) ≤ k := fun k hk => loOf_le _ fun p hp y hy => hk p hp y (htr' p y hy)
    have henv := fun (s : Sg) (E : Env) (h1 : EnvOK s A0 E) h2 (h3 : ∀ q ∈ l, i ∈ preds q → ∀ d, q.dst = some d → ∀ b, A.get d = some b → Rel s b (E d)) => restore_ok (A := A) h3 o.op.operands.toList _ (predEnv_ok (l := l) htr' s E (preds o) A0 h1 h2)
    have hT0 : ∀ (q : List Stt), T.drop m = st :: q → T[m]? = some st := by
      intro q hq
      have := congrArg (fun z => z[0]?) hq
      simpa [List.getElem?_drop] using this
    have hT1 : ∀ (q : List Stt), T.drop m = st :: q → T.drop (m + 1) = q := by
      intro q hq; rw [← List.drop_drop, hq]; rfl
    simp only [pass1] at h
    split at h
    · cases h
    · rename_i ps a hop
      split at h
      · rename_i xs' ss' hr
        cases h
        obtain ⟨_, h0, _⟩ := pass1_len _ _ _ _ _ _ _ hr
        have hTm : T[m]? = some st := by rw [← hT, List.getElem?_drop] at h0; simpa using h0
        exact step ⟨false, m, _, _, ps, a, _⟩ xs' _ st m hr rfl hT (by simpa using hm) ⟨hm, lo_ge, lo_le, henv, st, hTm, .inl ⟨rfl, rfl, hop⟩⟩
      · cases h
    · rename_i ps a st' hop
      split at h
      · rename_i xs' ss' hr
        cases h
        obtain ⟨_, h0, _⟩ := pass1_len _ _ _ _ _ _ _ hr
        have hT' := hT1 _ hT
        have hTm' : T[m + 1]? = some st' := by rw [← hT', List.getElem?_drop] at h0; simpa using h0
        exact step ⟨true, m, _, _, ps, a, _⟩ xs' _ st' (m + 1) hr rfl hT' (by simp [hm]) ⟨hm, lo_ge, lo_le, henv, st, hT0 _ hT, .inr ⟨rfl, rfl, st', hTm', hop⟩⟩
      · cases h
/-! ### What the second pass says -/
structure Sec (fr : Bool) (P : Program) (S : Sums) (l : List Oper) (G : List Inf) (T : List Stt) (M : Nat) (i : Nat) (o : Oper) (x : Inf) : Prop where
  ps : ∀ p ∈ x.ps, p
  mak : x.mak = true → x.lo = x.num
  rd : x.mak = false → M = 0 ∨ noMem o.op = true ∨ ∃ qs, rdAt fr P S o x (hiOf i M l G) 0 T = some qs ∧ ∀ p ∈ qs, p
theorem pass2_ok {fr : Bool} {P : Program} {S : Sums} {l : List Oper} {G : List Inf} {T : List Stt} {M : Nat} : ∀ (r : List Oper) (xs : List Inf) (i : Nat) (qs : Ps), pass2 fr P S l.toArray G T M r xs i = some qs → (∀ p ∈ qs, p) → ∀ j o x, r[j]? = some o → xs[j]? = some x → Sec fr P S l G T M (i + j) o x := by
  intro r
  induction r with
  | nil => intro xs i qs _ _ j o x hj; simp at hj
  | cons o r ih =>
    intro xs i qs h hq j o' x' hj hx
    cases xs with
    | nil => simp at hx
    | cons x xs =>
      simp only [pass2] at h
      split at h
      · cases h
      rename_i qs' hrest
      have both : (∀ p ∈ qs', p) ∧ Sec fr P S l G T M i o x := by
        cases hmk : x.mak with
        | true =>
          rw [hmk] at h
          simp only [cond_true] at h
          cases hc : Nat.beq x.lo x.num with
          | false => rw [hc] at h; cases h
          | true =>
          rw [hc] at h
          cases h
          exact ⟨fun p hp => hq p (List.mem_append_right _ hp), fun p hp => hq p (List.mem_append_left _ hp), fun _ => beq_t hc, (fun e => by rw [hmk] at e; cases e)⟩
        | false =>
          rw [hmk] at h
          simp only [cond_false] at h
          cases hc : (Nat.beq M 0 || noMem o.op) with
          | true =>
            rw [hc] at h
            cases h
            simp only [Bool.or_eq_true] at hc
            refine ⟨fun p hp => hq p (List.mem_append_right _ hp), fun p hp => hq p (List.mem_append_left _ hp), (fun e => by rw [hmk] at e; cases e), fun _ => ?_⟩
            rcases hc with hc | hc
            · exact .inl (beq_t hc)
            · exact .inr (.inl hc)
          | false =>
            rw [hc] at h
            simp only [cond_false] at h
            split at h
            · rename_i es hes
              cases h
              refine ⟨fun p hp => hq p (List.mem_append_right _ hp), fun p hp => hq p (List.mem_append_left _ (List.mem_append_left _ hp)), (fun e => by rw [hmk] at e; cases e), fun _ => .inr (.inr ⟨es, by simpa using hes, fun p hp => hq p (List.mem_append_left _ (List.mem_append_right _ hp))⟩)⟩
            · cases h
      cases j with
      | zero =>
        simp only [List.getElem?_cons_zero, Option.some.injEq] at hj hx
        subst hj; subst hx
        exact both.2
      | succ j =>
        have := ih xs (i + 1) _ hrest both.1 j o' x' (by simpa using hj) (by simpa using hx)
        rwa [show i + 1 + j = i + (j + 1) from by omega] at this
theorem hiOf_ge {i M k : Nat} (hM : k ≤ M) : ∀ (r : List Oper) (xs : List Inf), (∀ (j : Nat) (o : Oper) (x : Inf), r[j]? = some o → xs[j]? = some x → x.mak = true → i ∈ preds o → k ≤ x.num) → k ≤ hiOf i M r xs
  | [], _, _ => by unfold hiOf; exact hM
  | _ :: _, [], _ => by unfold hiOf; exact hM
  | o :: r, x :: xs, h => by
    have ih := hiOf_ge hM r xs (fun j o' x' hj hx => h (j + 1) o' x' (by simpa using hj) (by simpa using hx))
    unfold hiOf
    cases hc : (x.mak && (preds o).contains i) with
    | false => exact ih
    | true =>
      simp only [Bool.and_eq_true] at hc
      exact Nat.le_min.2 ⟨h 0 o x rfl rfl hc.1 (by simpa using hc.2), ih⟩
theorem rdAt_ok {fr : Bool} {P : Program} {S : Sums} {o : Oper} {x : Inf} {hi : Nat} : ∀ (ss : List Stt) (k0 : Nat) (qs : Ps), rdAt fr P S o x hi k0 ss = some qs → (∀ p ∈ qs, p) → ∀ j st, ss[j]? = some st → x.lo ≤ k0 + j → k0 + j ≤ hi → k0 + j ≠ x.num → ∃ ps, evOpG fr P S st x.env o = some (.rd ps x.u) ∧ ∀ p ∈ ps, p
  | [], _, _, _, _, j, st, hj, _, _, _ => by simp at hj
  | s1 :: r, k0, qs, h, hq, j, st, hj, h1, h2, h3 => by
    simp only [rdAt] at h
    split at h
    · cases h
    rename_i qs' hrest
    cases j with
    | zero =>
      simp only [List.getElem?_cons_zero, Option.some.injEq] at hj
      subst hj
      have e : (Nat.ble x.lo k0 && Nat.ble k0 hi && !Nat.beq k0 x.num) = true := by
        simp only [Bool.and_eq_true, Bool.not_eq_true']
        exact ⟨⟨Nat.ble_eq_true_of_le h1, Nat.ble_eq_true_of_le h2⟩, beq_no h3⟩
      rw [e] at h
      simp only [cond_true] at h
      split at h
      · rename_i ps a hrd
        split at h
        · rename_i es hes
          cases h
          have hau := eqA_ok hes (fun p hp => hq p (List.mem_append_left _ (List.mem_append_right _ hp)))
          rw [renA_id] at hau
          subst hau
          unfold evRd at hrd
          split at hrd
          · rename_i ps' a' hop
            cases hrd
            exact ⟨_, hop, fun p hp => hq p (List.mem_append_left _ (List.mem_append_left _ hp))⟩
          · cases hrd
        · cases h
      · cases h
    | succ j =>
      have hq' : ∀ p ∈ qs', p := by
        intro p hp
        refine hq p ?_
        cases hc : (Nat.ble x.lo k0 && Nat.ble k0 hi && !Nat.beq k0 x.num) with
        | true =>
          rw [hc] at h
          simp only [cond_true] at h
          split at h
          · split at h
            · cases h; exact List.mem_append_right _ hp
            · cases h
          · cases h
        | false => rw [hc] at h; cases h; exact hp
      exact rdAt_ok r (k0 + 1) qs' hrest hq' j st (by simpa using hj) (by omega) (by omega) (by omega)
theorem noMem_op {P : Program} {S : Sums} {st st' : Stt} {A : AE} {o : Oper} (h : noMem o.op = true) : evOp P S st A o = evOp P S st' A o := by
  have key : ∀ op : Op, noMem op = true → evRdS P st A op = evRdS P st' A op ∧ evWrS P st A op = none ∧ evWrS P st' A op = none ∧ evCallS P A op = none := by
    intro op h
    cases op <;> first | exact ⟨rfl, rfl, rfl, rfl⟩ | (cases h; done) | (rename_i q _ _; cases q <;> exact ⟨rfl, rfl, rfl, rfl⟩)
  obtain ⟨h1, h2, h3, h4⟩ := key o.op h
  unfold evOp
  rw [h1, h2, h3, h4]
theorem noMem_opG {fr : Bool} {P : Program} {S : Sums} {st st' : Stt} {A : AE} {o : Oper} (h : noMem o.op = true) : evOpG fr P S st A o = evOpG fr P S st' A o := by
  have e := noMem_op (P := P) (S := S) (st := st) (st' := st') (A := A) h
  have nw : ∀ ps a st1, evOp P S st A o ≠ some (.wr ps a st1) := by
    intro ps a st1 hw
    have key : ∀ op : Op, noMem op = true → evWrS P st A op = none ∧ evCallS P A op = none := by
      intro op h
      cases op <;> first | exact ⟨rfl, rfl⟩ | (cases h; done) | (rename_i q _ _; cases q <;> exact ⟨rfl, rfl⟩)
    obtain ⟨h2, h4⟩ := key o.op h
    unfold evOp at hw
    rw [h2, h4] at hw
    split at hw
    · cases hw
    · simp only at hw
      split at hw <;> cases hw
  unfold evOpG
  rw [← e]
  split
  · rfl
  · rename_i hw; exact absurd hw (nw _ _ _)
  · rfl
theorem putAll_ok {s : Sg} {E : Env} : ∀ (l : List Oper) (G : List Inf) (A : AE), EnvOK s A E → (∀ (j : Nat) (o : Oper) (x : Inf) (d : Nat), l[j]? = some o → G[j]? = some x → o.dst = some d → Rel s x.u (E d)) → EnvOK s (putAll A l G) E
  | [], _, A, h, _ => by unfold putAll; exact h
  | _ :: _, [], A, h, _ => by unfold putAll; exact h
  | o :: r, x :: G, A, h, k => by
    unfold putAll
    refine putAll_ok r G _ ?_ (fun j o' x' d hj hx => k (j + 1) o' x' d (by simpa using hj) (by simpa using hx))
    intro t a ht
    cases hd : o.dst with
    | none => rw [hd] at ht; exact h t a ht
    | some d =>
      rw [hd] at ht
      rcases Ly.get_set ht with ⟨rfl, e⟩ | ⟨_, e⟩
      · cases e; exact k 0 o x _ rfl rfl hd
      · exact h t a e

theorem cnt_hit {G : List Inf} {m : Nat} : ∀ n, m < cnt G n → ∃ i x, G[i]? = some x ∧ x.mak = true ∧ cnt G i = m
  | 0, h => by simp [cnt] at h
  | n + 1, h => by
    cases hx : G[n]? with
    | none =>
      have hn := List.getElem?_eq_none_iff.1 hx
      have : cnt G (n + 1) = cnt G n := by unfold cnt; rw [List.take_of_length_le (by omega), List.take_of_length_le hn]
      exact cnt_hit n (by omega)
    | some x =>
      have e := cnt_succ hx
      cases hm : x.mak with
      | false => rw [hm] at e; exact cnt_hit n (by simp at e; omega)
      | true =>
        rw [hm] at e
        rcases Nat.lt_or_ge m (cnt G n) with h1 | h1
        · exact cnt_hit n h1
        · simp at e; exact ⟨n, x, hx, hm, by omega⟩
/-! ### Names -/
mutual
theorem Rel.ids {s : Sg} {n : Nat} (hd : ∀ l, n ≤ l → s.f l = none) : ∀ (a : AV) (v : Value), Rel s a v → idsA n a = true
  | .v _, _, _ => by simp only [idsA]
  | .dl _ _ _, _, _ => by simp only [idsA]
  | .e0, _, _ => by simp only [idsA]
  | .any, _, _ => by simp only [idsA]
  | .er _, _, _ => by simp only [idsA]
  | .pd _ _ _, _, _ => by simp only [idsA]
  | .ptr l _, _, h => by
    simp only [Rel] at h; obtain ⟨p, hp, _⟩ := h
    simp only [idsA]; refine Nat.ble_eq_true_of_le (Nat.lt_of_not_le fun hl => ?_); rw [hd l hl] at hp; cases hp
  | .sl l _ _ _, _, h => by
    simp only [Rel] at h; obtain ⟨p, hp, _⟩ := h
    simp only [idsA]; refine Nat.ble_eq_true_of_le (Nat.lt_of_not_le fun hl => ?_); rw [hd l hl] at hp; cases hp
  | .ow l _, _, h => by
    simp only [Rel] at h; obtain ⟨p, hp, _⟩ := h
    simp only [idsA]; refine Nat.ble_eq_true_of_le (Nat.lt_of_not_le fun hl => ?_); rw [hd l hl] at hp; cases hp
  | .oc l _, _, h => by
    simp only [Rel] at h; obtain ⟨p, hp, _⟩ := h
    simp only [idsA]; refine Nat.ble_eq_true_of_le (Nat.lt_of_not_le fun hl => ?_); rw [hd l hl] at hp; cases hp
  | .vw l _ _ _, _, h => by
    simp only [Rel] at h; obtain ⟨p, hp, _⟩ := h
    simp only [idsA]; refine Nat.ble_eq_true_of_le (Nat.lt_of_not_le fun hl => ?_); rw [hd l hl] at hp; cases hp
  | .pe l _ _ _ _ _, _, h => by
    simp only [Rel] at h; obtain ⟨p, hp, _⟩ := h
    simp only [idsA]; refine Nat.ble_eq_true_of_le (Nat.lt_of_not_le fun hl => ?_); rw [hd l hl] at hp; cases hp
  | .mpv l, _, h => by
    simp only [Rel] at h; obtain ⟨p, hp, _⟩ := h
    simp only [idsA]; refine Nat.ble_eq_true_of_le (Nat.lt_of_not_le fun hl => ?_); rw [hd l hl] at hp; cases hp
  | .agg cs, _, h => by simp only [Rel] at h; obtain ⟨vs, h, _⟩ := h; simp only [idsA]; exact RelL.ids hd cs vs h
  | .tup cs, _, h => by simp only [Rel] at h; obtain ⟨vs, h, _⟩ := h; simp only [idsA]; exact RelL.ids hd cs vs h
  | .fn _ cs, _, h => by simp only [Rel] at h; obtain ⟨vs, h, _⟩ := h; simp only [idsA]; exact RelL.ids hd cs vs h
theorem RelL.ids {s : Sg} {n : Nat} (hd : ∀ l, n ≤ l → s.f l = none) : ∀ (as' : List AV) (vs : List Value), RelL s as' vs → idsAs n as' = true
  | [], _, _ => by simp only [idsAs]
  | a :: r, _, h => by
    obtain ⟨v, vs', h1, h2, rfl⟩ := h.uncons
    simp only [idsAs, Bool.and_eq_true]; exact ⟨Rel.ids hd a v h1, RelL.ids hd r vs' h2⟩
end
/-- s' has under each name below n what s has under the name that it stands for -/
structure Ren (s s' : Sg) (ρ : Nat → Nat) (n : Nat) : Prop where
  f : ∀ l, l < n → ∀ p, s.f (ρ l) = some p → s'.f l = some p
  H : ∀ m, Sub (s.H m) (s'.H m)
mutual
theorem Rel.ren {s s' : Sg} {ρ : Nat → Nat} {n : Nat} (hr : Ren s s' ρ n) : ∀ (a : AV) (v : Value), idsA n a = true → Rel s (renA ρ a) v → Rel s' a v
  | .v _, _, _, h => by simpa only [renA, Rel] using h
  | .dl m t xs, _, _, h => by simp only [renA, Rel] at h ⊢; exact h.mono (hr.H m) fun x us hx => Rd.mono (hr.H m) t x us hx
  | .e0, _, _, h => by simpa only [renA, Rel] using h
  | .any, _, _, h => by simpa only [renA, Rel] using h
  | .er _, _, _, h => by simpa only [renA, Rel] using h
  | .pd m t d, _, _, h => by simp only [renA, Rel] at h ⊢; obtain ⟨b, k, cs, h1, h2, h3⟩ := h; exact ⟨b, k, cs, h1, h2.mono (hr.H m), Rd.mono (hr.H m) t d cs h3⟩
  | .ptr l _, _, hi, h => by simp only [idsA] at hi; simp only [renA, Rel] at h ⊢; obtain ⟨p, h1, h2⟩ := h; exact ⟨p, hr.f l (blt_t hi) p h1, h2⟩
  | .sl l _ _ _, _, hi, h => by simp only [idsA] at hi; simp only [renA, Rel] at h ⊢; obtain ⟨p, h1, h2⟩ := h; exact ⟨p, hr.f l (blt_t hi) p h1, h2⟩
  | .ow l _, _, hi, h => by simp only [idsA] at hi; simp only [renA, Rel] at h ⊢; obtain ⟨p, h1, h2⟩ := h; exact ⟨p, hr.f l (blt_t hi) p h1, h2⟩
  | .oc l _, _, hi, h => by simp only [idsA] at hi; simp only [renA, Rel] at h ⊢; obtain ⟨p, h1, h2⟩ := h; exact ⟨p, hr.f l (blt_t hi) p h1, h2⟩
  | .vw l _ _ _, _, hi, h => by simp only [idsA] at hi; simp only [renA, Rel] at h ⊢; obtain ⟨p, h1, h2⟩ := h; exact ⟨p, hr.f l (blt_t hi) p h1, h2⟩
  | .pe l _ _ _ _ _, _, hi, h => by simp only [idsA] at hi; simp only [renA, Rel] at h ⊢; obtain ⟨p, h1, h2⟩ := h; exact ⟨p, hr.f l (blt_t hi) p h1, h2⟩
  | .mpv l, _, hi, h => by simp only [idsA] at hi; simp only [renA, Rel] at h ⊢; obtain ⟨p, h1, h2⟩ := h; exact ⟨p, hr.f l (blt_t hi) p h1, h2⟩
  | .agg cs, _, hi, h => by simp only [idsA] at hi; simp only [renA, Rel] at h ⊢; obtain ⟨vs, h1, h2⟩ := h; exact ⟨vs, RelL.ren hr cs vs hi h1, h2⟩
  | .tup cs, _, hi, h => by simp only [idsA] at hi; simp only [renA, Rel] at h ⊢; obtain ⟨vs, h1, h2⟩ := h; exact ⟨vs, RelL.ren hr cs vs hi h1, h2⟩
  | .fn _ cs, _, hi, h => by simp only [idsA] at hi; simp only [renA, Rel] at h ⊢; obtain ⟨vs, h1, h2⟩ := h; exact ⟨vs, RelL.ren hr cs vs hi h1, h2⟩
theorem RelL.ren {s s' : Sg} {ρ : Nat → Nat} {n : Nat} (hr : Ren s s' ρ n) : ∀ (as' : List AV) (vs : List Value), idsAs n as' = true → RelL s (renAs ρ as') vs → RelL s' as' vs
  | [], _, _, h => by simpa only [renAs, RelL] using h
  | a :: r, _, hi, h => by
    simp only [idsAs, Bool.and_eq_true] at hi
    simp only [renAs] at h
    obtain ⟨v, vs', h1, h2, rfl⟩ := h.uncons
    exact RelL.cons (Rel.ren hr a v hi.1 h1) (RelL.ren hr r vs' hi.2 h2)
end
def renX (ρ : Nat → Nat) : AX → AX
  | .c e cs => .c e (renAs ρ cs)
  | .q e t xs => .q e t xs
  | .mp k v m => .mp k v m
  | .it l n seen => .it (ρ l) n seen
theorem ObjAt.ren {s s' : Sg} {ρ : Nat → Nat} {n : Nat} {w : World} {p : Loc} (hr : Ren s s' ρ n) {x : AX} (hi : idsX n x = true) (h : ObjAt s w p (renX ρ x)) : ObjAt s' w p x := by
  cases x with
  | c e cs => obtain ⟨vs, h1, h2⟩ := h; exact ⟨vs, h1, RelL.ren hr cs vs hi h2⟩
  | q e t xs =>
    obtain ⟨h1, h2, h3, h4⟩ := h
    refine ⟨h1, h2, h3, fun hc => ?_⟩
    obtain ⟨cur, h5, h6, h7, h8⟩ := h4 hc
    exact ⟨cur, h5, h6, h7, fun i x hi => Rd.mono (hr.H true) t x _ (h8 i x hi)⟩
  | mp kt vt m => obtain ⟨arr, h1, h2, h3⟩ := h; exact ⟨arr, h1, h2.mono (hr.H true), h3⟩
  | it l n seen => simp only [idsX] at hi; obtain ⟨q, h1, h2⟩ := h; exact ⟨q, hr.f l (blt_t hi) q h1, h2⟩
theorem renX_id (x : AX) : renX (fun l => l) x = x := by cases x <;> simp [renX, renAs_id]
theorem there_ren {ρ : Nat → Nat} {x : AX} {p : Loc} : there (renX ρ x) p ↔ there x p := by cases x <;> exact Iff.rfl
theorem isBox_ren {ρ : Nat → Nat} {x : AX} : isBox (renX ρ x) = isBox x := by cases x <;> rfl
def Sg.ren (s : Sg) (ρ : Nat → Nat) (n : Nat) : Sg := { s with f := fun l => if l < n then s.f (ρ l) else none }
theorem Sg.ren_ok (s : Sg) (ρ : Nat → Nat) (n : Nat) : Ren s (s.ren ρ n) ρ n := ⟨fun l hl p hp => by simp only [Sg.ren]; rw [if_pos hl]; exact hp, fun m => Sub.refl _⟩
end Go.Proofs.YtnhfkdgambncfaaGreatDoor.Sv
namespace Go.Proofs.YtnhfkdgambncfaaGreatDoor.Sv
open Go.RowKit Go.Proofs.YtnhfkdgambncfaaGreatDoor.W
variable {Γ : Gl}

theorem Ly.get_set_ne {α : Type} {L : Ly α} {k j : Nat} {x : Option α} (h : j ≠ k) : (L.set k x).get j = L.get j := by
  unfold Ly.get
  cases hj : Nat.blt j 1000000 with
  | false => rfl
  | true =>
    simp only [cond_true]
    unfold Ly.set
    cases hk : Nat.blt k 1000000 with
    | false => rfl
    | true =>
      have hk' : k < 1000000 := by simpa using hk
      simp only [cond_true]
      cases L with
      | nil => simp only [Ly.go, Tr.get_set _ _ _ _ hk', if_neg h, Tr.get_nil]
      | cons t r => simp only [Ly.go, Tr.get_set _ _ _ _ hk', if_neg h]
section
variable {s : Sg} {w0 w : World} {st st' : Stt} {A : AE} {E : Env} {P : Program} {o : Oper}
theorem evOpG_wr {fr : Bool} {S : Sums} {ps : Ps} {a : AV} (h : evOpG fr P S st A o = some (.wr ps a st')) : evOp P S st A o = some (.wr ps a st') := by
  unfold evOpG at h
  split at h
  · cases h
  · rename_i ps1 a1 st1 he
    split at h
    · cases h
    · cases h; exact he
  · cases h
theorem setBoxes_none : ∀ (ks : List AK) (ls : List Nat) (ds : List D) (st : Stt), ks.all (fun k => !isBoxK k) = true → setBoxes st ks ls ds = st
  | [], _, _, _, _ => by simp [setBoxes]
  | .d _ _ :: r, ls, ds, st, h => by
    simp only [List.all_cons, Bool.and_eq_true] at h
    simp only [setBoxes]; exact setBoxes_none r ls _ st h.2
  | .p _ :: r, ls, ds, st, h => by
    simp only [List.all_cons, Bool.and_eq_true] at h
    simp only [setBoxes]; exact setBoxes_none r ls _ st h.2
  | .box _ _ :: _, _, _, _, h => by simp [isBoxK] at h
  | .o _ _ _ :: _, _, _, _, h => by simp [isBoxK] at h
theorem mkOuts_d : ∀ (ks : List RK) (ds : List D) (st : Stt), ks.all isDk = true → (mkOuts st ks ds).2 = st
  | [], _, _, _ => rfl
  | k :: ks, ds, st, h => by
    simp only [List.all_cons, Bool.and_eq_true] at h
    cases k with
    | d t => simp only [mkOuts, mkRes]; exact mkOuts_d ks _ st h.2
    | _ => simp [isDk] at h
theorem conStep_same {c : Con} {l : List AV} {ps : Ps} {a : AV} {q : Bool} (h1 : c.res.all isDk = true) (h2 : c.args.all (fun k => !isBoxK k) = true) (h : conStep c l st = some (ps, a, st', q)) : st' = st := by
  unfold conStep at h
  split at h
  · rename_i et t fs he
    match ha : c.args, he with
    | [.o _ _ _], _ => rw [ha] at h2; simp [isBoxK] at h2
  split at h
  case h_2 => cases h
  rename_i ds bs hm
  revert h
  cases (noDup bs && (noP c.args || bs.isEmpty)) with
  | false => intro h; cases h
  | true =>
    intro h
    simp only [cond_true] at h
    have e := mkOuts_d c.res (c.out ds) (setBoxes st c.args bs (c.boxes ds)) h1
    rw [setBoxes_none _ _ _ _ h2] at e h
    generalize mkOuts st c.res (c.out ds) = m at e h
    obtain ⟨r, st2⟩ := m
    simp only at e
    subst e
    cases h; rfl
/-- names below n alone -/
theorem Hold.shrink {s0 s2 : Sg} {st2 : Stt} (h0 : Hold Γ s0 w0 st w) {w' : World} (hle : s0.le s2) (h : Hold Γ s2 w0 st2 w') (hsub : ∀ k x, st.h.get k = some x → st2.h.get k = some x) : ∃ s3, s0.le s3 ∧ Hold Γ s3 w0 st w' ∧ ∀ m, Sub (s2.H m) (s3.H m) := by
  have hlow : ∀ k x, st.h.get k = some x → k < st.nx := fun k x hk => by
    obtain ⟨p, h1, _⟩ := h0.obj k x hk
    exact Nat.lt_of_not_le fun hl => by rw [h0.dom k hl] at h1; cases h1
  have hR := Sg.ren_ok s2 (fun l => l) st.nx
  refine ⟨s2.ren (fun l => l) st.nx, ⟨fun l p hp => ?_, hle.F, hle.G, hle.X, hle.G0⟩, ⟨h.ext, h.frz, h.gf, fun l hl => ?_, fun k x hk => ?_, fun k k' x x' p p' hk hk' hp hp' ht ht' e => ?_, h.gnew, h.glob⟩, fun m => Sub.refl _⟩
  · have hl : l < st.nx := Nat.lt_of_not_le fun h => by rw [h0.dom l h] at hp; cases hp
    simp only [Sg.ren]; rw [if_pos hl]; exact hle.f l p hp
  · simp only [Sg.ren]; rw [if_neg (by omega)]
  · obtain ⟨p, h1, h2⟩ := h.obj k x (hsub k x hk)
    obtain ⟨p0, g1, g2⟩ := h0.obj k x hk
    have hid : idsX st.nx x = true := by
      cases x with
      | c e cs => obtain ⟨vs, _, hr⟩ := g2.cur; exact RelL.ids h0.dom cs vs hr
      | q e t xs => rfl
      | mp kt vt m => rfl
      | it l n seen =>
        obtain ⟨q, h1, _⟩ := g2.cur
        exact Nat.ble_eq_true_of_le (Nat.lt_of_not_le fun hl => by rw [h0.dom l hl] at h1; cases h1)
    refine ⟨p, by simp only [Sg.ren]; rw [if_pos (hlow k x hk)]; exact h1, h2.free, ?_⟩
    exact ObjAt.ren hR hid (by rw [renX_id]; exact h2.cur)
  · simp only [Sg.ren] at hp hp'
    rw [if_pos (hlow k x hk)] at hp
    rw [if_pos (hlow k' x' hk')] at hp'
    exact h.inj k k' x x' p p' (hsub k x hk) (hsub k' x' hk') hp hp' ht ht' e
theorem evOpG_rd {fr : Bool} {S : Sums} (hS : SumsOK P Γ S) (hH : Hold Γ s w0 st w) (hE : EnvOK s A E) {ps : Ps} {a : AV} (h : evOpG fr P S st A o = some (.rd ps a)) (hp : ∀ p ∈ ps, p) : (∃ v, Rel s a v ∧ Quiet1 P o E w v) ∨ Made P o E w fun v w' => ∃ s', s.le s' ∧ Hold Γ s' w0 st w' ∧ Rel s' a v := by
  unfold evOpG at h
  split at h
  · rename_i ps1 a1 he
    cases h
    exact .inl (evOp_rd hS hH hE he hp)
  · split at h
    · rename_i ps2 a2 hf
      cases h
      cases fr with
      | false => cases hf
      | true =>
        simp only [cond_true] at hf
        unfold evFr at hf
        split at hf
        · rename_i f l hc
          split at hf
          case h_2 => cases hf
          rename_i c hfc
          cases hk : (c.res.all isDk && c.args.all (fun k => !isBoxK k)) with
          | false => rw [hk] at hf; cases hf
          | true =>
          rw [hk] at hf
          simp only [cond_true] at hf
          simp only [Bool.and_eq_true] at hk
          split at hf
          case h_2 => cases hf
          rename_i ps3 a3 st3 hcon
          cases hf
          have := conStep_same hk.1 hk.2 hcon
          subst this
          obtain ⟨vs, h1, h2⟩ := call_op hE hc
          exact .inr (.inr ⟨f, vs.toArray, h2 w, con_ok (hS f c hfc) hH hcon hp h1⟩)
        · split at hf
          case h_2 => cases hf
          rename_i t len qs hop
          split at hf
          case h_2 => cases hf
          rename_i ps3 l n st3 hw
          split at hf
          case h_2 => cases hf
          rename_i et dt xs hl
          cases hb : Nat.beq l st.nx with
          | false => rw [hb] at hf; cases hf
          | true =>
          rw [hb] at hf
          cases hf
          have hlx := beq_t hb
          obtain ⟨v, w', s', g1, g2, g3, g4⟩ := wr_ok hH hE hw hp
          have hfz : freeze st3 (.ow l n) = some (.dl true dt (xs.take n), delX st3 l) := by simp only [freeze, hl]
          obtain ⟨s2, k1, k2, k3, _⟩ := freeze_ok g3 hfz g4
          have hlow : ∀ k x, st.h.get k = some x → k < st.nx := fun k x hk => by
            obtain ⟨p, h1, _⟩ := hH.obj k x hk
            exact Nat.lt_of_not_le fun hl => by rw [hH.dom k hl] at h1; cases h1
          have hst : ∃ y, st3 = newX st y := by
            rw [hop] at hw
            simp only [evWrS] at hw
            split at hw
            case h_2 => cases hw
            split at hw
            case h_2 => cases hw
            revert hw
            cases (Nat.ble _ 1024 && Nat.beq _ _ && Nat.ble 1 _) with
            | false => intro hw; cases hw
            | true =>
              intro hw
              simp only [cond_true] at hw
              split at hw
              case h_2 => cases hw
              simp only [Option.some.injEq, Prod.mk.injEq] at hw
              obtain ⟨_, _, hw⟩ := hw
              rw [← hw]
              unfold newRowA
              split
              · cases Nat.beq _ _ with
                | false => exact ⟨_, rfl⟩
                | true =>
                  simp only [cond_true]
                  split
                  · exact ⟨_, rfl⟩
                  · exact ⟨_, rfl⟩
              · exact ⟨_, rfl⟩
          obtain ⟨y, rfl⟩ := hst
          obtain ⟨s3, q1, q2, q3⟩ := Hold.shrink hH (g2.trans k1) k2 (fun k x hk => by
            have hlt := hlow k x hk
            have hne : k ≠ l := by omega
            unfold delX
            rw [Ly.get_set_ne hne]
            rw [newX]
            exact (Ly.get_set_ne (by omega)).trans hk)
          refine .inr (.inl ⟨v, w', g1, s3, q1, q2, ?_⟩)
          simp only [Rel] at k3 ⊢
          exact k3.mono (q3 true) fun x us hx => Rd.mono (q3 true) dt x us hx
    · cases h
  · cases h

end
structure DV (Γ : Gl) (s0 : Sg) (w0 : World) (N : Nat) (l : List Oper) (A A0 : AE) (G : List Inf) (T : List Stt) (listed : Array Bool) (a : Act) (w : World) (k : Nat) (s : Sg) (st : Stt) : Prop where
  le : s0.le s
  at_ : T[k]? = some st
  hold : Hold Γ s w0 st w
  maks : ∀ i x, G[i]? = some x → x.mak = true → (listed.getD i false = true ↔ x.num < k)
  lo : ∀ i x, G[i]? = some x → listed.getD i false = true → x.aft ≤ k
  vals : ∀ i x o d, G[i]? = some x → l[i]? = some o → listed.getD i false = true → o.dst = some d → Rel s x.u (envOf a d)
  base : EnvOK s A0 (envOf a)
  old : ∀ i o d b, l[i]? = some o → listed.getD i false = false → o.dst = some d → A.get d = some b → Rel s b (envOf a d)
  closed : ∀ i o, l[i]? = some o → listed.getD i false = true → ∀ p ∈ preds o, listed.getD p false = true

section
variable {ro : Option Nat} {w0 : World} {P : Program}
theorem drawn_okF {fr : Bool} {S : Sums} (hS : SumsOK P Γ S) {N : Nat} {DD : List Deferred} {ops : Array Oper} {A A' : AE} {st0 st' : Stt} {ps : Ps} {Nn R : Env → World → Prop} {X : Nat → Env → World → Prop} (h : evDrawn fr P S N ops A st0 = some (ps, A', st')) (hps : ∀ p ∈ ps, p) (s0 : Sg) (E : Env) (w : World)
    (hH : Hold Γ s0 w0 st0 w) (hE : EnvOK s0 A E) (k : ∀ s' E' w', s0.le s' → Hold Γ s' w0 st' w' → EnvOK s' A' E' → Nn E' w') : AnyWPf P ro ⟨N, DD⟩ ops.toList (fun j v => ∀ infs sts, pass1 fr P S ops A (killA A (dsts ops.toList)) ops.toList 0 .nil st0 0 = some (infs, sts) → ∀ x, infs[j]? = some x → ∀ b, x.u = .v (.bool b) → v = .bool b) ⟨Nn, X, R⟩ E w := by
  obtain ⟨l⟩ := ops
  unfold evDrawn at h
  simp only at h
  cases hchk : (Nat.ble l.length 4000 && l.all (fun o => dstB N o.dst) && noDup (dsts l) && backOk l 0 && l.all (fun o => isNone o.guard)) with
  | false => rw [hchk] at h; cases h
  | true =>
  rw [hchk] at h
  simp only [cond_true] at h
  simp only [Bool.and_eq_true] at hchk
  obtain ⟨⟨⟨⟨c1, c2⟩, c3⟩, c4⟩, c5⟩ := hchk
  have c1 := ble_t c1
  have hback : ∀ i o, l[i]? = some o → ∀ p ∈ preds o, p < i := fun i o ho p hp => by have := backOk_ok l 0 c4 i o ho p hp; omega
  have hguard : ∀ (i : Nat) (o : Oper), l[i]? = some o → o.guard = none := fun i o ho => by
    have := List.all_eq_true.1 c5 o (List.mem_of_getElem? ho)
    cases hg : o.guard with
    | none => rfl
    | some g => rw [hg] at this; cases this
  split at h
  · cases h
  rename_i G T hp1
  split at h
  case h_2 => cases h
  rename_i ps2 stL hp2 hlast
  cases h
  obtain ⟨hGl, hS0, hSl⟩ := pass1_len _ _ _ _ _ _ _ hp1
  have hM : T.length - 1 = cnt G G.length := by rw [hSl]; unfold cnt; rw [List.take_of_length_le (Nat.le_refl _)]; omega
  have hgood : ∀ i o, l[i]? = some o → ∃ x, G[i]? = some x ∧ Good fr P S l A (killA A (dsts l)) G T i o x := fun i o ho => by
    have := pass1_ok c1 hback G T l 0 .nil st0 0 G T hp1 rfl rfl rfl (by simp [cnt]) (fun p => by simp [Tr.get]) i o ho
    simpa using this
  have hsec : ∀ i o x, l[i]? = some o → G[i]? = some x → Sec fr P S l G T (T.length - 1) i o x := fun i o x ho hx => by
    have := pass2_ok l G 0 _ hp2 hps i o x ho hx
    simpa using this
  have hnum : ∀ i x, G[i]? = some x → x.num = cnt G i := fun i x hx => by
    have hi : i < l.length := by rw [← hGl]; exact (List.getElem?_eq_some_iff.1 hx).1
    obtain ⟨y, hy, hg⟩ := hgood i _ (List.getElem?_eq_getElem hi)
    rw [hx] at hy; cases hy; exact hg.num
  have hapart := noDupD l c3
  refine ⟨(fun listed a w => listed.size = l.length ∧ Ok ⟨N, DD⟩ a ∧ ∃ k s st, DV Γ s0 w0 N l A (killA A (dsts l)) G T listed a w k s st), (fun _ _ _ hV => hV.1), ?_, ?_, ?_, ?_⟩
  · -- the end
    rintro listed a w ⟨hsz, hok, kk, s, st, D⟩ hr
    have hall := all_listed' hsz hback hr
    have hall' : ∀ i, i < l.length → listed.getD i false = true := fun i hi => by
      have := hall i hi
      have hsz' : i < listed.size := by omega
      rw [Array.getD_eq_getD_getElem?, Array.getElem?_eq_getElem hsz'] at this ⊢
      exact this
    have hk : kk = T.length - 1 := by
      have h1 : kk < T.length := by
        have := D.at_
        exact (List.getElem?_eq_some_iff.1 this).1
      rcases Nat.lt_or_ge kk (T.length - 1) with h2 | h2
      · rw [hM] at h2
        obtain ⟨i, x, hx, hmk, hci⟩ := cnt_hit _ h2
        have hi : i < l.length := by rw [← hGl]; exact (List.getElem?_eq_some_iff.1 hx).1
        have := (D.maks i x hx hmk).1 (hall' i hi)
        rw [hnum i x hx] at this; omega
      · omega
    have hst : st = st' := by
      have := D.at_
      rw [hk] at this
      rw [List.getLast?_eq_getElem?] at hlast
      rw [hlast] at this; exact (Option.some.inj this).symm
    subst hst
    exact ⟨hok, k s _ _ D.le D.hold (putAll_ok l G _ D.base fun j o x d hj hx hd => D.vals j x o d hx hj (hall' j (List.getElem?_eq_some_iff.1 hj).1) hd)⟩
  · -- one operation
    rintro listed a w i o ⟨hsz, hok, kk, s, st, D⟩ ho hun hpre
    have hi : i < l.length := (List.getElem?_eq_some_iff.1 ho).1
    have hsz' : i < listed.size := by omega
    have hun' : listed.getD i false = false := by
      rw [Array.getD_eq_getD_getElem?, Array.getElem?_eq_getElem hsz'] at hun ⊢
      exact hun
    have hpre' : ∀ p ∈ preds o, listed.getD p false = true := by
      intro p hp
      obtain ⟨e, he, rfl⟩ := List.mem_map.1 hp
      obtain ⟨h1, h2⟩ := List.mem_filter.1 he
      exact hpre e h1 h2
    obtain ⟨x, hx, g⟩ := hgood i o ho
    have sec := hsec i o x ho hx
    have hdst : dstOk ⟨N, DD⟩ o.dst = true := dst_of (List.all_eq_true.1 c2 o (List.mem_of_getElem? ho))
    have hlo : x.lo ≤ kk := g.lub kk fun p hp y hy => D.lo p y hy (hpre' p hp)
    have henv : EnvOK s x.env (envOf a) := g.env s (envOf a) D.base (fun p hp y q d hy hq hd => D.vals p y q d hy hq (hpre' p hp) hd) (fun q hq hiq d hd b hb => by
      obtain ⟨j, hj⟩ := List.mem_iff_getElem?.1 hq
      refine D.old j q d b hj ?_ hd hb
      cases hjl : listed.getD j false with
      | false => rfl
      | true => rw [D.closed j q hj hjl i hiq] at hun'; cases hun')
    have hkM : kk ≤ T.length - 1 := by have := (List.getElem?_eq_some_iff.1 D.at_).1; omega
    -- what stands behind it
    have next : ∀ (s1 : Sg) (st1 : Stt) (k1 : Nat) (v : Value) (w1 : World), s.le s1 → T[k1]? = some st1 → Hold Γ s1 w0 st1 w1 → Rel s1 x.u v → kk ≤ k1 → x.aft ≤ k1 →
        (∀ j y, G[j]? = some y → y.mak = true → ((listed.setIfInBounds i true).getD j false = true ↔ y.num < k1)) →
        (listed.setIfInBounds i true).size = l.length ∧ Ok ⟨N, DD⟩ (a.put o.dst v) ∧ ∃ k s st, DV Γ s0 w0 N l A (killA A (dsts l)) G T (listed.setIfInBounds i true) (a.put o.dst v) w1 k s st := by
      intro s1 st1 k1 v w1 hle hat hh hrel hk1 haft hmaks
      have he : envOf (a.put o.dst v) = updO (envOf a) o.dst v := envOf_put hok o.dst hdst v
      have old : ∀ t, (∀ d, o.dst = some d → t ≠ d) → envOf (a.put o.dst v) t = envOf a t := by
        intro t ht
        rw [he]
        cases hd : o.dst with
        | none => rfl
        | some d => exact upd_ne _ _ _ _ (ht d hd)
      refine ⟨by simpa using hsz, hok.put _ _, k1, s1, st1, D.le.trans hle, hat, hh, hmaks, ?_, ?_, ?_, ?_, ?_⟩
      · intro j y hy hj
        rw [W.getD_set] at hj
        by_cases e : i = j
        · subst e; rw [hx] at hy; cases hy; exact haft
        · rw [if_neg (fun h => e h.1)] at hj; exact Nat.le_trans (D.lo j y hy hj) hk1
      · intro j y q d hy hq hj hd
        rw [W.getD_set] at hj
        by_cases e : i = j
        · subst e
          rw [hx] at hy; cases hy
          rw [ho] at hq; cases hq
          rw [he, hd, updO, upd_same]; exact hrel
        · rw [if_neg (fun h => e h.1)] at hj
          rw [old d (fun d' hd' e' => by subst e'; exact e (hapart i j o q d ho hq hd' hd))]
          exact Rel.mono hle _ _ (D.vals j y q d hy hq hj hd)
      · intro t b hb
        obtain ⟨hno, _⟩ := killA_get (dsts l) A t b hb
        rw [old t (fun d hd e => by subst e; exact hno (List.mem_filterMap.2 ⟨o, List.mem_of_getElem? ho, hd⟩))]
        exact Rel.mono hle _ _ (D.base t b hb)
      · intro j q d b hq hj hd hb
        rw [W.getD_set] at hj
        by_cases e : i = j
        · subst e
          rw [if_pos ⟨rfl, hsz'⟩] at hj; cases hj
        · rw [if_neg (fun h => e h.1)] at hj
          rw [old d (fun d' hd' e' => by subst e'; exact e (hapart i j o q d ho hq hd' hd))]
          exact Rel.mono hle _ _ (D.old j q d b hq hj hd hb)
      · intro j q hq hj p hp
        rw [W.getD_set] at hj ⊢
        by_cases e : i = j
        · subst e
          rw [ho] at hq; cases hq
          split
          · rfl
          · exact hpre' p hp
        · rw [if_neg (fun h => e h.1)] at hj
          split
          · rfl
          · exact D.closed j q hq hj p hp
    obtain ⟨stn, hstn, hval⟩ := g.val
    have hsure : Sure l.toArray o (envOf a) := Sure.none (hguard i o ho)
    rcases hval with ⟨hmk, haft, hrd⟩ | ⟨hmk, haft, stn', hstn', hop⟩
    · -- a reader
      have hrd' : ∃ qs, evOpG fr P S st x.env o = some (.rd qs x.u) ∧ ∀ p ∈ qs, p := by
        by_cases e : kk = x.num
        · have := D.at_; rw [e, hstn] at this; cases this; exact ⟨_, hrd, sec.ps⟩
        · rcases sec.rd hmk with hM0 | hno | ⟨qs, hrda, hqs⟩
          · have h1 := hnum i x hx
            have h2 : cnt G i ≤ cnt G G.length := cnt_mono G (by have := (List.getElem?_eq_some_iff.1 hx).1; omega)
            omega
          · exact ⟨_, (noMem_opG hno).trans hrd, sec.ps⟩
          · refine rdAt_ok T 0 qs hrda hqs kk st D.at_ (by omega) ?_ (by omega)
            rw [Nat.zero_add]
            refine hiOf_ge hkM l G fun j q y hq hy hmj hij => ?_
            have : ¬ (listed.getD j false = true) := fun hj => by rw [D.closed j q hq hj i hij] at hun'; cases hun'
            have := mt (D.maks j y hy hmj).2 this
            omega
      have maks' : ∀ j y, G[j]? = some y → y.mak = true → ((listed.setIfInBounds i true).getD j false = true ↔ y.num < kk) := by
        intro j y hy hmj
        rw [W.getD_set]
        by_cases e : i = j
        · subst e; rw [hx] at hy; cases hy; rw [hmk] at hmj; cases hmj
        · rw [if_neg (fun h => e h.1)]; exact D.maks j y hy hmj
      obtain ⟨qs, hop, hqs⟩ := hrd'
      rcases evOpG_rd hS D.hold henv hop hqs with ⟨v, hrel, hq⟩ | hmade
      · rcases hq with hq | ⟨f, args, h1, h2⟩
        · exact .inr ⟨hsure, .inl ⟨v, w, (hq w (Ext.refl _ _)).x, next s st kk v w (Sg.le.refl s) D.at_ D.hold hrel (Nat.le_refl _) (by omega) maks'⟩⟩
        · refine .inr ⟨hsure, .inr (.inl ⟨f, args, h1 w (Ext.refl _ _), Fnc.mono (h2 w (Ext.refl _ _)) ?_⟩)⟩
          rintro u w' ⟨rfl, hx'⟩
          exact next s st kk u w' (Sg.le.refl s) D.at_ (D.hold.grow hx') hrel (Nat.le_refl _) (by omega) maks'
      · rcases hmade with ⟨v, w', h1, s', h2, h3, h4⟩ | ⟨f, args, h1, h2⟩
        · exact .inr ⟨hsure, .inl ⟨v, w', h1, next s' st kk v w' h2 D.at_ h3 h4 (Nat.le_refl _) (by omega) maks'⟩⟩
        · refine .inr ⟨hsure, .inr (.inl ⟨f, args, h1, Fnc.mono h2 ?_⟩)⟩
          rintro u w' ⟨s', h2, h3, h4⟩
          exact next s' st kk u w' h2 D.at_ h3 h4 (Nat.le_refl _) (by omega) maks'
    · -- a maker
      have hk : kk = x.num := by
        have h1 : ¬ (x.num < kk) := fun hlt => by rw [(D.maks i x hx hmk).2 hlt] at hun'; cases hun'
        have h2 : x.num ≤ kk := by
          have := sec.mak hmk
          omega
        omega
      have hst : st = stn := by have := D.at_; rw [hk, hstn] at this; exact (Option.some.inj this).symm
      subst hst
      have maks' : ∀ j y, G[j]? = some y → y.mak = true → ((listed.setIfInBounds i true).getD j false = true ↔ y.num < x.num + 1) := by
        intro j y hy hmj
        rw [W.getD_set]
        by_cases e : i = j
        · subst e; rw [hx] at hy; cases hy; simp [hsz']
        · rw [if_neg (fun h => e h.1), D.maks j y hy hmj, hk]
          have e1 := hnum j y hy; have e2 := hnum i x hx
          have e3 := cnt_succ hy; have e4 := cnt_succ hx
          rw [hmj] at e3; rw [hmk] at e4
          simp only [if_true] at e3 e4
          constructor
          · intro hlt; omega
          · intro hlt
            rcases Nat.lt_or_ge j i with hji | hji
            · have := cnt_mono G (show j + 1 ≤ i by omega); omega
            · have := cnt_mono G (show i + 1 ≤ j by omega); omega
      rcases evOp_wr hS D.hold henv (evOpG_wr hop) sec.ps with ⟨v, w', hx1, s', hle, hH', hrel⟩ | ⟨f, args, hx1, hf⟩
      · exact .inr ⟨hsure, .inl ⟨v, w', hx1, next s' stn' (x.num + 1) v w' hle hstn' hH' hrel (by omega) (by omega) maks'⟩⟩
      · refine .inr ⟨hsure, .inr (.inl ⟨f, args, hx1, Fnc.mono hf ?_⟩)⟩
        rintro v w' ⟨s', hle, hH', hrel⟩
        exact next s' stn' (x.num + 1) v w' hle hstn' hH' hrel (by omega) (by omega) maks'
  · -- the beginning
    intro a d hok he
    subst he
    have no : ∀ i, (Array.replicate l.length false).getD i false = false := by
      intro i; rw [Array.getD_eq_getD_getElem?]
      by_cases hi : i < l.length <;> simp [hi]
    refine ⟨by simp, hok, 0, s0, st0, Sg.le.refl s0, hS0, hH.drew d, ?_, ?_, ?_, ?_, ?_, ?_⟩
    · intro i x _ _; rw [no i]; simp
    · intro i x _ hi; rw [no i] at hi; cases hi
    · intro i x o d _ _ hi; rw [no i] at hi; cases hi
    · intro t b hb; exact hE t b (killA_get (dsts l) A t b hb).2
    · intro i o d b _ _ _ hb; exact hE d b hb
    · intro i o _ hi; rw [no i] at hi; cases hi
  · -- what the slots hold
    rintro listed a w ⟨hsz, hok, kk, s, st, D⟩ j o d ho hd hl infs sts hp x hx b hb
    have hp' : pass1 fr P S l.toArray A (killA A (dsts l)) l 0 .nil st0 0 = some (infs, sts) := hp
    rw [hp1] at hp'
    cases hp'
    have := D.vals j x o d hx ho hl hd
    rw [hb] at this
    exact this.v_of
theorem drawn_okV {fr : Bool} {S : Sums} (hS : SumsOK P Γ S) {N : Nat} {DD : List Deferred} {ops : Array Oper} {A A' : AE} {st0 st' : Stt} {ps : Ps} {Nn R : Env → World → Prop} {X : Nat → Env → World → Prop} (h : evDrawn fr P S N ops A st0 = some (ps, A', st')) (hps : ∀ p ∈ ps, p) (s0 : Sg) (E : Env) (w : World)
    (hH : Hold Γ s0 w0 st0 w) (hE : EnvOK s0 A E) (k : ∀ s' E' w', s0.le s' → Hold Γ s' w0 st' w' → EnvOK s' A' E' → Nn E' w') : AnyWP P ro ⟨N, DD⟩ ops.toList ⟨Nn, X, R⟩ E w := (drawn_okF hS h hps s0 E w hH hE k).any
theorem drawn_ok {fr : Bool} (hm : P.follows .mixedOrders = true) {S : Sums} (hS : SumsOK P Γ S) {N id : Nat} {DD : List Deferred} {ops : Array Oper} {A A' : AE} {st0 st' : Stt} {ps : Ps} {Nn R : Env → World → Prop} {X : Nat → Env → World → Prop} (h : evDrawn fr P S N ops A st0 = some (ps, A', st')) (hps : ∀ p ∈ ps, p) (s0 : Sg) (E : Env) (w : World)
    (hH : Hold Γ s0 w0 st0 w) (hE : EnvOK s0 A E) (k : ∀ s' E' w', s0.le s' → Hold Γ s' w0 st' w' → EnvOK s' A' E' → Nn E' w') : WPr ro P ⟨N, DD⟩ (.region id ops true) ⟨Nn, X, R⟩ E w := by
  have := drawn_okV (ro := ro) (X := X) (R := R) (DD := DD) hS h hps s0 E w hH hE k
  exact AnyWP.wp (l := ops.toList) hm this
theorem wanted_shift {l : List Oper} {m : Nat} {o : Oper} {tmps : Array Value} (hg : ∀ g, o.guard = some g → m ≤ g.1) : Region.wanted (shiftO m o) (yielded ((l.drop m).map (shiftO m)).toArray tmps) = Region.wanted o (yielded l.toArray tmps) := by
  unfold Region.wanted
  cases h : o.guard with
  | none => simp [shiftO, h]
  | some g =>
    obtain ⟨j, b⟩ := g
    have hm := hg _ h
    simp only [shiftO, h, Option.map_some]
    congr 1
    unfold yielded
    have : ((((l.drop m).map (shiftO m)).toArray[j - m]?).bind (·.dst)) = ((l.toArray[j]?).bind (·.dst)) := by
      simp only [List.getElem?_toArray, List.getElem?_map, List.getElem?_drop]
      rw [show m + (j - m) = j from by simp only at hm; omega]
      cases l[j]? <;> rfl
    rw [this]
theorem getD_app_left {a b : Array Bool} {i : Nat} {d : Bool} (h : i < a.size) : (a ++ b).getD i d = a.getD i d := by
  rw [Array.getD_eq_getD_getElem?, Array.getD_eq_getD_getElem?, Array.getElem?_append_left h]
theorem getD_app_right {a b : Array Bool} {i : Nat} {d : Bool} (h : a.size ≤ i) : (a ++ b).getD i d = b.getD (i - a.size) d := by
  rw [Array.getD_eq_getD_getElem?, Array.getD_eq_getD_getElem?, Array.getElem?_append_right h]
theorem getD_dflt {a : Array Bool} {i : Nat} {d e : Bool} (h : i < a.size) : a.getD i d = a.getD i e := by
  rw [Array.getD_eq_getD_getElem?, Array.getD_eq_getD_getElem?, Array.getElem?_eq_getElem h]; rfl
theorem getD_rep {n i : Nat} {b d : Bool} (h : i < n) : (Array.replicate n b).getD i d = b := by
  rw [Array.getD_eq_getD_getElem?, Array.getElem?_replicate, if_pos h]; rfl
theorem set_app_left {a b : Array Bool} {i : Nat} {x : Bool} (h : i < a.size) : (a ++ b).setIfInBounds i x = a.setIfInBounds i x ++ b := by
  apply Array.ext_getElem?
  intro j
  rw [Array.getElem?_setIfInBounds, Array.getElem?_append, Array.getElem?_append, Array.getElem?_setIfInBounds, Array.size_setIfInBounds, Array.size_append]
  by_cases hj : i = j
  · subst hj
    rw [if_pos rfl, if_pos (by omega), if_pos h, if_pos rfl, if_pos h]
  · rw [if_neg hj, if_neg hj]
theorem set_app_right {a b : Array Bool} {i : Nat} {x : Bool} (h : a.size ≤ i) : (a ++ b).setIfInBounds i x = a ++ b.setIfInBounds (i - a.size) x := by
  apply Array.ext_getElem?
  intro j
  rw [Array.getElem?_setIfInBounds, Array.getElem?_append, Array.getElem?_append, Array.getElem?_setIfInBounds, Array.size_append]
  by_cases hj : i = j
  · subst hj
    by_cases hb : i < a.size + b.size
    · simp [hb, show ¬ i < a.size by omega, show i - a.size < b.size by omega]
    · simp [hb, show ¬ i < a.size by omega, show ¬ i - a.size < b.size by omega]
  · rw [if_neg hj]
    split
    · rfl
    · rw [if_neg (by omega)]
theorem preds_mem {o : Oper} {p : Nat} (h : p ∈ preds o) : ∃ e ∈ o.after.toList, Region.binds .any e = true ∧ e.on = p := by
  obtain ⟨e, he, h1⟩ := List.mem_map.1 h
  obtain ⟨h2, h3⟩ := List.mem_filter.1 he
  exact ⟨e, h2, h3, h1⟩
/-- a region in two halves, of which the second begins behind the first -/
theorem AnyWP.split {P : Program} {ro : Option Nat} {n : Fsz} {l : List Oper} {m : Nat} {Q : K} {E : Env} {w : World} (hs : splitOk l m = true)
    (h : AnyWP P ro n (l.take m) ⟨fun E w => AnyWP P ro n ((l.drop m).map (shiftO m)) Q E w, Q.ex, Q.ret⟩ E w) : AnyWP P ro n l Q E w := by
  unfold splitOk at hs
  simp only [Bool.and_eq_true] at hs
  obtain ⟨⟨⟨⟨⟨s1, s2⟩, s3⟩, s4⟩, s5⟩, s6⟩ := hs
  have hml := blt_t s1
  have hback : ∀ i o, l[i]? = some o → ∀ p ∈ preds o, p < i := fun i o ho p hp => by have := backOk_ok l 0 s6 i o ho p hp; omega
  have hcov : ∀ i, i < m → ∃ j, i < j ∧ j ≤ m ∧ ∃ o, l[j]? = some o ∧ i ∈ preds o := by
    intro i hi
    have := List.all_eq_true.1 s2 i (List.mem_range.2 hi)
    obtain ⟨j, hj, h2⟩ := List.any_eq_true.1 this
    simp only [Bool.and_eq_true] at h2
    refine ⟨j, blt_t h2.1, by have := List.mem_range.1 hj; omega, ?_⟩
    have h3 := h2.2
    split at h3
    · rename_i o ho; exact ⟨o, ho, by simpa using h3⟩
    · cases h3
  have htail : ∀ j o, m < j → l[j]? = some o → ∃ p ∈ preds o, m ≤ p := by
    intro j o hj ho
    have := List.all_eq_true.1 s3 j (List.mem_range.2 (List.getElem?_eq_some_iff.1 ho).1)
    simp only [Bool.or_eq_true, ho] at this
    rcases this with h1 | h1
    · have := ble_t h1; omega
    · obtain ⟨p, hp, h2⟩ := List.any_eq_true.1 h1
      exact ⟨p, hp, ble_t h2⟩
  have hgd : ∀ j o, m ≤ j → l[j]? = some o → ∀ g, o.guard = some g → m ≤ g.1 := by
    intro j o hj ho g hg
    have hmem : o ∈ l.drop m := List.mem_of_getElem? (i := j - m) (by rw [List.getElem?_drop, show m + (j - m) = j from by omega]; exact ho)
    have := List.all_eq_true.1 s4 o hmem
    rw [hg] at this
    exact ble_t this
  have hg0 : ∀ j o, j < m → l[j]? = some o → o.guard = none := by
    intro j o hj ho
    have hmem : o ∈ l.take m := List.mem_of_getElem? (i := j) (by rw [List.getElem?_take, if_pos hj]; exact ho)
    have := List.all_eq_true.1 s5 o hmem
    cases hg : o.guard with
    | none => rfl
    | some g => rw [hg] at this; cases this
  have hlen1 : (l.take m).length = m := by rw [List.length_take]; omega
  have hlen2 : ((l.drop m).map (shiftO m)).length = l.length - m := by rw [List.length_map, List.length_drop]
  have hget2 : ∀ i, ((l.drop m).map (shiftO m))[i]? = (l[m + i]?).map (shiftO m) := fun i => by rw [List.getElem?_map, List.getElem?_drop]
  obtain ⟨V1, z1, f1, t1, i1⟩ := h
  let cl (L1 : Array Bool) : Prop := ∀ i o, l[i]? = some o → i < m → L1.getD i false = true → ∀ p ∈ preds o, L1.getD p false = true
  let VB (listed : Array Bool) (a : Act) (w : World) : Prop := ∃ V2 : Array Bool → Act → World → Prop,
    ((∀ listed a w, V2 listed a w → listed.size = ((l.drop m).map (shiftO m)).length) ∧
    (∀ listed a w, V2 listed a w → Region.ready .any ((l.drop m).map (shiftO m)).toArray listed = [] → lift n Q .normal a w) ∧
    (∀ listed a w i o, V2 listed a w → ((l.drop m).map (shiftO m))[i]? = some o → listed.getD i true = false → (∀ e ∈ o.after.toList, Region.binds .any e = true → listed.getD e.on false = true) →
      (Shut ((l.drop m).map (shiftO m)).toArray o (envOf a) ∧ V2 (listed.setIfInBounds i true) (a.put o.dst undef) w) ∨ (Sure ((l.drop m).map (shiftO m)).toArray o (envOf a) ∧
        ((∃ v w', OpX P o (envOf a) w v w' ∧ V2 (listed.setIfInBounds i true) (a.put o.dst v) w') ∨ (∃ f args, OpC P o (envOf a) w f args ∧ Fnc P f args w fun v w' => V2 (listed.setIfInBounds i true) (a.put o.dst v) w') ∨
          (∃ b f tmps asg body, (execOp (ev (envOf a)) o).run P w = .ok (.round b f tmps asg body) w ∧ RoundIn (Fr ro) 0 P b f tmps asg body w fun e w' => ∃ v, e = .returned v ∧ V2 (listed.setIfInBounds i true) (a.put o.dst v) w'))))) ∧
    ∃ L2, listed = Array.replicate m true ++ L2 ∧ V2 L2 a w
  let VA (listed : Array Bool) (a : Act) (w : World) : Prop := ∃ L1, listed = L1 ++ Array.replicate (l.length - m) false ∧ cl L1 ∧ V1 L1 a w
  have toB : ∀ {listed a w}, VA listed a w → (∀ i, i < m → listed.getD i false = true) → VB listed a w := by
    rintro listed a w ⟨L1, rfl, hcl, hV⟩ hall
    have hsz : L1.size = m := (z1 _ _ _ hV).trans hlen1
    have hL1 : L1 = Array.replicate m true := by
      apply Array.ext
      · rw [hsz, Array.size_replicate]
      · intro i h1 h2
        have := hall i (by omega)
        rw [getD_app_left h1, Array.getD_eq_getD_getElem?, Array.getElem?_eq_getElem h1] at this
        rw [Array.getElem_replicate]; simpa using this
    have hnil : Region.ready .any (l.take m).toArray L1 = [] := by
      rw [List.eq_nil_iff_forall_not_mem]
      intro i hi
      obtain ⟨h1, h2, _⟩ := W.mem_ready.1 hi
      rw [hL1, getD_rep (by simpa [hlen1] using h1)] at h2
      cases h2
    have hl := f1 _ _ _ hV hnil
    obtain ⟨hok, V2, z2, f2, t2, i2⟩ := hl
    refine ⟨V2, ⟨z2, f2, t2⟩, Array.replicate (l.length - m) false, by rw [hL1], ?_⟩
    have := i2 a w.drawn hok rfl
    rw [hlen2] at this
    exact this
  have stepB : ∀ {listed a w i o}, VB listed a w → l[i]? = some o → listed.getD i true = false → (∀ e ∈ o.after.toList, Region.binds .any e = true → listed.getD e.on false = true) →
      (Shut l.toArray o (envOf a) ∧ VB (listed.setIfInBounds i true) (a.put o.dst undef) w) ∨ (Sure l.toArray o (envOf a) ∧
        ((∃ v w', OpX P o (envOf a) w v w' ∧ VB (listed.setIfInBounds i true) (a.put o.dst v) w') ∨ (∃ f args, OpC P o (envOf a) w f args ∧ Fnc P f args w fun v w' => VB (listed.setIfInBounds i true) (a.put o.dst v) w') ∨
          (∃ b f tmps asg body, (execOp (ev (envOf a)) o).run P w = .ok (.round b f tmps asg body) w ∧ RoundIn (Fr ro) 0 P b f tmps asg body w fun e w' => ∃ v, e = .returned v ∧ VB (listed.setIfInBounds i true) (a.put o.dst v) w'))) := by
    rintro listed a w i o ⟨V2, ⟨z2, f2, t2⟩, L2, rfl, hV⟩ ho hun hpre
    have hr : (Array.replicate m true).size = m := Array.size_replicate
    have him : m ≤ i := by
      rcases Nat.lt_or_ge i m with h1 | h1
      · rw [getD_app_left (by rw [hr]; exact h1), getD_rep h1] at hun; cases hun
      · exact h1
    have hset : (Array.replicate m true ++ L2).setIfInBounds i true = Array.replicate m true ++ L2.setIfInBounds (i - m) true := by
      rw [set_app_right (by rw [hr]; exact him), hr]
    have ho2 : ((l.drop m).map (shiftO m))[i - m]? = some (shiftO m o) := by
      rw [hget2, show m + (i - m) = i from by omega, ho]; rfl
    have hgo := hgd i o him ho
    have hpre2 : ∀ e ∈ (shiftO m o).after.toList, Region.binds .any e = true → L2.getD e.on false = true := by
      intro e he hb
      simp only [shiftO, List.mem_map, List.mem_filter] at he
      obtain ⟨e0, ⟨h1, h2⟩, rfl⟩ := he
      have h2 := ble_t h2
      have := hpre e0 h1 hb
      rw [getD_app_right (by rw [hr]; exact h2), hr] at this
      exact this
    rw [getD_app_right (by rw [hr]; exact him), hr] at hun
    rcases t2 L2 a w (i - m) (shiftO m o) hV ho2 hun hpre2 with ⟨k1, k2⟩ | ⟨k1, k2⟩
    · exact .inl ⟨fun tmps ht => by rw [← wanted_shift hgo]; exact k1 tmps ht, V2, ⟨z2, f2, t2⟩, _, hset, k2⟩
    · refine .inr ⟨fun tmps ht => by rw [← wanted_shift hgo]; exact k1 tmps ht, ?_⟩
      rcases k2 with ⟨v, w', g1, g2⟩ | ⟨f, args, g1, g2⟩ | ⟨b, f, tmps, asg, body, g1, g2⟩
      · exact .inl ⟨v, w', g1, V2, ⟨z2, f2, t2⟩, _, hset, g2⟩
      · exact .inr (.inl ⟨f, args, g1, Fnc.mono g2 fun v w' g => ⟨V2, ⟨z2, f2, t2⟩, _, hset, g⟩⟩)
      · refine .inr (.inr ⟨b, f, tmps, asg, body, g1, RoundIn.mono g2 ?_⟩)
        rintro e w' ⟨v, e1, g⟩
        exact ⟨v, e1, V2, ⟨z2, f2, t2⟩, _, hset, g⟩
  refine ⟨fun listed a w => VA listed a w ∨ VB listed a w, ?_, ?_, ?_, ?_⟩
  · rintro listed a w (⟨L1, rfl, hcl, hV⟩ | ⟨V2, ⟨z2, _⟩, L2, rfl, hV⟩)
    · rw [Array.size_append, Array.size_replicate, z1 _ _ _ hV, hlen1]; omega
    · rw [Array.size_append, Array.size_replicate, z2 _ _ _ hV, hlen2]; omega
  · intro listed a w hV hr
    have hsz : listed.size = l.length := by
      rcases hV with ⟨L1, rfl, hcl, hV⟩ | ⟨V2, ⟨z2, _⟩, L2, rfl, hV⟩
      · rw [Array.size_append, Array.size_replicate, z1 _ _ _ hV, hlen1]; omega
      · rw [Array.size_append, Array.size_replicate, z2 _ _ _ hV, hlen2]; omega
    have hall := all_listed' hsz hback hr
    have hVB : VB listed a w := by
      rcases hV with hV | hV
      · exact toB hV fun i hi => by rw [getD_dflt (e := true) (by omega)]; exact hall i (by omega)
      · exact hV
    obtain ⟨V2, ⟨z2, f2, t2⟩, L2, rfl, hV2⟩ := hVB
    refine f2 _ _ _ hV2 ?_
    rw [List.eq_nil_iff_forall_not_mem]
    intro i hi
    obtain ⟨h1, h2, _⟩ := W.mem_ready.1 hi
    have h1' : i < l.length - m := by rw [← hlen2]; simpa using h1
    have := hall (m + i) (by omega)
    rw [getD_app_right (by rw [Array.size_replicate]; omega), Array.size_replicate, show m + i - m = i from by omega, h2] at this
    cases this
  · intro listed a w i o hV ho hun hpre
    rcases hV with hV | hV
    · have hV' := hV
      obtain ⟨L1, rfl, hcl, hV1⟩ := hV
      have hsz : L1.size = m := (z1 _ _ _ hV1).trans hlen1
      by_cases him : i < m
      · have ho1 : (l.take m)[i]? = some o := by rw [List.getElem?_take, if_pos him]; exact ho
        have hun1 : L1.getD i true = false := by rwa [getD_app_left (by omega)] at hun
        have hpre1 : ∀ e ∈ o.after.toList, Region.binds .any e = true → L1.getD e.on false = true := by
          intro e he hb
          have hlt := hback i o ho e.on (List.mem_map.2 ⟨e, List.mem_filter.2 ⟨he, hb⟩, rfl⟩)
          have := hpre e he hb
          rwa [getD_app_left (by omega)] at this
        have hset : (L1 ++ Array.replicate (l.length - m) false).setIfInBounds i true = L1.setIfInBounds i true ++ Array.replicate (l.length - m) false := set_app_left (by omega)
        have hcl' : cl (L1.setIfInBounds i true) := by
          intro j q hq hj hjl p hp
          have hpj := hback j q hq p hp
          rw [Array.getD_eq_getD_getElem?, Array.getElem?_setIfInBounds] at hjl ⊢
          by_cases hip : i = p
          · rw [if_pos hip, if_pos (by omega)]; rfl
          · rw [if_neg hip]
            by_cases hij : i = j
            · subst hij
              rw [ho] at hq; cases hq
              obtain ⟨e, he, hb, rfl⟩ := preds_mem hp
              have := hpre1 e he hb
              rwa [Array.getD_eq_getD_getElem?] at this
            · rw [if_neg hij] at hjl
              have := hcl j q hq hj (by rw [Array.getD_eq_getD_getElem?]; exact hjl) p hp
              rwa [Array.getD_eq_getD_getElem?] at this
        have hno := hg0 i o him ho
        have hsure : ∀ {E : Env}, Sure l.toArray o E := Sure.none hno
        rcases t1 L1 a w i o hV1 ho1 hun1 hpre1 with ⟨k1, k2⟩ | ⟨k1, k2⟩
        · have := k1 a.tmps rfl
          simp [Region.wanted, hno] at this
        · refine .inr ⟨hsure, ?_⟩
          rcases k2 with ⟨v, w', g1, g2⟩ | ⟨f, args, g1, g2⟩ | ⟨b, f, tmps, asg, body, g1, g2⟩
          · exact .inl ⟨v, w', g1, .inl ⟨_, hset, hcl', g2⟩⟩
          · exact .inr (.inl ⟨f, args, g1, Fnc.mono g2 fun v w' g => .inl ⟨_, hset, hcl', g⟩⟩)
          · refine .inr (.inr ⟨b, f, tmps, asg, body, g1, RoundIn.mono g2 ?_⟩)
            rintro e w' ⟨v, e1, g⟩
            exact ⟨v, e1, .inl ⟨_, hset, hcl', g⟩⟩
      · have hr : (Array.replicate (l.length - m) false : Array Bool).size = l.length - m := Array.size_replicate
        have hil : i < l.length := (List.getElem?_eq_some_iff.1 ho).1
        have him' : i = m := by
          rcases Nat.lt_or_ge m i with h1 | h1
          · obtain ⟨p, hp, hmp⟩ := htail i o h1 ho
            obtain ⟨e, he, hb, rfl⟩ := preds_mem hp
            have h2 := hpre e he hb
            have h3 := hback i o ho e.on hp
            rw [getD_app_right (by omega), getD_rep (by omega)] at h2
            cases h2
          · omega
        subst him'
        have hall : ∀ k, k ≤ i → ∀ j, j < i → i - k ≤ j → L1.getD j false = true := by
          intro k
          induction k with
          | zero => intro _ j h1 h2; omega
          | succ k ih =>
            intro hk j h1 h2
            obtain ⟨j', h3, h4, q, hq, hmem⟩ := hcov j h1
            rcases Nat.lt_or_ge j' i with h5 | h5
            · exact hcl j' q hq h5 (ih (by omega) j' h5 (by omega)) j hmem
            · have : j' = i := by omega
              subst this
              rw [ho] at hq; cases hq
              obtain ⟨e, he, hb, rfl⟩ := preds_mem hmem
              have := hpre e he hb
              rwa [getD_app_left (by omega)] at this
        have hB := toB hV' fun j hj => by rw [getD_app_left (by omega)]; exact hall i (Nat.le_refl _) j hj (by omega)
        rcases stepB hB ho hun hpre with ⟨k1, k2⟩ | ⟨k1, k2⟩
        · exact .inl ⟨k1, .inr k2⟩
        · refine .inr ⟨k1, ?_⟩
          rcases k2 with ⟨v, w', g1, g2⟩ | ⟨f, args, g1, g2⟩ | ⟨b, f, tmps, asg, body, g1, g2⟩
          · exact .inl ⟨v, w', g1, .inr g2⟩
          · exact .inr (.inl ⟨f, args, g1, Fnc.mono g2 fun v w' g => .inr g⟩)
          · refine .inr (.inr ⟨b, f, tmps, asg, body, g1, RoundIn.mono g2 ?_⟩)
            rintro e w' ⟨v, e1, g⟩
            exact ⟨v, e1, .inr g⟩
    · rcases stepB hV ho hun hpre with ⟨k1, k2⟩ | ⟨k1, k2⟩
      · exact .inl ⟨k1, .inr k2⟩
      · refine .inr ⟨k1, ?_⟩
        rcases k2 with ⟨v, w', g1, g2⟩ | ⟨f, args, g1, g2⟩ | ⟨b, f, tmps, asg, body, g1, g2⟩
        · exact .inl ⟨v, w', g1, .inr g2⟩
        · exact .inr (.inl ⟨f, args, g1, Fnc.mono g2 fun v w' g => .inr g⟩)
        · refine .inr (.inr ⟨b, f, tmps, asg, body, g1, RoundIn.mono g2 ?_⟩)
          rintro e w' ⟨v, e1, g⟩
          exact ⟨v, e1, .inr g⟩
  · intro a d ha he
    refine .inl ⟨Array.replicate m false, ?_, ?_, ?_⟩
    · apply Array.ext_getElem?
      intro i
      rw [Array.getElem?_append, Array.getElem?_replicate, Array.getElem?_replicate, Array.getElem?_replicate, Array.size_replicate]
      by_cases h1 : i < m
      · rw [if_pos (by omega), if_pos h1, if_pos h1]
      · rw [if_neg h1]
        by_cases h2 : i < l.length
        · rw [if_pos h2, if_pos (by omega)]
        · rw [if_neg h2, if_neg (by omega)]
    · intro i o ho hi hl
      rw [getD_rep hi] at hl; cases hl
    · have := i1 a d ha he
      rwa [hlen1] at this
theorem gobl_ok {l : List Oper} {infs : List Inf} : ∀ {r : List Oper} {gs : Ps}, gobl l infs r = some gs → (∀ p ∈ gs, p) → ∀ o ∈ r, ∀ g, o.guard = some g → g.1 ∈ preds o ∧ ∃ q d x, l[g.1]? = some q ∧ q.dst = some d ∧ infs[g.1]? = some x ∧ x.u = .v (.bool g.2)
  | [], _, _, _, o, ho, _, _ => by simp at ho
  | p :: r, gs, h, hp, o, ho, g, hg => by
    simp only [gobl] at h
    split at h
    · rename_i hn
      rcases List.mem_cons.1 ho with rfl | ho
      · rw [hn] at hg; cases hg
      · exact gobl_ok h hp o ho g hg
    · rename_i j want hw
      split at h
      case h_2 => cases h
      rename_i x d ps hx hd hr
      split at h
      case h_2 => cases h
      rename_i b hb
      cases hc : (preds p).contains j with
      | false => rw [hc] at h; cases h
      | true =>
      rw [hc] at h
      cases h
      rcases List.mem_cons.1 ho with rfl | ho
      · rw [hw] at hg; cases hg
        have hbw : b = want := hp _ (List.mem_cons_self ..)
        subst hbw
        obtain ⟨q, hq, hqd⟩ := Option.bind_eq_some_iff.1 hd
        exact ⟨by simpa using hc, q, d, x, hq, hqd, hx, hb⟩
      · exact gobl_ok hr (fun p hpp => hp p (List.mem_cons_of_mem _ hpp)) o ho g hg
/-- a region whose guards let all run -/
theorem AnyWPf.unguard {P : Program} {ro : Option Nat} {n : Fsz} {l : List Oper} {F : Nat → Value → Prop} {Q : K} {E : Env} {w : World} (h : AnyWPf P ro n (l.map stripO) F Q E w)
    (hg : ∀ o ∈ l, ∀ g, o.guard = some g → g.1 ∈ preds o ∧ ∃ q d, l[g.1]? = some q ∧ q.dst = some d ∧ ∀ v, F g.1 v → v = .bool g.2) : AnyWP P ro n l Q E w := by
  obtain ⟨V, h1, h2, h3, h4, h5⟩ := h
  have hget : ∀ i, (l.map stripO)[i]? = (l[i]?).map stripO := fun i => List.getElem?_map ..
  refine ⟨V, fun listed a w hV => by rw [h1 _ _ _ hV, List.length_map], fun listed a w hV hr => h2 _ _ _ hV ?_, ?_, fun a d ha he => by have := h4 a d ha he; rwa [List.length_map] at this⟩
  · rw [List.eq_nil_iff_forall_not_mem] at hr ⊢
    intro i hi
    obtain ⟨g1, g2, o, g3, g4⟩ := W.mem_ready.1 hi
    have g3' : (l[i]?).map stripO = some o := by rw [← hget]; simpa using g3
    obtain ⟨o', e1, rfl⟩ := Option.map_eq_some_iff.1 g3'
    exact hr i (W.mem_ready.2 ⟨by simpa using g1, g2, o', by simpa using e1, g4⟩)
  · intro listed a w i o hV ho hun hpre
    have ho' : (l.map stripO)[i]? = some (stripO o) := by rw [hget, ho]; rfl
    have hsure : Sure l.toArray o (envOf a) := by
      cases hgd : o.guard with
      | none => exact Sure.none hgd
      | some g =>
        obtain ⟨k1, q, d, k2, k3, k4⟩ := hg o (List.mem_of_getElem? ho) g hgd
        obtain ⟨e, he, hb, hon⟩ := preds_mem k1
        have hl := hpre e he hb
        rw [hon] at hl
        have hv := k4 _ (h5 listed a w hV g.1 (stripO q) d (by rw [hget, k2]; rfl) k3 hl)
        intro tmps ht
        have hy : yielded l.toArray tmps g.1 = some g.2 := yielded_of (g := d) (by simp [k2, k3]) hv tmps ht
        simp [Region.wanted, hgd, hy]
    rcases h3 listed a w i (stripO o) hV ho' hun hpre with ⟨k1, _⟩ | ⟨_, k2⟩
    · have := k1 a.tmps rfl
      simp [Region.wanted, stripO] at this
    · refine .inr ⟨hsure, ?_⟩
      rcases k2 with ⟨v, w', g1, g2⟩ | ⟨f, args, g1, g2⟩ | ⟨b, f, tmps, asg, body, g1, g2⟩
      · exact .inl ⟨v, w', g1, g2⟩
      · exact .inr (.inl ⟨f, args, g1, g2⟩)
      · exact .inr (.inr ⟨b, f, tmps, asg, body, g1, g2⟩)
theorem force_ok (hm : P.follows .mixedOrders = true) {S : Sums} (hS : SumsOK P Γ S) {N id : Nat} {DD : List Deferred} {ops : Array Oper} {A A' : AE} {st0 st' : Stt} {gs ps : Ps} {Nn R : Env → World → Prop} {X : Nat → Env → World → Prop} (h : evForce P S N ops A st0 = some (gs, ps, A', st')) (hgs : ∀ p ∈ gs, p) (hps : ∀ p ∈ ps, p) (s0 : Sg) (E : Env) (w : World)
    (hH : Hold Γ s0 w0 st0 w) (hE : EnvOK s0 A E) (k : ∀ s' E' w', s0.le s' → Hold Γ s' w0 st' w' → EnvOK s' A' E' → Nn E' w') : WPr ro P ⟨N, DD⟩ (.region id ops true) ⟨Nn, X, R⟩ E w := by
  obtain ⟨l⟩ := ops
  unfold evForce at h
  split at h
  case h_2 => cases h
  rename_i ps1 A1 st1 hd
  split at h
  case h_2 => cases h
  rename_i infs sts hp1
  split at h
  case h_2 => cases h
  rename_i gs1 hgo
  cases h
  have hF := drawn_okF (ro := ro) (X := X) (R := R) (DD := DD) hS hd hps s0 E w hH hE k
  refine AnyWP.wp hm (AnyWPf.unguard hF fun o ho g hg => ?_)
  obtain ⟨k1, q, d, x, k2, k3, k4, k5⟩ := gobl_ok hgo hgs o ho g hg
  exact ⟨k1, q, d, k2, k3, fun v hv => hv infs sts hp1 x k4 g.2 k5⟩
end
end Go.Proofs.YtnhfkdgambncfaaGreatDoor.Sv
namespace Go.Proofs.YtnhfkdgambncfaaGreatDoor.Sv
open Go.RowKit Go.Proofs.YtnhfkdgambncfaaGreatDoor.W
variable {Γ : Gl}

/-! ### What stands below the uppermost layer stays -/
def Suf {α : Type} (H L : Ly α) : Prop := ∃ T tl Ls T', H = T :: tl ∧ L = Ls ++ T' :: tl
theorem Suf.refl {α : Type} {H : Ly α} (h : H ≠ []) : Suf H H := by
  cases H with
  | nil => exact absurd rfl h
  | cons T tl => exact ⟨T, tl, [], T, rfl, rfl⟩
theorem Suf.ne {α : Type} {H L : Ly α} (h : Suf H L) : L ≠ [] := by
  obtain ⟨T, tl, Ls, T', rfl, rfl⟩ := h
  simp
theorem Suf.set {α : Type} {H L : Ly α} (h : Suf H L) (k : Nat) (x : Option α) : Suf H (L.set k x) := by
  obtain ⟨T, tl, Ls, T', rfl, rfl⟩ := h
  unfold Ly.set
  cases Nat.blt k 1000000 with
  | false => exact ⟨T, tl, Ls, T', rfl, rfl⟩
  | true =>
    simp only [cond_true]
    cases Ls with
    | nil => exact ⟨T, tl, [], _, rfl, rfl⟩
    | cons a r => exact ⟨T, tl, _ :: r, T', rfl, rfl⟩
theorem Suf.trans {α : Type} {A B C : Ly α} (h : Suf A B) (k : Suf B C) : Suf A C := by
  obtain ⟨T, tl, Ls, T', rfl, rfl⟩ := h
  obtain ⟨U, ul, Ms, U', e, rfl⟩ := k
  cases Ls with
  | nil => simp only [List.nil_append, List.cons.injEq] at e; obtain ⟨rfl, rfl⟩ := e; exact ⟨T, _, Ms, U', rfl, rfl⟩
  | cons a r =>
    simp only [List.cons_append, List.cons.injEq] at e
    obtain ⟨rfl, rfl⟩ := e
    exact ⟨T, tl, Ms ++ U' :: r, T', rfl, by simp⟩
theorem Suf.head {α : Type} {A : Ly α} (h : A ≠ []) (a b : Tr (Option α)) : Suf A (a :: b :: A) := by
  cases A with
  | nil => exact absurd rfl h
  | cons T tl => exact ⟨T, tl, [a, b], T, rfl, rfl⟩
def SufS (st st' : Stt) : Prop := Suf st.h st'.h ∧ st.nx ≤ st'.nx
theorem SufS.refl {st : Stt} (h : st.h ≠ []) : SufS st st := ⟨Suf.refl h, Nat.le_refl _⟩
theorem SufS.trans {a b c : Stt} (h : SufS a b) (k : SufS b c) : SufS a c := ⟨h.1.trans k.1, Nat.le_trans h.2 k.2⟩
theorem SufS.new {a b : Stt} (h : SufS a b) (x : AX) : SufS a (newX b x) := ⟨h.1.set _ _, Nat.le_trans h.2 (Nat.le_succ _)⟩
theorem SufS.setx {a b : Stt} (h : SufS a b) (l : Nat) (x : AX) : SufS a (setX b l x) := ⟨h.1.set _ _, h.2⟩
theorem SufS.del {a b : Stt} (h : SufS a b) (l : Nat) : SufS a (delX b l) := ⟨h.1.set _ _, h.2⟩
theorem suf_put {H A : AE} (h : Suf H A) (d : Option Nat) (a : AV) : Suf H (putA A d a) := by
  cases d with
  | none => exact h
  | some d => exact h.set _ _
theorem suf_kill {H : AE} : ∀ (ds : List Nat) {A : AE}, Suf H A → Suf H (killA A ds)
  | [], _, h => h
  | d :: r, _, h => suf_kill r (h.set d none)
theorem suf_freeze {st0 st st' : Stt} {a a' : AV} (h : freeze st a = some (a', st')) (hs : SufS st0 st) : SufS st0 st' := by
  cases a <;> simp only [freeze] at h <;> first
    | (simp only [Option.some.injEq, Prod.mk.injEq] at h; obtain ⟨_, rfl⟩ := h; exact hs)
    | (split at h
       · cases h; exact hs.del _
       · cases h)
theorem suf_freezeL : ∀ {cs cs' : List AV} {st0 st st' : Stt}, freezeL st cs = some (cs', st') → SufS st0 st → SufS st0 st'
  | [], _, _, _, _, h, hs => by simp only [freezeL, Option.some.injEq, Prod.mk.injEq] at h; obtain ⟨_, rfl⟩ := h; exact hs
  | a :: r, _, _, _, _, h, hs => by
    simp only [freezeL] at h
    split at h
    · rename_i h1
      split at h
      · rename_i h2; cases h; exact suf_freezeL h2 (suf_freeze h1 hs)
      · cases h
    · cases h
theorem suf_src {st0 st st' : Stt} {dt : DT} {y : AV} {ys : List D} (h : srcD st dt y = some (ys, st')) (hs : SufS st0 st) : SufS st0 st' := by
  unfold srcD at h
  split at h
  · cases h; exact hs
  · cases h; exact hs
  · split at h
    case h_2 => cases h
    revert h
    cases Nat.beq _ _ with
    | false => intro h; cases h
    | true =>
      intro h
      simp only [cond_true] at h
      split at h
      case h_2 => cases h
      rename_i hf
      split at h
      case h_2 => cases h
      cases h
      exact suf_freezeL hf hs
  · revert h
    cases (DT.beq _ _ && (_ || _)) with
    | false => intro h; cases h
    | true => intro h; cases h; exact hs
  · split at h
    case h_2 => cases h
    revert h
    cases DT.beq _ _ with
    | false => intro h; cases h
    | true => intro h; cases h; exact hs
  · split at h
    case h_2 => cases h
    revert h
    cases (DT.beq _ _ && Nat.beq _ _) with
    | false => intro h; cases h
    | true => intro h; cases h; exact hs
  · cases h
theorem suf_row {P : Program} {st : Stt} {e len sz : Nat} {cs : List AV} (h0 : SufS st st) : SufS st (newRowA P st e len sz cs).2 := by
  unfold newRowA
  split
  · cases Nat.beq _ _ with
    | false => exact h0.new _
    | true =>
      simp only [cond_true]
      split
      · exact h0.new _
      · exact h0.new _
  · exact h0.new _
theorem suf_wr {P : Program} {st st' : Stt} {A : AE} {op : Op} {ps : Ps} {a : AV} (h : evWrS P st A op = some (ps, a, st')) (hn : st.h ≠ []) : SufS st st' := by
  have h0 := SufS.refl hn
  unfold evWrS at h
  split at h
  · split at h
    case h_2 => cases h
    split at h
    case h_2 => cases h
    revert h
    cases (Nat.ble _ 1024 && Nat.beq _ _ && Nat.ble 1 _) with
    | false => intro h; cases h
    | true =>
      intro h
      simp only [cond_true] at h
      split at h
      case h_2 => cases h
      cases h; exact suf_row h0
  · split at h
    case h_2 => cases h
    cases h
    unfold newArrA
    split
    · exact h0.new _
    · exact h0.new _
  · split at h
    case h_2 => cases h
    split at h
    case h_2 => cases h
    revert h
    cases (Nat.ble 1 _ && Nat.beq _ _ && Nat.beq _ _ && List.all _ _) with
    | false => intro h; cases h
    | true =>
      intro h
      simp only [cond_true] at h
      split at h
      case h_2 => cases h
      cases h; exact h0.new _
  · split at h
    case h_2 => cases h
    cases h; exact h0.new _
  · split at h
    case h_2 => cases h
    split at h
    case h_2 => cases h
    rename_i hst
    cases h
    unfold evStore at hst
    split at hst
    · split at hst
      case h_2 => cases hst
      revert hst
      cases (Nat.beq _ _ && Nat.ble _ _ && List.all _ _) with
      | false => intro h; cases h
      | true => intro h; cases h; exact h0.setx _ _
    · split at hst
      case h_2 => cases hst
      rename_i hf
      split at hst
      case h_2 => cases hst
      revert hst
      cases (Nat.beq _ _ && Nat.beq _ _ && pathIs _ _ _ _) with
      | false => intro h; cases h
      | true =>
        intro h
        simp only [cond_true] at h
        split at h
        case h_2 => cases h
        cases h; exact (suf_freezeL hf h0).setx _ _
    · cases hst
  · split at h
    case h_2 => cases h
    split at h
    case h_2 => cases h
    revert h
    cases Nat.beq _ _ with
    | false => intro h; cases h
    | true =>
      intro h
      simp only [cond_true] at h
      unfold evAppend at h
      split at h
      case h_2 => cases h
      split at h
      case h_2 => cases h
      revert h
      cases (Nat.ble 1 _ && Nat.beq _ _ && Nat.beq _ _ && List.all _ _) with
      | false => intro h; cases h
      | true =>
        intro h
        simp only [cond_true] at h
        split at h
        case h_2 => cases h
        rename_i hs
        have h1 := suf_src hs h0
        split at h
        · cases h; exact h1.new _
        · cases h; exact h1.new _
        · split at h
          case h_2 => cases h
          revert h
          cases (Nat.beq _ _ && DT.beq _ _) with
          | false => intro h; cases h
          | true => intro h; cases h; exact (h1.del _).new _
        · split at h
          case h_2 => cases h
          revert h
          cases (Nat.beq _ _ && DT.beq _ _) with
          | false => intro h; cases h
          | true => intro h; cases h; exact (h1.del _).new _
        · cases h
  · split at h
    case h_2 => cases h
    split at h
    case h_2 => cases h
    split at h
    case h_2 => cases h
    revert h
    cases (Nat.beq _ _ && Nat.beq _ _ && Nat.ble 1 _ && List.all _ _) with
    | false => intro h; cases h
    | true =>
      intro h
      simp only [cond_true] at h
      split at h
      case h_2 => cases h
      cases h; exact h0.setx _ _
  · split at h
    case h_2 => cases h
    split at h
    case h_2 => cases h
    cases h; exact h0
  · split at h
    case h_2 => cases h
    split at h
    case h_2 => cases h
    revert h
    cases keyT _ _ _ with
    | false => intro h; cases h
    | true => intro h; cases h; exact h0.new _
  · split at h
    case h_2 => cases h
    split at h
    case h_2 => cases h
    rename_i hf
    split at h
    case h_2 => cases h
    split at h
    case h_2 => cases h
    revert h
    cases keyT _ _ _ with
    | false => intro h; cases h
    | true => intro h; cases h; exact (suf_freeze hf h0).setx _ _
  · split at h
    case h_2 => cases h
    split at h
    case h_2 => cases h
    split at h
    case h_2 => cases h
    split at h
    case h_2 => cases h
    revert h
    cases keyT _ _ _ with
    | false => intro h; cases h
    | true => intro h; cases h; exact h0.setx _ _
  · split at h
    case h_2 => cases h
    split at h
    case h_2 => cases h
    cases h; exact h0.new _
  · cases h
theorem suf_boxes : ∀ (ks : List AK) (ls : List Nat) (es : List D) {st0 st : Stt}, SufS st0 st → SufS st0 (setBoxes st ks ls es)
  | [], _, _, _, _, h => by simpa [setBoxes] using h
  | .d _ _ :: r, ls, es, _, _, h => by simp only [setBoxes]; exact suf_boxes r ls es h
  | .p _ :: r, ls, es, _, _, h => by simp only [setBoxes]; exact suf_boxes r ls es h
  | .o _ _ _ :: r, ls, es, _, _, h => by simpa [setBoxes] using h
  | .box _ _ :: r, [], _, _, _, h => by simpa [setBoxes] using h
  | .box _ _ :: r, l :: ls, es, _, _, h => by simp only [setBoxes]; exact suf_boxes r ls _ (h.setx _ _)
mutual
theorem suf_res : ∀ (k : RK) (d : D) {st0 st : Stt}, SufS st0 st → SufS st0 (mkRes st k d).2
  | .d _, _, _, _, h => by simp only [mkRes]; exact h
  | .own _ _, _, _, _, h => by simp only [mkRes]; exact h.new _
  | .agg ks, d, _, _, h => by simp only [mkRes]; exact suf_ress ks d.tup h
  | .any, _, _, _, h => by simp only [mkRes]; exact h
  | .er, _, _, _, h => by simp only [mkRes]; exact h
theorem suf_ress : ∀ (ks : List RK) (ds : List D) {st0 st : Stt}, SufS st0 st → SufS st0 (mkRess st ks ds).2
  | [], _, _, _, h => by simp only [mkRess]; exact h
  | k :: ks, ds, _, _, h => by simp only [mkRess]; exact suf_ress ks _ (suf_res k _ h)
end
theorem suf_outs : ∀ (ks : List RK) (ds : List D) {st0 st : Stt}, SufS st0 st → SufS st0 (mkOuts st ks ds).2
  | [], _, _, _, h => by simp only [mkOuts]; exact h
  | k :: ks, ds, _, _, h => by simp only [mkOuts]; exact suf_outs ks _ (suf_res k _ h)
theorem suf_op {P : Program} {S : Sums} {st st' : Stt} {A : AE} {o : Oper} {ps : Ps} {a : AV} (h : evOp P S st A o = some (.wr ps a st')) (hn : st.h ≠ []) : SufS st st' := by
  unfold evOp at h
  split at h
  · cases h
  · split at h
    · rename_i hw; cases h; exact suf_wr hw hn
    · split at h
      · split at h
        case h_2 => cases h
        split at h
        case h_2 => cases h
        rename_i q hcon
        cases q with
        | true => cases h
        | false =>
          cases h
          unfold conStep at hcon
          split at hcon
          · rename_i et t fs he
            unfold rowStep at hcon
            split at hcon
            case h_2 => cases hcon
            split at hcon
            case h_2 => cases hcon
            revert hcon
            cases (isFns _ _ && Nat.beq _ _ && DT.beq _ _) with
            | false => intro h; cases h
            | true =>
              intro hcon
              simp only [cond_true, Option.some.injEq, Prod.mk.injEq] at hcon
              obtain ⟨_, _, rfl, _⟩ := hcon
              exact (SufS.refl hn).setx _ _
          split at hcon
          case h_2 => cases hcon
          rename_i ds ls hm
          revert hcon
          cases (noDup ls && _) with
          | false => intro h; cases h
          | true =>
            intro h
            simp only [cond_true, Option.some.injEq, Prod.mk.injEq] at h
            obtain ⟨_, _, rfl, _⟩ := h
            exact suf_outs _ _ (suf_boxes _ _ _ (SufS.refl hn))
      · split at h <;> cases h
theorem suf_blk {P : Program} {S : Sums} {N : Nat} {ops : Array Oper} {st : Stt} : ∀ (n : Nat) (cx : Cx) (dl : List Nat) (l : List Oper) {H A A' : AE} {ps : Ps}, evBlk P S N ops st n cx dl l A = some (ps, A') → Suf H A → Suf H A'
  | 0, _, _, _, _, _, _, _, h, _ => by simp [evBlk] at h
  | n + 1, cx, dl, [], _, _, _, _, h, hs => by simp only [evBlk, Option.some.injEq, Prod.mk.injEq] at h; obtain ⟨_, rfl⟩ := h; exact hs
  | n + 1, cx, dl, o :: r, _, _, _, _, h, hs => by
    simp only [evBlk] at h
    cases hc : cxIs o.guard cx with
    | true =>
      rw [hc] at h
      simp only [cond_true] at h
      revert h
      cases dstB N o.dst with
      | false => intro h; cases h
      | true =>
        intro h
        simp only [cond_true] at h
        split at h
        case h_2 => cases h
        split at h
        case h_2 => cases h
        rename_i hr
        cases h
        exact suf_blk n cx _ r hr (suf_put hs _ _)
    | false =>
      rw [hc] at h
      simp only [cond_false] at h
      split at h
      · cases h
      · split at h
        case h_2 => cases h
        revert h
        cases ((cxTop cx || _) && !_ && dstB N _) with
        | false => intro h; cases h
        | true =>
          intro h
          simp only [cond_true] at h
          split at h
          case h_2 => cases h
          split at h
          case h_2 => cases h
          split at h
          case h_2 => cases h
          rename_i hr
          cases h
          exact suf_blk n cx _ _ hr (suf_put (suf_kill _ hs) _ _)
theorem suf_pass1 {fr : Bool} {P : Program} {S : Sums} {ops : Array Oper} {A A0 : AE} : ∀ (r : List Oper) (i : Nat) (tr : Tr Inf) (st0 st : Stt) (m : Nat) (xs : List Inf) (ss : List Stt), pass1 fr P S ops A A0 r i tr st m = some (xs, ss) → SufS st0 st → ∀ t ∈ ss, SufS st0 t
  | [], i, tr, st0, st, m, xs, ss, h, hs => by
    simp only [pass1, Option.some.injEq, Prod.mk.injEq] at h
    obtain ⟨_, rfl⟩ := h
    intro t ht
    simp only [List.mem_singleton] at ht
    subst ht; exact hs
  | o :: r, i, tr, st0, st, m, xs, ss, h, hs => by
    simp only [pass1] at h
    split at h
    · cases h
    · split at h
      · rename_i hr; cases h; exact suf_pass1 r _ _ st0 st _ _ _ hr hs
      · cases h
    · rename_i hop
      split at h
      · rename_i hr
        cases h
        intro t ht
        rcases List.mem_cons.1 ht with rfl | ht
        · exact hs
        · exact suf_pass1 r _ _ st0 _ _ _ _ hr (hs.trans (suf_op (evOpG_wr hop) hs.1.ne)) t ht
      · cases h
theorem suf_putAll {H : AE} : ∀ (l : List Oper) (G : List Inf) {A : AE}, Suf H A → Suf H (putAll A l G)
  | [], _, _, h => by unfold putAll; exact h
  | _ :: _, [], _, h => by unfold putAll; exact h
  | o :: r, x :: G, _, h => by unfold putAll; exact suf_putAll r G (suf_put h _ _)
theorem suf_drawn {fr : Bool} {P : Program} {S : Sums} {N : Nat} {ops : Array Oper} {A A' : AE} {st st' : Stt} {ps : Ps} (h : evDrawn fr P S N ops A st = some (ps, A', st')) (hA : A ≠ []) (hn : st.h ≠ []) : Suf A A' ∧ SufS st st' := by
  unfold evDrawn at h
  simp only at h
  revert h
  cases (Nat.ble _ 4000 && List.all _ _ && noDup _ && backOk _ 0 && List.all _ _) with
  | false => intro h; cases h
  | true =>
    intro h
    simp only [cond_true] at h
    split at h
    · cases h
    · rename_i hp1
      split at h
      case h_2 => cases h
      rename_i hlast
      cases h
      exact ⟨suf_putAll _ _ (suf_kill _ (Suf.refl hA)), suf_pass1 _ _ _ st st _ _ _ hp1 (SufS.refl hn) _ (List.mem_of_getLast? hlast)⟩

/-! ### What is asked for grows with what stands behind -/
theorem obs_imp : ∀ {ps : Ps} {q q' : Prop}, obs ps q → (q → q') → obs ps q'
  | [], _, _, h, k => k h
  | _ :: r, _, _, h, k => ⟨h.1, obs_imp (ps := r) h.2 k⟩
def CallImp (cf : CallF) : Prop := ∀ f l st (k k' : KV), cf f l st k → st.h ≠ [] → (∀ a st', SufS st st' → k a st' → k' a st') → cf f l st k'
theorem one_imp {P : Program} {S : Sums} {cf : CallF} (hcf : CallImp cf) {A : AE} {st : Stt} {o : Oper} {k k' : AE → Stt → Prop} (h : evOne P S cf A st o k) (hA : A ≠ []) (hn : st.h ≠ []) (hk : ∀ A' st', Suf A A' → SufS st st' → k A' st' → k' A' st') : evOne P S cf A st o k' := by
  unfold evOne at h ⊢
  cases hop : evOp P S st A o with
  | some rs =>
    rw [hop] at h
    cases rs with
    | rd ps a =>
      simp only at h ⊢
      exact obs_imp h fun h => hk _ _ (suf_put (Suf.refl hA) o.dst a) (SufS.refl hn) h
    | wr ps a st1 =>
      simp only at h ⊢
      exact obs_imp h fun h => hk _ _ (suf_put (Suf.refl hA) o.dst a) (suf_op hop hn) h
  | none =>
    rw [hop] at h
    simp only at h ⊢
    cases hc : evCallS P A o.op with
    | none => rw [hc] at h; exact h.elim
    | some fl =>
      rw [hc] at h
      obtain ⟨f, l⟩ := fl
      simp only at h ⊢
      exact hcf f l st _ _ h hn fun a st1 hs1 h => hk _ _ (suf_put (Suf.refl hA) o.dst a) hs1 h
theorem next_imp {A : AE} {st : Stt} {o : Oper} {k k' : AE → Stt → Prop} (h : evNext A st o k) (hA : A ≠ []) (hn : st.h ≠ []) (hk : ∀ A' st', Suf A A' → SufS st st' → k A' st' → k' A' st') : evNext A st o k' := by
  unfold evNext at h ⊢
  split at h
  case h_2 => exact h.elim
  rename_i h0
  split at h
  case h_2 => exact h.elim
  rename_i h1
  split at h
  case h_2 => exact h.elim
  rename_i h2
  split at h
  case h_2 => exact h.elim
  rename_i h3
  try simp only [h0, h1, h2, h3]
  revert h
  cases keyK _ with
  | false => exact fun h => h
  | true =>
    intro h
    simp only [cond_true] at h ⊢
    exact ⟨h.1, fun hl => hk _ _ (suf_put (Suf.refl hA) _ _) (SufS.refl hn) (h.2.1 hl), fun a b e k1 k2 k3 k4 => hk _ _ (suf_put (Suf.refl hA) _ _) ((SufS.refl hn).setx _ _) (h.2.2 a b e k1 k2 k3 k4)⟩
theorem list_imp {P : Program} {S : Sums} {cf : CallF} (hcf : CallImp cf) {N : Nat} {ops : Array Oper} : ∀ (l : List Oper) (n : Nat) (A : AE) (st : Stt) (k k' : AE → Stt → Prop), evList P S cf N ops l n A st k → A ≠ [] → st.h ≠ [] → (∀ A' st', Suf A A' → SufS st st' → k A' st' → k' A' st') → evList P S cf N ops l n A st k'
  | [], n, A, st, k, k', h, hA, hn, hk => by simp only [evList] at h ⊢; exact hk A st (Suf.refl hA) (SufS.refl hn) h
  | o :: r, n + 1, A, st, k, k', h, hA, hn, hk => by rw [evList] at h ⊢; exact list_imp hcf r n A st k k' h hA hn hk
  | o :: r, 0, A, st, k, k', h, hA, hn, hk => by
    rw [evList] at h ⊢
    cases hd : dstB N o.dst with
    | false => rw [hd] at h; exact h.elim
    | true =>
    rw [hd] at h
    simp only [cond_true] at h ⊢
    cases hg : o.guard with
    | none =>
      rw [hg] at h
      simp only at h ⊢
      cases hop : evOp P S st A o with
      | some rs =>
        rw [hop] at h
        cases rs with
        | rd ps a =>
          simp only at h ⊢
          have hs := suf_put (Suf.refl hA) o.dst a
          exact obs_imp h fun h => list_imp hcf r 0 _ st k k' h hs.ne hn fun A' st' h1 => hk A' st' (hs.trans h1)
        | wr ps a st1 =>
          simp only at h ⊢
          have hs := suf_put (Suf.refl hA) o.dst a
          have hs1 := suf_op hop hn
          exact obs_imp h fun h => list_imp hcf r 0 _ st1 k k' h hs.ne hs1.1.ne fun A' st' h1 h2 => hk A' st' (hs.trans h1) (hs1.trans h2)
      | none =>
        rw [hop] at h
        simp only at h ⊢
        cases hc : evCallS P A o.op with
        | none =>
          rw [hc] at h
          simp only at h ⊢
          exact next_imp h hA hn fun A1 st1 h1 h2 h3 => list_imp hcf r 0 A1 st1 k k' h3 h1.ne h2.1.ne fun A' st' h4 h5 => hk A' st' (h1.trans h4) (h2.trans h5)
        | some fl =>
          rw [hc] at h
          obtain ⟨f, l⟩ := fl
          simp only at h ⊢
          refine hcf f l st _ _ h hn fun a st1 hs1 h => ?_
          have hs := suf_put (Suf.refl hA) o.dst a
          exact list_imp hcf r 0 _ st1 k k' h hs.ne hs1.1.ne fun A' st' h1 h2 => hk A' st' (hs.trans h1) (hs1.trans h2)
    | some g =>
      rw [hg] at h
      simp only at h ⊢
      split at h
      · exact h.elim
      · rename_i d b hgs
        try simp only [hgs]
        split at h
        case h_2 =>
          rename_i hno
          have hs0 : ∀ x : Bool, Suf A (setB A d x) := fun x => suf_put (Suf.refl hA) (some d) (.v (.bool x))
          cases hb : eqvB g.2 b with
          | true =>
            rw [hb] at h
            simp only [cond_true] at h ⊢
            exact one_imp hcf h (hs0 _).ne hn fun A1 st1 h1 h2 h3 => list_imp hcf r 0 A1 st1 k k' h3 h1.ne h2.1.ne fun A' st' h4 h5 => hk A' st' (((hs0 _).trans h1).trans h4) (h2.trans h5)
          | false =>
            rw [hb] at h
            simp only [cond_false] at h ⊢
            have hs := (hs0 (!g.2)).trans (suf_put (Suf.refl (hs0 (!g.2)).ne) o.dst (.v undef))
            exact list_imp hcf r 0 _ st k k' h hs.ne hn fun A' st' h4 h5 => hk A' st' (hs.trans h4) h5
        rename_i p r' ps A1 hbe hB
        try simp only [hbe, hB]
        cases hck : (!(dsts (ahead none (o :: r))).contains d && dstB N p.dst) with
        | false => rw [hck] at h; exact h.elim
        | true =>
        rw [hck] at h
        simp only [cond_true] at h ⊢
        split at h
        case h_2 => exact h.elim
        rename_i a hpk
        try simp only [hpk]
        have hs := suf_put (suf_kill (dsts (ahead none (o :: r))) (Suf.refl hA)) p.dst a
        exact obs_imp h fun h => list_imp hcf r _ _ st k k' h hs.ne hn fun A' st' h1 => hk A' st' (hs.trans h1)
theorem suf_split {P : Program} {S : Sums} {N : Nat} {ops : Array Oper} {A A' : AE} {st st' : Stt} {ps qs : Ps} (h : evSplit P S N ops A st = some (ps, qs, A', st')) (hA : A ≠ []) (hn : st.h ≠ []) : Suf A A' ∧ SufS st st' := by
  unfold evSplit at h
  split at h
  · cases h
  rename_i m hm
  revert h
  cases (splitOk ops.toList m && regOk ((ops.toList.drop m).map (shiftO m)).toArray) with
  | false => intro h; cases h
  | true =>
    intro h
    simp only [cond_true] at h
    split at h
    case h_2 => cases h
    rename_i ps1 A1 st1 hd
    split at h
    case h_2 => cases h
    rename_i qs1 A2 hb
    cases h
    obtain ⟨h1, h2⟩ := suf_drawn hd hA hn
    exact ⟨suf_blk _ _ _ _ hb h1, h2⟩
theorem suf_force {P : Program} {S : Sums} {N : Nat} {ops : Array Oper} {A A' : AE} {st st' : Stt} {ps qs : Ps} (h : evForce P S N ops A st = some (ps, qs, A', st')) (hA : A ≠ []) (hn : st.h ≠ []) : Suf A A' ∧ SufS st st' := by
  unfold evForce at h
  split at h
  case h_2 => cases h
  rename_i hd
  split at h
  case h_2 => cases h
  split at h
  case h_2 => cases h
  cases h
  exact suf_drawn hd hA hn
theorem reg_imp {P : Program} {S : Sums} {cf : CallF} (hcf : CallImp cf) {N : Nat} {ops : Array Oper} {d : Bool} {A : AE} {st : Stt} {k k' : AE → Stt → Prop} (h : evReg P S cf N ops d A st k) (hA : A ≠ []) (hn : st.h ≠ []) (hk : ∀ A' st', Suf A A' → SufS st st' → k A' st' → k' A' st') : evReg P S cf N ops d A st k' := by
  unfold evReg at h ⊢
  split at h
  · rename_i ps A' hq
    try simp only [hq]
    refine obs_imp h fun h => hk A' st ?_ (SufS.refl hn) h
    revert hq
    cases (d && !regOk ops) with
    | true => intro h; cases h
    | false => intro hq; exact suf_blk _ _ _ _ hq (Suf.refl hA)
  · rename_i hq
    try simp only [hq]
    cases d with
    | true =>
      simp only [cond_true] at h ⊢
      split at h
      · rename_i ps A' st' hd
        try simp only [hd]
        obtain ⟨h1, h2⟩ := suf_drawn hd hA hn
        exact obs_imp h fun h => hk A' st' h1 h2 h
      · rename_i hd0
        try simp only [hd0]
        split at h
        · rename_i ps qs A' st' hd
          try simp only [hd]
          obtain ⟨h1, h2⟩ := suf_split hd hA hn
          exact obs_imp h fun h => obs_imp h fun h => hk A' st' h1 h2 h
        · rename_i hd1
          try simp only [hd1]
          split at h
          · rename_i gs ps A' st' hd
            try simp only [hd]
            obtain ⟨h1, h2⟩ := suf_force hd hA hn
            exact obs_imp h fun h => obs_imp h fun h => hk A' st' h1 h2 h
          · exact h.elim
    | false =>
      simp only [cond_false] at h ⊢
      exact list_imp hcf _ _ _ _ _ _ h hA hn hk
def SufO (A : AE) (st : Stt) : Out → Prop
  | .norm A' st' => Suf A A' ∧ SufS st st'
  | .exit _ A' st' => Suf A A' ∧ SufS st st'
  | .ret A' st' => Suf A A' ∧ SufS st st'
theorem SufO.up {A A1 : AE} {st st1 : Stt} {o : Out} (h : SufO A1 st1 o) (h1 : Suf A A1) (h2 : SufS st st1) : SufO A st o := by
  cases o <;> exact ⟨h1.trans h.1, h2.trans h.2⟩
def EvImp (ev : AE → Stt → (Out → Prop) → Prop) : Prop := ∀ A st (k k' : Out → Prop), ev A st k → A ≠ [] → st.h ≠ [] → (∀ o, SufO A st o → k o → k' o) → ev A st k'
theorem loop_imp {ev : AE → Stt → (Out → Prop) → Prop} (he : EvImp ev) : ∀ m, EvImp (evLoop ev m)
  | 0, _, _, _, _, h, _, _, _ => h.elim
  | m + 1, A, st, k, k', h, hA, hn, hk => by
    refine he A st _ _ h hA hn fun o ho h => ?_
    cases o with
    | norm A' st' => exact loop_imp he m A' st' k k' h ho.1.ne ho.2.1.ne fun o' ho' => hk o' (ho'.up ho.1 ho.2)
    | exit i A' st' => exact hk _ ho h
    | ret A' st' => exact hk _ ho h
theorem ann_imp {ev : AE → Stt → (Out → Prop) → Prop} (he : EvImp ev) (kill : List Nat) (L : LAnn) (A : AE) (st : Stt) (k k' : Out → Prop) (h : evAnn ev kill L A st k) (hA : A ≠ []) (hn : st.h ≠ []) (hk : ∀ o, SufO A st o → k o → k' o) : evAnn ev kill L A st k' := by
  obtain ⟨g0, h⟩ := h
  refine ⟨g0, ?_⟩
  split at h
  · exact h.elim
  · rename_i ps hm
    try simp only [hm]
    revert h
    cases (small kill && small (elder st.nx (L.sl g0) (L.ob g0) A st)) with
    | false => intro h; exact h.elim
    | true =>
      intro h
      simp only [cond_true] at h ⊢
      refine obs_imp h fun h => ⟨h.1, fun g hg => he _ _ _ _ (h.2 g hg) (by simp [headA]) (by simp [headS]) fun o ho h => ?_⟩
      have hh : SufO A st o := ho.up (Suf.head hA _ _) ⟨Suf.head hn _ _, Nat.le_add_right _ _⟩
      cases o with
      | norm A' st' => exact h
      | exit i A' st' => exact hk _ hh h
      | ret A' st' => exact hk _ hh h
theorem nils_suf : ∀ (l : List (Nat × AX)) {A : AE} {st : Stt} {x : AE × Stt}, nilsA l A st = some x → A ≠ [] → st.h ≠ [] → Suf A x.1 ∧ SufS st x.2
  | [], A, st, x, h, hA, hn => by
    simp only [nilsA, Option.some.injEq] at h
    subst h
    exact ⟨Suf.refl hA, SufS.refl hn⟩
  | (t, .q e dt []) :: r, A, st, x, h, hA, hn => by
    simp only [nilsA] at h
    split at h
    · have a1 : Suf A (putA A (some t) (.ow st.nx 0)) := (Suf.refl hA).set _ _
      have a2 : SufS st (newX st (.q e dt [])) := (SufS.refl hn).new _
      obtain ⟨b1, b2⟩ := nils_suf r h a1.ne a2.1.ne
      exact ⟨a1.trans b1, a2.trans b2⟩
    · rename_i l k _
      split at h
      · rename_i et cs _
        split at h
        case h_2 => cases h
        cases hb : (Nat.blt l st.nx && Nat.blt st.nx 1000000) with
        | false => rw [hb] at h; cases h
        | true =>
          rw [hb] at h
          simp only [cond_true] at h
          have a2 : SufS st (setX (newX st (.q e dt [])) l (.c et (spliceA cs k [.ow st.nx 0]))) := ((SufS.refl hn).new _).setx _ _
          obtain ⟨b1, b2⟩ := nils_suf r h hA a2.1.ne
          exact ⟨b1, a2.trans b2⟩
      · cases h
    · cases h
  | (t, .q e dt (_ :: _)) :: r, A, st, x, h, hA, hn => by simp only [nilsA] at h; cases h
  | (t, .c e cs) :: r, A, st, x, h, hA, hn => by
    simp only [nilsA] at h
    split at h
    case h_2 => cases h
    rename_i et cs0 hl
    split at h
    case h_2 => cases h
    rename_i cs' st' hf
    split at h
    case h_2 => cases h
    have a2 : SufS st (setX st' t (.c et cs')) := (suf_freezeL hf (SufS.refl hn)).setx _ _
    obtain ⟨b1, b2⟩ := nils_suf r h hA a2.1.ne
    exact ⟨b1, a2.trans b2⟩
theorem nils_imp {o : Option (AE → Stt → LAnn)} {A : AE} {st : Stt} {go go' : AE → Stt → Prop} (h : evNils o A st go) (hA : A ≠ []) (hn : st.h ≠ []) (hk : ∀ A' st', Suf A A' → SufS st st' → go A' st' → go' A' st') : evNils o A st go' := by
  unfold evNils at h ⊢
  split at h
  · exact hk A st (Suf.refl hA) (SufS.refl hn) h
  · rename_i M
    obtain ⟨g, h⟩ := h
    refine ⟨g, ?_⟩
    split at h
    · rename_i x hx
      try simp only [hx]
      obtain ⟨a1, a2⟩ := nils_suf _ hx hA hn
      exact hk _ _ a1 a2 h
    · exact h.elim
theorem cut_imp {eva evb : AE → Stt → (Out → Prop) → Prop} (ha : EvImp eva) (hb : EvImp evb) (kill : List Nat) (L : LAnn) (A : AE) (st : Stt) (k k' : Out → Prop) (h : evCut eva evb kill L A st k) (hA : A ≠ []) (hn : st.h ≠ []) (hk : ∀ o, SufO A st o → k o → k' o) : evCut eva evb kill L A st k' := by
  refine ⟨ha _ _ _ _ h.1 (by simp) (by simp) fun o ho h => ?_, fun g hg => hb _ _ _ _ (h.2 g hg) (by simp [headA]) (by simp [headS]) fun o ho h => hk o (ho.up (Suf.head hA _ _) ⟨Suf.head hn _ _, Nat.le_add_right _ _⟩) h⟩
  have hh : SufO A st o := ho.up (Suf.head hA _ _) ⟨Suf.head hn _ _, Nat.le_refl _⟩
  cases o with
  | norm A' st' => exact h
  | exit i A' st' => exact hk _ hh h
  | ret A' st' => exact hk _ hh h
theorem inl_imp {P : Program} {ev : FuncId → Nat → Code → AE → Stt → (Out → Prop) → Prop} (he : ∀ f N c, EvImp (ev f N c)) : CallImp (callInl P ev) := by
  intro f l st k k' h hn hk
  unfold callInl at h ⊢
  split at h
  · exact h.elim
  · rename_i fn hf
    revert h
    cases Nat.blt fn.ntmps l.length with
    | true => intro h; exact h.elim
    | false =>
      intro h
      simp only [cond_false] at h ⊢
      split at h
      · exact h.elim
      · rename_i c hb
        have hne : ∀ (l : List AV) (i : Nat), argsA l i ≠ [] := by
          intro l
          induction l with
          | nil => intro i; simp [argsA]
          | cons a r ih =>
            intro i
            exact ((Suf.refl (ih (i + 1))).set i (some a)).ne
        have key : ∀ A' st', SufS st st' → retA P fn A' st' k → retA P fn A' st' k' := by
          intro A' st' hs h
          unfold retA at h ⊢
          split at h
          · exact hk _ _ hs h
          · exact h.elim
        refine he f _ c _ _ _ _ h (hne l 0) hn fun o ho h => ?_
        cases o with
        | norm A' st' => exact key A' st' ho.2 h
        | ret A' st' => exact key A' st' ho.2 h
        | exit i A' st' => exact h
theorem code_imp {P : Program} {S : Sums} {an : Anns} : ∀ (n : Nat) (f : FuncId) (N : Nat) (c : Code), EvImp (evCode P S an n f N c)
  | 0, _, _, _, _, _, _, _, h, _, _, _ => by simp only [evCode] at h
  | n + 1, f, N, c, A, st, k, k', h, hA, hn, hk => by
    have ih := code_imp (P := P) (S := S) (an := an) n
    unfold evCode at h ⊢
    split at h
    · exact hk _ ⟨Suf.refl hA, SufS.refl hn⟩ h
    · exact hk _ ⟨Suf.refl hA, SufS.refl hn⟩ h
    · exact reg_imp (inl_imp ih) h hA hn fun A' st' h1 h2 h => hk _ ⟨h1, h2⟩ h
    · refine nils_imp h hA hn fun A1 st1 s1 s2 h => ?_
      split at h
      · exact cut_imp (ih f N _) (ih f N _) _ _ A1 st1 k k' h s1.ne s2.1.ne fun o ho h => hk o (ho.up s1 s2) h
      · refine ih f N _ A1 st1 _ _ h s1.ne s2.1.ne fun o ho h => ?_
        cases o with
        | norm A' st' => exact nils_imp h ho.1.ne ho.2.1.ne fun A2 st2 q1 q2 h => ih f N _ A2 st2 _ _ h q1.ne q2.1.ne fun o' ho' h => hk o' (((ho'.up q1 q2).up ho.1 ho.2).up s1 s2) h
        | exit i A' st' => exact hk _ (ho.up s1 s2) h
        | ret A' st' => exact hk _ (ho.up s1 s2) h
    · split at h
      · rename_i t ht
        try simp only
        cases t with
        | true => exact ih f N _ A st _ _ h hA hn hk
        | false => exact ih f N _ A st _ _ h hA hn hk
      · exact h.elim
    · refine ih f N _ A st _ _ h hA hn fun o ho h => ?_
      cases o with
      | norm A' st' => exact hk _ ho h
      | exit i A' st' =>
        simp only at h ⊢
        revert h
        cases Nat.beq i _ with
        | true => intro h; exact hk (.norm A' st') ho h
        | false => intro h; exact hk (.exit i A' st') ho h
      | ret A' st' => exact hk _ ho h
    · split at h
      · exact nils_imp h hA hn fun A' st' s1 s2 h => ann_imp (ih f N _) _ _ A' st' k k' h s1.ne s2.1.ne fun o ho h => hk o (ho.up s1 s2) h
      · exact loop_imp (ih f N _) n A st k k' h hA hn hk
    · exact hk _ ⟨Suf.refl hA, SufS.refl hn⟩ h
    · exact hk _ ⟨Suf.refl hA, SufS.refl hn⟩ h
    · exact ih f N _ A st _ _ h hA hn hk
    · exact h.elim
end Go.Proofs.YtnhfkdgambncfaaGreatDoor.Sv
namespace Go.Proofs.YtnhfkdgambncfaaGreatDoor.Sv
open Go.RowKit Go.Proofs.YtnhfkdgambncfaaGreatDoor.W
variable {Γ : Gl}

/-! ### Layers -/
theorem small_ok {l : List Nat} (h : small l = true) : ∀ k ∈ l, k < 1000000 := fun k hk => blt_t (List.all_eq_true.1 h k hk)
theorem small_cons {k : Nat} {r : List Nat} (h : small (k :: r) = true) : k < 1000000 ∧ small r = true := by
  simp only [small, List.all_cons, Bool.and_eq_true] at h
  exact ⟨blt_t h.1, h.2⟩
theorem setsT_get {α : Type} : ∀ (l : List (Nat × α)) (t : Tr (Option α)) (k : Nat), small (l.map (·.1)) = true → (∃ x, (setsT t l).get k = some (some x) ∧ (k, x) ∈ l) ∨ (k ∉ l.map (·.1) ∧ (setsT t l).get k = t.get k)
  | [], t, k, _ => .inr ⟨by simp, rfl⟩
  | (j, x) :: r, t, k, h => by
    obtain ⟨h1, h2⟩ := small_cons h
    rcases setsT_get r (Tr.set 24 t j (some (some x))) k h2 with ⟨y, h3, h4⟩ | ⟨h3, h4⟩
    · exact .inl ⟨y, h3, List.mem_cons_of_mem _ h4⟩
    · rw [Tr.get_set _ _ _ _ h1] at h4
      by_cases e : k = j
      · subst e
        rw [if_pos rfl] at h4
        exact .inl ⟨x, h4, by simp⟩
      · rw [if_neg e] at h4
        exact .inr ⟨by simp [e]; simpa using h3, h4⟩
theorem delsT_get {α : Type} : ∀ (l : List Nat) (t : Tr (Option α)) (k : Nat), small l = true → (k ∈ l ∧ (delsT t l).get k = some none) ∨ (k ∉ l ∧ (delsT t l).get k = t.get k)
  | [], t, k, _ => .inr ⟨by simp, rfl⟩
  | j :: r, t, k, h => by
    obtain ⟨h1, h2⟩ := small_cons h
    rcases delsT_get r (Tr.set 24 t j (some none)) k h2 with ⟨h3, h4⟩ | ⟨h3, h4⟩
    · exact .inl ⟨List.mem_cons_of_mem _ h3, h4⟩
    · rw [Tr.get_set _ _ _ _ h1] at h4
      by_cases e : k = j
      · subst e
        rw [if_pos rfl] at h4
        exact .inl ⟨by simp, h4⟩
      · rw [if_neg e] at h4
        exact .inr ⟨by simp [e, h3], h4⟩
theorem head_get {α : Type} {L : Ly α} {kill : List Nat} {sl : List (Nat × α)} {k : Nat} {x : α} (h1 : small kill = true) (h2 : small (sl.map (·.1)) = true) (h : Ly.get (.nil :: setsT (delsT .nil kill) sl :: L) k = some x) : (k, x) ∈ sl ∨ (k ∉ sl.map (·.1) ∧ k ∉ kill ∧ L.get k = some x) := by
  unfold Ly.get at h ⊢
  cases hk : Nat.blt k 1000000 with
  | false => rw [hk] at h; cases h
  | true =>
  rw [hk] at h
  simp only [cond_true, Ly.go, Tr.get] at h ⊢
  rcases setsT_get sl (delsT .nil kill) k h2 with ⟨y, h3, h4⟩ | ⟨h3, h4⟩
  · rw [h3] at h; cases h; exact .inl h4
  · rw [h4] at h
    rcases delsT_get kill (.nil : Tr (Option α)) k h1 with ⟨h5, h6⟩ | ⟨h5, h6⟩
    · rw [h6] at h; cases h
    · rw [h6] at h; exact .inr ⟨h3, h5, h⟩
theorem bare_get {α : Type} : ∀ {t : Tr α}, t.bare = true → ∀ k, t.get k = none
  | .nil, _, _ => rfl
  | .node l v r, h, k => by
    simp only [Tr.bare, Bool.and_eq_true] at h
    simp only [Tr.get]
    cases Nat.beq k 0 with
    | true =>
      simp only [cond_true]
      cases v with
      | none => rfl
      | some x => exact absurd h.1.1 (by simp)
    | false =>
      simp only [cond_false]
      cases Nat.beq (Nat.mod k 2) 1 with
      | true => exact bare_get h.1.2 _
      | false => exact bare_get h.2 _
theorem clear_get {α : Type} : ∀ (ks : List Nat) (t : Tr α) (k : Nat), small ks = true → k ∉ ks → (t.clear ks).get k = t.get k
  | [], _, _, _, _ => rfl
  | j :: r, t, k, h, hk => by
    obtain ⟨h1, h2⟩ := small_cons h
    simp only [List.mem_cons, not_or] at hk
    simp only [Tr.clear]
    rw [clear_get r _ k h2 hk.2, Tr.get_set _ _ _ _ h1, if_neg hk.1]
theorem bare_go {α : Type} : ∀ (Ls : Ly α) (L : Ly α) (ks : List Nat) (k : Nat), small ks = true → k ∉ ks → allBare ks Ls = true → (Ls ++ L).go k = L.go k
  | [], _, _, _, _, _, _ => rfl
  | t :: r, L, ks, k, hs, hk, h => by
    simp only [allBare, Bool.and_eq_true] at h
    have := bare_get h.1 k
    rw [clear_get ks t k hs hk] at this
    simp only [List.cons_append, Ly.go, this]
    exact bare_go r L ks k hs hk h.2
theorem only_ok {α : Type} {L L' : Ly α} {a b : Tr (Option α)} {ks : List Nat} (h : only L L' ks = true) (hs : Suf (a :: b :: L) L') : ∀ k, k ∉ ks → L'.get k = L.get k := by
  intro k hk
  unfold only at h
  simp only [Bool.and_eq_true] at h
  obtain ⟨⟨h1, h2⟩, h3⟩ := h
  obtain ⟨T, tl, Ls, T', e, rfl⟩ := hs
  cases e
  have hsplit : Ls ++ T' :: b :: L = (Ls ++ [T', b]) ++ L := by simp
  rw [hsplit] at h3 ⊢
  rw [List.length_append, Nat.add_sub_cancel, List.take_left] at h3
  unfold Ly.get
  rw [bare_go _ L ks k h1 hk h3]

theorem eqX_ok {ρ : Nat → Nat} {x c : AX} {ps : Ps} (h : eqX ρ x c = some ps) (hp : ∀ p ∈ ps, p) : c = renX ρ x := by
  unfold eqX at h
  split at h
  · rename_i e cs e' cs'
    cases hc : Nat.beq e e' with
    | false => rw [hc] at h; cases h
    | true => rw [hc] at h; simp only [renX]; rw [beq_t hc, eqAs_ok h hp]
  · rename_i e t xs e' t' xs'
    cases hc : (Nat.beq e e' && t.beq t') with
    | false => rw [hc] at h; cases h
    | true =>
    rw [hc] at h
    cases h
    simp only [Bool.and_eq_true] at hc
    simp only [renX]
    rw [beq_t hc.1, DT.beq_ok hc.2, hp _ (List.mem_singleton.2 rfl)]
  · rename_i k v m k' v' m'
    cases hc : (k.beq k' && v.beq v') with
    | false => rw [hc] at h; cases h
    | true =>
    rw [hc] at h
    cases h
    simp only [Bool.and_eq_true] at hc
    simp only [renX]
    rw [DT.beq_ok hc.1, DT.beq_ok hc.2, hp _ (List.mem_singleton.2 rfl)]
  · rename_i l n sn l' n' sn'
    cases hc : Nat.beq (ρ l) l' with
    | false => rw [hc] at h; cases h
    | true =>
    rw [hc] at h
    cases h
    simp only [renX]
    rw [beq_t hc, hp (n' = n) (by simp), hp (sn' = sn) (by simp)]
  · cases h
theorem eqSl_ok {ρ : Nat → Nat} {A : AE} : ∀ {sl : List (Nat × AV)} {ps : Ps}, eqSl ρ A sl = some ps → (∀ p ∈ ps, p) → ∀ t h, (t, h) ∈ sl → A.get t = some (renA ρ h)
  | [], _, _, _, _, _, hm => by simp at hm
  | (t0, h0) :: r, ps, h, hp, t, a, hm => by
    simp only [eqSl] at h
    split at h
    case h_2 => cases h
    rename_i c hc
    split at h
    case h_2 => cases h
    rename_i ps1 ps2 h1 h2
    cases h
    rcases List.mem_cons.1 hm with e | hm
    · cases e
      rw [hc, eqA_ok h1 (fun p hpp => hp p (List.mem_append_left _ hpp))]
    · exact eqSl_ok h2 (fun p hpp => hp p (List.mem_append_right _ hpp)) t a hm
theorem eqOb_ok {ρ : Nat → Nat} {st : Stt} : ∀ {ob : List (Nat × AX)} {ps : Ps}, eqOb ρ st ob = some ps → (∀ p ∈ ps, p) → ∀ l x, (l, x) ∈ ob → st.h.get (ρ l) = some (renX ρ x)
  | [], _, _, _, _, _, hm => by simp at hm
  | (t0, h0) :: r, ps, h, hp, t, a, hm => by
    simp only [eqOb] at h
    split at h
    case h_2 => cases h
    rename_i c hc
    split at h
    case h_2 => cases h
    rename_i ps1 ps2 h1 h2
    cases h
    rcases List.mem_cons.1 hm with e | hm
    · cases e
      rw [hc, eqX_ok h1 (fun p hpp => hp p (List.mem_append_left _ hpp))]
    · exact eqOb_ok h2 (fun p hpp => hp p (List.mem_append_right _ hpp)) t a hm
theorem mapTo_low {nx : Nat} {m : List (Nat × Nat)} {l : Nat} (h : l < nx) : mapTo nx m l = l := by
  unfold mapTo
  rw [show Nat.blt l nx = true from Nat.ble_eq_true_of_le h]; rfl
theorem noDup_map {α : Type} {f : α → Nat} : ∀ {l : List α}, noDup (l.map f) = true → ∀ a b, a ∈ l → b ∈ l → f a = f b → a = b
  | [], _, _, _, h, _, _ => by simp at h
  | x :: r, h, a, b, ha, hb, e => by
    simp only [List.map_cons, noDup, Bool.and_eq_true, Bool.not_eq_true'] at h
    have hx : ∀ y ∈ r, f x ≠ f y := fun y hy e' => by
      have : (r.map f).contains (f x) = true := by simp; exact ⟨y, hy, e'.symm⟩
      rw [h.1] at this; cases this
    rcases List.mem_cons.1 ha with e1 | ha'
    · rcases List.mem_cons.1 hb with e2 | hb'
      · rw [e1, e2]
      · rw [e1] at e; exact absurd e (hx b hb')
    · rcases List.mem_cons.1 hb with e2 | hb'
      · rw [e2] at e; exact absurd e.symm (hx a ha')
      · exact noDup_map h.2 a b ha' hb' e
/-- what meets a pattern is the pattern, under new names -/
theorem meets_ok {s s2 : Sg} {w0 w : World} {st st' : Stt} {A A' : AE} {E : Env} {low : Bool} {sl : List (Nat × AV)} {ob : List (Nat × AX)} {ps : Ps} {kill del : List Nat} (hm : meets st.nx low sl ob A' st' = some ps) (hp : ∀ p ∈ ps, p) (hH : Hold Γ s2 w0 st' w) (hE : EnvOK s2 A' E) (hle : s.le s2) (hdom : ∀ l, st.nx ≤ l → s.f l = none)
    (hkill : small kill = true) (hdel : small del = true)
    (hob : ∀ k x, k ∉ ob.map (·.1) → k ∉ del → st.h.get k = some x → st'.h.get k = some x ∧ idsX st.nx x = true ∧ k < st.nx)
    (hsl : ∀ t a, t ∉ sl.map (·.1) → t ∉ kill → A.get t = some a → A'.get t = some a ∧ idsA st.nx a = true)
    (hnew : ∀ l ∈ news st.nx ob, mapTo st.nx (mapAll st.nx A' st' sl ob) l < st.nx → mapTo st.nx (mapAll st.nx A' st' sl ob) l ∈ del) :
    ∃ s', s.le s' ∧ Hold Γ s' w0 (headS st del ob) w ∧ EnvOK s' (headA A kill sl) E := by
  unfold meets at hm
  simp only at hm
  generalize hρ : mapTo st.nx (mapAll st.nx A' st' sl ob) = ρ at hm hnew
  have hlow : ∀ l, l < st.nx → ρ l = l := fun l hl => by rw [← hρ]; exact mapTo_low hl
  generalize hn : st.nx + (news st.nx ob).length = n at hm
  cases hc : (noDup (ob.map (·.1)) && noDup ((ob.map (·.1)).map ρ) && ob.all (fun x => Nat.blt x.1 n && idsX n x.2) && sl.all (fun x => idsA n x.2) && (low || (news st.nx ob).all fun l => Nat.ble st.nx (ρ l)) && small (sl.map (·.1)) && small (ob.map (·.1))) with
  | false => rw [hc] at hm; cases hm
  | true =>
  rw [hc] at hm
  simp only [cond_true] at hm
  simp only [Bool.and_eq_true] at hc
  obtain ⟨⟨⟨⟨⟨⟨c1, c2⟩, c3⟩, c4⟩, c5⟩, c6⟩, c7⟩ := hc
  split at hm
  case h_2 => cases hm
  rename_i ps1 ps2 h1 h2
  cases hm
  have hSl := eqSl_ok h1 (fun p hpp => hp p (List.mem_append_left _ hpp))
  have hOb := eqOb_ok h2 (fun p hpp => hp p (List.mem_append_right _ hpp))
  have hR := Sg.ren_ok s2 ρ n
  have hR0 : Ren s2 (s2.ren ρ n) (fun l => l) st.nx := ⟨fun l hl p hp => by
    simp only [Sg.ren]
    rw [if_pos (by omega), hlow l hl]; exact hp, fun m => Sub.refl _⟩
  have obn : ∀ l x, (l, x) ∈ ob → l < n ∧ idsX n x = true := fun l x hx => by
    have := List.all_eq_true.1 c3 (l, x) hx
    simp only [Bool.and_eq_true] at this
    exact ⟨blt_t this.1, this.2⟩
  refine ⟨s2.ren ρ n, ⟨fun l p hp => ?_, hle.F, hle.G, hle.X, hle.G0⟩, ⟨hH.ext, hH.frz, hH.gf, fun l hl => ?_, fun k x hk => ?_, fun k k' x x' p p' hk hk' hp1 hp2 ht ht' e => ?_, hH.gnew, hH.glob⟩, fun t a ht => ?_⟩
  · have hl : l < st.nx := Nat.lt_of_not_le fun h => by rw [hdom l h] at hp; cases hp
    simp only [Sg.ren]
    rw [if_pos (by omega), hlow l hl]; exact hle.f l p hp
  · have hl' : n ≤ l := by rw [← hn]; exact hl
    simp only [Sg.ren]
    rw [if_neg (by omega)]
  · rcases head_get hdel c7 hk with hx | ⟨h3, h4, h5⟩
    · obtain ⟨hln, hid⟩ := obn k x hx
      obtain ⟨p, h6, h7⟩ := hH.obj _ _ (hOb k x hx)
      exact ⟨p, hR.f k hln p h6, (fun ht => by have := h7.free (there_ren.2 ht); rw [isBox_ren] at this; exact this), h7.cur.ren hR hid⟩
    · obtain ⟨h6, h7, h8⟩ := hob k x h3 h4 h5
      obtain ⟨p, h9, h10⟩ := hH.obj _ _ h6
      exact ⟨p, hR0.f k h8 p h9, h10.free, ObjAt.ren hR0 h7 (by rw [renX_id]; exact h10.cur)⟩
  · have loc : ∀ k x p, (headS st del ob).h.get k = some x → (s2.ren ρ n).f k = some p → there x p → ∃ x0, st'.h.get (ρ k) = some x0 ∧ s2.f (ρ k) = some p ∧ there x0 p ∧ ((∃ y, (k, y) ∈ ob) ∨ (k ∉ ob.map (·.1) ∧ k ∉ del ∧ k < st.nx)) := by
      intro k x p hk hp1 ht
      have hf : s2.f (ρ k) = some p := by
        simp only [Sg.ren] at hp1
        split at hp1
        · exact hp1
        · cases hp1
      rcases head_get hdel c7 hk with hx | ⟨h3, h4, h5⟩
      · exact ⟨_, hOb k x hx, hf, there_ren.2 ht, .inl ⟨x, hx⟩⟩
      · obtain ⟨h6, _, h8⟩ := hob k x h3 h4 h5
        rw [hlow k h8] at hf ⊢
        exact ⟨x, h6, hf, ht, .inr ⟨h3, h4, h8⟩⟩
    obtain ⟨x0, a1, a2, a3, a4⟩ := loc k x p hk hp1 ht
    obtain ⟨x0', b1, b2, b3, b4⟩ := loc k' x' p' hk' hp2 ht'
    have heq : ρ k = ρ k' := hH.inj _ _ _ _ p p' a1 b1 a2 b2 a3 b3 e
    have inOb : ∀ {j y}, (j, y) ∈ ob → j ∈ ob.map (·.1) := fun h => List.mem_map.2 ⟨_, h, rfl⟩
    have apart : ∀ {j i y}, (j, y) ∈ ob → i ∉ ob.map (·.1) → i ∉ del → i < st.nx → ρ j = ρ i → False := by
      intro j i y hj hi hd hlt he
      rw [hlow i hlt] at he
      rcases Nat.lt_or_ge j st.nx with hjl | hjl
      · rw [hlow j hjl] at he
        exact hi (he ▸ inOb hj)
      · have hjn : j ∈ news st.nx ob := List.mem_filter.2 ⟨inOb hj, Nat.ble_eq_true_of_le hjl⟩
        exact hd (he ▸ hnew j hjn (by rw [he]; exact hlt))
    rcases a4 with ⟨y, hy⟩ | ⟨a5, a6, a7⟩
    · rcases b4 with ⟨y', hy'⟩ | ⟨b5, b6, b7⟩
      · exact noDup_map (f := ρ) c2 k k' (inOb hy) (inOb hy') heq
      · exact (apart hy b5 b6 b7 heq).elim
    · rcases b4 with ⟨y', hy'⟩ | ⟨b5, b6, b7⟩
      · exact (apart hy' a5 a6 a7 heq.symm).elim
      · rw [hlow k a7, hlow k' b7] at heq; exact heq
  · rcases head_get hkill c6 ht with hx | ⟨h3, h4, h5⟩
    · have := List.all_eq_true.1 c4 (t, a) hx
      exact Rel.ren hR a _ this (hE t _ (hSl t a hx))
    · obtain ⟨h6, h7⟩ := hsl t a h3 h4 h5
      exact Rel.ren hR0 a _ h7 (by rw [renA_id]; exact hE t a h6)
end Go.Proofs.YtnhfkdgambncfaaGreatDoor.Sv
namespace Go.Proofs.YtnhfkdgambncfaaGreatDoor.Sv
open Go.RowKit Go.Proofs.YtnhfkdgambncfaaGreatDoor.W
variable {Γ : Gl}
section
variable {P : Program} {b : Frame} {a : Act} {k : List Item} {cs : List Frame} {w : World}
theorem stepR_scope {c : Code} : step P (lone (b.atR a (.code (.scope c) :: k)) cs w) = .next (lone (b.atR a (.code c :: .inScope c :: k)) cs w) :=
  step_lone_go (by simp [stepG, stepG.exec, Frame.atR])
theorem stepR_inScope {c : Code} : step P (lone (b.atR a (.inScope c :: k)) cs w) = .next (lone (b.atR a k) cs w) :=
  step_lone_go (by simp [stepG, stepG.exec, Frame.atR])
theorem wpIn_scope {F : Fence} {n : Nat} {Q : Exit → Act → World → Prop} {c : Code} (h : c.wpIn F n P Q a w) (hg : ∀ l a w, ¬ Q (.goto l) a w) : (Code.scope c).wpIn F n P Q a w := by
  intro b k cs hro hb hr
  have h0 : (lone (b.atR a (.code (.scope c) :: k)) cs w).fenced P F := fenced_calm hb hr rfl
  obtain ⟨e, a₁, w₁, hq, harr⟩ := h b (.inScope c :: k) cs hro hb hr
  cases e with
  | normal => exact ⟨.normal, a₁, w₁, hq, .head h0 stepR_scope (StepsIn.trans harr (.one (fenced_calm hb hr rfl) stepR_inScope))⟩
  | exit id =>
    have hx : exitTo id (.inScope c :: k) = exitTo id k := by simp [exitTo]
    exact ⟨.exit id, a₁, w₁, hq, fun k' hk => .head h0 stepR_scope (harr.1 k' (by rw [hx]; exact hk)),
      fun hr' hk => let ⟨k₁, h1, h2⟩ := harr.2 hr' (by rw [hx]; exact hk); ⟨k₁, h1, .head h0 stepR_scope h2⟩⟩
  | goto l => exact (hg l _ _ hq).elim
  | ret => exact ⟨_, a₁, w₁, hq, .of_steps (.one h0 stepR_scope) harr⟩
  | panic ch => exact ⟨_, a₁, w₁, hq, .of_steps (.one h0 stepR_scope) harr⟩
  | outgrown => exact ⟨_, a₁, w₁, hq, .of_steps (.one h0 stepR_scope) harr⟩
theorem WP.scope {ro : Option Nat} {n : Fsz} {Q : K} {E : Env} {c : Code} (h : WPr ro P n c Q E w) : WPr ro P n (.scope c) Q E w :=
  fun a ha he => wpIn_scope (h a ha he) fun l a w hq => hq.2
end

def QK (Γ : Gl) (k : Out → Prop) (s : Sg) (w0 : World) : K :=
  ⟨fun E w => ∃ A st s', k (.norm A st) ∧ s.le s' ∧ Hold Γ s' w0 st w ∧ EnvOK s' A E,
   fun i E w => ∃ A st s', k (.exit i A st) ∧ s.le s' ∧ Hold Γ s' w0 st w ∧ EnvOK s' A E,
   fun E w => ∃ A st s', k (.ret A st) ∧ s.le s' ∧ Hold Γ s' w0 st w ∧ EnvOK s' A E⟩
def CodeOK (P : Program) (Γ : Gl) (N : Nat) (c : Code) (ev : AE → Stt → (Out → Prop) → Prop) : Prop := ∀ {ro : Option Nat} {DD : List Deferred} A st k, ev A st k → A ≠ [] → st.h ≠ [] → ∀ s w0 E w, Hold Γ s w0 st w → EnvOK s A E → WPr ro P ⟨N, DD⟩ c (QK Γ k s w0) E w
section
variable {ro : Option Nat} {s : Sg} {w0 w w' : World} {st st' : Stt} {A : AE} {E : Env} {P : Program} {o : Oper}
def CallOK (P : Program) (Γ : Gl) (cf : CallF) : Prop := ∀ f l st k, cf f l st k → st.h ≠ [] → ∀ s w0 w vs, Hold Γ s w0 st w → RelL s l vs → Fnc P f vs.toArray w fun v w' => ∃ a st' s', k a st' ∧ st'.h ≠ [] ∧ s.le s' ∧ Hold Γ s' w0 st' w' ∧ Rel s' a v
theorem evList_drop {S : Sums} {cf : CallF} {N : Nat} {ops : Array Oper} : ∀ (l : List Oper) (n : Nat) (A : AE) (st : Stt) (k : AE → Stt → Prop), evList P S cf N ops l n A st k = evList P S cf N ops (l.drop n) 0 A st k
  | [], n, A, st, k => by simp [evList]
  | o :: r, 0, A, st, k => rfl
  | o :: r, n + 1, A, st, k => by
    rw [evList, List.drop_succ_cons]; exact evList_drop r n A st k
theorem made_list {N : Nat} {DD : List Deferred} {ops : Array Oper} {Q : K} {rest : List Oper} {R : Value → World → Prop} (hs : Sure ops o E) (hd : dstOk ⟨N, DD⟩ o.dst = true) (h : Made P o E w R) (k : ∀ v w', R v w' → WLr ro P ⟨N, DD⟩ ops Q rest (updO E o.dst v) w') : WLr ro P ⟨N, DD⟩ ops Q (o :: rest) E w := by
  rcases h with ⟨v, w', h1, h2⟩ | ⟨f, args, h1, h2⟩
  · exact WL.x hs hd h1 (k v w' h2)
  · exact WL.c hs hd h1 (Fnc.mono h2 fun v w' hv => k v w' hv)
theorem next_ok (hH : Hold Γ s w0 st w) (hE : EnvOK s A E) {k : AE → Stt → Prop} (h : evNext A st o k) (hn : st.h ≠ []) : ∃ v w' a st' s', OpX P o E w v w' ∧ k (putA A o.dst a) st' ∧ s.le s' ∧ Hold Γ s' w0 st' w' ∧ Rel s' a v ∧ SufS st st' := by
  unfold evNext at h
  split at h
  case h_2 => exact h.elim
  rename_i x ho
  split at h
  case h_2 => exact h.elim
  rename_i i hx
  split at h
  case h_2 => exact h.elim
  rename_i l n seen hi
  split at h
  case h_2 => exact h.elim
  rename_i kt vt m hl
  cases hk : keyK kt with
  | false => rw [hk] at h; exact h.elim
  | true =>
  rw [hk] at h
  simp only [cond_true] at h
  obtain ⟨g1, g2, g3⟩ := h
  have hr := opd_ok hx hE
  simp only [Rel] at hr
  obtain ⟨p, hp1, hv⟩ := hr
  obtain ⟨p', hp', hob⟩ := hH.obj i _ hi
  rw [hp1] at hp'; cases hp'
  obtain ⟨q, hq, hit⟩ := hob.cur
  obtain ⟨q', hq', hmb⟩ := hH.obj l _ hl
  rw [hq] at hq'; cases hq'
  have hX : ∀ v w', (Instr.next (.pointer (some ⟨p.b, 0, none⟩)) false o.type).run P w = .ok v w' → OpX P o E w v w' := fun v w' h => by
    left
    simp only [execOp, ho]
    rw [hv]
    exact run_v h
  have htd : m.Tidy := by obtain ⟨_, _, _, h⟩ := hmb.cur; exact h
  rcases run_next (P := P) g1 hmb.cur hit o.type with ⟨k1, k2⟩ | ⟨a, y, b, v, w', k1, k2, k3, k4, k5⟩
  · refine ⟨_, w, _, st, s, hX _ _ k2, g2 k1, Sg.le.refl s, hH, ?_, SufS.refl hn⟩
    simp only [Rel]
    exact ⟨[.bool false], RelL.cons (Rel.mkv _) RelL.nil, rfl⟩
  · obtain ⟨j1, j2, j3⟩ := left_step htd k1
    obtain ⟨cs, k6, k7⟩ := k3
    refine ⟨_, w', _, _, s, hX _ _ k2, g3 a b y k1 j1 j2 j3, Sg.le.refl s, hH.turn hi hp1 trivial (fun h => by cases h) k4 ⟨q, hq, k5⟩, ?_, (SufS.refl hn).setx _ _⟩
    simp only [Rel]
    exact ⟨[.bool true, keyV kt y.2.1, v], RelL.cons (Rel.mkv _) (RelL.cons (oneD_key hk) (RelL.cons (oneD_val (by simpa [Sg.H] using k6) k7) RelL.nil)), rfl⟩
theorem evList_ok {S : Sums} (hS : SumsOK P Γ S) {cf : CallF} (hcf : CallOK P Γ cf) {N : Nat} {DD : List Deferred} {ops : Array Oper} {Nn R : Env → World → Prop} {X : Nat → Env → World → Prop} : ∀ (m : Nat) (l : List Oper), l.length ≤ m → ∀ (A : AE) (st : Stt) (k : AE → Stt → Prop), evList P S cf N ops l 0 A st k → st.h ≠ [] → ∀ (s : Sg) (E : Env) (w : World), Hold Γ s w0 st w → EnvOK s A E →
    (∀ A' st' s' E' w', k A' st' → s.le s' → Hold Γ s' w0 st' w' → EnvOK s' A' E' → Nn E' w') → WLr ro P ⟨N, DD⟩ ops ⟨Nn, X, R⟩ l E w := by
  intro m
  induction m with
  | zero =>
    intro l hl A st k h hn s E w hH hE hk
    have : l = [] := List.eq_nil_of_length_eq_zero (by omega)
    subst this
    simp only [evList] at h
    exact WL.nil (hk A st s E w h (Sg.le.refl s) hH hE)
  | succ m ih =>
    intro l hl A st k h hn s E w hH hE hk
    cases l with
    | nil =>
      simp only [evList] at h
      exact WL.nil (hk A st s E w h (Sg.le.refl s) hH hE)
    | cons o r =>
    have hr : r.length ≤ m := by simpa using hl
    rw [evList] at h
    cases hdst : dstB N o.dst with
    | false => rw [hdst] at h; exact h.elim
    | true =>
    rw [hdst] at h
    simp only [cond_true] at h
    split at h
    · rename_i hg
      have hsure : Sure ops o E := Sure.none hg
      split at h
      · rename_i ps a hop
        obtain ⟨hp, hq⟩ := obs_ok h
        obtain ⟨v, hrel, hq1⟩ := evOp_rd hS hH hE hop hp
        have key := (wl_rules (P := P) (w := w) (N := N) (DD := DD) (ops := ops) (Q := ⟨Nn, X, R⟩)).q (rest := r) hsure (dst_of hdst) hq1 (fun w' hw => ih r hr _ _ k hq hn s _ w' (hH.grow hw) (hE.put hrel) hk)
        exact key w (Ext.refl _ _)
      · rename_i ps a st1 hop
        obtain ⟨hp, hq⟩ := obs_ok h
        refine made_list hsure (dst_of hdst) (evOp_wr hS hH hE hop hp) ?_
        rintro v w' ⟨s', h1, h2, h3⟩
        exact ih r hr _ _ k hq (suf_op hop hn).1.ne s' _ w' h2 ((hE.mono h1).put h3) (fun A' st' s'' E' w'' hk1 hle => hk A' st' s'' E' w'' hk1 (h1.trans hle))
      · split at h
        case h_2 =>
          obtain ⟨v, w', a, st1, s', h1, h2, h3, h4, h5, h6⟩ := next_ok (P := P) hH hE h hn
          exact WL.x hsure (dst_of hdst) h1 (ih r hr _ _ k h2 h6.1.ne s' _ w' h4 ((hE.mono h3).put h5) (fun A' st' s'' E' w'' hk1 hle => hk A' st' s'' E' w'' hk1 (h3.trans hle)))
        rename_i f l' hc
        obtain ⟨vs, h1, h2⟩ := call_op hE hc
        refine WL.c hsure (dst_of hdst) (h2 w) (Fnc.mono (hcf f l' st _ h hn s w0 w vs hH h1) ?_)
        rintro v w' ⟨a, st1, s', h3, hn1, h4, h5, h6⟩
        exact ih r hr _ _ k h3 hn1 s' _ w' h5 ((hE.mono h4).put h6) (fun A' st' s'' E' w'' hk1 hle => hk A' st' s'' E' w'' hk1 (h4.trans hle))
    · rename_i g hg
      split at h
      case h_1 => exact h.elim
      rename_i d b hgs
      split at h
      case h_2 =>
        obtain ⟨hs1, hs2⟩ := gslot_ok hgs
        have hEd : E d = .bool b := (hE d _ hs2).v_of
        have hsb : ∀ x : Bool, E d = .bool x → EnvOK s (setB A d x) E := fun x hx => by
          have h1 := EnvOK.put (d := some d) (a := .v (.bool x)) (v := .bool x) hE (Rel.mkv _)
          have h2 : updO E (some d) (.bool x) = E := by
            funext u
            simp only [updO, upd]
            by_cases hu : u = d
            · subst hu; rw [Nat.beq_refl, hx]; rfl
            · cases hb : Nat.beq u d with
              | false => rfl
              | true => exact absurd (Nat.eq_of_beq_eq_true hb) hu
          rw [h2] at h1
          exact h1
        cases hb : eqvB g.2 b with
        | true =>
          rw [hb] at h
          simp only [cond_true] at h
          have hbb : b = g.2 := by cases hg2 : g.2 <;> rw [hg2] at hb <;> cases b <;> first | rfl | cases hb
          have hsure : Sure ops o E := Sure.yes hg hs1 (by rw [hEd, hbb])
          have hE1 := hsb g.2 (by rw [hEd, hbb])
          unfold evOne at h
          split at h
          · rename_i ps a hop
            obtain ⟨hp, hq⟩ := obs_ok h
            obtain ⟨v, hrel, hq1⟩ := evOp_rd hS hH hE1 hop hp
            have key := (wl_rules (P := P) (w := w) (N := N) (DD := DD) (ops := ops) (Q := ⟨Nn, X, R⟩)).q (rest := r) hsure (dst_of hdst) hq1 (fun w' hw => ih r hr _ _ k hq hn s _ w' (hH.grow hw) (hE1.put hrel) hk)
            exact key w (Ext.refl _ _)
          · rename_i ps a st1 hop
            obtain ⟨hp, hq⟩ := obs_ok h
            refine made_list hsure (dst_of hdst) (evOp_wr hS hH hE1 hop hp) ?_
            rintro v w' ⟨s', h1, h2, h3⟩
            exact ih r hr _ _ k hq (suf_op hop hn).1.ne s' _ w' h2 ((hE1.mono h1).put h3) (fun A' st' s'' E' w'' hk1 hle => hk A' st' s'' E' w'' hk1 (h1.trans hle))
          · split at h
            case h_2 => exact h.elim
            rename_i f l' hc
            obtain ⟨vs, h1, h2⟩ := call_op hE1 hc
            refine WL.c hsure (dst_of hdst) (h2 w) (Fnc.mono (hcf f l' st _ h hn s w0 w vs hH h1) ?_)
            rintro v w' ⟨a, st1, s', h3, hn1, h4, h5, h6⟩
            exact ih r hr _ _ k h3 hn1 s' _ w' h5 ((hE1.mono h4).put h6) (fun A' st' s'' E' w'' hk1 hle => hk A' st' s'' E' w'' hk1 (h4.trans hle))
        | false =>
          rw [hb] at h
          simp only [cond_false] at h
          have hbb : b = !g.2 := by cases hg2 : g.2 <;> rw [hg2] at hb <;> cases b <;> first | rfl | cases hb
          have hshut : Shut ops o E := Shut.no hg hs1 hEd (by rw [hbb]; cases g.2 <;> rfl)
          exact WL.s hshut (dst_of hdst) (ih r hr _ _ k h hn s _ w hH ((hsb (!g.2) (by rw [hEd, hbb])).put (Rel.mkv undef)) hk)
      rename_i p r' ps A1 hbe hB
      cases hck : (!(dsts (ahead none (o :: r))).contains d && dstB N p.dst) with
      | false => rw [hck] at h; exact h.elim
      | true =>
      rw [hck] at h
      simp only [cond_true] at h
      simp only [Bool.and_eq_true, Bool.not_eq_true'] at hck
      obtain ⟨c2, c3⟩ := hck
      split at h
      case h_2 => exact h.elim
      rename_i a hpk
      obtain ⟨hp, hq⟩ := obs_ok h
      obtain ⟨hp1, _⟩ := guardP_ok hp
      obtain ⟨hs1, hs2⟩ := gslot_ok hgs
      have hsplit := ahead_behind none (o :: r)
      rw [hbe] at hsplit
      have hEd : E d = .bool b := (hE d _ hs2).v_of
      have c2' : d ∉ dsts (ahead none (o :: r)) := by simpa using c2
      rw [evList_drop] at hq
      generalize hBl : ahead none (o :: r) = B at *
      have hrr : r.drop B.length = r' := by
        have : (o :: r).drop (B.length + 1) = r' := by rw [hsplit, List.drop_append]; simp
        simpa using this
      rw [hrr] at hq
      have hrl : r'.length ≤ m := by rw [← hrr, List.length_drop]; omega
      have fin : ∀ E1, (∀ t, t ∉ dsts B → E1 t = E t) → (b = g.2 → EnvOK s A1 E1) → ∀ w', Ext [] w w' → WLr ro P ⟨N, DD⟩ ops ⟨Nn, X, R⟩ (p :: r') E1 w' := by
        intro E1 hag h1 w' hw
        have hk1 : EnvOK s (killA A (dsts B)) E1 := killA_env hE hag
        obtain ⟨v, hrel, hpo⟩ := pick_ok (P := P) hpk ((hag d c2').trans hEd) hk1 h1
        have hpg : p.guard = none := cxIs_ok (behind_head hbe)
        exact WL.v (Sure.none hpg) (dst_of c3) (hpo w') (ih r' hrl _ _ k hq hn s _ w' (hH.grow hw) (hk1.put hrel) hk)
      have RR := wl_rules (ro := ro) (P := P) (w := w) (N := N) (DD := DD) (ops := ops) (Q := ⟨Nn, X, R⟩)
      rw [hsplit]
      by_cases hb : b = g.2
      · exact blk_ok hS hH RR 400 (some g) [] B _ _ _ E (p :: r') hB (hp1 hb) ⟨d, hs1, c2', by rw [hEd, hb]⟩ hE (fun E1 h1 h2 => fin E1 h2 (fun _ => h1)) w (Ext.refl _ _)
      · exact blk_skip RR 400 g.1 g.2 [] B _ _ _ E (p :: r') hB ⟨d, hs1, c2', .inl (by rw [hEd, ne_not hb])⟩ (by simp) (fun E1 h1 h2 => fin E1 h2 (fun e => absurd e hb)) w (Ext.refl _ _)
end
section
variable {P : Program} {ro : Option Nat} {DD : List Deferred}
theorem reg_ok (hm : P.follows .mixedOrders = true) {S : Sums} (hS : SumsOK P Γ S) {cf : CallF} (hcf : CallOK P Γ cf) {N id : Nat} {ops : Array Oper} {d : Bool} {Nn R : Env → World → Prop} {X : Nat → Env → World → Prop} {A : AE} {st : Stt} {k : AE → Stt → Prop} (h : evReg P S cf N ops d A st k) (hn : st.h ≠ []) {s : Sg} {w0 w : World} {E : Env} (hH : Hold Γ s w0 st w) (hE : EnvOK s A E)
    (hk : ∀ A' st' s' E' w', k A' st' → s.le s' → Hold Γ s' w0 st' w' → EnvOK s' A' E' → Nn E' w') : WPr ro P ⟨N, DD⟩ (.region id ops d) ⟨Nn, X, R⟩ E w := by
  unfold evReg at h
  split at h
  · rename_i ps A' hq
    obtain ⟨hp, hq2⟩ := obs_ok h
    revert hq
    cases hdl : (d && !regOk ops) with
    | true => intro h; cases h
    | false =>
      intro hq
      refine quiet_ok hm hS hq hp (fun hd => ?_) hH hE (fun E' w' hx hE' => hk A' st s E' w' hq2 (Sg.le.refl s) (hH.grow hx) hE')
      subst hd
      simpa using hdl
  · cases d with
    | true =>
      simp only [cond_true] at h
      split at h
      · rename_i ps A' st' hd
        obtain ⟨hp, hq2⟩ := obs_ok h
        exact drawn_ok hm hS hd hp s E w hH hE (fun s' E' w' hle hH' hE' => hk A' st' s' E' w' hq2 hle hH' hE')
      · split at h
        · rename_i ps qs A' st' hd
          obtain ⟨hp, hq1⟩ := obs_ok h
          obtain ⟨hp2, hq2⟩ := obs_ok hq1
          unfold evSplit at hd
          split at hd
          · cases hd
          rename_i m hm'
          revert hd
          cases hc : (splitOk ops.toList m && regOk ((ops.toList.drop m).map (shiftO m)).toArray) with
          | false => intro hd; cases hd
          | true =>
            intro hd
            simp only [cond_true] at hd
            simp only [Bool.and_eq_true] at hc
            split at hd
            case h_2 => cases hd
            rename_i ps1 A1 st1 hd1
            split at hd
            case h_2 => cases hd
            rename_i qs1 A2 hb
            cases hd
            refine AnyWP.wp (l := ops.toList) hm (AnyWP.split hc.1 ?_)
            refine drawn_okV (ops := (ops.toList.take m).toArray) hS hd1 hp s E w hH hE fun s' E' w' hle hH' hE' => ?_
            exact quiet_okV hS hb hp2 hc.2 hH' hE' fun E2 w2 hx hE2 => hk _ _ s' E2 w2 hq2 hle (hH'.grow hx) hE2
        · split at h
          · rename_i gs ps A' st' hd
            obtain ⟨hp, hq1⟩ := obs_ok h
            obtain ⟨hp2, hq2⟩ := obs_ok hq1
            exact force_ok hm hS hd hp hp2 s E w hH hE (fun s' E' w' hle hH' hE' => hk A' st' s' E' w' hq2 hle hH' hE')
          · exact h.elim
    | false =>
      simp only [cond_false] at h
      obtain ⟨l⟩ := ops
      refine WP.region ?_
      exact evList_ok hS hcf l.length l (Nat.le_refl _) A st k h hn s E w hH hE hk
theorem loop_ok {N : Nat} {c : Code} {ev : AE → Stt → (Out → Prop) → Prop} (hev : CodeOK P Γ N c ev) (he : EvImp ev) (m : Nat) : CodeOK P Γ N (.loop c) (evLoop ev m) := by
  intro ro DD A st k h hA hn s w0 E w hH hE
  refine WP.loop (σ := Nat) (fun m E w => ∃ A st s', evLoop ev m A st k ∧ A ≠ [] ∧ st.h ≠ [] ∧ s.le s' ∧ Hold Γ s' w0 st w ∧ EnvOK s' A E) id m ⟨A, st, s, h, hA, hn, Sg.le.refl s, hH, hE⟩ ?_
  rintro m E w ⟨A, st, s', h, hA, hn, hle, hH, hE⟩
  cases m with
  | zero => exact h.elim
  | succ m =>
    have h' := he A st _ (fun o => SufO A st o ∧ (match o with | .norm A' st' => evLoop ev m A' st' k | r => k r)) h hA hn (fun o ho h => ⟨ho, h⟩)
    refine WP.mono (hev A st _ h' hA hn s' w0 E w hH hE) ?_ ?_ ?_
    · rintro E' w' ⟨A', st', s2, ⟨h1, h2⟩, h3, h4, h5⟩
      exact ⟨m, ⟨A', st', s2, h2, h1.1.ne, h1.2.1.ne, hle.trans h3, h4, h5⟩, Nat.lt_succ_self m⟩
    · rintro i E' w' ⟨A', st', s2, ⟨_, h2⟩, h3, h4, h5⟩
      exact ⟨A', st', s2, h2, hle.trans h3, h4, h5⟩
    · rintro E' w' ⟨A', st', s2, ⟨_, h2⟩, h3, h4, h5⟩
      exact ⟨A', st', s2, h2, hle.trans h3, h4, h5⟩
theorem bif_some {b : Bool} {x : Option Ps} {qs : Ps} (h : (bif b then x else none) = some qs) : b = true := by
  cases b with
  | true => rfl
  | false => cases h
theorem ann_ok {N : Nat} {c : Code} {ev : AE → Stt → (Out → Prop) → Prop} (hev : CodeOK P Γ N c ev) (he : EvImp ev) (kill : List Nat) (L : LAnn) {A : AE} {st : Stt} {k : Out → Prop} (h : evAnn ev kill L A st k) (hA : A ≠ []) (hn : st.h ≠ []) {s : Sg} {w0 w : World} {E : Env} (hH : Hold Γ s w0 st w) (hE : EnvOK s A E) : WPr ro P ⟨N, DD⟩ (.loop c) (QK Γ k s w0) E w := by
  obtain ⟨g0, h⟩ := h
  split at h
  · exact h.elim
  rename_i ps hm
  cases hc : (small kill && small (elder st.nx (L.sl g0) (L.ob g0) A st)) with
  | false => rw [hc] at h; exact h.elim
  | true =>
  rw [hc] at h
  simp only [cond_true] at h
  simp only [Bool.and_eq_true] at hc
  obtain ⟨hkill, hdel⟩ := hc
  obtain ⟨hp, hi0, hbody⟩ := obs_ok h
  generalize hdl : elder st.nx (L.sl g0) (L.ob g0) A st = del at *
  have hdom := hH.dom
  have obIds : ∀ k x, st.h.get k = some x → idsX st.nx x = true ∧ k < st.nx := by
    intro k x hk
    obtain ⟨p, h1, h2⟩ := hH.obj k x hk
    refine ⟨?_, Nat.lt_of_not_le fun hl => by rw [hdom k hl] at h1; cases h1⟩
    cases x with
    | c e cs => obtain ⟨vs, _, h3⟩ := h2.cur; exact RelL.ids hdom cs vs h3
    | q e t xs => rfl
    | mp kt vt m => rfl
    | it l n seen =>
      obtain ⟨q, h1, _⟩ := h2.cur
      exact Nat.ble_eq_true_of_le (Nat.lt_of_not_le fun hl => by rw [hdom l hl] at h1; cases h1)
  have slIds : ∀ t a, A.get t = some a → idsA st.nx a = true := fun t a ht => Rel.ids hdom a _ (hE t a ht)
  have hstart := meets_ok (s := s) (st := st) (A := A) hm hp hH hE (Sg.le.refl s) hdom hkill hdel (fun k x _ _ hk => ⟨hk, obIds k x hk⟩) (fun t a _ _ ht => ⟨ht, slIds t a ht⟩) (fun l hl hlt => by
    rw [← hdl]
    exact List.mem_filter.2 ⟨List.mem_map.2 ⟨l, hl, rfl⟩, Nat.ble_eq_true_of_le hlt⟩)
  refine WP.loop (σ := L.β) (fun g E w => L.inv g ∧ ∃ s', s.le s' ∧ Hold Γ s' w0 (headS st del (L.ob g)) w ∧ EnvOK s' (headA A kill (L.sl g)) E) L.mu g0 ⟨hi0, hstart⟩ ?_
  rintro g E w ⟨hi, s1, hle, hH1, hE1⟩
  have h' := he _ _ _ (fun o => SufO (headA A kill (L.sl g)) (headS st del (L.ob g)) o ∧ (match o with
      | .norm A' st' => bif only A A' (kill ++ (L.sl g).map (·.1)) && only st.h st'.h ((L.ob g).map (·.1) ++ del ++ List.range' st.nx (st'.nx - st.nx)) then (∃ g' : L.β, match meets st.nx false (L.sl g') (L.ob g') A' st' with
        | none => False
        | some qs => bif eqNs ((L.sl g).map (·.1)) ((L.sl g').map (·.1)) && eqNs ((L.ob g).map (·.1)) ((L.ob g').map (·.1)) then obs qs (L.inv g' ∧ L.mu g' < L.mu g) else False) else False
      | r => k r)) (hbody g hi) (by simp [headA]) (by simp [headS]) (fun o ho h => ⟨ho, h⟩)
  refine WP.mono (hev _ _ _ h' (by simp [headA]) (by simp [headS]) s1 w0 E w hH1 hE1) ?_ ?_ ?_
  · rintro E' w' ⟨A', st', s2, ⟨hsuf, hx⟩, hle2, hH2, hE2⟩
    simp only at hx
    cases hc : (only A A' (kill ++ (L.sl g).map (·.1)) && only st.h st'.h ((L.ob g).map (·.1) ++ del ++ List.range' st.nx (st'.nx - st.nx))) with
    | false => rw [hc] at hx; exact hx.elim
    | true =>
    rw [hc] at hx
    simp only [cond_true] at hx
    simp only [Bool.and_eq_true] at hc
    obtain ⟨o1, o2⟩ := hc
    obtain ⟨g', hx⟩ := hx
    split at hx
    · exact hx.elim
    rename_i qs hm'
    cases hc : (eqNs ((L.sl g).map (·.1)) ((L.sl g').map (·.1)) && eqNs ((L.ob g).map (·.1)) ((L.ob g').map (·.1))) with
    | false => rw [hc] at hx; exact hx.elim
    | true =>
    rw [hc] at hx
    simp only [cond_true] at hx
    simp only [Bool.and_eq_true] at hc
    have e1 := eqNs_ok hc.1; have e2 := eqNs_ok hc.2
    obtain ⟨hq, hi', hmu⟩ := obs_ok hx
    have hA' := only_ok o1 hsuf.1
    have hS' := only_ok o2 hsuf.2.1
    refine ⟨g', ⟨hi', meets_ok (s := s) (st := st) (A := A) (A' := A') (st' := st') hm' hq hH2 hE2 (hle.trans hle2) hdom hkill hdel ?_ ?_ ?_⟩, hmu⟩
    · intro k x h1 h2 hk
      obtain ⟨h3, h4⟩ := obIds k x hk
      refine ⟨?_, h3, h4⟩
      rw [hS' k ?_]; exact hk
      simp only [List.mem_append, not_or]
      refine ⟨⟨by rw [e2]; exact h1, h2⟩, fun hr => ?_⟩
      have := (List.mem_range'_1.1 hr).1
      omega
    · intro t a h1 h2 ht
      refine ⟨?_, slIds t a ht⟩
      rw [hA' t ?_]; exact ht
      simp only [List.mem_append, not_or]
      exact ⟨h2, by rw [e1]; exact h1⟩
    · intro l hl hlt
      exfalso
      unfold meets at hm'
      have hb := bif_some hm'
      simp only [Bool.and_eq_true, Bool.false_or] at hb
      have := ble_t (List.all_eq_true.1 hb.1.1.2 l hl)
      omega
  · rintro i E' w' ⟨A', st', s2, ⟨_, h2⟩, h3, h4, h5⟩
    exact ⟨A', st', s2, h2, hle.trans h3, h4, h5⟩
  · rintro E' w' ⟨A', st', s2, ⟨_, h2⟩, h3, h4, h5⟩
    exact ⟨A', st', s2, h2, hle.trans h3, h4, h5⟩
theorem splice_self {vs : List Value} {k : Nat} {v : Value} (h : vs[k]? = some v) : W.splice vs k [v] = vs := by
  obtain ⟨hk, e⟩ := List.getElem?_eq_some_iff.1 h
  unfold W.splice
  have : vs.drop k = v :: vs.drop (k + 1) := by rw [List.drop_eq_getElem_cons hk, e]
  rw [List.append_assoc, List.length_singleton, List.singleton_append, ← this, List.take_append_drop]
theorem nils_ok : ∀ (l : List (Nat × AX)) {A : AE} {st : Stt} {x : AE × Stt} {s : Sg} {w0 w : World} {E : Env}, nilsA l A st = some x → Hold Γ s w0 st w → EnvOK s A E → ∃ s', s.le s' ∧ Hold Γ s' w0 x.2 w ∧ EnvOK s' x.1 E
  | [], A, st, x, s, w0, w, E, h, hH, hE => by
    simp only [nilsA, Option.some.injEq] at h
    subst h
    exact ⟨s, Sg.le.refl s, hH, hE⟩
  | (t, .q e dt []) :: r, A, st, x, s, w0, w, E, h, hH, hE => by
    simp only [nilsA] at h
    split at h
    · rename_i ht
      have hv : E t = .slice none 0 0 := by
        have := hE t _ ht
        simpa only [Rel] using this
      have hle := hH.le_new (⟨0, 0, 0⟩ : Loc)
      have hrel : Rel (s.ins st.nx ⟨0, 0, 0⟩) (.ow st.nx 0) (E t) := by
        simp only [Rel]
        exact ⟨_, Sg.ins_same, Nat.le_refl _, Nat.le_refl _, .inr ⟨rfl, .inl hv⟩⟩
      have hE2 : EnvOK (s.ins st.nx ⟨0, 0, 0⟩) (putA A (some t) (.ow st.nx 0)) E := by
        have := (hE.mono hle).put (d := some t) hrel
        have e : updO E (some t) (E t) = E := by
          funext u
          simp only [updO, upd]
          cases hb : Nat.beq u t with
          | true => rw [cond_true, beq_t hb]
          | false => rfl
        rwa [e] at this
      obtain ⟨s', h1, h2, h3⟩ := nils_ok r h (hH.absent (e := e) (dt := dt)) hE2
      exact ⟨s', hle.trans h1, h2, h3⟩
    · rename_i l k _
      split at h
      · rename_i et cs hl
        split at h
        case h_2 => cases h
        rename_i hck
        cases hb : (Nat.blt l st.nx && Nat.blt st.nx 1000000) with
        | false => rw [hb] at h; cases h
        | true =>
          rw [hb] at h
          simp only [cond_true] at h
          simp only [Bool.and_eq_true, Nat.blt_eq] at hb
          have hle := hH.le_new (⟨0, 0, 0⟩ : Loc)
          have hH1 := hH.absent (e := e) (dt := dt)
          obtain ⟨p, hp, hok⟩ := hH.obj l _ hl
          have hp1 : (s.ins st.nx ⟨0, 0, 0⟩).f l = some p := hle.f l p hp
          have hl1 : (newX st (.q e dt [])).h.get l = some (.c et cs) := by
            rw [newX]; exact (Ly.get_set_ne (by omega)).trans hl
          obtain ⟨vs, hv1, hrl⟩ := hok.cur
          obtain ⟨v, hvk, hv⟩ := hrl.get hck
          have hv' : v = .slice none 0 0 := by simpa only [Rel] using hv
          have hat : ObjAt (s.ins st.nx ⟨0, 0, 0⟩) w p (.c et (spliceA cs k [.ow st.nx 0])) := by
            refine ⟨vs, hv1, ?_⟩
            have hone : RelL (s.ins st.nx ⟨0, 0, 0⟩) [.ow st.nx 0] [v] := RelL.cons (by simp only [Rel]; exact ⟨_, Sg.ins_same, Nat.le_refl _, Nat.le_refl _, .inr ⟨rfl, .inl hv'⟩⟩) RelL.nil
            have := RelL.splice (RelL.mono hle _ _ hrl) hone k
            rwa [splice_self hvk] at this
          have hH2 := hH1.turn hl1 hp1 (o' := .c et (spliceA cs k [.ow st.nx 0])) trivial (fun _ => rfl) ((Ext.refl [] w).mono (by simp)) hat
          obtain ⟨s', h1, h2, h3⟩ := nils_ok r h hH2 (hE.mono hle)
          exact ⟨s', hle.trans h1, h2, h3⟩
      · cases h
    · cases h
  | (t, .q e dt (_ :: _)) :: r, A, st, x, s, w0, w, E, h, hH, hE => by simp only [nilsA] at h; cases h
  | (t, .c e cs) :: r, A, st, x, s, w0, w, E, h, hH, hE => by
    simp only [nilsA] at h
    split at h
    case h_2 => cases h
    rename_i et cs0 hl
    split at h
    case h_2 => cases h
    rename_i cs' st' hf
    split at h
    case h_2 => cases h
    rename_i y hy
    obtain ⟨p, hp, hok⟩ := hH.obj t _ hl
    obtain ⟨vs, hv1, hrl⟩ := hok.cur
    obtain ⟨s1, k1, k2, k3, k4⟩ := freezeL_ok' hH hf hrl
    have hy' := k4.sub t y hy
    rw [hl] at hy'
    cases hy'
    have hp1 : s1.f t = some p := k1.f t p hp
    have hH2 := k2.turn hy hp1 (o' := .c et cs') trivial (fun _ => rfl) ((Ext.refl [] w).mono (by simp)) ⟨vs, hv1, k3⟩
    obtain ⟨s', h1, h2, h3⟩ := nils_ok r h hH2 (hE.mono k1)
    exact ⟨s', k1.trans h1, h2, h3⟩
theorem evNils_ok {N : Nat} {c : Code} {o : Option (AE → Stt → LAnn)} {A : AE} {st : Stt} {go : AE → Stt → Prop} {k : Out → Prop} {s : Sg} {w0 w : World} {E : Env} (h : evNils o A st go) (hA : A ≠ []) (hn : st.h ≠ []) (hH : Hold Γ s w0 st w) (hE : EnvOK s A E) (hk : ∀ A' st' s', go A' st' → A' ≠ [] → st'.h ≠ [] → Hold Γ s' w0 st' w → EnvOK s' A' E → WPr ro P ⟨N, DD⟩ c (QK Γ k s' w0) E w) : WPr ro P ⟨N, DD⟩ c (QK Γ k s w0) E w := by
  unfold evNils at h
  split at h
  · exact hk A st s h hA hn hH hE
  · obtain ⟨g, h⟩ := h
    split at h
    · rename_i x hx
      obtain ⟨a1, a2⟩ := nils_suf _ hx hA hn
      obtain ⟨s', b1, b2, b3⟩ := nils_ok _ hx hH hE
      refine WP.mono (hk _ _ s' h a1.ne a2.1.ne b2 b3) ?_ ?_ ?_
      · rintro E' w' ⟨A', st', s2, h2, h3, h4, h5⟩; exact ⟨A', st', s2, h2, b1.trans h3, h4, h5⟩
      · rintro i E' w' ⟨A', st', s2, h2, h3, h4, h5⟩; exact ⟨A', st', s2, h2, b1.trans h3, h4, h5⟩
      · rintro E' w' ⟨A', st', s2, h2, h3, h4, h5⟩; exact ⟨A', st', s2, h2, b1.trans h3, h4, h5⟩
    · exact h.elim
theorem cut_ok {N : Nat} {c1 c2 : Code} {eva evb : AE → Stt → (Out → Prop) → Prop} (ha : CodeOK P Γ N c1 eva) (hea : EvImp eva) (hb : CodeOK P Γ N c2 evb) (kill : List Nat) (L : LAnn) {A : AE} {st : Stt} {k : Out → Prop} (h : evCut eva evb kill L A st k) (hA : A ≠ []) (hn : st.h ≠ []) {s : Sg} {w0 w : World} {E : Env} (hH : Hold Γ s w0 st w) (hE : EnvOK s A E) : WPr ro P ⟨N, DD⟩ (.seq c1 c2) (QK Γ k s w0) E w := by
  obtain ⟨h1, h2⟩ := h
  have hdom := hH.dom
  have obIds : ∀ k x, st.h.get k = some x → idsX st.nx x = true ∧ k < st.nx := by
    intro k x hk
    obtain ⟨p, h1, h2⟩ := hH.obj k x hk
    refine ⟨?_, Nat.lt_of_not_le fun hl => by rw [hdom k hl] at h1; cases h1⟩
    cases x with
    | c e cs => obtain ⟨vs, _, h3⟩ := h2.cur; exact RelL.ids hdom cs vs h3
    | q e t xs => rfl
    | mp kt vt m => rfl
    | it l n seen =>
      obtain ⟨q, h1, _⟩ := h2.cur
      exact Nat.ble_eq_true_of_le (Nat.lt_of_not_le fun hl => by rw [hdom l hl] at h1; cases h1)
  have slIds : ∀ t a, A.get t = some a → idsA st.nx a = true := fun t a ht => Rel.ids hdom a _ (hE t a ht)
  have hm0 : meets st.nx true [] [] A st = some [] := rfl
  obtain ⟨s1, hle1, hH1, hE1⟩ := meets_ok (s := s) (st := st) (A := A) (kill := []) (del := []) hm0 (by simp) hH hE (Sg.le.refl s) hdom rfl rfl (fun k x _ _ hk => ⟨hk, obIds k x hk⟩) (fun t a _ _ ht => ⟨ht, slIds t a ht⟩) (fun l hl => by simp [news] at hl)
  have h1' := hea _ _ _ (fun o => SufO (.nil :: .nil :: A) ⟨.nil :: .nil :: st.h, st.nx⟩ o ∧ (match o with
      | .norm A' st' => ∃ g : L.β, match meets st.nx true (L.sl g) (L.ob g) A' st' with
        | none => False
        | some ps => bif small kill && small (elder st.nx (L.sl g) (L.ob g) A st) && only A A' (kill ++ (L.sl g).map (·.1)) && only st.h st'.h ((L.ob g).map (·.1) ++ elder st.nx (L.sl g) (L.ob g) A st ++ List.range' st.nx (st'.nx - st.nx)) && (elder st.nx (L.sl g) (L.ob g) A' st').all (fun l => (elder st.nx (L.sl g) (L.ob g) A st).contains l) then obs ps (L.inv g) else False
      | r => k r)) h1 (by simp) (by simp) (fun o ho h => ⟨ho, h⟩)
  refine WP.seq (WP.mono (ha _ _ _ h1' (by simp) (by simp) s1 w0 E w hH1 hE1) ?_ ?_ ?_)
  · rintro E' w' ⟨A', st', s2, ⟨hsuf, g, hx⟩, hle2, hH2, hE2⟩
    split at hx
    · exact hx.elim
    rename_i qs hm
    cases hc : (small kill && small (elder st.nx (L.sl g) (L.ob g) A st) && only A A' (kill ++ (L.sl g).map (·.1)) && only st.h st'.h ((L.ob g).map (·.1) ++ elder st.nx (L.sl g) (L.ob g) A st ++ List.range' st.nx (st'.nx - st.nx)) && (elder st.nx (L.sl g) (L.ob g) A' st').all (fun l => (elder st.nx (L.sl g) (L.ob g) A st).contains l)) with
    | false => rw [hc] at hx; exact hx.elim
    | true =>
    rw [hc] at hx
    simp only [cond_true] at hx
    simp only [Bool.and_eq_true] at hc
    obtain ⟨⟨⟨⟨hkill, hdel⟩, o1⟩, o2⟩, o3⟩ := hc
    obtain ⟨hq, hi⟩ := obs_ok hx
    have hA' := only_ok o1 hsuf.1
    have hS' := only_ok o2 hsuf.2.1
    obtain ⟨s3, hle3, hH3, hE3⟩ := meets_ok (s := s) (st := st) (A := A) (A' := A') (st' := st') (kill := kill) (del := elder st.nx (L.sl g) (L.ob g) A st) hm hq hH2 hE2 (hle1.trans hle2) hdom hkill hdel (by
      intro k x h1 h2 hk
      obtain ⟨h3, h4⟩ := obIds k x hk
      refine ⟨?_, h3, h4⟩
      rw [hS' k ?_]; exact hk
      simp only [List.mem_append, not_or]
      refine ⟨⟨h1, h2⟩, fun hr => ?_⟩
      have := (List.mem_range'_1.1 hr).1
      omega) (by
      intro t a h1 h2 ht
      refine ⟨?_, slIds t a ht⟩
      rw [hA' t ?_]; exact ht
      simp only [List.mem_append, not_or]
      exact ⟨h2, h1⟩) (by
      intro l hl hlt
      have := List.all_eq_true.1 o3 _ (List.mem_filter.2 ⟨List.mem_map.2 ⟨l, hl, rfl⟩, Nat.ble_eq_true_of_le hlt⟩)
      simpa using this)
    refine WP.mono (hb _ _ _ (h2 g hi) (by simp [headA]) (by simp [headS]) s3 w0 E' w' hH3 hE3) ?_ ?_ ?_
    · rintro E2 w2 ⟨A2, st2, s2, g1, g2, g3, g4⟩; exact ⟨A2, st2, s2, g1, hle3.trans g2, g3, g4⟩
    · rintro i E2 w2 ⟨A2, st2, s2, g1, g2, g3, g4⟩; exact ⟨A2, st2, s2, g1, hle3.trans g2, g3, g4⟩
    · rintro E2 w2 ⟨A2, st2, s2, g1, g2, g3, g4⟩; exact ⟨A2, st2, s2, g1, hle3.trans g2, g3, g4⟩
  · rintro i E' w' ⟨A', st', s', ⟨_, h1⟩, h2, h3, h4⟩; exact ⟨A', st', s', h1, hle1.trans h2, h3, h4⟩
  · rintro E' w' ⟨A', st', s', ⟨_, h1⟩, h2, h3, h4⟩; exact ⟨A', st', s', h1, hle1.trans h2, h3, h4⟩
/-! ### Results -/
theorem loadVar_ok {s : Sg} {w0 w : World} {st : Stt} {t : TypeId} {v : Value} {a p : AV} (hH : Hold Γ s w0 st w) (hp : Rel s p v) (h : evRead P st t p = some a) : ∃ b k u, v = .pointer (some ⟨b, k, none⟩) ∧ (loadVar t ⟨b, k, none⟩).run P w = .ok u w ∧ Rel s a u := by
  cases p with
  | ptr l k =>
    simp only [evRead] at h
    split at h
    case h_2 => cases h
    rename_i et cs hl
    obtain ⟨q, h1, h2⟩ := hH.obj l _ hl
    obtain ⟨vs, h3, h4⟩ := h2.cur
    simp only [Rel] at hp
    obtain ⟨q', h5, he⟩ := hp
    rw [h1] at h5; cases h5
    have hbox : Box w q.b et vs := h3
    rcases part_ok h h4 with ⟨u, hpl, hv, hrel⟩ | ⟨sz, us, hpl, hle, hus, hlen, hrel⟩
    · exact ⟨q.b, k, u, he, run_loadVar_one hpl (hbox.cell hv), hrel⟩
    · refine ⟨q.b, k, _, he, run_loadVar_agg hpl ?_ hlen, hrel⟩
      have := At.seg hbox k sz
      rw [hus] at this; exact this
  | pd m dt d =>
    simp only [evRead] at h
    simp only [Rel] at hp
    obtain ⟨b, k, cs, he, hf, hrd⟩ := hp
    have hat := hf.at (hH.H m)
    unfold readD at h
    split at h
    · rename_i u sz hu hsz
      cases hc : (Nat.beq sz dt.sz && (dt.isT == isAggD u)) with
      | false => rw [hc] at h; cases h
      | true =>
        rw [hc] at h
        cases h
        simp only [Bool.and_eq_true, beq_iff_eq] at hc
        have hlen := Rd.len _ _ _ hrd
        rcases oneD_ok hrd with ⟨fs, rfl, hrel⟩ | ⟨hne, v, rfl, hrel⟩
        · exact ⟨b, k, _, he, run_loadVar_agg (aggr_of hu hc.2.symm (szOf_sized hsz)) hat (by rw [hlen]; exact (beq_t hc.1).symm), hrel⟩
        · refine ⟨b, k, v, he, run_loadVar_one (plain_of hu ?_) (by have := hat 0 v rfl; simpa using this), hrel⟩
          have h2 := hc.2.symm
          cases dt with
          | t fs => exact absurd rfl (hne fs)
          | _ => simpa [DT.isT] using h2
    · cases h
  | _ => simp [evRead] at h
theorem resA_ok {s : Sg} {w0 w : World} {st : Stt} {A : AE} {tmps : Array Value} {r : ResultVar} {a : AV} (hH : Hold Γ s w0 st w) (hE : EnvOK s A (fun t => tmps.getD t undef)) (h : resA P A st r = some a) : ∃ v, (readVar tmps r).run P w = .ok v w ∧ Rel s a v := by
  cases r with
  | tmp t => exact ⟨_, rfl, hE t a h⟩
  | cell x t =>
    simp only [resA] at h
    split at h
    · rename_i p hp
      obtain ⟨b, k, u, h1, h2, h3⟩ := loadVar_ok hH (hE x p hp) h
      refine ⟨u, ?_, h3⟩
      simp only [readVar, h1, asAddr, Sem.run_bind, Sem.run_pure, Result.andThen_ok, h2]
    · cases h
theorem resAs_ok {s : Sg} {w0 w : World} {st : Stt} {A : AE} {tmps : Array Value} (hH : Hold Γ s w0 st w) (hE : EnvOK s A (fun t => tmps.getD t undef)) : ∀ (rs : List ResultVar) (as' : List AV), resAs P A st rs = some as' → ∃ vs, (rs.mapM (readVar tmps)).run P w = .ok vs w ∧ RelL s as' vs
  | [], as', h => by simp only [resAs, Option.some.injEq] at h; subst h; exact ⟨[], by simp, RelL.nil⟩
  | r :: rs, as', h => by
    simp only [resAs] at h
    split at h
    · rename_i a ha
      split at h
      · rename_i as2 h2
        cases h
        obtain ⟨v, h3, h4⟩ := resA_ok hH hE ha
        obtain ⟨vs, h5, h6⟩ := resAs_ok hH hE rs as2 h2
        exact ⟨v :: vs, by simp only [List.mapM_cons, Sem.run_bind, Sem.run_pure, Result.andThen_ok, h3, h5], RelL.cons h4 h6⟩
      · cases h
    · cases h
theorem results_ok {s : Sg} {w0 w : World} {st : Stt} {A : AE} {tmps : Array Value} {fn : Func} {as' : List AV} (hH : Hold Γ s w0 st w) (hE : EnvOK s A (fun t => tmps.getD t undef)) (h : resAs P A st fn.results.toList = some as') :
    ∃ vs, (results fn tmps).run P w = .ok (tupV vs) w ∧ RelL s as' vs := by
  obtain ⟨vs, h1, h2⟩ := resAs_ok hH hE _ _ h
  refine ⟨vs, ?_, h2⟩
  rw [results_eq]
  have e : fn.results.mapM (readVar tmps) = List.toArray <$> fn.results.toList.mapM (readVar tmps) := by
    obtain ⟨rs⟩ := fn.results
    simp
  rw [e]
  simp only [Sem.run_bind, Sem.run_map, Sem.run_pure, Result.andThen_ok, h1]
  congr 1
  match vs with
  | [] => rfl
  | [v] => rfl
  | v :: u :: r => simp [tupV]
theorem argsA_get : ∀ (l : List AV) (k t : Nat) (a : AV), (argsA l k).get t = some a → k ≤ t ∧ l[t - k]? = some a
  | [], k, t, a, h => by
    simp only [argsA, Ly.get, Ly.go, Tr.get] at h
    cases hb : Nat.blt t 1000000 <;> rw [hb] at h <;> cases h
  | x :: r, k, t, a, h => by
    simp only [argsA] at h
    rcases Ly.get_set h with ⟨rfl, e⟩ | ⟨_, e⟩
    · cases e; exact ⟨Nat.le_refl _, by simp⟩
    · obtain ⟨h1, h2⟩ := argsA_get r (k + 1) t a e
      refine ⟨by omega, ?_⟩
      rw [show t - k = (t - (k + 1)) + 1 from by omega]
      simpa using h2
theorem argsA_ne : ∀ (l : List AV) (i : Nat), argsA l i ≠ []
  | [], i => by simp [argsA]
  | a :: r, i => ((Suf.refl (argsA_ne r (i + 1))).set i (some a)).ne
theorem inl_ok {ev : FuncId → Nat → Code → AE → Stt → (Out → Prop) → Prop} (hev : ∀ f N c, CodeOK P Γ N c (ev f N c)) (he : ∀ f N c, EvImp (ev f N c)) : CallOK P Γ (callInl P ev) := by
  intro f l st k h hn s w0 w vs hH hr
  have h := inl_imp he f l st k (fun a st' => k a st' ∧ st'.h ≠ []) h hn (fun a st' hs h => ⟨h, hs.1.ne⟩)
  unfold callInl at h
  split at h
  · exact h.elim
  rename_i fn hf
  cases hb0 : Nat.blt fn.ntmps l.length with
  | true => rw [hb0] at h; exact h.elim
  | false =>
  rw [hb0] at h
  simp only [cond_false] at h
  have hlen : vs.length ≤ fn.ntmps := by
    rw [← hr.len]
    rcases Nat.lt_or_ge fn.ntmps l.length with h1 | h1
    · have : Nat.blt fn.ntmps l.length = true := Nat.ble_eq_true_of_le h1
      rw [this] at hb0; cases hb0
    · exact h1
  split at h
  · exact h.elim
  rename_i c hb
  refine Fnc.of_WP hf hb rfl (by simpa using hlen) (fun E hE => ?_)
  have hEnv : EnvOK s (argsA l 0) E := by
    intro t a ht
    obtain ⟨_, h2⟩ := argsA_get l 0 t a ht
    obtain ⟨v, h3, h4⟩ := hr.get h2
    have h3' : vs[t]? = some v := h3
    have hlt : t < vs.length := (List.getElem?_eq_some_iff.1 h3').1
    rw [hE t (by simpa using hlt)]
    have : vs.toArray.getD t undef = v := by
      rw [List.getElem?_eq_getElem hlt] at h3'
      simpa [Array.getD, hlt] using h3'
    rw [this]; exact h4
  have fin : ∀ A' st' s' E' w', retA P fn A' st' (fun a st' => k a st' ∧ st'.h ≠ []) → s.le s' → Hold Γ s' w0 st' w' → EnvOK s' A' E' → resOf fn P E' w' fun v w'' => ∃ a st' s', k a st' ∧ st'.h ≠ [] ∧ s.le s' ∧ Hold Γ s' w0 st' w'' ∧ Rel s' a v := by
    intro A' st' s' E' w' hret hle hH' hE' tmps _ he
    subst he
    unfold retA at hret
    split at hret
    · rename_i as' has
      obtain ⟨us, h1, h2⟩ := results_ok hH' hE' has
      exact ⟨_, h1, _, st', s', hret.1, hret.2, hle, hH', tup1_rel h2⟩
    · exact hret.elim
  refine WP.mono (hev f _ c _ _ _ h (argsA_ne l 0) hn s w0 E w hH hEnv) ?_ ?_ ?_
  · rintro E' w' ⟨A', st', s', h1, h2, h3, h4⟩
    exact fin A' st' s' E' w' h1 h2 h3 h4
  · rintro i E' w' ⟨A', st', s', h1, _⟩
    exact h1
  · rintro E' w' ⟨A', st', s', h1, h2, h3, h4⟩
    exact fin A' st' s' E' w' h1 h2 h3 h4
theorem code_ok (hm : P.follows .mixedOrders = true) {S : Sums} (hS : SumsOK P Γ S) {an : Anns} : ∀ (n : Nat) (f : FuncId) (N : Nat) (c : Code), CodeOK P Γ N c (evCode P S an n f N c)
  | 0, _, _, _ => fun _ _ _ h => by simp only [evCode] at h
  | n + 1, f, N, c => by
    intro A st k h hA hn s w0 E w hH hE
    have ih := code_ok hm hS (an := an) n
    have im := code_imp (P := P) (S := S) (an := an) n
    unfold evCode at h
    split at h
    · exact WP.skip ⟨A, st, s, h, Sg.le.refl s, hH, hE⟩
    · exact WP.label ⟨A, st, s, h, Sg.le.refl s, hH, hE⟩
    · exact reg_ok hm hS (inl_ok ih im) h hn hH hE fun A' st' s' E' w' h1 h2 h3 h4 => ⟨A', st', s', h1, h2, h3, h4⟩
    · rename_i x y
      refine evNils_ok h hA hn hH hE fun A st s h hA hn hH hE => ?_
      split at h
      · exact cut_ok (ih f N x) (im f N x) (ih f N y) _ _ h hA hn hH hE
      · have h' := im f N x A st _ (fun o => SufO A st o ∧ (match o with | .norm A' st' => evNils (annOf an f (frzKey y)) A' st' fun A' st' => evCode P S an n f N y A' st' k | r => k r)) h hA hn (fun o ho h => ⟨ho, h⟩)
        refine WP.seq (WP.mono (ih f N x A st _ h' hA hn s w0 E w hH hE) ?_ ?_ ?_)
        · rintro E' w' ⟨A', st', s', ⟨h0, h1⟩, h2, h3, h4⟩
          refine WP.mono (evNils_ok h1 h0.1.ne h0.2.1.ne h3 h4 fun A2 st2 s2 h hA hn hH hE => ih f N y A2 st2 k h hA hn s2 w0 E' w' hH hE) ?_ ?_ ?_
          · rintro E2 w2 ⟨A2, st2, s2, g1, g2, g3, g4⟩; exact ⟨A2, st2, s2, g1, h2.trans g2, g3, g4⟩
          · rintro i E2 w2 ⟨A2, st2, s2, g1, g2, g3, g4⟩; exact ⟨A2, st2, s2, g1, h2.trans g2, g3, g4⟩
          · rintro E2 w2 ⟨A2, st2, s2, g1, g2, g3, g4⟩; exact ⟨A2, st2, s2, g1, h2.trans g2, g3, g4⟩
        · rintro i E' w' ⟨A', st', s', ⟨_, h1⟩, h2, h3, h4⟩; exact ⟨A', st', s', h1, h2, h3, h4⟩
        · rintro E' w' ⟨A', st', s', ⟨_, h1⟩, h2, h3, h4⟩; exact ⟨A', st', s', h1, h2, h3, h4⟩
    · rename_i x a b
      split at h
      · rename_i t ht
        have hv := opd_v ht hE
        cases t with
        | true => exact WP.cond_true hv (ih f N a A st k h hA hn s w0 E w hH hE)
        | false => exact WP.cond_false hv (ih f N b A st k h hA hn s w0 E w hH hE)
      · exact h.elim
    · rename_i id b
      refine WP.block (WP.mono (ih f N b A st _ h hA hn s w0 E w hH hE) ?_ ?_ ?_)
      · rintro E' w' ⟨A', st', s', h1, h2, h3, h4⟩; exact ⟨A', st', s', h1, h2, h3, h4⟩
      · rintro i E' w' ⟨A', st', s', h1, h2, h3, h4⟩
        simp only at h1 ⊢
        revert h1
        cases Nat.beq i id with
        | true => intro h1; exact ⟨A', st', s', h1, h2, h3, h4⟩
        | false => intro h1; exact ⟨A', st', s', h1, h2, h3, h4⟩
      · rintro E' w' ⟨A', st', s', h1, h2, h3, h4⟩; exact ⟨A', st', s', h1, h2, h3, h4⟩
    · rename_i b
      split at h
      · exact evNils_ok h hA hn hH hE fun A' st' s' h hA hn hH hE => ann_ok (ih f N b) (im f N b) _ _ h hA hn hH hE
      · exact loop_ok (ih f N b) (im f N b) n A st k h hA hn s w0 E w hH hE
    · exact WP.exit ⟨A, st, s, h, Sg.le.refl s, hH, hE⟩
    · exact WP.ret ⟨A, st, s, h, Sg.le.refl s, hH, hE⟩
    · exact WP.scope (ih f N _ A st k h hA hn s w0 E w hH hE)
    · exact h.elim
end
end Go.Proofs.YtnhfkdgambncfaaGreatDoor.Sv
namespace Go.Proofs.YtnhfkdgambncfaaGreatDoor.Sv
open Go.RowKit Go.Proofs.YtnhfkdgambncfaaGreatDoor.W
variable {Γ : Gl}

mutual
theorem eqD_ok {F : Fz} : ∀ (t : DT) (d e : D) (cs : List Value), (∀ p ∈ eqD t d e, p) → Rd F t d cs → Rd F t e cs
  | .i _, d, e, cs, hp, h => by simp only [Rd] at h ⊢; rw [← hp (d.int = e.int) (by simp [eqD])]; exact h
  | .b, d, e, cs, hp, h => by simp only [Rd] at h ⊢; rw [← hp (d.bool = e.bool) (by simp [eqD])]; exact h
  | .s, d, e, cs, hp, h => by simp only [Rd] at h ⊢; rw [← hp (d.str = e.str) (by simp [eqD])]; exact h
  | .l _, d, e, cs, hp, h => by simp only [Rd] at h ⊢; rw [← hp (d.list = e.list) (by simp [eqD])]; exact h
  | .t fs, d, e, cs, hp, h => by simp only [Rd] at h ⊢; exact eqDs_ok fs d.tup e.tup cs (by simpa only [eqD] using hp) h
theorem eqDs_ok {F : Fz} : ∀ (ts : List DT) (ds es : List D) (cs : List Value), (∀ p ∈ eqDs ts ds es, p) → Rds F ts ds cs → Rds F ts es cs
  | [], _, _, _, _, h => by simpa only [Rds] using h
  | t :: r, ds, es, cs, hp, h => by
    simp only [eqDs] at hp
    simp only [Rds] at h ⊢
    obtain ⟨us, vs, h1, h2, h3⟩ := h
    exact ⟨us, vs, h1, eqD_ok t _ _ us (fun p hpp => hp p (List.mem_append_left _ hpp)) h2, eqDs_ok r _ _ vs (fun p hpp => hp p (List.mem_append_right _ hpp)) h3⟩
end
theorem OwnRd.mono {G G' : Fz} {w : World} {et : TypeId} {t : DT} {xs : List D} {v : Value} {os : List Nat} (k : Sub G G') (h : OwnRd G w et t xs v os) : OwnRd G' w et t xs v os := by
  rcases h with h | ⟨p, h1, h2, h3, h4⟩
  · exact .inl h
  · refine .inr ⟨p, h1, h2, h3, ?_⟩
    obtain ⟨a1, a2, a3, a4⟩ := h4
    refine ⟨a1, a2, a3, fun hc => ?_⟩
    obtain ⟨cur, b1, b2, b3, b4⟩ := a4 hc
    exact ⟨cur, b1, b2, b3, fun i x hi => Rd.mono k t x _ (b4 i x hi)⟩
mutual
theorem RkRd.mono {G G' : Fz} {w : World} (k : Sub G G') : ∀ (r : RK) (d : D) (cs : List Value) (os : List Nat), RkRd G w r d cs os → RkRd G' w r d cs os
  | .d t, d, cs, os, h => by simp only [RkRd] at h ⊢; exact ⟨h.1, Rd.mono k t d cs h.2⟩
  | .own et t, d, cs, os, h => by simp only [RkRd] at h ⊢; obtain ⟨v, h1, h2⟩ := h; exact ⟨v, h1, h2.mono k⟩
  | .agg ks, d, cs, os, h => by simp only [RkRd] at h ⊢; exact RkRds.mono k ks d.tup cs os h
  | .any, d, cs, os, h => by simpa only [RkRd] using h
  | .er, d, cs, os, h => by simpa only [RkRd] using h
theorem RkRds.mono {G G' : Fz} {w : World} (k : Sub G G') : ∀ (rs : List RK) (ds : List D) (cs : List Value) (os : List Nat), RkRds G w rs ds cs os → RkRds G' w rs ds cs os
  | [], _, _, _, h => by simpa only [RkRds] using h
  | r :: rs, ds, cs, os, h => by
    simp only [RkRds] at h ⊢
    obtain ⟨c1, c2, o1, o2, h1, h2, h3, h4⟩ := h
    exact ⟨c1, c2, o1, o2, h1, h2, RkRd.mono k r _ c1 o1 h3, RkRds.mono k rs _ c2 o2 h4⟩
end
theorem OutsRd.mono {G G' : Fz} {w : World} (k : Sub G G') : ∀ (rs : List RK) (ds : List D) (vs : List Value) (os : List Nat), OutsRd G w rs ds vs os → OutsRd G' w rs ds vs os
  | [], _, _, _, h => h
  | r :: rs, ds, vs, os, h => by
    obtain ⟨v, vs', cs, o1, o2, h1, h2, h3, h4, h5⟩ := h
    exact ⟨v, vs', cs, o1, o2, h1, h2, h3, RkRd.mono k r _ cs o1 h4, OutsRd.mono k rs _ vs' o2 h5⟩
theorem BoxesRd.mono {G G' : Fz} {w : World} (k : Sub G G') : ∀ (ks : List AK) (es : List D) (bs : List Nat), BoxesRd G w ks es bs → BoxesRd G' w ks es bs
  | [], _, _, _ => trivial
  | .d _ _ :: r, es, bs, h => BoxesRd.mono k r es bs h
  | .p _ :: r, es, bs, h => BoxesRd.mono k r es bs h
  | .o _ _ _ :: _, _, _, h => h.elim
  | .box et ts :: r, es, bs, h => by
    obtain ⟨b, bs', h1, ⟨cs, h2, h3⟩, h4⟩ := h
    exact ⟨b, bs', h1, ⟨cs, h2, Rds.mono k ts _ cs h3⟩, BoxesRd.mono k r _ bs' h4⟩
mutual
theorem rk_one {G : Fz} {w : World} : ∀ (k : RK) (d : D) (cs : List Value) (os : List Nat), RkRd G w k d cs os → ∀ u ∈ cs, u.oneCell' = true
  | .d t, d, cs, os, h => by simp only [RkRd] at h; exact Rd.one t d cs h.2
  | .own et t, d, cs, os, h => by
    simp only [RkRd] at h
    obtain ⟨v, rfl, hown⟩ := h
    intro x hx
    simp only [List.mem_singleton] at hx
    subst hx
    rcases hown with ⟨hz, _⟩ | ⟨p, rfl, _⟩
    · exact hz.one
    · rfl
  | .agg ks, d, cs, os, h => by simp only [RkRd] at h; exact rks_one ks d.tup cs os h
  | .any, d, cs, os, h => by
    simp only [RkRd] at h
    obtain ⟨_, v, rfl, hv⟩ := h
    intro x hx
    simp only [List.mem_singleton] at hx
    subst hx
    exact hv
  | .er, d, cs, os, h => by
    simp only [RkRd] at h
    obtain ⟨_, v, rfl, hv⟩ := h
    intro x hx
    simp only [List.mem_singleton] at hx
    subst hx
    rcases hv with ⟨_, rfl⟩ | ⟨_, u, p, rfl⟩ <;> rfl
theorem rks_one {G : Fz} {w : World} : ∀ (ks : List RK) (ds : List D) (cs : List Value) (os : List Nat), RkRds G w ks ds cs os → ∀ u ∈ cs, u.oneCell' = true
  | [], _, _, _, h => by simp only [RkRds] at h; rw [h.1]; simp
  | k :: ks, ds, cs, os, h => by
    simp only [RkRds] at h
    obtain ⟨c1, c2, o1, o2, rfl, _, h1, h2⟩ := h
    intro u hu
    rcases List.mem_append.1 hu with hu | hu
    · exact rk_one k _ c1 o1 h1 u hu
    · exact rks_one ks _ c2 o2 h2 u hu
end
/-- how states turn where values are handed back; os: the blocks that are handed over -/
structure RetOK (Γ : Gl) (s : Sg) (st : Stt) (w0 w : World) (s' : Sg) (st' : Stt) (os : List Nat) : Prop where
  le : s.le s'
  hold : Hold Γ s' w0 st' w
  frz : FrzRel s st s' st'
  nd : os.Nodup
  live : ∀ b ∈ os, ∃ l o p, st.h.get l = some o ∧ s.f l = some p ∧ there o p ∧ p.b = b
  new : ∀ b ∈ os, w0.heap.size ≤ b ∧ s'.F b = none
  apart : ∀ l o p, st'.h.get l = some o → s'.f l = some p → there o p → p.b ∉ os
theorem RetOK.comp {s s1 s2 : Sg} {st st1 st2 : Stt} {w0 w : World} {o1 o2 : List Nat} (h : RetOK Γ s st w0 w s1 st1 o1) (k : RetOK Γ s1 st1 w0 w s2 st2 o2) : RetOK Γ s st w0 w s2 st2 (o1 ++ o2) where
  le := h.le.trans k.le
  hold := k.hold
  frz := h.frz.trans k.frz
  nd := by
    refine List.nodup_append.2 ⟨h.nd, k.nd, fun a ha b hb e => ?_⟩
    subst e
    obtain ⟨l, o, p, h1, h2, h3, h4⟩ := k.live a hb
    exact h.apart l o p h1 h2 h3 (h4 ▸ ha)
  live := by
    intro b hb
    rcases List.mem_append.1 hb with hb | hb
    · exact h.live b hb
    · obtain ⟨l, o, p, h1, h2, h3⟩ := k.live b hb
      exact ⟨l, o, p, h.frz.sub l o h1, by rw [← h.frz.f]; exact h2, h3⟩
  new := by
    intro b hb
    rcases List.mem_append.1 hb with hb | hb
    · obtain ⟨h1, h2⟩ := h.new b hb
      exact ⟨h1, k.frz.F b h2 fun l o p g1 g2 g3 e => h.apart l o p g1 g2 g3 (e ▸ hb)⟩
    · exact k.new b hb
  apart := by
    intro l o p h1 h2 h3 hb
    rcases List.mem_append.1 hb with hb | hb
    · exact h.apart l o p (k.frz.sub l o h1) (by rw [← k.frz.f]; exact h2) h3 hb
    · exact k.apart l o p h1 h2 h3 hb
theorem RetOK.of_frz {s s' : Sg} {st st' : Stt} {w0 w : World} (h1 : s.le s') (h2 : Hold Γ s' w0 st' w) (h3 : FrzRel s st s' st') : RetOK Γ s st w0 w s' st' [] :=
  ⟨h1, h2, h3, List.nodup_nil, by simp, by simp, by simp⟩
section
variable {P : Program} {w0 w : World}
/-- a row that is handed over -/
theorem own_ret {s : Sg} {st : Stt} (hH : Hold Γ s w0 st w) {l n c : Nat} {et : TypeId} {t : DT} {xs : List D} {p : Loc} {v : Value} {e : D} (hl : st.h.get l = some (.q et t xs)) (hp : s.f l = some p) (hn : n ≤ p.m) (hc : n ≤ c ∧ c ≤ p.c) (hv : v = .slice (some ⟨p.b, 0, none⟩) n c ∨ (p.c = 0 ∧ ZV v)) (he : xs.take n = e.list) :
    ∃ os, RetOK Γ s st w0 w s (delX st l) os ∧ OwnRd s.G w et t e.list v os := by
  obtain ⟨p', hp', g1, g2, g3, g4⟩ := hH.row hl
  rw [hp] at hp'; cases hp'
  have hlen : (xs.take n).length = n := by rw [List.length_take]; omega
  have hbase : FrzRel s st s (delX st l) := ⟨rfl, fun k x hk => (delX_key hk).2, fun _ h _ => h⟩
  by_cases hcz : c = 0
  · refine ⟨[], RetOK.of_frz (Sg.le.refl s) (hH.del l) hbase, .inl ⟨?_, ?_, rfl⟩⟩
    · rcases hv with rfl | ⟨_, hv⟩
      · have : n = 0 := by omega
        subst this; subst hcz
        exact .inr ⟨_, rfl⟩
      · exact hv
    · rw [← he]; exact List.eq_nil_of_length_eq_zero (by omega)
  · have hc0 : p.c ≠ 0 := by omega
    have hv' : v = .slice (some ⟨p.b, 0, none⟩) n c := by
      rcases hv with hv | ⟨h, _⟩
      · exact hv
      · exact absurd h hc0
    obtain ⟨q, hq, hob⟩ := hH.obj l _ hl
    rw [hp] at hq; cases hq
    obtain ⟨hF, hge⟩ := hob.free hc0
    have hge' : w0.heap.size ≤ p.b := by
      rcases hge with h | ⟨_, h⟩
      · exact h
      · cases h
    obtain ⟨cur, h1, h2, h3, h4⟩ := hH.els hl hp hc0
    have h5 := h4.cut n (by omega)
    rw [List.take_take, Nat.min_eq_left (Nat.mul_le_mul_right _ (by omega)), he] at h5
    have hll : e.list.length = n := by rw [← he]; exact hlen
    refine ⟨[p.b], ⟨Sg.le.refl s, hH.del l, hbase, by simp, fun b hb => ?_, fun b hb => ?_, fun k x q hk hq ht hb => ?_⟩, .inr ⟨⟨p.b, c, n⟩, by rw [hll]; exact hv', hcz, rfl, ?_⟩⟩
    · simp only [List.mem_singleton] at hb
      exact ⟨l, _, p, hl, hp, hc0, hb.symm⟩
    · simp only [List.mem_singleton] at hb
      subst hb; exact ⟨hge', hF⟩
    · simp only [List.mem_singleton] at hb
      obtain ⟨hne, hx⟩ := delX_key hk
      exact hne (hH.inj k l x _ q p hx hl hq hp ht hc0 hb)
    · refine obj_row (s := ⟨fun _ => none, s.G, s.G, [], s.G⟩) (us := cur.toList.take (n * t.sz)) (cur := cur) h5 h1 (Nat.le_trans (Nat.mul_le_mul_right _ hc.2) h2) h3 ?_ hll hc.1 (Nat.le_trans hc.2 g3)
      rw [List.length_take, Nat.min_eq_left]
      rw [Array.length_toList]
      exact Nat.le_trans (Nat.mul_le_mul_right _ (by omega)) h2
mutual
theorem retRes_ok : ∀ (k : RK) (cs : List AV) (e : D) (ps : Ps) (s : Sg) (st st' : Stt) (vs : List Value), retRes st k cs e = some (ps, st') → (∀ p ∈ ps, p) → Hold Γ s w0 st w → RelL s cs vs → ∃ s' os, RetOK Γ s st w0 w s' st' os ∧ RkRd s'.G w k e vs os
  | .d t, cs, e, ps, s, st, st', vs, h, hp, hH, hr => by
    simp only [retRes] at h
    split at h
    case h_2 => cases h
    rename_i cs' st1 hf
    split at h
    case h_2 => cases h
    rename_i d hd
    cases h
    obtain ⟨s', k1, k2, k3, k4⟩ := freezeL_ok' hH hf hr
    obtain ⟨us, ws, h1, h2, h3⟩ := toD_ok k2 (Sees.self _ w) t cs' vs d [] hd k3
    have := h3.unnil
    subst this
    rw [List.append_nil] at h1
    subst h1
    exact ⟨s', [], RetOK.of_frz k1 k2 k4, by simp only [RkRd]; exact ⟨trivial, eqD_ok t d e _ hp h2⟩⟩
  | .own et t, cs, e, ps, s, st, st', vs, h, hp, hH, hr => by
    cases cs with
    | nil => simp [retRes] at h
    | cons a r =>
    cases r with
    | cons b r => simp [retRes] at h
    | nil =>
    obtain ⟨v, vs', h1, h2, rfl⟩ := hr.uncons
    have := h2.unnil
    subst this
    have zero : ∀ {w' : World}, ZV v → ([] : List D) = e.list → ∃ s' os, RetOK Γ s st w0 w s' st os ∧ RkRd s'.G w (.own et t) e [v] os := fun hv he =>
      ⟨s, [], RetOK.of_frz (Sg.le.refl s) hH (FrzRel.refl _ _), by simp only [RkRd]; exact ⟨v, rfl, .inl ⟨hv, he.symm, rfl⟩⟩⟩
    simp only [retRes] at h
    split at h
    · rename_i l n
      split at h
      case h_2 => cases h
      rename_i et' t' xs hl
      cases hc : (Nat.beq et et' && t.beq t') with
      | false => rw [hc] at h; cases h
      | true =>
      rw [hc] at h
      cases h
      simp only [Bool.and_eq_true] at hc
      have e1 := beq_t hc.1; have e2 := DT.beq_ok hc.2
      subst e1; subst e2
      simp only [Rel] at h1
      obtain ⟨p, hp1, hn, hmc, hv⟩ := h1
      obtain ⟨os, k1, k2⟩ := own_ret hH hl hp1 hn ⟨by omega, Nat.le_refl _⟩ hv (hp _ (List.mem_singleton.2 rfl))
      exact ⟨s, os, k1, by simp only [RkRd]; exact ⟨v, rfl, k2⟩⟩
    · rename_i l n
      split at h
      case h_2 => cases h
      rename_i et' t' xs hl
      cases hc : (Nat.beq et et' && t.beq t') with
      | false => rw [hc] at h; cases h
      | true =>
      rw [hc] at h
      cases h
      simp only [Bool.and_eq_true] at hc
      have e1 := beq_t hc.1; have e2 := DT.beq_ok hc.2
      subst e1; subst e2
      simp only [Rel] at h1
      obtain ⟨p, hp1, hn, hmc, hv⟩ := h1
      obtain ⟨os, k1, k2⟩ := own_ret hH hl hp1 hn ⟨Nat.le_refl _, by omega⟩ hv (hp _ (List.mem_singleton.2 rfl))
      exact ⟨s, os, k1, by simp only [RkRd]; exact ⟨v, rfl, k2⟩⟩
    · cases h
      exact zero (w' := w) (.inl h1.v_of) (hp _ (List.mem_singleton.2 rfl))
    · cases h
      simp only [Rel] at h1
      exact zero (w' := w) h1 (hp _ (List.mem_singleton.2 rfl))
    · cases h
  | .agg ks, cs, e, ps, s, st, st', vs, h, hp, hH, hr => by
    simp only [retRes] at h
    obtain ⟨s', os, h1, h2⟩ := retRess_ok ks cs e.tup ps s st st' vs h hp hH hr
    exact ⟨s', os, h1, by simp only [RkRd]; exact h2⟩
  | .any, cs, e, ps, s, st, st', vs, h, hp, hH, hr => by
    cases cs with
    | nil => simp [retRes] at h
    | cons a r =>
    cases r with
    | cons b r => simp [retRes] at h
    | nil =>
    simp only [retRes] at h
    obtain ⟨v, vs', hv, hvs, rfl⟩ := hr.uncons
    have := hvs.unnil
    subst this
    cases ho : oneCellA a with
    | false => rw [ho] at h; cases h
    | true =>
    rw [ho] at h
    cases h
    exact ⟨s, [], RetOK.of_frz (Sg.le.refl s) hH (FrzRel.refl _ _), by simp only [RkRd]; exact ⟨trivial, v, rfl, hv.one ho⟩⟩
  | .er, cs, e, ps, s, st, st', vs, h, hp, hH, hr => by
    cases cs with
    | nil => simp [retRes] at h
    | cons a r =>
    cases r with
    | cons b r => cases a <;> simp [retRes] at h
    | nil =>
    cases a with
    | er x =>
      simp only [retRes, Option.some.injEq, Prod.mk.injEq] at h
      obtain ⟨rfl, rfl⟩ := h
      obtain ⟨v, vs', hv, hvs, rfl⟩ := hr.uncons
      have := hvs.unnil
      subst this
      have hx := hp _ (List.mem_singleton.2 rfl)
      simp only [Rel] at hv
      rw [hx] at hv
      exact ⟨s, [], RetOK.of_frz (Sg.le.refl s) hH (FrzRel.refl _ _), by simp only [RkRd]; exact ⟨trivial, v, rfl, hv⟩⟩
    | _ => simp [retRes] at h
theorem retRess_ok : ∀ (ks : List RK) (cs : List AV) (es : List D) (ps : Ps) (s : Sg) (st st' : Stt) (vs : List Value), retRess st ks cs es = some (ps, st') → (∀ p ∈ ps, p) → Hold Γ s w0 st w → RelL s cs vs → ∃ s' os, RetOK Γ s st w0 w s' st' os ∧ RkRds s'.G w ks es vs os
  | [], cs, es, ps, s, st, st', vs, h, hp, hH, hr => by
    cases cs with
    | cons a r => simp [retRess] at h
    | nil =>
    simp only [retRess, Option.some.injEq, Prod.mk.injEq] at h
    obtain ⟨_, rfl⟩ := h
    exact ⟨s, [], RetOK.of_frz (Sg.le.refl s) hH (FrzRel.refl _ _), by simp only [RkRds]; exact ⟨hr.unnil, trivial⟩⟩
  | k :: ks, cs, es, ps, s, st, st', vs, h, hp, hH, hr => by
    simp only [retRess] at h
    split at h
    case h_2 => cases h
    rename_i ps1 st1 h1
    split at h
    case h_2 => cases h
    rename_i ps2 st2 h2
    cases h
    obtain ⟨s1, o1, a1, a2⟩ := retRes_ok k _ _ ps1 s st st1 _ h1 (fun p hpp => hp p (List.mem_append_left _ hpp)) hH (hr.take k.sz)
    obtain ⟨s2, o2, b1, b2⟩ := retRess_ok ks _ _ ps2 s1 st1 _ _ h2 (fun p hpp => hp p (List.mem_append_right _ hpp)) a1.hold (RelL.mono a1.le _ _ (hr.drop k.sz))
    exact ⟨s2, o1 ++ o2, a1.comp b1, by simp only [RkRds]; exact ⟨_, _, o1, o2, (List.take_append_drop k.sz vs).symm, rfl, RkRd.mono b1.le.G k _ _ o1 a2, b2⟩⟩
end
theorem retOuts_ok : ∀ (ks : List RK) (as' : List AV) (es : List D) (ps : Ps) (s : Sg) (st st' : Stt) (vs : List Value), retOuts st ks as' es = some (ps, st') → (∀ p ∈ ps, p) → Hold Γ s w0 st w → RelL s as' vs → ∃ s' os, RetOK Γ s st w0 w s' st' os ∧ OutsRd s'.G w ks es vs os
  | [], as', es, ps, s, st, st', vs, h, hp, hH, hr => by
    cases as' with
    | cons a r => simp [retOuts] at h
    | nil =>
    simp only [retOuts, Option.some.injEq, Prod.mk.injEq] at h
    obtain ⟨_, rfl⟩ := h
    exact ⟨s, [], RetOK.of_frz (Sg.le.refl s) hH (FrzRel.refl _ _), ⟨hr.unnil, rfl⟩⟩
  | k :: ks, as', es, ps, s, st, st', vs, h, hp, hH, hr => by
    cases as' with
    | nil => simp [retOuts] at h
    | cons a r =>
    simp only [retOuts] at h
    cases hg : (isAggA a == k.isAgg) with
    | false => rw [hg] at h; cases h
    | true =>
    rw [hg] at h
    simp only [cond_true] at h
    split at h
    case h_2 => cases h
    rename_i ps1 st1 h1
    split at h
    case h_2 => cases h
    rename_i ps2 st2 h2
    cases h
    obtain ⟨v, vs', hv, hvs, rfl⟩ := hr.uncons
    obtain ⟨s1, o1, a1, a2⟩ := retRes_ok k _ _ ps1 s st st1 _ h1 (fun p hpp => hp p (List.mem_append_left _ hpp)) hH hv.cells
    obtain ⟨s2, o2, b1, b2⟩ := retOuts_ok ks r _ ps2 s1 st1 _ vs' h2 (fun p hpp => hp p (List.mem_append_right _ hpp)) a1.hold (RelL.mono a1.le _ _ hvs)
    refine ⟨s2, o1 ++ o2, a1.comp b1, v, vs', v.cells.toList, o1, o2, rfl, rfl, ?_, RkRd.mono b1.le.G k _ _ o1 a2, b2⟩
    have hb : isAggA a = k.isAgg := by simpa using hg
    refine isAggA_val hv hb ?_ ?_
    · cases k with
      | d t =>
        simp only [RkRd] at a2
        have := Rd.len _ _ _ a2.2
        rw [this]
        cases t <;> simp [RK.isAgg, DT.isT, DT.sz]
      | own et t => simp only [RkRd] at a2; obtain ⟨u, hu, _⟩ := a2; rw [hu]; exact .inl rfl
      | agg ks => exact .inr rfl
      | any => simp only [RkRd] at a2; obtain ⟨_, u, hu, _⟩ := a2; rw [hu]; exact .inl rfl
      | er => simp only [RkRd] at a2; obtain ⟨_, u, hu, _⟩ := a2; rw [hu]; exact .inl rfl
    · exact rk_one k _ _ o1 a2
end
end Go.Proofs.YtnhfkdgambncfaaGreatDoor.Sv
namespace Go.Proofs.YtnhfkdgambncfaaGreatDoor.Sv
open Go.RowKit Go.Proofs.YtnhfkdgambncfaaGreatDoor.W
variable {Γ : Gl}

section
variable {P : Program} {w0 w : World}
/-- the names of the variables that were handed over, and their blocks -/
def Ids (s : Sg) : Nat → List Nat → Prop
  | _, [] => True
  | k, b :: bs => (∃ p, s.f k = some p ∧ p.b = b) ∧ Ids s (k + 1) bs
theorem Ids.mono {s s' : Sg} (h : s.le s') : ∀ (bs : List Nat) (k : Nat), Ids s k bs → Ids s' k bs
  | [], _, _ => trivial
  | b :: bs, k, ⟨⟨p, h1, h2⟩, h3⟩ => ⟨⟨p, h.f _ _ h1, h2⟩, Ids.mono h bs (k + 1) h3⟩
theorem retBoxes_ok : ∀ (ks : List AK) (k : Nat) (es : List D) (ps : Ps) (s : Sg) (st st' : Stt) (bs : List Nat), retBoxes st ks k es = some (ps, st') → (∀ p ∈ ps, p) → Hold Γ s w0 st w → Ids s k bs → bs.length = nBox ks → ∃ s', s.le s' ∧ Hold Γ s' w0 st' w ∧ FrzRel s st s' st' ∧ BoxesRd s'.G w ks es bs
  | [], k, es, ps, s, st, st', bs, h, hp, hH, hI, hn => by
    simp only [retBoxes, Option.some.injEq, Prod.mk.injEq] at h
    obtain ⟨_, rfl⟩ := h
    exact ⟨s, Sg.le.refl s, hH, FrzRel.refl _ _, trivial⟩
  | .d _ _ :: r, k, es, ps, s, st, st', bs, h, hp, hH, hI, hn => by
    simp only [retBoxes] at h
    exact retBoxes_ok r k es ps s st st' bs h hp hH hI hn
  | .o _ _ _ :: r, k, es, ps, s, st, st', bs, h, hp, hH, hI, hn => by simp [retBoxes] at h
  | .p _ :: r, k, es, ps, s, st, st', bs, h, hp, hH, hI, hn => by
    simp only [retBoxes] at h
    exact retBoxes_ok r k es ps s st st' bs h hp hH hI hn
  | .box et ts :: r, k, es, ps, s, st, st', bs, h, hp, hH, hI, hn => by
    cases bs with
    | nil => simp [nBox] at hn
    | cons b bs =>
    simp only [retBoxes] at h
    split at h
    case h_2 => cases h
    rename_i et' cs hl
    split at h
    case h_2 => cases h
    rename_i cs' st1 hf
    split at h
    case h_2 => cases h
    rename_i ds hds
    split at h
    case h_2 => cases h
    rename_i qs st2 hr
    cases hc : Nat.beq et et' with
    | false => rw [hc] at h; cases h
    | true =>
    rw [hc] at h
    cases h
    have := beq_t hc
    subst this
    obtain ⟨⟨p, hp1, rfl⟩, hI2⟩ := hI
    obtain ⟨p', hp', hob⟩ := hH.obj k _ hl
    rw [hp1] at hp'; cases hp'
    obtain ⟨vs, h1, h2⟩ := hob.cur
    obtain ⟨s1, k1, k2, k3, k4⟩ := freezeL_ok' hH hf h2
    obtain ⟨us, ws, h3, h4, h5⟩ := toDs_ok k2 (Sees.self _ w) ts cs' vs ds [] hds k3
    have := h5.unnil
    subst this
    rw [List.append_nil] at h3
    subst h3
    obtain ⟨s2, m1, m2, m3, m4⟩ := retBoxes_ok r (k + 1) _ qs s1 st1 _ bs hr (fun p hpp => hp p (List.mem_append_right _ hpp)) k2 (Ids.mono k1 bs _ hI2) (by simpa [nBox] using hn)
    exact ⟨s2, k1.trans m1, m2, k4.trans m3, p.b, bs, rfl, ⟨vs, h1, Rds.mono m1.G ts _ vs (eqDs_ok ts ds _ vs (fun p hpp => hp p (List.mem_append_left _ hpp)) h4)⟩, m4⟩
theorem args_nBox {F G : Fz} : ∀ (ks : List AK) (ds : List D) (vs : List Value) (bs : List Nat), ArgsRd F G w ks ds vs bs → bs.length = nBox ks
  | [], _, _, _, h => by rw [h.2]; rfl
  | .d _ _ :: r, ds, _, bs, h => by obtain ⟨v, vs', rfl, _, h2⟩ := h; exact args_nBox r _ _ _ h2
  | .o _ _ _ :: r, _, _, _, h => h.elim
  | .p _ :: r, ds, _, bs, h => by obtain ⟨v, vs', rfl, _, h2⟩ := h; exact args_nBox r _ _ _ h2
  | .box _ _ :: r, ds, _, _, h => by obtain ⟨v, vs', b, bs', rfl, rfl, _, _, h2⟩ := h; simp [nBox, args_nBox r _ _ _ h2]
/-- what a function begins with -/
theorem start_ok {F G : Fz} : ∀ (ks : List AK) (ds : List D) (vs : List Value) (bs : List Nat) (s : Sg) (st : Stt), ArgsRd F G w ks ds vs bs → Hold Γ s w st w → s.F = F → s.G = G → (∀ b ∈ bs, F b = none ∧ b ∈ s.X) → bs.Nodup → (∀ l o p, st.h.get l = some o → s.f l = some p → there o p → p.b ∉ bs) → st.h ≠ [] →
    ∃ s', s.le s' ∧ s'.F = F ∧ s'.G = G ∧ Hold Γ s' w (startSt ks ds st) w ∧ RelL s' (startAs ks ds st.nx) vs ∧ Ids s' st.nx bs ∧ (startSt ks ds st).h ≠ []
  | [], ds, vs, bs, s, st, hA, hH, hF, hG, hb, hnd, hap, hn => by
    obtain ⟨rfl, rfl⟩ := hA
    exact ⟨s, Sg.le.refl s, hF, hG, hH, RelL.nil, trivial, hn⟩
  | .d wf t :: r, ds, vs, bs, s, st, hA, hH, hF, hG, hb, hnd, hap, hn => by
    obtain ⟨v, vs', rfl, ⟨cs, h1, h2⟩, h3⟩ := hA
    obtain ⟨s', k1, k2, k3, k4, k5, k6, k7⟩ := start_ok r _ vs' bs s st h3 hH hF hG hb hnd hap hn
    have hHm : s'.H wf = (bif wf then G else F) := by cases wf <;> simp [Sg.H, k2, k3]
    have hrel : Rel s' (oneD wf t (nthD ds 0)) v := val_rel (oneD_agg wf t _).1 (oneD_agg wf t _).2 (by rw [oneD_cells]; exact cellsD_ok hHm t _ cs h1) h2
    exact ⟨s', k1, k2, k3, k4, RelL.cons hrel k5, k6, k7⟩
  | .o _ _ _ :: r, ds, vs, bs, s, st, hA, hH, hF, hG, hb, hnd, hap, hn => hA.elim
  | .p t :: r, ds, vs, bs, s, st, hA, hH, hF, hG, hb, hnd, hap, hn => by
    obtain ⟨v, vs', rfl, ⟨b, j, cs, h0, h1, h2⟩, h3⟩ := hA
    obtain ⟨s', k1, k2, k3, k4, k5, k6, k7⟩ := start_ok r _ vs' bs s st h3 hH hF hG hb hnd hap hn
    have hrel : Rel s' (.pd false t (nthD ds 0)) v := by
      simp only [Rel]
      exact ⟨b, j, cs, h0, by simpa [Sg.H, k2] using h1, by simpa [Sg.H, k2] using h2⟩
    exact ⟨s', k1, k2, k3, k4, RelL.cons hrel k5, k6, k7⟩
  | .box et ts :: r, ds, vs, bs, s, st, hA, hH, hF, hG, hb, hnd, hap, hn => by
    obtain ⟨v, vs', b, bs', rfl, rfl, rfl, ⟨cs, h1, h2⟩, h3⟩ := hA
    obtain ⟨n1, n2⟩ := List.nodup_cons.1 hnd
    have hle := hH.le_new ⟨b, 0, 0⟩
    have hob : ObjAt (s.ins st.nx ⟨b, 0, 0⟩) w ⟨b, 0, 0⟩ (.c et (cellsDs true ts (nthD ds 0) 0)) := ⟨cs, h1, cellsDs_ok (F := G) (by simp [Sg.H, Sg.ins, hG]) ts _ 0 _ cs (fun i => by rw [Nat.zero_add]; rfl) h2⟩
    have hH' : Hold Γ (s.ins st.nx ⟨b, 0, 0⟩) w (newX st (.c et (cellsDs true ts (nthD ds 0) 0))) w := by
      refine hH.upd hle rfl rfl (fun k x hk => newX_key hk) Sg.ins_same ?_ hH.ext (fun _ _ _ _ _ _ _ _ => rfl) hH.frz ⟨fun _ => ⟨by show s.F b = none; rw [hF]; exact (hb b (by simp)).1, .inr ⟨(hb b (by simp)).2, rfl⟩⟩, hob⟩ ?_
      · intro k hk
        have hk' : st.nx + 1 ≤ k := hk
        simp only [Sg.ins]
        rw [if_neg (by omega)]
        exact hH.dom k (by omega)
      · intro k x q _ _ hk hq ht _ e
        exact hap k x q hk hq ht (by rw [e]; simp)
    obtain ⟨s', k1, k2, k3, k4, k5, k6, k7⟩ := start_ok r _ vs' bs' (s.ins st.nx ⟨b, 0, 0⟩) (newX st (.c et (cellsDs true ts (nthD ds 0) 0))) h3 hH' hF hG (fun b hbm => hb b (List.mem_cons_of_mem _ hbm)) n2 (fun l o p hl hp ht hm => by
      rcases newX_key hl with ⟨rfl, rfl⟩ | ⟨hne, _, hx⟩
      · rw [Sg.ins_same] at hp; cases hp
        exact n1 hm
      · simp only [Sg.ins, if_neg hne] at hp
        exact hap l o p hx hp ht (List.mem_cons_of_mem _ hm)) (((Suf.refl hn).set _ _).ne)
    exact ⟨s', hle.trans k1, k2, k3, k4, RelL.cons (by simp only [Rel]; exact ⟨_, k1.f _ _ Sg.ins_same, rfl⟩) k5, ⟨⟨_, k1.f _ _ Sg.ins_same, rfl⟩, k6⟩, k7⟩
theorem tupV_outs {s : Sg} {n : Nat} {a : AV} {v : Value} {as' : List AV} (h : outsOf n a = some as') (hr : Rel s a v) : ∃ vs, RelL s as' vs ∧ (as'.length = n → v = tupV vs) := by
  unfold outsOf at h
  split at h
  · cases h; exact ⟨[v], RelL.cons hr RelL.nil, fun _ => rfl⟩
  · rename_i hne
    split at h
    · cases h
      simp only [Rel] at hr
      obtain ⟨vs, h1, rfl⟩ := hr
      refine ⟨vs, h1, fun hl => ?_⟩
      rw [h1.len] at hl
      match vs, hl with
      | [], _ => rfl
      | [x], hl => exact absurd hl.symm (by simpa using hne)
      | _ :: _ :: _, _ => rfl
    · cases h
theorem retOuts_len : ∀ (ks : List RK) (as' : List AV) (es : List D) (st : Stt) (r : Ps × Stt), retOuts st ks as' es = some r → as'.length = ks.length
  | [], [], _, _, _, _ => rfl
  | [], _ :: _, _, _, _, h => by simp [retOuts] at h
  | _ :: _, [], _, _, _, h => by simp [retOuts] at h
  | k :: ks, a :: as', es, st, r, h => by
    simp only [retOuts] at h
    cases hg : (isAggA a == k.isAgg) with
    | false => rw [hg] at h; cases h
    | true =>
    rw [hg] at h
    simp only [cond_true] at h
    split at h
    case h_2 => cases h
    split at h
    case h_2 => cases h
    rename_i h2
    simp [retOuts_len ks as' _ _ _ h2]
/-- A contract holds, if what its function's code asks for holds. -/
theorem con_of (hm : P.follows .mixedOrders = true) {S : Sums} (hS : SumsOK P Γ S) {an : Anns} (n : Nat) {f : FuncId} {c : Con} (h : ∀ ds : List D, ds.length = c.args.length → (∀ p ∈ c.pre ds, p) → conGoal P S an n f c ds) : ConOK P Γ f c := by
  intro F G w vs ds bs hgl hgb hF hGF hnd hbF hargs hlen hpre
  have hg := h ds hlen hpre
  unfold conGoal at hg
  have hbw : ∀ (ks : List AK) (ds : List D) (vs : List Value) (bs : List Nat), ArgsRd F G w ks ds vs bs → ∀ b ∈ bs, b < w.heap.size := by
    intro ks
    induction ks with
    | nil => intro ds vs bs h b hb; rw [h.2] at hb; simp at hb
    | cons k ks ih =>
      intro ds vs bs h b hb
      cases k with
      | d wf t => obtain ⟨v, vs', _, _, h3⟩ := h; exact ih _ _ _ h3 b hb
      | p t => obtain ⟨v, vs', _, _, h3⟩ := h; exact ih _ _ _ h3 b hb
      | o _ _ _ => exact h.elim
      | box et ts =>
        obtain ⟨v, vs', b', bs', _, rfl, _, ⟨cs, h4, _⟩, h3⟩ := h
        rcases List.mem_cons.1 hb with rfl | hb
        · exact (Array.getElem?_eq_some_iff.1 h4).1
        · exact ih _ _ _ h3 b hb
  have hH0 : Hold Γ ⟨fun _ => none, F, G, bs, G⟩ w ⟨[.nil], 0⟩ w := by
    have hno : ∀ l o, (⟨[.nil], 0⟩ : Stt).h.get l = some o → False := by
      intro l o hl
      simp only [Ly.get, Ly.go, Tr.get] at hl
      cases hb : Nat.blt l 1000000 <;> rw [hb] at hl <;> cases hl
    exact ⟨Ext.refl _ w, hF, hGF, fun _ _ => rfl, fun l o hl => (hno l o hl).elim, fun l l' o o' p p' hl => (hno l o hl).elim, fun b hb => .inl hb, hgl, hgb⟩
  obtain ⟨s, k1, k2, k3, k4, k5, k6, k7⟩ := start_ok c.args ds vs bs ⟨fun _ => none, F, G, bs, G⟩ ⟨[.nil], 0⟩ hargs hH0 rfl rfl (fun b hb => ⟨hbF b hb, hb⟩) hnd (fun l o p _ hp => by cases hp) (by simp)
  refine Fnc.mono (inl_ok (code_ok hm hS n) (code_imp n) f _ _ _ hg k7 s w w vs k4 k5) ?_
  rintro v w' ⟨a, st, s', hret, hn, hle, hH', hrel⟩
  unfold retOK at hret
  split at hret
  · exact hret.elim
  rename_i as' hout
  split at hret
  · exact hret.elim
  rename_i ps st1 hbx
  split at hret
  case h_2 => exact hret.elim
  rename_i qs st2 hro
  have hps := conj_ok hret
  obtain ⟨s1, b1, b2, b3, b4⟩ := retBoxes_ok c.args 0 _ ps s' st st1 bs hbx (fun p hp => hps p (List.mem_append_left _ hp)) hH' (Ids.mono hle bs 0 k6) (args_nBox _ _ _ _ hargs)
  obtain ⟨us, u1, u2⟩ := tupV_outs hout hrel
  obtain ⟨s2, os, r1, r2⟩ := retOuts_ok c.res as' _ qs s1 st1 st2 us hro (fun p hp => hps p (List.mem_append_right _ hp)) b2 (RelL.mono b1 _ _ u1)
  have hall : (⟨fun _ => none, F, G, bs, G⟩ : Sg).le s2 := k1.trans (hle.trans (b1.trans r1.le))
  have hX : s2.X = bs := hall.X
  have hG0 : s2.G0 = G := hall.G0
  refine ⟨s2.G, os, us, hX ▸ r1.hold.ext, hall.G, fun b o hb => r1.hold.frz b o (r1.hold.gf b o hb), fun b h1 h2 => ?_, r1.nd, fun b hb => ⟨(r1.new b hb).1, ?_⟩, r2, u2 (retOuts_len _ _ _ _ _ hro), BoxesRd.mono r1.le.G _ _ _ b4⟩
  · rcases r1.hold.gnew b h2 with h | h
    · rw [hG0] at h; exact absurd h1 h
    · exact h
  · cases hg2 : s2.G b with
    | none => rfl
    | some o => have := r1.hold.gf b o hg2; rw [(r1.new b hb).2] at this; cases this
end
end Go.Proofs.YtnhfkdgambncfaaGreatDoor.Sv
namespace Go.Proofs.YtnhfkdgambncfaaGreatDoor.Sv
open Go.RowKit Go.Proofs.YtnhfkdgambncfaaGreatDoor.W
variable {Γ : Gl}

theorem cond_of {b : Bool} {p q : Prop} (h : b = true → p) (k : b = false → q) : cond b p q := by cases b; exact k rfl; exact h rfl
def LAnn.bad : LAnn := ⟨Unit, fun _ => [], fun _ => [], fun _ => False, fun _ => 0⟩
theorem len0 {ds : List D} (h : ds.length = 0) : ds = [] := List.eq_nil_of_length_eq_zero h
theorem len1 {ds : List D} (h : ds.length = 1) : ∃ a, ds = [a] := List.length_eq_one_iff.1 h
theorem len2 {ds : List D} (h : ds.length = 2) : ∃ a b, ds = [a, b] := by
  match ds, h with
  | [a, b], _ => exact ⟨a, b, rfl⟩
theorem len3 {ds : List D} (h : ds.length = 3) : ∃ a b c, ds = [a, b, c] := by
  match ds, h with
  | [a, b, c], _ => exact ⟨a, b, c, rfl⟩
theorem len4 {ds : List D} (h : ds.length = 4) : ∃ a b c d, ds = [a, b, c, d] := by
  match ds, h with
  | [a, b, c, d], _ => exact ⟨a, b, c, d, rfl⟩
theorem len5 {ds : List D} (h : ds.length = 5) : ∃ a b c d e, ds = [a, b, c, d, e] := by
  match ds, h with
  | [a, b, c, d, e], _ => exact ⟨a, b, c, d, e, rfl⟩
theorem int_i (n : Int) : (D.i n).int = n := rfl
theorem bool_b (x : Bool) : (D.b x).bool = x := rfl
theorem str_s (x : ByteArray) : (D.s x).str = x := rfl
theorem list_l (x : List D) : (D.l x).list = x := rfl
/-- relations of numbers that are closed -/
abbrev condI (b : Bool) (x y : Int) : Int := cond b x y
abbrev EqI (a b : Int) : Prop := a = b
abbrev LeI (a b : Int) : Prop := a ≤ b
abbrev LtI (a b : Int) : Prop := a < b
mutual
/-- a datum, made anew of its parts -/
def etaD : DT → D → D
  | .i _, d => .i d.int
  | .b, d => .b d.bool
  | .s, d => .s d.str
  | .l _, d => .l d.list
  | .t fs, d => .t (etaDs fs d 0)
def etaDs : List DT → D → Nat → List D
  | [], _, _ => []
  | t :: r, d, j => etaD t (d.fld j) :: etaDs r d (j + 1)
end
def putFs : List D → List (Nat × D) → List D
  | xs, [] => xs
  | xs, (j, x) :: r => putFs (setD xs j x) r
/-- a struct's datum with some parts changed -/
def putF (t : DT) (a : D) (l : List (Nat × D)) : D := match t with
  | .t fs => .t (putFs (etaDs fs a 0) l)
  | _ => a
/-- a program of whose variables nothing need be known -/
def Gl.none : Gl := ⟨0, fun _ => True, fun _ _ => Nat.zero_le _, fun _ _ _ _ _ => trivial⟩
/-- no contract at all -/
def noS : Sums := fun _ => none
theorem noS_ok (P : Program) : SumsOK P Γ noS := fun _ _ h => by cases h
def addS (f : FuncId) (c : Con) (S : Sums) : Sums := fun g => bif Nat.beq g f then some c else S g
theorem addA_ok {P : Program} {f : FuncId} {c : Con} {S : Sums} (h : ConAny P Γ f c) (k : SumsOK P Γ S) : SumsOK P Γ (addS f c S) := fun g d hg => by
  unfold addS at hg
  cases hb : Nat.beq g f with
  | true => rw [hb] at hg; cases hg; rw [beq_t hb]; exact h
  | false => rw [hb] at hg; exact k g d hg
theorem addS_ok {P : Program} {f : FuncId} {c : Con} {S : Sums} (h : ConOK P Γ f c) (k : SumsOK P Γ S) (hr : rowOf c.args = none := by rfl) : SumsOK P Γ (addS f c S) :=
  addA_ok (by unfold ConAny; rw [hr]; exact h) k
theorem addR_ok {P : Program} {f : FuncId} {c : Con} {S : Sums} {et : TypeId} {t : DT} {fs : List FuncId} (h : RowOK P Γ f c et t fs) (k : SumsOK P Γ S) (hr : rowOf c.args = some (et, t, fs) := by rfl) : SumsOK P Γ (addS f c S) :=
  addA_ok (by unfold ConAny; rw [hr]; exact h) k
mutual
/-- a datum of a type, whose numbers are in range -/
def WT : DT → D → Prop
  | .i k, d => inK k d.int
  | .b, _ => True
  | .s, d => d.str.size ≤ 9223372036854775807
  | .l e, d => d.list.length ≤ 9223372036854775807 ∧ ∀ x ∈ d.list, WT e x
  | .t fs, d => WTs fs d.tup
def WTs : List DT → List D → Prop
  | [], _ => True
  | t :: r, ds => WT t (nthD ds 0) ∧ WTs r (tailD ds)
end
theorem WT.elem {e : DT} {xs : List D} (h : ∀ x ∈ xs, WT e x) {i : Nat} (hi : i < xs.length) : WT e (nthD xs i) := h _ (List.mem_of_getElem? (get_nthD hi))
end Go.Proofs.YtnhfkdgambncfaaGreatDoor.Sv
namespace Go.Proofs.YtnhfkdgambncfaaGreatDoor.Sv
open Go.ChangeShapes Go.WideShapes Go.ChangeAt Go.RowKit Go.Proofs.YtnhfkdgambncfaaGreatDoor.W
variable {Γ : Gl}

mutual
/-- a datum of a type, whose numbers are in range, and whose texts and lists are of at most B -/
def GT (B : Nat) : DT → D → Prop
  | .i k, d => inK k d.int
  | .b, _ => True
  | .s, d => d.str.size ≤ B
  | .l e, d => d.list.length ≤ B ∧ ∀ x ∈ d.list, GT B e x
  | .t fs, d => GTs B fs d.tup
def GTs (B : Nat) : List DT → List D → Prop
  | [], _ => True
  | t :: r, ds => GT B t (nthD ds 0) ∧ GTs B r (tailD ds)
end
theorem GT.elem {B : Nat} {e : DT} {xs : List D} (h : ∀ x ∈ xs, GT B e x) {i : Nat} (hi : i < xs.length) : GT B e (nthD xs i) := h _ (List.mem_of_getElem? (get_nthD hi))
mutual
/-- a type of the program is a type of data -/
def chk (P : Program) : DT → TypeId → Bool
  | .i k, t => match P.underlying t with | some (.int k') => decide (k = k') | _ => false
  | .b, t => match P.underlying t with | some .bool => true | _ => false
  | .s, t => match P.underlying t with | some .string => true | _ => false
  | .l e, t => match P.underlying t with | some (.slice te) => Nat.beq (P.cellsOf te) e.sz && Nat.ble 1 e.sz && Nat.ble 1 (P.bytesOf te) && chk P e te | _ => false
  | .t fs, t => match P.underlying t with | some (.struct gs) => Nat.beq (P.cellsOf t) (DT.szs fs) && Nat.beq gs.size fs.length && chks P fs gs.toList 0 | _ => false
def chks (P : Program) : List DT → List Field → Nat → Bool
  | [], [], _ => true
  | t :: r, g :: gs, off => Nat.beq g.offset off && Nat.beq (P.cellsOf g.type) t.sz && chk P t g.type && chks P r gs (off + t.sz)
  | _, _, _ => false
end
/-- what bounds the data that came in -/
structure Bd {H : Type} (P : Program) (B : Nat) (Q : TypeId → DataW H → Prop) : Prop where
  str : ∀ t l, Q t (.lit (.string l)) → l.length ≤ B
  sl : ∀ t e es sp, P.underlying t = some (.slice e) → 1 ≤ P.bytesOf e → Q t (.slice es sp) → es.length ≤ B ∧ ∀ d ∈ es, Q e d
  st : ∀ t fs ps, P.underlying t = some (.struct fs) → Q t (.agg ps) → ∀ (i : Nat) (f : Field) (d : DataW H), fs[i]? = some f → ps[i]? = some d → Q f.type d
theorem wAll_mem {H : Type} {P : Program} {e : TypeId} : ∀ {l : List (DataW H)} {d : DataW H} {n : Nat}, d ∈ l → n ∈ DataW.weights P e d → n ∈ DataW.weightsAll P e l
  | x :: r, d, n, h, hn => by
    simp only [DataW.weightsAll, List.mem_append]
    rcases List.mem_cons.1 h with rfl | h
    · exact .inl hn
    · exact .inr (wAll_mem h hn)
theorem wEach_mem {H : Type} {P : Program} : ∀ {ts : List TypeId} {l : List (DataW H)} {i : Nat} {t : TypeId} {d : DataW H} {n : Nat}, ts[i]? = some t → l[i]? = some d → n ∈ DataW.weights P t d → n ∈ DataW.weightsEach P ts l
  | t :: ts, d :: r, 0, _, _, n, h1, h2, hn => by
    simp only [List.getElem?_cons_zero, Option.some.injEq] at h1 h2
    subst h1; subst h2
    simp only [DataW.weightsEach, List.mem_append]; exact .inl hn
  | t :: ts, d :: r, i + 1, _, _, n, h1, h2, hn => by
    simp only [DataW.weightsEach, List.mem_append]
    exact .inr (wEach_mem (by simpa using h1) (by simpa using h2) hn)
theorem Bd.sized (H : Type) (P : Program) : Bd (H := H) P reachBytes (fun t d => ∀ n ∈ DataW.weights P t d, n ≤ reachBytes) := by
  refine ⟨fun t l h => h _ (by simp [DataW.weights]), fun t e es sp ht hb h => ?_, fun t fs ps ht h i f d h1 h2 n hn => h n ?_⟩
  · simp only [DataW.weights, ht] at h
    refine ⟨?_, fun d hd n hn => h n (List.mem_cons_of_mem _ (List.mem_append.2 (.inl (wAll_mem hd hn))))⟩
    have h1 := h _ (List.mem_cons_self ..)
    have h2 : (es.length + sp.length) * 1 ≤ (es.length + sp.length) * P.bytesOf e := Nat.mul_le_mul_left _ hb
    omega
  · simp only [DataW.weights, ht]
    refine wEach_mem (i := i) (t := f.type) (d := d) ?_ h2 hn
    rw [List.getElem?_map]
    have : fs.toList[i]? = some f := by simpa using h1
    rw [this]; rfl
theorem cell_heap {w : World} {b k : Nat} {v : Value} (h : w.cell? ⟨b, k, none⟩ = some v) : ∃ arr et fz, w.heap[b]? = some (.cells arr et fz) ∧ arr[k]? = some v := by
  unfold World.cell? at h
  split at h
  · split at h
    · cases h
    · rename_i heq _
      exact ⟨_, _, _, heq, h⟩
  · cases h
theorem spot_none' {w : World} {a : Addr} {v : Value} (h : w.cell? a = some v) : a.spot = none := by
  unfold World.cell? at h
  split at h
  · split at h
    · cases h
    · rename_i hs; simpa using hs
  · cases h
theorem listD_of {n : Nat} {Q : Nat → D → Prop} (h : ∀ i, i < n → ∃ d, Q i d) : ∃ xs : List D, xs.length = n ∧ ∀ i x, xs[i]? = some x → Q i x := by
  induction n with
  | zero => exact ⟨[], rfl, by simp⟩
  | succ n ih =>
    obtain ⟨xs, hl, hx⟩ := ih fun i hi => h i (by omega)
    obtain ⟨d, hd⟩ := h n (Nat.lt_succ_self n)
    refine ⟨xs ++ [d], by simp [hl], fun i x hi => ?_⟩
    rw [List.getElem?_append] at hi
    split at hi
    · exact hx i x hi
    · rename_i hge
      have : i - xs.length = 0 := by
        rcases Nat.eq_zero_or_pos (i - xs.length) with h0 | h0
        · exact h0
        · rw [List.getElem?_eq_none (by simp; omega)] at hi; cases hi
      rw [this] at hi
      simp only [List.getElem?_cons_zero, Option.some.injEq] at hi
      subst hi
      obtain rfl : i = n := by omega
      exact hd
section
variable {H : Type} {enc : TypeId × Value → H} {P : Program} {B : Nat} {Q : TypeId → DataW H → Prop}
mutual
/-- what reads at a type is a datum of it -/
theorem rd_trod (hB : Bd P B Q) (w : World) : ∀ (t : DT) (ti : TypeId) (fuel : Nat) (cs : List Value) (x : DataW H × List MemPlace), chk P t ti = true → DataW.trod enc P w 0 (fun _ => true) true fuel ti cs = some x → Q ti x.1 → ∃ d, Rd (fun b => w.heap[b]?) t d cs ∧ GT B t d
  | .i k, ti, fuel, cs, x, hc, h, hQ => by
    simp only [chk] at hc
    split at hc
    · rename_i k' ht
      have : k = k' := of_decide_eq_true hc
      subst this
      obtain ⟨n, rfl, rfl, hwf⟩ := DataW.trod_int ht h
      exact ⟨.i n, by simp [Rd, D.int], by simp only [GT, D.int]; simpa [Lit.wf, inK] using hwf⟩
    · cases hc
  | .b, ti, fuel, cs, x, hc, h, hQ => by
    simp only [chk] at hc
    split at hc
    · rename_i ht
      obtain ⟨b, rfl, rfl⟩ := DataW.trod_bool ht h
      exact ⟨.b b, by simp [Rd, D.bool], trivial⟩
    · cases hc
  | .s, ti, fuel, cs, x, hc, h, hQ => by
    simp only [chk] at hc
    split at hc
    · rename_i ht
      obtain ⟨s, rfl, rfl, hs⟩ := DataW.trod_string ht h
      exact ⟨.s s, by simp [Rd, D.str], by simpa [GT, D.str] using hB.str _ _ hQ⟩
    · cases hc
  | .l e, ti, fuel, cs, x, hc, h, hQ => by
    simp only [chk] at hc
    split at hc
    case h_2 => cases hc
    rename_i te ht
    simp only [Bool.and_eq_true] at hc
    obtain ⟨⟨⟨c1, c2⟩, c3⟩, c4⟩ := hc
    have c1 : P.cellsOf te = e.sz := Nat.eq_of_beq_eq_true c1
    have c2 : 1 ≤ e.sz := Nat.le_of_ble_eq_true c2
    have c3 : 1 ≤ P.bytesOf te := Nat.le_of_ble_eq_true c3
    rcases DataW.trod_slice ht h with ⟨rfl, rfl⟩ | ⟨a, len, cap, elems, rest, n, _, rfl, rfl, _, hlc, hcm, hel, hat, hsp, _⟩
    · exact ⟨.l [], by simp only [Rd, D.list]; exact ⟨_, rfl, .inl ⟨rfl, .inl rfl⟩⟩, by simp [GT, D.list]⟩
    · obtain ⟨q1, q2⟩ := hB.sl _ _ _ _ ht c3 hQ
      have key : ∀ i, i < len → ∃ d, GT B e d ∧ ∃ cs, Rd (fun b => w.heap[b]?) e d cs ∧ w.cells? 0 (a.add (i * e.sz)) e.sz = some cs := by
        intro i hi
        have h1 := hat i hi
        have hlt : i < elems.length := by omega
        rw [List.getElem?_eq_getElem hlt, c1] at h1
        cases hcs : w.cells? 0 (a.add (i * e.sz)) e.sz with
        | none => rw [hcs] at h1; cases h1
        | some cs =>
          rw [hcs] at h1
          obtain ⟨d, hd, hg⟩ := rd_trod hB w e te n cs _ c4 h1 (q2 _ (List.mem_map.2 ⟨_, List.getElem_mem hlt, rfl⟩))
          exact ⟨d, hg, cs, hd, rfl⟩
      obtain ⟨xs, hlen, hxs⟩ := listD_of key
      have hbytes : len ≤ B := by rw [List.length_map, hel] at q1; exact q1
      refine ⟨.l xs, ?_, ?_⟩
      · simp only [Rd, D.list]
        refine ⟨_, rfl, ?_⟩
        by_cases hcap : cap = 0
        · have h0 : len = 0 := by omega
          have : xs = [] := List.eq_nil_of_length_eq_zero (by omega)
          subst this
          rw [hcap, h0]
          exact .inl ⟨rfl, .inr ⟨a, rfl⟩⟩
        · have h0 : ∃ cs, w.cells? 0 (a.add (0 * e.sz)) e.sz = some cs := by
            rcases Nat.eq_zero_or_pos len with hl | hl
            · obtain ⟨h1, h2⟩ := hsp rfl
              have h3 := h2 0 (by omega)
              rw [hl, Nat.zero_add, c1, List.getElem?_eq_getElem (by omega : 0 < rest.length)] at h3
              cases hcs : w.cells? 0 (a.add (0 * e.sz)) e.sz with
              | none => rw [hcs] at h3; cases h3
              | some cs => exact ⟨cs, rfl⟩
            · obtain ⟨_, _, cs, _, h1⟩ := key 0 hl
              exact ⟨cs, h1⟩
          have hspot : a.spot = none := by
            obtain ⟨cs, h1⟩ := h0
            obtain ⟨_, h2, h3⟩ := World.cells?_some h1
            have h4 := h3 0 (by omega)
            rw [List.getElem?_eq_getElem (by omega : 0 < cs.length)] at h4
            have := spot_none' h4
            simpa [Addr.add] using this
          obtain ⟨b, k, sp⟩ := a
          simp only at hspot
          subst hspot
          refine .inr ⟨b, k, cap, by rw [hlen], by omega, hcm, fun i x hx => ?_⟩
          obtain ⟨_, cs, hr, h1⟩ := hxs i x hx
          obtain ⟨_, h2, h3⟩ := World.cells?_some h1
          have hcell : ∀ j v, cs[j]? = some v → ∃ arr et fz, w.heap[b]? = some (.cells arr et fz) ∧ arr[k + i * e.sz + j]? = some v := by
            intro j v hj
            have hj' : j < cs.length := by
              rcases Nat.lt_or_ge j cs.length with h | h
              · exact h
              · rw [List.getElem?_eq_none h] at hj; cases hj
            have h4 := h3 j (by omega)
            rw [addr_add, addr_add, hj] at h4
            exact cell_heap h4
          refine ⟨cs, h2, ?_, hr⟩
          obtain ⟨arr, et, fz, g1, _⟩ := hcell 0 _ (List.getElem?_eq_getElem (by omega : 0 < cs.length))
          refine ⟨arr, et, fz, g1, fun j v hj => ?_⟩
          obtain ⟨arr', et', fz', g2, g3⟩ := hcell j v hj
          rw [g1] at g2
          cases g2
          exact g3
      · simp only [GT, D.list]
        exact ⟨by omega, fun x hx => by obtain ⟨i, hi⟩ := List.mem_iff_getElem?.1 hx; exact (hxs i x hi).1⟩
  | .t fs, ti, fuel, cs, x, hc, h, hQ => by
    simp only [chk] at hc
    split at hc
    case h_2 => cases hc
    rename_i gs ht
    simp only [Bool.and_eq_true] at hc
    obtain ⟨⟨c1, c2⟩, c3⟩ := hc
    have c1 : P.cellsOf ti = DT.szs fs := Nat.eq_of_beq_eq_true c1
    obtain ⟨xs, n, _, rfl, hl, hlen, hf⟩ := DataW.trod_struct ht h
    obtain ⟨ds, h1, h2⟩ := rds_trod hB w fs gs.toList 0 n cs c3 (by
      intro g hg
      obtain ⟨i, hi⟩ := List.mem_iff_getElem?.1 hg
      have hi' : gs[i]? = some g := by simpa using hi
      have hlt : i < xs.length := by rw [hlen]; exact (Array.getElem?_eq_some_iff.1 hi').1
      refine ⟨xs[i], (hf i g hi').trans (List.getElem?_eq_getElem hlt), hB.st _ _ _ ht hQ i g _ hi' ?_⟩
      rw [List.getElem?_map, List.getElem?_eq_getElem hlt]; rfl) (by omega)
    exact ⟨.t ds, by simpa [Rd, D.tup] using h1, by simpa [GT, D.tup] using h2⟩
theorem rds_trod (hB : Bd P B Q) (w : World) : ∀ (ts : List DT) (gs : List Field) (off n : Nat) (cs : List Value), chks P ts gs off = true →
    (∀ g ∈ gs, ∃ x : DataW H × List MemPlace, DataW.trod enc P w 0 (fun _ => true) true n g.type ((cs.drop g.offset).take (P.cellsOf g.type)) = some x ∧ Q g.type x.1) → off + DT.szs ts = cs.length → ∃ ds, Rds (fun b => w.heap[b]?) ts ds (cs.drop off) ∧ GTs B ts ds
  | [], [], off, n, cs, _, _, hl => ⟨[], by simp only [Rds, DT.szs] at hl ⊢; exact List.drop_eq_nil_of_le (by omega), trivial⟩
  | [], _ :: _, _, _, _, hc, _, _ => by simp [chks] at hc
  | _ :: _, [], _, _, _, hc, _, _ => by simp [chks] at hc
  | t :: ts, g :: gs, off, n, cs, hc, h, hl => by
    simp only [chks, Bool.and_eq_true] at hc
    obtain ⟨⟨⟨c1, c2⟩, c3⟩, c4⟩ := hc
    have c1 : g.offset = off := Nat.eq_of_beq_eq_true c1
    have c2 : P.cellsOf g.type = t.sz := Nat.eq_of_beq_eq_true c2
    obtain ⟨x, hx, hq⟩ := h g (by simp)
    obtain ⟨d, h1, h2⟩ := rd_trod hB w t g.type n _ x c3 hx hq
    simp only [DT.szs] at hl
    obtain ⟨ds, h3, h4⟩ := rds_trod hB w ts gs (off + t.sz) n cs c4 (fun g' hg' => h g' (List.mem_cons_of_mem _ hg')) (by omega)
    refine ⟨d :: ds, ?_, ?_⟩
    · simp only [Rds]
      refine ⟨_, _, ?_, h1, h3⟩
      rw [c1, c2, ← List.drop_drop, List.take_append_drop]
    · simp only [GTs]; exact ⟨h2, h4⟩
end
/-- an argument, by its type -/
theorem val_arg {W : World} {base : Nat} {t : DT} {ti : TypeId} {v : Value} {d : D} {F : Fz} (hc : chk P t ti = true) (hv : Value.okWide P W .any base ti v) (h : Rd F t d v.cells.toList) : ∃ cs, Rd F t d cs ∧ Val t.isT cs v := by
  cases t with
  | t fs =>
    simp only [chk] at hc
    split at hc
    case h_2 => cases hc
    rename_i gs ht
    obtain ⟨cs, rfl, _, h1⟩ := arg_cells ht hv
    refine ⟨cs, by simpa [Value.cells] using h, by simp [DT.isT, Val]⟩
  | _ =>
    refine ⟨_, h, ?_⟩
    simp only [chk] at hc
    split at hc
    case h_2 => cases hc
    rename_i ht
    have := arg_one ht rfl hv
    simp only [DT.isT, Val, cond_false]
    rw [cells_one this]
/-- all arguments -/
theorem args_trod (hB : Bd P B Q) (W : World) (base : Nat) : ∀ (ts : List DT) (tis : List TypeId) (vs : List Value) (dws : List (DataW H)) (ps : List MemPlace), (tis.length = ts.length ∧ ∀ (i : Nat) t ti, ts[i]? = some t → tis[i]? = some ti → chk P t ti = true) → DataW.TrodAll enc P W 0 (fun _ => true) true tis vs dws ps →
    (∀ (j : Nat) t v, tis[j]? = some t → vs[j]? = some v → Value.okWide P W .any base t v) → (∀ (i : Nat) ti d, tis[i]? = some ti → dws[i]? = some d → Q ti d) →
    ∃ ds, ds.length = ts.length ∧ ArgsRd (fun b => W.heap[b]?) (fun b => W.heap[b]?) W (ts.map (AK.d true)) ds vs [] ∧ GTs B ts ds
  | [], [], vs, dws, ps, _, h, _, _ => by obtain ⟨rfl, _, _⟩ := trodAll_nil h; exact ⟨[], rfl, ⟨rfl, rfl⟩, trivial⟩
  | [], _ :: _, _, _, _, h, _, _, _ => by simp at h
  | _ :: _, [], _, _, _, h, _, _, _ => by simp at h
  | t :: ts, ti :: tis, vs, dws, ps, hc, h, hv, hQ => by
    obtain ⟨v, vs', d, ds', p, q, rfl, rfl, rfl, ⟨fuel, h1⟩, h2⟩ := trodAll_cons h
    have c0 := hc.2 0 t ti rfl rfl
    obtain ⟨x, hx, hg⟩ := rd_trod hB W t ti fuel _ _ c0 h1 (hQ 0 ti d rfl rfl)
    obtain ⟨cs, k1, k2⟩ := val_arg c0 (hv 0 ti v rfl rfl) hx
    obtain ⟨xs, m1, m2, m3⟩ := args_trod hB W base ts tis vs' ds' q ⟨by simpa using hc.1, fun i t' ti' h3 h4 => hc.2 (i + 1) t' ti' (by simpa using h3) (by simpa using h4)⟩ h2 (fun j t' v' h3 h4 => hv (j + 1) t' v' (by simpa using h3) (by simpa using h4)) (fun i ti' d' h3 h4 => hQ (i + 1) ti' d' (by simpa using h3) (by simpa using h4))
    exact ⟨x :: xs, by simp [m1], ⟨v, vs', rfl, ⟨cs, k1, k2⟩, m2⟩, ⟨hg, m3⟩⟩
def chkAll (P : Program) : List DT → List TypeId → Bool
  | [], [] => true
  | t :: ts, ti :: tis => chk P t ti && P.readableRec ti && Nat.blt ti P.types.size && chkAll P ts tis
  | _, _ => false
theorem chkAll_ok : ∀ {ts : List DT} {tis : List TypeId}, chkAll P ts tis = true → (tis.length = ts.length ∧ ∀ (i : Nat) t ti, ts[i]? = some t → tis[i]? = some ti → chk P t ti = true) ∧ ∀ t ∈ tis, P.readableRec t = true ∧ t < P.types.size
  | [], [], _ => ⟨⟨rfl, by simp⟩, by simp⟩
  | [], _ :: _, h => by simp [chkAll] at h
  | _ :: _, [], h => by simp [chkAll] at h
  | t :: ts, ti :: tis, h => by
    simp only [chkAll, Bool.and_eq_true] at h
    obtain ⟨⟨⟨h1, h2⟩, h3⟩, h4⟩ := h
    obtain ⟨⟨g1, g2⟩, g3⟩ := chkAll_ok h4
    refine ⟨⟨by simp [g1], fun i t' ti' h5 h6 => ?_⟩, fun t' ht' => ?_⟩
    · cases i with
      | zero => simp at h5 h6; subst h5; subst h6; exact h1
      | succ i => exact g2 i t' ti' (by simpa using h5) (by simpa using h6)
    · rcases List.mem_cons.1 ht' with rfl | ht'
      · exact ⟨h2, Nat.le_of_ble_eq_true h3⟩
      · exact g3 t' ht'
theorem con_law {f : FuncId} {c : Con} {ts : List DT} (hc : ConOK P Γ f c) (ha : c.args = ts.map (AK.d true)) (hr : c.res = [.d .b]) (ho : ∀ ds, c.out ds = [.b true]) {W : World} {vs : List Value} {ds : List D} (hΓ : Γ.ok W) (hl : ds.length = ts.length) (h : ArgsRd (fun b => W.heap[b]?) (fun b => W.heap[b]?) W (ts.map (AK.d true)) ds vs []) (hp : ∀ p ∈ c.pre ds, p) : Fnc P f vs.toArray W fun v w' => v = .bool true ∧ Ext [] W w' := by
  refine Fnc.mono (hc _ _ W vs ds [] hΓ (by simp) (fun b o h => h) (Sub.refl _) List.nodup_nil (by simp) (by rw [ha]; exact h) (by rw [ha]; simpa using hl) hp) ?_
  rintro v w' ⟨G', os, rs, h1, _, _, _, _, _, h2, rfl, _⟩
  refine ⟨?_, h1⟩
  rw [hr, ho] at h2
  simp only [OutsRd] at h2
  obtain ⟨v, vs', cs, o1, o2, rfl, _, hv, hk, rfl, _⟩ := h2
  simp only [RkRd, Rd, nthD, D.bool] at hk
  obtain ⟨_, rfl⟩ := hk
  simp only [Val, RK.isAgg, DT.isT, cond_false] at hv
  cases hv
  rfl
/-- A law whose contract says that it returns true: what its claim asks for. -/
theorem law_frame {f : Func} {fi : FuncId} {s : ChangeSpec} {apart : Bool} {W : World} {base : Nat} {args : Array Value} {dws gs : List (DataW H)} {before : List MemPlace} {tb : TypeId} {c : Con} (hB : Bd P B Q) (tis : List TypeId) (ts : List DT)
    (hlaid : laidOutB P = true) (hpar : f.params.toList = tis) (hchk : chkAll P ts tis = true) (hs : s.vars = []) (hfn : ∀ dws : List (DataW H), dws.length = f.params.size → s.fn H (dws ++ []) = { results := [.lit (.bool true)], args := dws }) (hr : f.resultTypes = #[tb]) (hb : P.underlying tb = some .bool)
    (hc : ConOK P Γ fi c) (ha : c.args = ts.map (AK.d true)) (hres : c.res = [.d .b]) (ho : ∀ ds, c.out ds = [.b true]) (hpre : ∀ ds : List D, ds.length = ts.length → GTs B ts ds → ∀ p ∈ c.pre ds, p)
    (hval : ∀ (j : Nat) t v, f.params[j]? = some t → args[j]? = some v → Value.okWide P W .any base t v)
    (hW : DataW.Whole enc P f.params.toList s.vars apart W args.toList dws gs before) (hQ : ∀ (i : Nat) ti d, tis[i]? = some ti → dws[i]? = some d → Q ti d) (hΓ : Γ.ok W) :
    Calls P fi args W fun e W' => ∃ v, e = .returned v ∧ s.post enc P f apart true false false W args v W' := by
  have hW' := hW
  obtain ⟨p, q, hA, hV, hpq, hfz, hnd⟩ := hW
  obtain ⟨k1, k2⟩ := chkAll_ok hchk
  rw [hpar] at hA
  obtain ⟨ds, m1, m2, m3⟩ := args_trod (enc := enc) hB W base ts tis args.toList dws p k1 hA (fun j t v h1 h2 => hval j t v (by rw [← hpar] at h1; simpa using h1) (by simpa using h2)) hQ
  have hfn' := con_law hc ha hres ho hΓ m1 m2 (hpre ds m1 m3)
  simp only [Array.toArray_toList] at hfn'
  refine Calls.mono hfn' ?_
  rintro e W' ⟨v, rfl, rfl, hx⟩
  exact ⟨_, rfl, law_post (tb := tb) hlaid hW' hs (by rw [hpar]; exact k2) (fun h => hfn _ h) hr hb hx⟩
theorem sized_args {tis vts : List TypeId} {ds gs : List (DataW H)} (h : (DataW.weightsEach P (tis ++ vts) (ds ++ gs)).all (· ≤ reachBytes) = true) : ∀ (i : Nat) ti d, tis[i]? = some ti → ds[i]? = some d → ∀ n ∈ DataW.weights P ti d, n ≤ reachBytes := by
  intro i ti d h1 h2 n hn
  have h3 : (tis ++ vts)[i]? = some ti := by rw [List.getElem?_append_left (List.getElem?_eq_some_iff.1 h1).1]; exact h1
  have h4 : (ds ++ gs)[i]? = some d := by rw [List.getElem?_append_left (List.getElem?_eq_some_iff.1 h2).1]; exact h2
  simpa using List.all_eq_true.1 h n (wEach_mem h3 h4 hn)
/-- arguments of one cell that is no slice, as values -/
def argV : AK → D → Option Value
  | .d _ (.i k), d => some (.int k d.int)
  | .d _ .b, d => some (.bool d.bool)
  | .d _ .s, d => some (.string d.str)
  | _, _ => none
def argVs : List AK → List D → Option (List Value)
  | [], _ => some []
  | k :: ks, ds => match argV k (nthD ds 0), argVs ks (tailD ds) with
    | some v, some vs => some (v :: vs)
    | _, _ => none
theorem args_scal {F G : Fz} {w : World} : ∀ (ks : List AK) (ds : List D) (vs us : List Value) (bs : List Nat), ArgsRd F G w ks ds vs bs → argVs ks ds = some us → vs = us ∧ bs = []
  | [], ds, vs, us, bs, h, hu => by obtain ⟨rfl, rfl⟩ := h; simp only [argVs, Option.some.injEq] at hu; exact ⟨hu, rfl⟩
  | .box _ _ :: _, _, _, _, _, _, hu => by simp [argVs, argV] at hu
  | .p _ :: _, _, _, _, _, _, hu => by simp [argVs, argV] at hu
  | .o _ _ _ :: _, _, _, _, _, _, hu => by simp [argVs, argV] at hu
  | .d wf t :: r, ds, vs, us, bs, h, hu => by
    obtain ⟨v, vs', rfl, ⟨cs, h1, h2⟩, h3⟩ := h
    simp only [argVs] at hu
    split at hu
    case h_2 => cases hu
    rename_i u us' e1 e2
    cases hu
    obtain ⟨rfl, rfl⟩ := args_scal r _ vs' us' bs h3 e2
    refine ⟨?_, rfl⟩
    congr 1
    cases t with
    | i k => simp only [argV, Option.some.injEq] at e1; subst e1; simp only [Rd] at h1; subst h1; simp only [Val, DT.isT, cond_false] at h2; cases h2; rfl
    | b => simp only [argV, Option.some.injEq] at e1; subst e1; simp only [Rd] at h1; subst h1; simp only [Val, DT.isT, cond_false] at h2; cases h2; rfl
    | s => simp only [argV, Option.some.injEq] at e1; subst e1; simp only [Rd] at h1; subst h1; simp only [Val, DT.isT, cond_false] at h2; cases h2; rfl
    | l e => simp [argV] at e1
    | t fs => simp [argV] at e1
theorem outs_scal {G : Fz} {w : World} : ∀ (ks : List RK) (ds : List D), ks.all scalar = true → OutsRd G w ks ds (scalVs ks ds) []
  | [], _, _ => ⟨rfl, rfl⟩
  | k :: ks, ds, h => by
    simp only [List.all_cons, Bool.and_eq_true] at h
    refine ⟨scalV k (nthD ds 0), scalVs ks (tailD ds), [scalV k (nthD ds 0)], [], [], rfl, rfl, ?_, ?_, outs_scal ks _ h.2⟩
    · cases k with
      | d t => cases t <;> simp [scalar] at h <;> rfl
      | own _ _ => simp [scalar] at h
      | agg _ => simp [scalar] at h
      | any => simp [scalar] at h
      | er => simp [scalar] at h
    · cases k with
      | d t => cases t <;> simp [scalar] at h <;> simp [RkRd, Rd, scalV]
      | own _ _ => simp [scalar] at h
      | agg _ => simp [scalar] at h
      | any => simp [scalar] at h
      | er => simp [scalar] at h
theorem boxes_scal {G : Fz} {w : World} : ∀ (ks : List AK) (ds es : List D) (us : List Value), argVs ks ds = some us → BoxesRd G w ks es []
  | [], _, _, _, _ => trivial
  | .box _ _ :: _, _, _, _, hu => by simp [argVs, argV] at hu
  | .p _ :: _, _, _, _, hu => by simp [argVs, argV] at hu
  | .o _ _ _ :: _, _, _, _, hu => by simp [argVs, argV] at hu
  | .d _ _ :: r, ds, es, us, hu => by
    simp only [argVs] at hu
    split at hu
    case h_2 => cases hu
    rename_i e1 e2
    exact boxes_scal r _ es _ e2
/-- A contract of plain arguments and plain results, out of what is known of the function. -/
theorem scal_ok {f : FuncId} {c : Con} (hr : c.res.all scalar = true) (ha : ∀ ds, ∃ us, argVs c.args ds = some us)
    (h : ∀ (w : World) (ds : List D) (vs : List Value), argVs c.args ds = some vs → Γ.ok w → (∀ p ∈ c.pre ds, p) → Fnc P f vs.toArray w fun v w' => v = tupV (scalVs c.res (c.out ds)) ∧ Ext [] w w') : ConOK P Γ f c := by
  intro F G w vs ds bs hg _ hF hGF hnd hbF hargs hlen hpre
  obtain ⟨us, hus⟩ := ha ds
  obtain ⟨rfl, rfl⟩ := args_scal _ _ _ _ _ hargs hus
  refine Fnc.mono (h w ds _ hus hg hpre) ?_
  rintro v w' ⟨rfl, hx⟩
  exact ⟨G, [], scalVs c.res (c.out ds), hx, Sub.refl _, fun b o hb => Ext.keepB hx (hF b o (hGF b o hb)) (by simp), fun b h1 h2 => absurd h1 h2, List.nodup_nil, by simp, outs_scal _ _ hr, rfl, boxes_scal _ ds _ _ hus⟩
/-- What answers true as a contract. -/
def trueC : Con := ⟨[], fun _ => [], [.d .b], fun _ => [.b true], fun _ => []⟩
theorem true_ok {f : FuncId} (h : ∀ w, Γ.ok w → Fnc P f #[] w fun v w' => v = .bool true ∧ Ext [] w w') : ConOK P Γ f trueC :=
  scal_ok (by rfl) (fun ds => ⟨[], rfl⟩) fun w ds vs e hg _ => by
    simp only [trueC, argVs, Option.some.injEq] at e
    subst e
    exact h w hg
end
end Go.Proofs.YtnhfkdgambncfaaGreatDoor.Sv
