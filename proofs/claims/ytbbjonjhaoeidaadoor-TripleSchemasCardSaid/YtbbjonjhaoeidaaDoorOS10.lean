/- The symbolic evaluator is right: calls by contract. Program-agnostic. -/
import Derived.Test.YtbbjonjhaoeidaaDoorOS9
set_option linter.unusedVariables false
set_option linter.unusedSimpArgs false
namespace Go.Proofs.YtbbjonjhaoeidaaDoor.Sv
open Go.RowKit Go.Proofs.YtbbjonjhaoeidaaDoor.W
variable {Γ : Gl}

/-- a value that has these cells -/
def Val (agg : Bool) (cs : List Value) (v : Value) : Prop := bif agg then v = .agg cs.toArray else cs = [v]
theorem Val.cells {g : Bool} {cs : List Value} {v : Value} (h : Val g cs v) (h1 : ∀ u ∈ cs, u.oneCell' = true) : v.cells.toList = cs := by
  cases g with
  | true => simp only [Val, cond_true] at h; subst h; simp [Value.cells]
  | false => simp only [Val, cond_false] at h; subst h; rw [cells_one (h1 v (by simp))]
def ArgsRd (F G : Fz) (w : World) : List AK → List D → List Value → List Nat → Prop
  | [], _, vs, bs => vs = [] ∧ bs = []
  | .d wf t :: r, ds, vs, bs => ∃ v vs', vs = v :: vs' ∧ (∃ cs, Rd (bif wf then G else F) t (nthD ds 0) cs ∧ Val t.isT cs v) ∧ ArgsRd F G w r (tailD ds) vs' bs
  | .box et ts :: r, ds, vs, bs => ∃ v vs' b bs', vs = v :: vs' ∧ bs = b :: bs' ∧ v = .pointer (some ⟨b, 0, none⟩) ∧ (∃ cs, w.heap[b]? = some (.cells cs.toArray et (0, 0)) ∧ Rds G ts (nthD ds 0).tup cs) ∧ ArgsRd F G w r (tailD ds) vs' bs'
/-- a row that was made, and stands at its block alone -/
def OwnRd (G : Fz) (w : World) (et : TypeId) (t : DT) (xs : List D) (v : Value) (os : List Nat) : Prop :=
  (ZV v ∧ xs = [] ∧ os = []) ∨ ∃ p : Loc, v = .slice (some ⟨p.b, 0, none⟩) xs.length p.c ∧ p.c ≠ 0 ∧ os = [p.b] ∧ ObjAt ⟨fun _ => none, G, G, [], G⟩ w p (.q et t xs)
mutual
def RkRd (G : Fz) (w : World) : RK → D → List Value → List Nat → Prop
  | .d t, d, cs, os => os = [] ∧ Rd G t d cs
  | .own et t, d, cs, os => ∃ v, cs = [v] ∧ OwnRd G w et t d.list v os
  | .agg ks, d, cs, os => RkRds G w ks d.tup cs os
def RkRds (G : Fz) (w : World) : List RK → List D → List Value → List Nat → Prop
  | [], _, cs, os => cs = [] ∧ os = []
  | k :: ks, ds, cs, os => ∃ c1 c2 o1 o2, cs = c1 ++ c2 ∧ os = o1 ++ o2 ∧ RkRd G w k (nthD ds 0) c1 o1 ∧ RkRds G w ks (tailD ds) c2 o2
end
def OutsRd (G : Fz) (w : World) : List RK → List D → List Value → List Nat → Prop
  | [], _, vs, os => vs = [] ∧ os = []
  | k :: ks, ds, vs, os => ∃ v vs' cs o1 o2, vs = v :: vs' ∧ os = o1 ++ o2 ∧ Val k.isAgg cs v ∧ RkRd G w k (nthD ds 0) cs o1 ∧ OutsRd G w ks (tailD ds) vs' o2
def BoxesRd (G : Fz) (w : World) : List AK → List D → List Nat → Prop
  | [], _, _ => True
  | .d _ _ :: r, es, bs => BoxesRd G w r es bs
  | .box et ts :: r, es, bs => ∃ b bs', bs = b :: bs' ∧ (∃ cs, w.heap[b]? = some (.cells cs.toArray et (0, 0)) ∧ Rds G ts (nthD es 0).tup cs) ∧ BoxesRd G w r (tailD es) bs'
def tupV : List Value → Value
  | [v] => v
  | vs => .tuple vs.toArray
/-- what a contract says of a function -/
def ConOK (P : Program) (Γ : Gl) (f : FuncId) (c : Con) : Prop := ∀ (F G : Fz) (w : World) (vs : List Value) (ds : List D) (bs : List Nat), Γ.ok w → (∀ b ∈ bs, Γ.n ≤ b) → (∀ b o, F b = some o → w.heap[b]? = some o) → Sub G F → bs.Nodup → (∀ b ∈ bs, F b = none) → ArgsRd F G w c.args ds vs bs → ds.length = c.args.length → (∀ p ∈ c.pre ds, p) →
  Fnc P f vs.toArray w fun v w' => ∃ G' os rs, Ext bs w w' ∧ Sub G G' ∧ (∀ b o, G' b = some o → w'.heap[b]? = some o) ∧ (∀ b, G b = none → G' b ≠ none → w.heap.size ≤ b) ∧ os.Nodup ∧ (∀ b ∈ os, w.heap.size ≤ b ∧ G' b = none) ∧ OutsRd G' w' c.res (c.out ds) rs os ∧ v = tupV rs ∧ BoxesRd G' w' c.args (c.boxes ds) bs
def SumsOK (P : Program) (Γ : Gl) (S : Sums) : Prop := ∀ f c, S f = some c → ConOK P Γ f c

section
variable {s : Sg} {w0 w : World} {st st' : Stt} {A : AE} {E : Env} {P : Program} {o : Oper}
theorem isAggA_val {a : AV} {v : Value} {b : Bool} (h : Rel s a v) (hb : isAggA a = b) (h1 : v.cells.toList.length = 1 ∨ b = true) (hone : ∀ u ∈ v.cells.toList, u.oneCell' = true) : Val b v.cells.toList v := by
  cases b with
  | true =>
    simp only [Val, cond_true]
    cases a <;> simp only [isAggA] at hb <;> try (cases hb; done)
    · rename_i x
      have := h.v_of
      subst this
      cases v <;> simp at hb
      simp [Value.cells]
    · simp only [Rel] at h
      obtain ⟨vs, _, rfl⟩ := h
      simp [Value.cells]
  | false =>
    simp only [Val, cond_false]
    have : ∀ cs, v ≠ .agg cs := by
      rintro cs rfl
      cases a <;> simp only [Rel] at h
      · subst h; simp [isAggA] at hb
      · obtain ⟨p, _, h⟩ := h; cases h
      · obtain ⟨p, _, h⟩ := h; cases h
      · simp [isAggA] at hb
      · obtain ⟨p, _, h⟩ := h; cases h
      · obtain ⟨p, _, h⟩ := h; cases h
      · obtain ⟨_, _, h, _⟩ := h.shape; cases h
      · rcases h with h | ⟨_, h⟩ <;> cases h
      · obtain ⟨_, _, _, h, _⟩ := h; cases h
      · obtain ⟨p, _, _, _, h | ⟨_, h | ⟨_, h⟩⟩⟩ := h <;> cases h
      · obtain ⟨p, _, _, _, h | ⟨_, h | ⟨_, h⟩⟩⟩ := h <;> cases h
      · obtain ⟨p, _, _, _, h⟩ := h; cases h
      · obtain ⟨p, _, _, _, ⟨_, cv, _, _, h⟩ | ⟨_, h | ⟨_, h⟩⟩⟩ := h <;> cases h
    cases v <;> first | rfl | exact absurd rfl (this _)
theorem toD1_ok (hH : Hold Γ s w0 st w) {b : Bool} {F' : Fz} (hS : Sees s st w b F') {t : DT} {a : AV} {v : Value} {d : D} (h : toD1 b st t a = some d) (hr : Rel s a v) : ∃ cs, Rd F' t d cs ∧ Val t.isT cs v := by
  unfold toD1 at h
  cases hg : (isAggA a == t.isT) with
  | false => rw [hg] at h; cases h
  | true =>
  rw [hg] at h
  simp only [cond_true] at h
  split at h
  · rename_i d' hd
    cases h
    obtain ⟨us, ws, h1, h2, h3⟩ := toD_ok hH hS t _ _ _ _ hd hr.cells
    have := h3.unnil
    subst this
    rw [List.append_nil] at h1
    have hl := Rd.len _ _ _ h2
    refine ⟨us, h2, h1 ▸ isAggA_val hr (by simpa using hg) ?_ (by rw [h1]; exact Rd.one _ _ _ h2)⟩
    rw [h1, hl]
    cases t <;> simp [DT.isT, DT.sz]
  · cases h
/-- the blocks of the variables that are handed over -/
def LocsOf (s : Sg) (st : Stt) : List Nat → List Nat → Prop
  | [], bs => bs = []
  | l :: ls, bs => ∃ b bs', bs = b :: bs' ∧ (∃ p et cs, s.f l = some p ∧ p.b = b ∧ st.h.get l = some (.c et cs)) ∧ LocsOf s st ls bs'
def nBox : List AK → Nat
  | [] => 0
  | .d _ _ :: r => nBox r
  | .box _ _ :: r => nBox r + 1
theorem matchArgs_ids : ∀ (ks : List AK) (as' : List AV) (ds : List D) (ls : List Nat), matchArgs st ks as' = some (ds, ls) → ls.length = nBox ks ∧ ∀ l ∈ ls, ∃ et cs, st.h.get l = some (.c et cs)
  | [], [], ds, ls, h => by
    simp only [matchArgs, Option.some.injEq, Prod.mk.injEq] at h
    obtain ⟨rfl, rfl⟩ := h
    exact ⟨rfl, by simp⟩
  | [], _ :: _, _, _, h => by simp [matchArgs] at h
  | .d wf t :: r, [], _, _, h => by simp [matchArgs] at h
  | .box et ts :: r, [], _, _, h => by simp [matchArgs] at h
  | .d wf t :: r, a :: as', ds, ls, h => by
    simp only [matchArgs] at h
    split at h
    case h_2 => cases h
    split at h
    case h_2 => cases h
    rename_i ds' ls' hds
    cases h
    exact matchArgs_ids r as' ds' _ hds
  | .box et ts :: r, a :: as', ds, ls, h => by
    cases a with
    | ptr l k =>
      cases k with
      | succ k => simp [matchArgs] at h
      | zero =>
      simp only [matchArgs] at h
      split at h
      case h_2 => cases h
      rename_i et' cs hl
      cases hg : Nat.beq et et' with
      | false => rw [hg] at h; cases h
      | true =>
      rw [hg] at h
      simp only [cond_true] at h
      split at h
      case h_2 => cases h
      split at h
      case h_2 => cases h
      rename_i ds' ls' hds
      cases h
      obtain ⟨h1, h2⟩ := matchArgs_ids r as' ds' _ hds
      refine ⟨by simp [h1, nBox], fun l' hl' => ?_⟩
      rcases List.mem_cons.1 hl' with rfl | hl'
      · exact ⟨et', cs, hl⟩
      · exact h2 l' hl'
    | _ => simp [matchArgs] at h
theorem matchArgs_ok (hH : Hold Γ s w0 st w) {F : Fz} (hS : Sees s st w false F) : ∀ (ks : List AK) (as' : List AV) (vs : List Value) (ds : List D) (ls : List Nat), matchArgs st ks as' = some (ds, ls) → RelL s as' vs → ds.length = ks.length ∧ ∃ bs, ArgsRd F s.G w ks ds vs bs ∧ LocsOf s st ls bs
  | [], [], vs, ds, ls, h, hr => by
    simp only [matchArgs, Option.some.injEq, Prod.mk.injEq] at h
    obtain ⟨rfl, rfl⟩ := h
    exact ⟨rfl, [], ⟨hr.unnil, rfl⟩, rfl⟩
  | [], _ :: _, _, _, _, h, _ => by simp [matchArgs] at h
  | .d wf t :: r, [], _, _, _, h, _ => by simp [matchArgs] at h
  | .box et ts :: r, [], _, _, _, h, _ => by simp [matchArgs] at h
  | .d wf t :: r, a :: as', vs, ds, ls, h, hr => by
    obtain ⟨v, vs', h1, h2, rfl⟩ := hr.uncons
    simp only [matchArgs] at h
    split at h
    case h_2 => cases h
    rename_i d hd
    split at h
    case h_2 => cases h
    rename_i ds' ls' hds
    cases h
    obtain ⟨h3, bs, h4, h5⟩ := matchArgs_ok hH hS r as' vs' ds' _ hds h2
    refine ⟨by simp [h3], bs, ⟨v, vs', rfl, ?_, h4⟩, h5⟩
    cases wf with
    | true => exact toD1_ok hH (Sees.self st w) hd h1
    | false => exact toD1_ok hH hS hd h1
  | .box et ts :: r, a :: as', vs, ds, ls, h, hr => by
    obtain ⟨v, vs', h1, h2, rfl⟩ := hr.uncons
    cases a with
    | ptr l k =>
      cases k with
      | succ k => simp [matchArgs] at h
      | zero =>
      simp only [matchArgs] at h
      split at h
      case h_2 => cases h
      rename_i et' cs hl
      cases hg : Nat.beq et et' with
      | false => rw [hg] at h; cases h
      | true =>
      rw [hg] at h
      simp only [cond_true] at h
      split at h
      case h_2 => cases h
      rename_i ds0 hds0
      split at h
      case h_2 => cases h
      rename_i ds' ls' hds
      cases h
      have := beq_t hg
      subst this
      obtain ⟨h3, bs, h4, h5⟩ := matchArgs_ok hH hS r as' vs' ds' _ hds h2
      simp only [Rel] at h1
      obtain ⟨p, hp, rfl⟩ := h1
      obtain ⟨p', hp', hob⟩ := hH.obj l _ hl
      rw [hp] at hp'; cases hp'
      obtain ⟨us, h6, h7⟩ := hob.cur
      obtain ⟨us1, ws, h8, h9, h10⟩ := toDs_ok hH (Sees.self st w) ts cs us ds0 [] hds0 h7
      have := h10.unnil
      subst this
      rw [List.append_nil] at h8
      subst h8
      exact ⟨by simp [h3], p.b :: bs, ⟨_, vs', p.b, bs, rfl, rfl, rfl, ⟨us, h6, h9⟩, h4⟩, ⟨p.b, bs, rfl, ⟨p, et, cs, hp, rfl, hl⟩, h5⟩⟩
    | _ => simp [matchArgs] at h
end
end Go.Proofs.YtbbjonjhaoeidaaDoor.Sv
