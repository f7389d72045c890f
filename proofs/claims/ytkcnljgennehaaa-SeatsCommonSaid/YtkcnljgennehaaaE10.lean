/- The evaluator is right: code, rounds, calls. Program-agnostic. -/
import Derived.Test.YtkcnljgennehaaaE9
import Derived.RangeFuncLeaves
import Derived.RangeFuncRecord
import Derived.LoopNIn
namespace Go.Proofs.Ytkcnljgennehaaa.Ev
open Go.RowKit Go.Proofs.Ytkcnljgennehaaa.W

def MarkOK (s : Sg) : List Nat → List Deferred → Prop
  | [], ds => ds = []
  | l :: r, ds => ∃ b c ds', s l = some (b, c) ∧ MarkOK s r ds' ∧ ds = { target := .collected b, args := #[] } :: ds'
theorem MarkOK.mono {s s' : Sg} (h : s.le s') : ∀ (D : List Nat) (ds : List Deferred), MarkOK s D ds → MarkOK s' D ds
  | [], _, k => k
  | l :: r, _, ⟨b, c, ds', h1, h2, h3⟩ => ⟨b, c, ds', h _ _ h1, MarkOK.mono h r ds' h2, h3⟩
/-- how code is left, and what is then there -/
def OutOK (ω : Nat → Value) (w0 : World) (s : Sg) (N : Nat) (out : Out) (e : Exit) (a : Act) (w : World) : Prop :=
  a.tmps.size = N ∧ ∃ A D st s', (match e with | .normal => out = .norm A D st | .exit i => out = .exit i A D st | .ret => out = .ret A D st | _ => False) ∧ s.le s' ∧ Hold ω s' w0 st w ∧ EnvOK ω s' A (envOf a) ∧ MarkOK s' D a.defers
/-- of code -/
def CodeOK (ω : Nat → Value) (w0 : World) (P : Program) (inr : Bool) (ec : CodeF) : Prop := ∀ N c A D st out, ec N c A D st = some out → ∀ ro, (inr = false → ro = none) → ∀ s a w, a.tmps.size = N → Hold ω s w0 st w → EnvOK ω s A (envOf a) → MarkOK s D a.defers →
  c.wpIn (Fr ro) 1 P (OutOK ω w0 s N out) a w
theorem wpIn_n {ro : Option Nat} {P : Program} {c : Code} {Q : Exit → Act → World → Prop} {a : Act} {w : World} (n m : Nat) (h : c.wpIn (Fr ro) n P Q a w) : c.wpIn (Fr ro) m P Q a w :=
  fun b k cs hro hb _ => h b k cs hro hb (fun _ hd => by cases hd)
section
variable {ω : Nat → Value} {s : Sg} {w0 w : World} {st : Stt} {P : Program}
theorem Hold.drop (h : Hold ω s w0 st w) {l b c : Nat} {o : AX} {w' : World} (hl : st.h.get l = some o) (hb : s l = some (b, c)) (hx : Ext [b] w w') : Hold ω s w0 (delO st l) w' := by
  obtain ⟨b', c', h1, h2⟩ := h.obj l o hl
  rw [hb] at h1; cases h1
  have key : ∀ k o1, (delO st l).h.get k = some o1 → k ≠ l ∧ st.h.get k = some o1 := by
    intro k o1 hk
    rcases Tr.get_set _ _ _ _ _ _ hk with ⟨_, e⟩ | ⟨hne, e⟩
    · cases e
    · exact ⟨hne, e⟩
  refine ⟨h.ext.new hx (by simpa using h2.ge), h.dom, fun k o1 hk => ?_, fun k k' o1 o2 b1 c1 c2 hk hk' => h.inj k k' o1 o2 b1 c1 c2 (key k o1 hk).2 (key k' o2 hk').2⟩
  obtain ⟨hne, e⟩ := key k o1 hk
  obtain ⟨b1, c1, h3, h4⟩ := h.obj k o1 e
  refine ⟨b1, c1, h3, h4.step (Sg.le.refl s) (hx.block b1 h4.lt ?_)⟩
  simp only [List.mem_singleton]
  intro e1; subst e1
  exact hne (h.inj k l o1 o b1 c1 c e hl h3 hb)
/-! ### Results -/
theorem resA_ok {A : AE} {tmps : Array Value} {r : ResultVar} {a : AV} (hH : Hold ω s w0 st w) (hE : EnvOK ω s A (fun t => tmps.getD t undef)) (h : resA P A st r = some a) : ∃ v, (readVar tmps r).run P w = .ok v w ∧ Rel ω s a v := by
  cases r with
  | tmp t => exact ⟨_, rfl, hE t a h⟩
  | cell x t =>
    simp only [resA] at h
    split at h
    · rename_i p hp
      obtain ⟨b, k, u, h1, h2, h3⟩ := loadVar_ok hH (hE x p hp) h
      refine ⟨u, ?_, h3⟩
      simp only [readVar, h1, asAddr, Sem.run_bind, Sem.run_pure, Result.andThen_ok, h2]
    · cases h
theorem resAs_ok {A : AE} {tmps : Array Value} (hH : Hold ω s w0 st w) (hE : EnvOK ω s A (fun t => tmps.getD t undef)) : ∀ (rs : List ResultVar) (as' : List AV), resAs P A st rs = some as' → ∃ vs, (rs.mapM (readVar tmps)).run P w = .ok vs w ∧ RelL ω s as' vs
  | [], as', h => by simp only [resAs, Option.some.injEq] at h; subst h; exact ⟨[], by simp, RelL.nil⟩
  | r :: rs, as', h => by
    simp only [resAs] at h
    split at h
    · rename_i a ha
      split at h
      · rename_i as2 h2
        cases h
        obtain ⟨v, h3, h4⟩ := resA_ok hH hE ha
        obtain ⟨vs, h5, h6⟩ := resAs_ok hH hE rs as2 h2
        exact ⟨v :: vs, by simp only [List.mapM_cons, Sem.run_bind, Sem.run_pure, Result.andThen_ok, h3, h5], RelL.cons h4 h6⟩
      · cases h
    · cases h
theorem results_ok {A : AE} {D : List Nat} {tmps : Array Value} {fn : Func} {a : AV} {st' : Stt} (hH : Hold ω s w0 (delAll D st) w) (hE : EnvOK ω s A (fun t => tmps.getD t undef)) (h : retA P fn A D st = some (a, st')) :
    st' = delAll D st ∧ ∃ v, (results fn tmps).run P w = .ok v w ∧ Rel ω s a v := by
  have hrun : ∀ vs : List Value, (fn.results.toList.mapM (readVar tmps)).run P w = .ok vs w → (results fn tmps).run P w = .ok (if h : vs.toArray.size = 1 then vs.toArray[0] else .tuple vs.toArray) w := by
    intro vs hv
    rw [results_eq]
    have e : fn.results.mapM (readVar tmps) = List.toArray <$> fn.results.toList.mapM (readVar tmps) := by
      obtain ⟨rs⟩ := fn.results
      simp
    rw [e]
    simp only [Sem.run_bind, Sem.run_map, Sem.run_pure, Result.andThen_ok, hv]
  unfold retA at h
  simp only at h
  split at h
  · rename_i a' hr
    cases h
    obtain ⟨vs, h1, h2⟩ := resAs_ok hH hE _ _ hr
    obtain ⟨v, vs', h3, h4, rfl⟩ := h2.uncons
    have := h4.unnil
    subst this
    exact ⟨rfl, v, by have := hrun _ h1; simpa using this, h3⟩
  · rename_i as' hne hr
    cases h
    obtain ⟨vs, h1, h2⟩ := resAs_ok hH hE _ _ hr
    refine ⟨rfl, .tuple vs.toArray, ?_, Rel.mkTup h2⟩
    have h3 := hrun _ h1
    have hl : vs.length ≠ 1 := by
      rw [← h2.len]
      intro e
      obtain ⟨x, hx⟩ := List.length_eq_one_iff.1 e
      exact hne x hx
    rw [h3, dif_neg (by simpa using hl)]
  · cases h
/-! ### Leaving -/
theorem leaves_ok {fn : Func} {tmps : Array Value} {R : Ending → World → Prop} : ∀ (D : List Nat) (ds : List Deferred) (st : Stt) (w : World), MarkOK s D ds → marksB st D = true → Hold ω s w0 st w → (∀ w', Hold ω s w0 (delAll D st) w' → LeavesIn (Fr none) 1 P fn tmps R [] .returning w') → LeavesInM (Fr none) 1 P fn tmps R ds .returning w
  | [], ds, st, w, hm, _, hH, k => by
    have : ds = [] := hm
    subst this
    exact k w hH
  | l :: r, ds, st, w, hm, hb, hH, k => by
    obtain ⟨b, c, ds', h1, h2, rfl⟩ := hm
    simp only [marksB, noDup, List.all_cons, Bool.and_eq_true, Bool.not_eq_true'] at hb
    obtain ⟨⟨hno, hnd⟩, ⟨hlt, hl⟩, hall⟩ := hb
    have hlive : st.h.get l = some .d := by
      cases hg : st.h.get l with
      | none => rw [hg] at hl; cases hl
      | some x => cases x with
        | d => rfl
        | c _ => rw [hg] at hl; cases hl
        | l _ => rw [hg] at hl; cases hl
        | z _ _ _ => rw [hg] at hl; cases hl
        | m _ _ => rw [hg] at hl; cases hl
        | mi _ _ _ _ => rw [hg] at hl; cases hl
        | si _ _ => rw [hg] at hl; cases hl
    obtain ⟨b', c', h3, h4⟩ := hH.obj l .d hlive
    rw [h1] at h3; cases h3
    have hd : w.heap[b]? = some (.deferred (some [])) := h4.cur
    refine ⟨by simp, .inl ⟨b, _, rfl, run_takeDeferred hd, ?_⟩⟩
    refine leaves_ok r ds' (delO st l) _ h2 ?_ (hH.drop hlive h1 (Ext.putObj w b _)) (fun w' hw' => k w' hw')
    simp only [marksB, Bool.and_eq_true]
    refine ⟨hnd, List.all_eq_true.2 fun x hx => ?_⟩
    have hx' := List.all_eq_true.1 hall x hx
    simp only [Bool.and_eq_true] at hx' ⊢
    refine ⟨hx'.1, ?_⟩
    have hne : x ≠ l := by intro e; subst e; rw [List.contains_iff_mem.2 hx] at hno; cases hno
    have e : (delO st l).h.get x = st.h.get x := by
      have := Tr.get_set' 24 st.h l x none (by have := blt_t hlt; omega)
      rw [if_neg hne] at this; exact this
    rw [e]; exact hx'.2
/-! ### Calls -/
theorem argsA_get : ∀ (l : List AV) (k t : Nat) (a : AV), (argsA l k).get t = some a → k ≤ t ∧ l[t - k]? = some a
  | [], k, t, a, h => by simp [argsA, Tr.get_nil] at h
  | x :: r, k, t, a, h => by
    simp only [argsA] at h
    rcases Tr.get_set _ _ _ _ _ _ h with ⟨rfl, e⟩ | ⟨_, e⟩
    · cases e; exact ⟨Nat.le_refl _, by simp⟩
    · obtain ⟨h1, h2⟩ := argsA_get r (k + 1) t a e
      refine ⟨by omega, ?_⟩
      rw [show t - k = (t - (k + 1)) + 1 from by omega]
      simpa using h2
theorem callPlain_ok {ec : CodeF} (hec : CodeOK ω w0 P false ec) : CallOK ω w0 P (callPlain P ec) := by
  intro f l st a st' h s w vs hH hr
  unfold callPlain at h
  split at h
  · cases h
  · rename_i fn hfn
    cases hb0 : Nat.blt fn.ntmps l.length with
    | true => rw [hb0] at h; cases h
    | false =>
    rw [hb0] at h
    simp only [cond_false] at h
    have hlen : vs.length ≤ fn.ntmps := by
      rw [← hr.len]
      rcases Nat.lt_or_ge fn.ntmps l.length with h1 | h1
      · have : Nat.blt fn.ntmps l.length = true := Nat.ble_eq_true_of_le h1
        rw [this] at hb0; cases hb0
      · exact h1
    split at h
    · cases h
    · rename_i c hb
      have key : ∀ out, ec fn.ntmps c (argsA l 0) [] st = some out → (∀ A D st1, (out = .norm A D st1 ∨ out = .ret A D st1) → marksB st1 D = true ∧ retA P fn A D st1 = some (a, st')) → (∀ i A D st1, out ≠ .exit i A D st1) → Fnc P f vs.toArray w fun v w' => ∃ s', s.le s' ∧ Hold ω s' w0 st' w' ∧ Rel ω s' a v := by
        intro out ho hk hne
        unfold Fnc
        refine (callsIn_wide (n := 1)).1 (callsIn_of_wp_marks (F := Fr none) hfn hb trivial ?_)
        have hcode := hec fn.ntmps c _ [] st out ho none (fun _ => rfl) s { tmps := vs.toArray ++ Array.replicate (fn.ntmps - vs.toArray.size) undef, defers := [] } w (by simp; omega) hH (by
          intro t x ht
          obtain ⟨_, h2⟩ := argsA_get l 0 t x ht
          obtain ⟨v, h3, h4⟩ := hr.get h2
          have hlt : t < vs.length := (List.getElem?_eq_some_iff.1 h3).1
          have : envOf { tmps := vs.toArray ++ Array.replicate (fn.ntmps - vs.toArray.size) undef, defers := [] } t = v := by
            have h3' : vs[t]? = some v := h3
            simp [envOf, Array.getD_eq_getD_getElem?, Array.getElem?_append, hlt]
            rw [List.getElem?_eq_getElem hlt] at h3'; exact Option.some.inj h3'
          rw [this]; exact h4) rfl
        refine wpIn_mono hcode ?_
        rintro e act w' ⟨hsz, A, D, st1, s', hout, hle, hH', hE', hM'⟩
        cases e with
        | normal =>
          obtain ⟨h1, h2⟩ := hk A D st1 (.inl hout)
          refine leaves_ok D act.defers st1 w' hM' h1 hH' fun w2 hw2 => ?_
          obtain ⟨e1, v, h3, h4⟩ := results_ok hw2 hE' h2
          subst e1
          exact ⟨v, h3, v, rfl, s', hle, hw2, h4⟩
        | ret =>
          obtain ⟨h1, h2⟩ := hk A D st1 (.inr hout)
          refine leaves_ok D act.defers st1 w' hM' h1 hH' fun w2 hw2 => ?_
          obtain ⟨e1, v, h3, h4⟩ := results_ok hw2 hE' h2
          subst e1
          exact ⟨v, h3, v, rfl, s', hle, hw2, h4⟩
        | exit i => exact (hne i A D st1 hout).elim
        | goto l => exact hout.elim
        | panic ch => exact hout.elim
        | outgrown => exact hout.elim
      split at h
      · rename_i A D st1 ho
        refine key _ ho (fun A' D' st2 hh => ?_) (by intro i A' D' st2 hh; cases hh)
        rcases hh with hh | hh <;> cases hh
        cases hb1 : marksB st1 D with
        | false => rw [hb1] at h; cases h
        | true => rw [hb1] at h; exact ⟨rfl, h⟩
      · rename_i A D st1 ho
        refine key _ ho (fun A' D' st2 hh => ?_) (by intro i A' D' st2 hh; cases hh)
        rcases hh with hh | hh <;> cases hh
        cases hb1 : marksB st1 D with
        | false => rw [hb1] at h; cases h
        | true => rw [hb1] at h; exact ⟨rfl, h⟩
      · cases h
/-! ### Two roads that meet -/
theorem optEq_ok : ∀ {a b : Option Nat}, optEq a b = true → a = b
  | none, none, _ => rfl
  | some a, some b, h => by simp only [optEq] at h; rw [beq_t h]
  | none, some _, h => by simp [optEq] at h
  | some _, none, h => by simp [optEq] at h
theorem eqNs_ok : ∀ {a b : List Nat}, eqNs a b = true → a = b
  | [], [], _ => rfl
  | a :: r, b :: s, h => by simp only [eqNs, Bool.and_eq_true] at h; rw [beq_t h.1, eqNs_ok h.2]
  | [], _ :: _, h => by simp [eqNs] at h
  | _ :: _, [], h => by simp [eqNs] at h
theorem eqEs_ok : ∀ {a b : List (Value × AV × Nat)}, eqEs a b = true → a = b
  | [], [], _ => rfl
  | (k, a, n) :: r, (k', a', n') :: s, h => by
    simp only [eqEs, Bool.and_eq_true] at h
    obtain ⟨⟨⟨h1, h2⟩, h3⟩, h4⟩ := h
    rw [eqV_ok _ _ _ h1, eqA_ok _ _ _ h2, beq_t h3, eqEs_ok h4]
  | [], _ :: _, h => by simp [eqEs] at h
  | _ :: _, [], h => by simp [eqEs] at h
theorem eqX_ok : ∀ {a b : AX}, eqX a b = true → a = b := by
  intro a b h
  unfold eqX at h
  split at h
  · rename_i x y
    simp only [Bool.and_eq_true] at h
    obtain ⟨⟨⟨⟨h1, h2⟩, h3⟩, h4⟩, h5⟩ := h
    obtain ⟨e1, c1, s1, r1, i1⟩ := x
    obtain ⟨e2, c2, s2, r2, i2⟩ := y
    simp only at h1 h2 h3 h4 h5
    rw [beq_t h1, beq_t h2, eq_of_beq h3, optEq_ok h4, eqAs_ok (eqA_ok 30) h5]
  · rfl
  · simp only [Bool.and_eq_true] at h; rw [beq_t h.1.1, eqV_ok _ _ _ h.1.2, beq_t h.2]
  · simp only [Bool.and_eq_true] at h; rw [beq_t h.1, eqEs_ok h.2]
  · simp only [Bool.and_eq_true] at h; rw [optEq_ok h.1.1.1, beq_t h.1.1.2, eqNs_ok h.1.2, beq_t h.2]
  · cases h
theorem mergeT_node (l : Tr AX) (v : Option AX) (r u : Tr AX) : mergeT (.node l v r) u = .node (mergeT l u.left) (match v, u.val with | some x, some y => bif eqX x y then some x else none | _, _ => none) (mergeT r u.right) := rfl
theorem mergeT_get : ∀ (t u : Tr AX) (k : Nat) (x : AX), (mergeT t u).get k = some x → t.get k = some x ∧ u.get k = some x
  | .nil, u, k, x, h => by simp [mergeT, Tr.get_nil] at h
  | .node l v r, u, k, x, h => by
    rw [mergeT_node] at h
    rw [Tr.get_eq u k]
    simp only [Tr.get] at h ⊢
    cases h0 : Nat.beq k 0 with
    | true =>
      rw [h0] at h
      simp only [cond_true] at h ⊢
      split at h
      · rename_i a b hb
        cases he : eqX a b with
        | true => rw [he] at h; cases h; rw [hb, ← eqX_ok he]; exact ⟨rfl, rfl⟩
        | false => rw [he] at h; cases h
      · cases h
    | false =>
      rw [h0] at h
      simp only [cond_false] at h ⊢
      cases h1 : Nat.beq (k.mod 2) 1 with
      | true =>
        rw [h1] at h
        simp only [cond_true] at h ⊢
        have := mergeT_get l u.left _ x h
        exact this
      | false =>
        rw [h1] at h
        simp only [cond_false] at h ⊢
        have := mergeT_get r u.right _ x h
        exact this
theorem Hold.sub (h : Hold ω s w0 st w) {st' : Stt} (hh : ∀ l o, st'.h.get l = some o → st.h.get l = some o) (hn : st.nx ≤ st'.nx) : Hold ω s w0 st' w :=
  ⟨h.ext, fun l hl => h.dom l (by omega), fun l o hl => h.obj l o (hh l o hl), fun l l' o o' b c c' h1 h2 => h.inj l l' o o' b c c' (hh l o h1) (hh l' o' h2)⟩
/-- a block goes by a new name -/
theorem Hold.alias (h : Hold ω s w0 st w) {l b c nx : Nat} {o o' : AX} {h' : Tr AX} (hl : st.h.get l = some o) (hb : s l = some (b, c)) (hn : st.nx ≤ nx) (ho : ObjAt ω s w b c o') (hh : ∀ k x, h'.get k = some x → (k = nx ∧ x = o') ∨ (k ≠ nx ∧ k ≠ l ∧ st.h.get k = some x)) : Hold ω (s.ins nx (b, c)) w0 ⟨h', nx + 1⟩ w := by
  obtain ⟨b', c', h1, h2⟩ := h.obj l o hl
  rw [hb] at h1; cases h1
  have hle : s.le (s.ins nx (b, c)) := Sg.le_ins (h.dom _ hn)
  have far : ∀ k o1 b1 c1, k ≠ l → st.h.get k = some o1 → s k = some (b1, c1) → b1 ≠ b := fun k o1 b1 c1 hne e hs eb => by
    subst eb; exact hne (h.inj k l o1 o b1 c1 c e hl hs hb)
  refine ⟨h.ext, ?_, ?_, ?_⟩
  · intro k hk
    have hk' : nx + 1 ≤ k := hk
    simp only [Sg.ins]
    rw [if_neg (by omega)]
    exact h.dom k (by omega)
  · intro k o1 hk
    rcases hh k o1 hk with ⟨rfl, rfl⟩ | ⟨hne, hne', e⟩
    · exact ⟨b, c, Sg.ins_same, (ObjOK.mk h2.ge ho).step hle rfl⟩
    · obtain ⟨b1, c1, h3, h4⟩ := h.obj k o1 e
      exact ⟨b1, c1, hle _ _ h3, h4.step hle rfl⟩
  · intro k k' o1 o2 b1 c1 c2 hk hk' hs hs'
    rcases hh k o1 hk with ⟨rfl, rfl⟩ | ⟨hne, hnl, e⟩
    · rcases hh k' o2 hk' with ⟨rfl, rfl⟩ | ⟨hne', hnl', e'⟩
      · rfl
      · simp only [Sg.ins_same, Option.some.injEq, Prod.mk.injEq] at hs
        simp only [Sg.ins, if_neg hne'] at hs'
        exact absurd hs.1.symm (far k' o2 b1 c2 hnl' e' hs')
    · simp only [Sg.ins, if_neg hne] at hs
      rcases hh k' o2 hk' with ⟨rfl, rfl⟩ | ⟨hne', hnl', e'⟩
      · simp only [Sg.ins_same, Option.some.injEq, Prod.mk.injEq] at hs'
        exact absurd hs'.1.symm (far k o1 b1 c1 hnl e hs)
      · simp only [Sg.ins, if_neg hne'] at hs'
        exact h.inj k k' o1 o2 b1 c1 c2 e e' hs hs'
theorem row_take {b c n : Nat} {o : AO} (h : ObjAt ω s w b c (.c o)) (hr : o.row = true) (h1 : 1 ≤ o.sz) (hn : n * o.sz ≤ o.cs.length) : ObjAt ω s w b c (.c { o with cs := o.cs.take (n * o.sz), hi := none }) := by
  obtain ⟨cur, vs, g1, g2, g3, g4, g5⟩ := h
  obtain ⟨n', a1, a2, a3, a4, a5, a6⟩ := g5 hr
  have hl := g2.len
  refine ⟨cur, vs.take (n * o.sz), g1, g2.take _, ?_, (fun e => by rw [hr] at e; cases e), fun _ => ⟨n, by show (vs.take (n * o.sz)).length = n * o.sz; rw [List.length_take, Nat.min_eq_left (by omega)], ?_, a3, a4, (fun h e => by cases e), a6⟩⟩
  · rw [List.length_take, Nat.min_eq_left (by omega), ← g3, List.take_take, Nat.min_eq_left]
    omega
  · have : n * o.sz ≤ n' * o.sz := by rw [← a1]; omega
    have := Nat.le_of_mul_le_mul_right this h1
    omega
theorem join_ok {r1 r2 : AV × Stt} {a : AV} {st' : Stt} (h : joinR r1 r2 = some (a, st')) {v : Value} :
    (Hold ω s w0 r1.2 w → Rel ω s r1.1 v → ∃ s', s.le s' ∧ Hold ω s' w0 st' w ∧ Rel ω s' a v) ∧ (Hold ω s w0 r2.2 w → Rel ω s r2.1 v → ∃ s', s.le s' ∧ Hold ω s' w0 st' w ∧ Rel ω s' a v) := by
  unfold joinR at h
  simp only at h
  have hm := mergeT_get r1.2.h r2.2.h
  have n1 : r1.2.nx ≤ Nat.max r1.2.nx r2.2.nx := Nat.le_max_left _ _
  have n2 : r2.2.nx ≤ Nat.max r1.2.nx r2.2.nx := Nat.le_max_right _ _
  cases he : eqA 30 r1.1 r2.1 with
  | true =>
    rw [he] at h
    cases h
    have hab := eqA_ok _ _ _ he
    refine ⟨fun hH hr => ⟨s, Sg.le.refl s, hH.sub (fun l o hl => (hm l o hl).1) n1, hr⟩, fun hH hr => ⟨s, Sg.le.refl s, hH.sub (fun l o hl => (hm l o hl).2) n2, hab ▸ hr⟩⟩
  | false =>
    rw [he] at h
    simp only [cond_false] at h
    split at h
    case h_2 => cases h
    rename_i l1 m1 l2 m2 e1 e2
    split at h
    case h_2 => cases h
    rename_i b1 b2 hb1 hb2
    rw [e1, e2]
    generalize hnx : Nat.max r1.2.nx r2.2.nx = nx at h n1 n2
    cases hc : (Nat.beq m1 m2 && b1.row && b2.row && Nat.beq b1.et b2.et && Nat.beq b1.sz b2.sz && Nat.ble 1 b1.sz && Nat.ble (m1 * b1.sz) b1.cs.length && Nat.ble (m1 * b1.sz) b2.cs.length && eqAs (eqA 30) (b1.cs.take (m1 * b1.sz)) (b2.cs.take (m1 * b1.sz)) && Nat.ble nx 1000000) with
    | false => rw [hc] at h; cases h
    | true =>
    rw [hc] at h
    cases h
    simp only [Bool.and_eq_true] at hc
    obtain ⟨⟨⟨⟨⟨⟨⟨⟨⟨q1, q2⟩, q3⟩, q4⟩, q5⟩, q6⟩, q7⟩, q8⟩, q9⟩, q10⟩ := hc
    have q1 := beq_t q1; have q4 := beq_t q4; have q5 := beq_t q5; have q6 := ble_t q6; have q7 := ble_t q7; have q8 := ble_t q8
    have q9 := eqAs_ok (eqA_ok 30) q9
    have hget : ∀ k x, (((mergeT r1.2.h r2.2.h).set 24 l1 none).set 24 l2 none |>.set 24 nx (some (.c { b1 with cs := b1.cs.take (m1 * b1.sz), hi := none }))).get k = some x → (k = nx ∧ x = .c { b1 with cs := b1.cs.take (m1 * b1.sz), hi := none }) ∨ (k ≠ nx ∧ k ≠ l1 ∧ k ≠ l2 ∧ r1.2.h.get k = some x ∧ r2.2.h.get k = some x) := by
      intro k x hk
      rcases Tr.get_set _ _ _ _ _ _ hk with ⟨e1, e⟩ | ⟨hne, e⟩
      · cases e; exact .inl ⟨e1, rfl⟩
      · rcases Tr.get_set _ _ _ _ _ _ e with ⟨_, e2⟩ | ⟨hne2, e2⟩
        · cases e2
        · rcases Tr.get_set _ _ _ _ _ _ e2 with ⟨_, e3⟩ | ⟨hne3, e3⟩
          · cases e3
          · obtain ⟨g1, g2⟩ := hm k x e3
            exact .inr ⟨hne, hne3, hne2, g1, g2⟩
    constructor
    · intro hH hr
      obtain ⟨b, c, hb, hv⟩ := hr.sl_of
      obtain ⟨b', c', h3, hob⟩ := hH.obj l1 _ hb1
      rw [hb] at h3; cases h3
      refine ⟨s.ins nx (b, c), Sg.le_ins (hH.dom _ n1), hH.alias hb1 hb n1 (row_take hob.cur q2 q6 q7) (fun k x hk => ?_), ?_⟩
      · rcases hget k x hk with hq | ⟨g1, g2, _, g3, _⟩
        · exact .inl hq
        · exact .inr ⟨g1, g2, g3⟩
      · simp only [Rel]; exact ⟨b, c, Sg.ins_same, hv⟩
    · intro hH hr
      obtain ⟨b, c, hb, hv⟩ := hr.sl_of
      obtain ⟨b', c', h3, hob⟩ := hH.obj l2 _ hb2
      rw [hb] at h3; cases h3
      have hrow := row_take (n := m1) hob.cur q3 (by omega) (by rw [← q5]; exact q8)
      have heq : ({ b2 with cs := b2.cs.take (m1 * b2.sz), hi := none } : AO) = { b1 with cs := b1.cs.take (m1 * b1.sz), hi := none } := by
        rw [← q4, ← q5, ← q9, q2, q3]
      rw [heq] at hrow
      refine ⟨s.ins nx (b, c), Sg.le_ins (hH.dom _ n2), hH.alias hb2 hb n2 hrow (fun k x hk => ?_), ?_⟩
      · rcases hget k x hk with hq | ⟨g1, _, g2, _, g3⟩
        · exact .inl hq
        · exact .inr ⟨g1, g2, g3⟩
      · simp only [Rel]; exact ⟨b, c, Sg.ins_same, by rw [q1]; exact hv⟩
theorem unk_list : ∀ {us : List Value}, (∀ u ∈ us, u.oneCell' = true) → RelL ω s (List.replicate us.length .unk) us
  | [], _ => RelL.nil
  | u :: us, h => by
    rw [List.length_cons, List.replicate_succ]
    exact RelL.cons (by simp only [Rel]; exact h u (by simp)) (unk_list fun v hv => h v (by simp [hv]))
theorem split_ok {as' : List AV} {stA stB : Stt} {vs : List Value} (h : splitOn as' st = some (stA, stB)) (hH : Hold ω s w0 st w) (hr : RelL ω s as' vs) : Hold ω s w0 stA w ∨ Hold ω s w0 stB w := by
  unfold splitOn at h
  split at h
  case h_2 => cases h
  rename_i l n _ y
  split at h
  case h_2 => cases h
  rename_i m o hm hl
  cases hc : (o.row && Nat.ble 1 o.sz && Nat.ble (n * o.sz) o.cs.length) with
  | false => rw [hc] at h; cases h
  | true =>
  rw [hc] at h
  cases h
  simp only [Bool.and_eq_true] at hc
  obtain ⟨⟨c1, c2⟩, c3⟩ := hc
  have c2 := ble_t c2; have c3 := ble_t c3
  obtain ⟨v1, _, r1, _, _⟩ := hr.uncons
  obtain ⟨b, c, hb, _⟩ := r1.sl_of
  obtain ⟨b', c', e1, hob⟩ := hH.obj l _ hl
  rw [hb] at e1; cases e1
  obtain ⟨cur, us, g1, g2, g3, g4, g5⟩ := hob.cur
  obtain ⟨n', a1, a2, a3, a4, a5, a6⟩ := g5 c1
  have hx : Ext [b] w w := Ext.refl _ _
  rcases Nat.lt_or_ge c (n + m) with hlt | hge
  · left
    exact hH.turn hl hb hx ⟨hob.ge, cur, us, g1, g2, g3, g4, fun _ => ⟨n', a1, a2, a3, a4, (fun h e => by cases e; exact hlt), a6⟩⟩
  · right
    have hlen := g2.len
    have hN : (n + m) * o.sz ≤ cur.size := by rw [a4]; exact Nat.mul_le_mul_right _ hge
    have hcl : cur.toList.length = cur.size := Array.length_toList
    have hul : us.length ≤ cur.toList.length := by
      have := congrArg List.length g3
      rw [List.length_take] at this; omega
    have hkl : ((cur.toList.drop us.length).take ((n + m) * o.sz - us.length)).length = (n + m) * o.sz - us.length := by
      rw [List.length_take, List.length_drop]; omega
    have hone : ∀ u ∈ (cur.toList.drop us.length).take ((n + m) * o.sz - us.length), u.oneCell' = true := fun u hu => a6 u (List.mem_of_mem_drop (List.mem_of_mem_take hu))
    have hu := unk_list (ω := ω) (s := s) hone
    rw [hkl] at hu
    refine hH.turn hl hb hx ⟨hob.ge, cur, us ++ (cur.toList.drop us.length).take ((n + m) * o.sz - us.length), g1, ?_, ?_, (fun e => by rw [c1] at e; cases e), fun _ => ⟨Nat.max n' (n + m), ?_, Nat.max_le.2 ⟨a2, hge⟩, a3, a4, a5, a6⟩⟩
    · unfold padA; rw [hlen]; exact g2.append hu
    · rw [List.length_append, hkl, List.take_add, g3]
    · show (us ++ _).length = Nat.max n' (n + m) * o.sz
      rw [List.length_append, hkl]
      rcases Nat.le_total n' (n + m) with h1 | h1
      · rw [show Nat.max n' (n + m) = n + m from Nat.max_eq_right h1]
        have := Nat.mul_le_mul_right o.sz h1
        omega
      · rw [show Nat.max n' (n + m) = n' from Nat.max_eq_left h1]
        have := Nat.mul_le_mul_right o.sz h1
        omega
theorem callBy_ok {S : Sums} {ec : CodeF} (hS : CallOK ω w0 P S) (hec : CodeOK ω w0 P false ec) : CallOK ω w0 P (callBy P S ec) := by
  intro f l st a st' h s w vs hH hr
  unfold callBy at h
  split at h
  · rename_i r hs; cases h; exact hS f l st a st' hs s w vs hH hr
  · split at h
    · rename_i r hs; cases h; exact callPlain_ok hec f l st a st' hs s w vs hH hr
    · split at h
      · cases h
      · rename_i stA stB hsp
        split at h
        · rename_i r q hr1 hr2
          rcases split_ok hsp hH hr with hA | hB
          · refine Fnc.mono (callPlain_ok hec f l stA r.1 r.2 hr1 s w vs hA hr) ?_
            rintro v w' ⟨s', hle, hH', hrel⟩
            obtain ⟨s2, h1, h2, h3⟩ := (join_ok h).1 hH' hrel
            exact ⟨s2, hle.trans h1, h2, h3⟩
          · refine Fnc.mono (callPlain_ok hec f l stB q.1 q.2 hr2 s w vs hB hr) ?_
            rintro v w' ⟨s', hle, hH', hrel⟩
            obtain ⟨s2, h1, h2, h3⟩ := (join_ok h).2 hH' hrel
            exact ⟨s2, hle.trans h1, h2, h3⟩
        · cases h
/-! ### Rounds -/
theorem putPs_ok {N : Nat} : ∀ (ps : List Nat) (l : List AV) (vs : List Value) (A A1 : AE) (tmps : Array Value), putPs N A ps l = some A1 → RelL ω s l vs → tmps.size = N → EnvOK ω s A (fun t => tmps.getD t undef) →
    ps.length = vs.length ∧ ((ps.zip vs).foldl (fun (tmps : Array Value) (x : Nat × Value) => tmps.setIfInBounds x.1 x.2) tmps).size = N ∧ EnvOK ω s A1 (fun t => ((ps.zip vs).foldl (fun (tmps : Array Value) (x : Nat × Value) => tmps.setIfInBounds x.1 x.2) tmps).getD t undef)
  | [], [], vs, A, A1, tmps, h, hr, hs, hE => by
    simp only [putPs, Option.some.injEq] at h
    subst h
    rw [hr.unnil]
    exact ⟨rfl, hs, hE⟩
  | [], _ :: _, _, _, _, _, h, _, _, _ => by simp [putPs] at h
  | _ :: _, [], _, _, _, _, h, _, _, _ => by simp [putPs] at h
  | p :: ps, a :: l, vs, A, A1, tmps, h, hr, hs, hE => by
    obtain ⟨v, vs', h1, h2, rfl⟩ := hr.uncons
    simp only [putPs] at h
    cases hb : Nat.blt p N with
    | false => rw [hb] at h; cases h
    | true =>
      rw [hb] at h
      simp only [cond_true] at h
      obtain ⟨q1, q2, q3⟩ := putPs_ok ps l vs' _ A1 (tmps.setIfInBounds p v) h h2 (by simpa using hs) (by
        intro t x ht
        rcases Tr.get_set _ _ _ _ _ _ ht with ⟨rfl, e⟩ | ⟨hne, e⟩
        · cases e
          have hp := blt_t hb
          simp only [Array.getD_eq_getD_getElem?, Array.getElem?_setIfInBounds, if_true]
          rw [if_pos (by omega)]; exact h1
        · simp only [Array.getD_eq_getD_getElem?, Array.getElem?_setIfInBounds]
          rw [if_neg (fun e => hne e.symm)]
          have := hE t x e
          simpa only [Array.getD_eq_getD_getElem?] using this)
      exact ⟨by simp [q1], q2, q3⟩
theorem roundBy_ok {ec : CodeF} (hec : CodeOK ω w0 P true ec) (ro : Option Nat) : RoundOK ω w0 P (roundBy ec) ro := by
  intro l as' st a st' h s w vs b c hH hr hb
  unfold roundBy at h
  split at h
  case h_2 => cases h
  rename_i lo hl
  obtain ⟨b', c', e1, hob⟩ := hH.obj l _ hl
  rw [hb] at e1; cases e1
  obtain ⟨fn, tmps, df, hheap, hsz, hE0⟩ := hob.cur
  cases hrd : isReady lo.state with
  | false => rw [hrd] at h; cases h
  | true =>
  rw [hrd] at h
  simp only [cond_true] at h
  split at h
  case h_2 => cases h
  rename_i A1 hps
  obtain ⟨q1, q2, q3⟩ := putPs_ok lo.ps as' vs lo.A A1 tmps hps hr hsz hE0
  have hfold : (lo.ps.toArray.zip vs.toArray).foldl (fun (tmps : Array Value) (x : Nat × Value) => tmps.setIfInBounds x.1 x.2) tmps = (lo.ps.zip vs).foldl (fun (tmps : Array Value) (x : Nat × Value) => tmps.setIfInBounds x.1 x.2) tmps := by simp
  refine ⟨_, hheap, by simp [q1], ?_⟩
  split at h
  case h_2 => cases h
  rename_i A2 st2 hasg
  split at h
  case h_2 => cases h
  rename_i lo2 hl2
  cases hrd2 : isReady lo2.state with
  | false => rw [hrd2] at h; cases h
  | true =>
  rw [hrd2] at h
  simp only [cond_true] at h
  refine roundIn_of_wpIn (F := Fr ro) trivial ?_
  have hasg' := wpIn_n 1 0 (hec lo.N lo.asg A1 [] st _ hasg (some b) (fun e => by cases e) s { tmps := (lo.ps.zip vs).foldl (fun (tmps : Array Value) (x : Nat × Value) => tmps.setIfInBounds x.1 x.2) tmps, defers := [] } w q2 hH q3 rfl)
  show lo.asg.wpIn (Fr (some b)) 0 P _ { tmps := (lo.ps.toArray.zip vs.toArray).foldl (fun (tmps : Array Value) (x : Nat × Value) => tmps.setIfInBounds x.1 x.2) tmps, defers := [] } w
  rw [hfold]
  refine wpIn_mono hasg' ?_
  rintro e act w1 ⟨hsz1, A', D', st1, s1, hout, hle1, hH1, hE1, hM1⟩
  cases e with
  | normal =>
    cases hout
    have hb1 := hle1 _ _ hb
    obtain ⟨b2, c2, e2, hob2⟩ := hH1.obj l _ hl2
    rw [hb1] at e2; cases e2
    obtain ⟨fn2, tmps2, df2, hheap2, hsz2, hE2⟩ := hob2.cur
    have hready : lo2.state = .ready := by
      cases hst : lo2.state <;> rw [hst] at hrd2 <;> first | rfl | cases hrd2
    refine ⟨_, run_beginRound hheap2 hready, ?_⟩
    have hlt2 := hob2.lt
    have hH2 : Hold ω s1 w0 (setX st2 l (.l { lo2 with state := .busy })) (w1.putObj b (.loop { state := .busy, pending := lo2.jump, fn := fn2, tmps := tmps2, params := lo2.ps.toArray, assign := lo2.asg, body := lo2.body, defers := df2 })) :=
      hH1.turn hl2 hb1 (Ext.putObj w1 b _) ⟨hob2.ge, fn2, tmps2, df2, World.putObj_heap_same hlt2, hsz2, hE2⟩
    have hD : act.defers = [] := hM1
    have hbody : ∀ out, ec lo.N lo.body A2 [] (setX st2 l (.l { lo2 with state := .busy })) = some out → lo.body.wpIn (Fr (some b)) 0 P (OutOK ω w0 s1 lo.N out) act _ := fun out ho => wpIn_n 1 0 (hec lo.N lo.body A2 [] _ out ho (some b) (fun e => by cases e) s1 act _ hsz1 hH2 hE1 hD)
    -- the round's end
    have fin : ∀ (st3 : Stt) (s3 : Sg) (w3 : World) (lo3 : LO) (jump : Option Code), s1.le s3 → Hold ω s3 w0 st3 w3 → st3.h.get l = some (.l lo3) → ∃ w4, (Instr.endRound b jump).run P w3 = .ok (.bool jump.isNone) w4 ∧
        Hold ω s3 w0 (setX st3 l (.l { lo3 with state := if jump.isNone then .ready else .done, jump := jump })) w4 := by
      intro st3 s3 w3 lo3 jump hle3 hH3 hl3
      have hb3 := hle3 _ _ hb1
      obtain ⟨b4, c4, e4, hob4⟩ := hH3.obj l _ hl3
      rw [hb3] at e4; cases e4
      obtain ⟨fn4, tmps4, df4, hheap4, hsz4, hE4⟩ := hob4.cur
      exact ⟨_, run_endRound jump hheap4, hH3.turn hl3 hb3 (Ext.putObj w3 b _) ⟨hob4.ge, fn4, tmps4, df4, World.putObj_heap_same hob4.lt, hsz4, hE4⟩⟩
    split at h
    · rename_i A3 st3 hbd
      split at h
      · rename_i lo3 hl3
        cases h
        refine wpIn_mono (hbody _ hbd) ?_
        rintro e act3 w3 ⟨_, A', D', st', s3, hout, hle3, hH3, _, _⟩
        cases e with
        | normal =>
          cases hout
          obtain ⟨w4, h4, h5⟩ := fin _ s3 w3 lo3 none hle3 hH3 hl3
          exact ⟨_, w4, h4, _, s3, rfl, hle1.trans hle3, h5, Rel.mkv _⟩
        | exit i => cases hout
        | ret => cases hout
        | goto l => exact hout.elim
        | panic ch => exact hout.elim
        | outgrown => exact hout.elim
      · cases h
    · rename_i A3 st3 hbd
      split at h
      · rename_i lo3 hl3
        cases h
        refine wpIn_mono (hbody _ hbd) ?_
        rintro e act3 w3 ⟨_, A', D', st', s3, hout, hle3, hH3, _, _⟩
        cases e with
        | ret =>
          cases hout
          obtain ⟨w4, h4, h5⟩ := fin _ s3 w3 lo3 (some .ret) hle3 hH3 hl3
          exact ⟨_, w4, h4, _, s3, rfl, hle1.trans hle3, h5, Rel.mkv _⟩
        | exit i => cases hout
        | normal => cases hout
        | goto l => exact hout.elim
        | panic ch => exact hout.elim
        | outgrown => exact hout.elim
      · cases h
    · rename_i id A3 st3 hbd
      split at h
      · rename_i lo3 hl3
        cases h
        refine wpIn_mono (hbody _ hbd) ?_
        rintro e act3 w3 ⟨_, A', D', st', s3, hout, hle3, hH3, _, _⟩
        cases e with
        | exit i =>
          cases hout
          obtain ⟨w4, h4, h5⟩ := fin _ s3 w3 lo3 (some (.exit id)) hle3 hH3 hl3
          exact ⟨_, w4, h4, _, s3, rfl, hle1.trans hle3, h5, Rel.mkv _⟩
        | ret => cases hout
        | normal => cases hout
        | goto l => exact hout.elim
        | panic ch => exact hout.elim
        | outgrown => exact hout.elim
      · cases h
    · cases h
  | exit i => cases hout
  | ret => cases hout
  | goto l => exact hout.elim
  | panic ch => exact hout.elim
  | outgrown => exact hout.elim
end
end Go.Proofs.Ytkcnljgennehaaa.Ev
