/- The evaluator is right: code, rounds, calls. Program-agnostic. -/
import Derived.Test.YtjogencedcgdjaaGreatDoorE9
import Derived.RangeFuncLeaves
import Derived.RangeFuncRecord
import Derived.LoopNIn
namespace Go.Proofs.YtjogencedcgdjaaGreatDoor.Ev
open Go.RowKit Go.Proofs.YtjogencedcgdjaaGreatDoor.W

def MarkOK (s : Sg) : List Nat → List Deferred → Prop
  | [], ds => ds = []
  | l :: r, ds => ∃ b c ds', s l = some (b, c) ∧ MarkOK s r ds' ∧ ds = { target := .collected b, args := #[] } :: ds'
theorem MarkOK.mono {s s' : Sg} (h : s.le s') : ∀ (D : List Nat) (ds : List Deferred), MarkOK s D ds → MarkOK s' D ds
  | [], _, k => k
  | l :: r, _, ⟨b, c, ds', h1, h2, h3⟩ => ⟨b, c, ds', h _ _ h1, MarkOK.mono h r ds' h2, h3⟩
/-- how code is left, and what is then there -/
def OutOK (ω : Nat → Value) (w0 : World) (s : Sg) (N : Nat) (out : Out) (e : Exit) (a : Act) (w : World) : Prop :=
  a.tmps.size = N ∧ ∃ A D st s', (match e with | .normal => out = .norm A D st | .exit i => out = .exit i A D st | .ret => out = .ret A D st | _ => False) ∧ s.le s' ∧ Hold ω s' w0 st w ∧ EnvOK ω s' A (envOf a) ∧ MarkOK s' D a.defers
/-- of code -/
def CodeOK (ω : Nat → Value) (w0 : World) (P : Program) (inr : Bool) (ec : CodeF) : Prop := ∀ N c A D st out, ec N c A D st = some out → ∀ ro, (inr = false → ro = none) → ∀ s a w, a.tmps.size = N → Hold ω s w0 st w → EnvOK ω s A (envOf a) → MarkOK s D a.defers →
  c.wpIn (Fr ro) 1 P (OutOK ω w0 s N out) a w
theorem wpIn_n {ro : Option Nat} {P : Program} {c : Code} {Q : Exit → Act → World → Prop} {a : Act} {w : World} (n m : Nat) (h : c.wpIn (Fr ro) n P Q a w) : c.wpIn (Fr ro) m P Q a w :=
  fun b k cs hro hb _ => h b k cs hro hb (fun _ hd => by cases hd)
section
variable {ω : Nat → Value} {s : Sg} {w0 w : World} {st : Stt} {P : Program}
theorem Hold.drop (h : Hold ω s w0 st w) {l b c : Nat} {o : AX} {w' : World} (hl : st.h.get l = some o) (hb : s l = some (b, c)) (hx : Ext [b] w w') : Hold ω s w0 (delO st l) w' := by
  obtain ⟨b', c', h1, h2⟩ := h.obj l o hl
  rw [hb] at h1; cases h1
  have key : ∀ k o1, (delO st l).h.get k = some o1 → k ≠ l ∧ st.h.get k = some o1 := by
    intro k o1 hk
    rcases Tr.get_set _ _ _ _ _ _ hk with ⟨_, e⟩ | ⟨hne, e⟩
    · cases e
    · exact ⟨hne, e⟩
  refine ⟨h.ext.new hx (by simpa using h2.ge), h.dom, fun k o1 hk => ?_, fun k k' o1 o2 b1 c1 c2 hk hk' => h.inj k k' o1 o2 b1 c1 c2 (key k o1 hk).2 (key k' o2 hk').2⟩
  obtain ⟨hne, e⟩ := key k o1 hk
  obtain ⟨b1, c1, h3, h4⟩ := h.obj k o1 e
  refine ⟨b1, c1, h3, h4.step (Sg.le.refl s) (hx.block b1 h4.lt ?_)⟩
  simp only [List.mem_singleton]
  intro e1; subst e1
  exact hne (h.inj k l o1 o b1 c1 c e hl h3 hb)
/-! ### Results -/
theorem resA_ok {A : AE} {tmps : Array Value} {r : ResultVar} {a : AV} (hH : Hold ω s w0 st w) (hE : EnvOK ω s A (fun t => tmps.getD t undef)) (h : resA P A st r = some a) : ∃ v, (readVar tmps r).run P w = .ok v w ∧ Rel ω s a v := by
  cases r with
  | tmp t => exact ⟨_, rfl, hE t a h⟩
  | cell x t =>
    simp only [resA] at h
    split at h
    · rename_i p hp
      obtain ⟨b, k, u, h1, h2, h3⟩ := loadVar_ok hH (hE x p hp) h
      refine ⟨u, ?_, h3⟩
      simp only [readVar, h1, asAddr, Sem.run_bind, Sem.run_pure, Result.andThen_ok, h2]
    · cases h
theorem resAs_ok {A : AE} {tmps : Array Value} (hH : Hold ω s w0 st w) (hE : EnvOK ω s A (fun t => tmps.getD t undef)) : ∀ (rs : List ResultVar) (as' : List AV), resAs P A st rs = some as' → ∃ vs, (rs.mapM (readVar tmps)).run P w = .ok vs w ∧ RelL ω s as' vs
  | [], as', h => by simp only [resAs, Option.some.injEq] at h; subst h; exact ⟨[], by simp, RelL.nil⟩
  | r :: rs, as', h => by
    simp only [resAs] at h
    split at h
    · rename_i a ha
      split at h
      · rename_i as2 h2
        cases h
        obtain ⟨v, h3, h4⟩ := resA_ok hH hE ha
        obtain ⟨vs, h5, h6⟩ := resAs_ok hH hE rs as2 h2
        exact ⟨v :: vs, by simp only [List.mapM_cons, Sem.run_bind, Sem.run_pure, Result.andThen_ok, h3, h5], RelL.cons h4 h6⟩
      · cases h
    · cases h
theorem results_ok {A : AE} {D : List Nat} {tmps : Array Value} {fn : Func} {a : AV} {st' : Stt} (hH : Hold ω s w0 (delAll D st) w) (hE : EnvOK ω s A (fun t => tmps.getD t undef)) (h : retA P fn A D st = some (a, st')) :
    st' = delAll D st ∧ ∃ v, (results fn tmps).run P w = .ok v w ∧ Rel ω s a v := by
  have hrun : ∀ vs : List Value, (fn.results.toList.mapM (readVar tmps)).run P w = .ok vs w → (results fn tmps).run P w = .ok (if h : vs.toArray.size = 1 then vs.toArray[0] else .tuple vs.toArray) w := by
    intro vs hv
    rw [results_eq]
    have e : fn.results.mapM (readVar tmps) = List.toArray <$> fn.results.toList.mapM (readVar tmps) := by
      obtain ⟨rs⟩ := fn.results
      simp
    rw [e]
    simp only [Sem.run_bind, Sem.run_map, Sem.run_pure, Result.andThen_ok, hv]
  unfold retA at h
  simp only at h
  split at h
  · rename_i a' hr
    cases h
    obtain ⟨vs, h1, h2⟩ := resAs_ok hH hE _ _ hr
    obtain ⟨v, vs', h3, h4, rfl⟩ := h2.uncons
    have := h4.unnil
    subst this
    exact ⟨rfl, v, by have := hrun _ h1; simpa using this, h3⟩
  · rename_i as' hne hr
    cases h
    obtain ⟨vs, h1, h2⟩ := resAs_ok hH hE _ _ hr
    refine ⟨rfl, .tuple vs.toArray, ?_, Rel.mkTup h2⟩
    have h3 := hrun _ h1
    have hl : vs.length ≠ 1 := by
      rw [← h2.len]
      intro e
      obtain ⟨x, hx⟩ := List.length_eq_one_iff.1 e
      exact hne x hx
    rw [h3, dif_neg (by simpa using hl)]
  · cases h
/-! ### Leaving -/
theorem leaves_ok {fn : Func} {tmps : Array Value} {R : Ending → World → Prop} : ∀ (D : List Nat) (ds : List Deferred) (st : Stt) (w : World), MarkOK s D ds → marksB st D = true → Hold ω s w0 st w → (∀ w', Hold ω s w0 (delAll D st) w' → LeavesIn (Fr none) 1 P fn tmps R [] .returning w') → LeavesInM (Fr none) 1 P fn tmps R ds .returning w
  | [], ds, st, w, hm, _, hH, k => by
    have : ds = [] := hm
    subst this
    exact k w hH
  | l :: r, ds, st, w, hm, hb, hH, k => by
    obtain ⟨b, c, ds', h1, h2, rfl⟩ := hm
    simp only [marksB, noDup, List.all_cons, Bool.and_eq_true, Bool.not_eq_true'] at hb
    obtain ⟨⟨hno, hnd⟩, ⟨hlt, hl⟩, hall⟩ := hb
    have hlive : st.h.get l = some .d := by
      cases hg : st.h.get l with
      | none => rw [hg] at hl; cases hl
      | some x => cases x with
        | d => rfl
        | c _ => rw [hg] at hl; cases hl
        | l _ => rw [hg] at hl; cases hl
        | z _ _ _ => rw [hg] at hl; cases hl
        | m _ _ => rw [hg] at hl; cases hl
        | mi _ _ _ _ => rw [hg] at hl; cases hl
        | si _ _ => rw [hg] at hl; cases hl
    obtain ⟨b', c', h3, h4⟩ := hH.obj l .d hlive
    rw [h1] at h3; cases h3
    have hd : w.heap[b]? = some (.deferred (some [])) := h4.cur
    refine ⟨by simp, .inl ⟨b, _, rfl, run_takeDeferred hd, ?_⟩⟩
    refine leaves_ok r ds' (delO st l) _ h2 ?_ (hH.drop hlive h1 (Ext.putObj w b _)) (fun w' hw' => k w' hw')
    simp only [marksB, Bool.and_eq_true]
    refine ⟨hnd, List.all_eq_true.2 fun x hx => ?_⟩
    have hx' := List.all_eq_true.1 hall x hx
    simp only [Bool.and_eq_true] at hx' ⊢
    refine ⟨hx'.1, ?_⟩
    have hne : x ≠ l := by intro e; subst e; rw [List.contains_iff_mem.2 hx] at hno; cases hno
    have e : (delO st l).h.get x = st.h.get x := by
      have := Tr.get_set' 24 st.h l x none (by have := blt_t hlt; omega)
      rw [if_neg hne] at this; exact this
    rw [e]; exact hx'.2
/-! ### Calls -/
theorem argsA_get : ∀ (l : List AV) (k t : Nat) (a : AV), (argsA l k).get t = some a → k ≤ t ∧ l[t - k]? = some a
  | [], k, t, a, h => by simp [argsA, Tr.get_nil] at h
  | x :: r, k, t, a, h => by
    simp only [argsA] at h
    rcases Tr.get_set _ _ _ _ _ _ h with ⟨rfl, e⟩ | ⟨_, e⟩
    · cases e; exact ⟨Nat.le_refl _, by simp⟩
    · obtain ⟨h1, h2⟩ := argsA_get r (k + 1) t a e
      refine ⟨by omega, ?_⟩
      rw [show t - k = (t - (k + 1)) + 1 from by omega]
      simpa using h2
theorem callBy_ok {S : Sums} {ec : CodeF} (hS : CallOK ω w0 P S) (hec : CodeOK ω w0 P false ec) : CallOK ω w0 P (callBy P S ec) := by
  intro f l st a st' h s w vs hH hr
  unfold callBy at h
  split at h
  · rename_i r hs; cases h; exact hS f l st a st' hs s w vs hH hr
  · split at h
    · cases h
    · rename_i fn hfn
      cases hb0 : Nat.blt fn.ntmps l.length with
      | true => rw [hb0] at h; cases h
      | false =>
      rw [hb0] at h
      simp only [cond_false] at h
      have hlen : vs.length ≤ fn.ntmps := by
        rw [← hr.len]
        rcases Nat.lt_or_ge fn.ntmps l.length with h1 | h1
        · have : Nat.blt fn.ntmps l.length = true := Nat.ble_eq_true_of_le h1
          rw [this] at hb0; cases hb0
        · exact h1
      split at h
      · cases h
      · rename_i c hb
        have key : ∀ out, ec fn.ntmps c (argsA l 0) [] st = some out → (∀ A D st1, (out = .norm A D st1 ∨ out = .ret A D st1) → marksB st1 D = true ∧ retA P fn A D st1 = some (a, st')) → (∀ i A D st1, out ≠ .exit i A D st1) → Fnc P f vs.toArray w fun v w' => ∃ s', s.le s' ∧ Hold ω s' w0 st' w' ∧ Rel ω s' a v := by
          intro out ho hk hne
          unfold Fnc
          refine (callsIn_wide (n := 1)).1 (callsIn_of_wp_marks (F := Fr none) hfn hb trivial ?_)
          have hcode := hec fn.ntmps c _ [] st out ho none (fun _ => rfl) s { tmps := vs.toArray ++ Array.replicate (fn.ntmps - vs.toArray.size) undef, defers := [] } w (by simp; omega) hH (by
            intro t x ht
            obtain ⟨_, h2⟩ := argsA_get l 0 t x ht
            obtain ⟨v, h3, h4⟩ := hr.get h2
            have hlt : t < vs.length := (List.getElem?_eq_some_iff.1 h3).1
            have : envOf { tmps := vs.toArray ++ Array.replicate (fn.ntmps - vs.toArray.size) undef, defers := [] } t = v := by
              have h3' : vs[t]? = some v := h3
              simp [envOf, Array.getD_eq_getD_getElem?, Array.getElem?_append, hlt]
              rw [List.getElem?_eq_getElem hlt] at h3'; exact Option.some.inj h3'
            rw [this]; exact h4) rfl
          refine wpIn_mono hcode ?_
          rintro e act w' ⟨hsz, A, D, st1, s', hout, hle, hH', hE', hM'⟩
          cases e with
          | normal =>
            obtain ⟨h1, h2⟩ := hk A D st1 (.inl hout)
            refine leaves_ok D act.defers st1 w' hM' h1 hH' fun w2 hw2 => ?_
            obtain ⟨e1, v, h3, h4⟩ := results_ok hw2 hE' h2
            subst e1
            exact ⟨v, h3, v, rfl, s', hle, hw2, h4⟩
          | ret =>
            obtain ⟨h1, h2⟩ := hk A D st1 (.inr hout)
            refine leaves_ok D act.defers st1 w' hM' h1 hH' fun w2 hw2 => ?_
            obtain ⟨e1, v, h3, h4⟩ := results_ok hw2 hE' h2
            subst e1
            exact ⟨v, h3, v, rfl, s', hle, hw2, h4⟩
          | exit i => exact (hne i A D st1 hout).elim
          | goto l => exact hout.elim
          | panic ch => exact hout.elim
          | outgrown => exact hout.elim
        split at h
        · rename_i A D st1 ho
          refine key _ ho (fun A' D' st2 hh => ?_) (by intro i A' D' st2 hh; cases hh)
          rcases hh with hh | hh <;> cases hh
          cases hb1 : marksB st1 D with
          | false => rw [hb1] at h; cases h
          | true => rw [hb1] at h; exact ⟨rfl, h⟩
        · rename_i A D st1 ho
          refine key _ ho (fun A' D' st2 hh => ?_) (by intro i A' D' st2 hh; cases hh)
          rcases hh with hh | hh <;> cases hh
          cases hb1 : marksB st1 D with
          | false => rw [hb1] at h; cases h
          | true => rw [hb1] at h; exact ⟨rfl, h⟩
        · cases h
/-! ### Rounds -/
theorem putPs_ok {N : Nat} : ∀ (ps : List Nat) (l : List AV) (vs : List Value) (A A1 : AE) (tmps : Array Value), putPs N A ps l = some A1 → RelL ω s l vs → tmps.size = N → EnvOK ω s A (fun t => tmps.getD t undef) →
    ps.length = vs.length ∧ ((ps.zip vs).foldl (fun (tmps : Array Value) (x : Nat × Value) => tmps.setIfInBounds x.1 x.2) tmps).size = N ∧ EnvOK ω s A1 (fun t => ((ps.zip vs).foldl (fun (tmps : Array Value) (x : Nat × Value) => tmps.setIfInBounds x.1 x.2) tmps).getD t undef)
  | [], [], vs, A, A1, tmps, h, hr, hs, hE => by
    simp only [putPs, Option.some.injEq] at h
    subst h
    rw [hr.unnil]
    exact ⟨rfl, hs, hE⟩
  | [], _ :: _, _, _, _, _, h, _, _, _ => by simp [putPs] at h
  | _ :: _, [], _, _, _, _, h, _, _, _ => by simp [putPs] at h
  | p :: ps, a :: l, vs, A, A1, tmps, h, hr, hs, hE => by
    obtain ⟨v, vs', h1, h2, rfl⟩ := hr.uncons
    simp only [putPs] at h
    cases hb : Nat.blt p N with
    | false => rw [hb] at h; cases h
    | true =>
      rw [hb] at h
      simp only [cond_true] at h
      obtain ⟨q1, q2, q3⟩ := putPs_ok ps l vs' _ A1 (tmps.setIfInBounds p v) h h2 (by simpa using hs) (by
        intro t x ht
        rcases Tr.get_set _ _ _ _ _ _ ht with ⟨rfl, e⟩ | ⟨hne, e⟩
        · cases e
          have hp := blt_t hb
          simp only [Array.getD_eq_getD_getElem?, Array.getElem?_setIfInBounds, if_true]
          rw [if_pos (by omega)]; exact h1
        · simp only [Array.getD_eq_getD_getElem?, Array.getElem?_setIfInBounds]
          rw [if_neg (fun e => hne e.symm)]
          have := hE t x e
          simpa only [Array.getD_eq_getD_getElem?] using this)
      exact ⟨by simp [q1], q2, q3⟩
theorem roundBy_ok {ec : CodeF} (hec : CodeOK ω w0 P true ec) (ro : Option Nat) : RoundOK ω w0 P (roundBy ec) ro := by
  intro l as' st a st' h s w vs b c hH hr hb
  unfold roundBy at h
  split at h
  case h_2 => cases h
  rename_i lo hl
  obtain ⟨b', c', e1, hob⟩ := hH.obj l _ hl
  rw [hb] at e1; cases e1
  obtain ⟨fn, tmps, df, hheap, hsz, hE0⟩ := hob.cur
  cases hrd : isReady lo.state with
  | false => rw [hrd] at h; cases h
  | true =>
  rw [hrd] at h
  simp only [cond_true] at h
  split at h
  case h_2 => cases h
  rename_i A1 hps
  obtain ⟨q1, q2, q3⟩ := putPs_ok lo.ps as' vs lo.A A1 tmps hps hr hsz hE0
  have hfold : (lo.ps.toArray.zip vs.toArray).foldl (fun (tmps : Array Value) (x : Nat × Value) => tmps.setIfInBounds x.1 x.2) tmps = (lo.ps.zip vs).foldl (fun (tmps : Array Value) (x : Nat × Value) => tmps.setIfInBounds x.1 x.2) tmps := by simp
  refine ⟨_, hheap, by simp [q1], ?_⟩
  split at h
  case h_2 => cases h
  rename_i A2 st2 hasg
  split at h
  case h_2 => cases h
  rename_i lo2 hl2
  cases hrd2 : isReady lo2.state with
  | false => rw [hrd2] at h; cases h
  | true =>
  rw [hrd2] at h
  simp only [cond_true] at h
  refine roundIn_of_wpIn (F := Fr ro) trivial ?_
  have hasg' := wpIn_n 1 0 (hec lo.N lo.asg A1 [] st _ hasg (some b) (fun e => by cases e) s { tmps := (lo.ps.zip vs).foldl (fun (tmps : Array Value) (x : Nat × Value) => tmps.setIfInBounds x.1 x.2) tmps, defers := [] } w q2 hH q3 rfl)
  show lo.asg.wpIn (Fr (some b)) 0 P _ { tmps := (lo.ps.toArray.zip vs.toArray).foldl (fun (tmps : Array Value) (x : Nat × Value) => tmps.setIfInBounds x.1 x.2) tmps, defers := [] } w
  rw [hfold]
  refine wpIn_mono hasg' ?_
  rintro e act w1 ⟨hsz1, A', D', st1, s1, hout, hle1, hH1, hE1, hM1⟩
  cases e with
  | normal =>
    cases hout
    have hb1 := hle1 _ _ hb
    obtain ⟨b2, c2, e2, hob2⟩ := hH1.obj l _ hl2
    rw [hb1] at e2; cases e2
    obtain ⟨fn2, tmps2, df2, hheap2, hsz2, hE2⟩ := hob2.cur
    have hready : lo2.state = .ready := by
      cases hst : lo2.state <;> rw [hst] at hrd2 <;> first | rfl | cases hrd2
    refine ⟨_, run_beginRound hheap2 hready, ?_⟩
    have hlt2 := hob2.lt
    have hH2 : Hold ω s1 w0 (setX st2 l (.l { lo2 with state := .busy })) (w1.putObj b (.loop { state := .busy, pending := lo2.jump, fn := fn2, tmps := tmps2, params := lo2.ps.toArray, assign := lo2.asg, body := lo2.body, defers := df2 })) :=
      hH1.turn hl2 hb1 (Ext.putObj w1 b _) ⟨hob2.ge, fn2, tmps2, df2, World.putObj_heap_same hlt2, hsz2, hE2⟩
    have hD : act.defers = [] := hM1
    have hbody : ∀ out, ec lo.N lo.body A2 [] (setX st2 l (.l { lo2 with state := .busy })) = some out → lo.body.wpIn (Fr (some b)) 0 P (OutOK ω w0 s1 lo.N out) act _ := fun out ho => wpIn_n 1 0 (hec lo.N lo.body A2 [] _ out ho (some b) (fun e => by cases e) s1 act _ hsz1 hH2 hE1 hD)
    -- the round's end
    have fin : ∀ (st3 : Stt) (s3 : Sg) (w3 : World) (lo3 : LO) (jump : Option Code), s1.le s3 → Hold ω s3 w0 st3 w3 → st3.h.get l = some (.l lo3) → ∃ w4, (Instr.endRound b jump).run P w3 = .ok (.bool jump.isNone) w4 ∧
        Hold ω s3 w0 (setX st3 l (.l { lo3 with state := if jump.isNone then .ready else .done, jump := jump })) w4 := by
      intro st3 s3 w3 lo3 jump hle3 hH3 hl3
      have hb3 := hle3 _ _ hb1
      obtain ⟨b4, c4, e4, hob4⟩ := hH3.obj l _ hl3
      rw [hb3] at e4; cases e4
      obtain ⟨fn4, tmps4, df4, hheap4, hsz4, hE4⟩ := hob4.cur
      exact ⟨_, run_endRound jump hheap4, hH3.turn hl3 hb3 (Ext.putObj w3 b _) ⟨hob4.ge, fn4, tmps4, df4, World.putObj_heap_same hob4.lt, hsz4, hE4⟩⟩
    split at h
    · rename_i A3 st3 hbd
      split at h
      · rename_i lo3 hl3
        cases h
        refine wpIn_mono (hbody _ hbd) ?_
        rintro e act3 w3 ⟨_, A', D', st', s3, hout, hle3, hH3, _, _⟩
        cases e with
        | normal =>
          cases hout
          obtain ⟨w4, h4, h5⟩ := fin _ s3 w3 lo3 none hle3 hH3 hl3
          exact ⟨_, w4, h4, _, s3, rfl, hle1.trans hle3, h5, Rel.mkv _⟩
        | exit i => cases hout
        | ret => cases hout
        | goto l => exact hout.elim
        | panic ch => exact hout.elim
        | outgrown => exact hout.elim
      · cases h
    · rename_i A3 st3 hbd
      split at h
      · rename_i lo3 hl3
        cases h
        refine wpIn_mono (hbody _ hbd) ?_
        rintro e act3 w3 ⟨_, A', D', st', s3, hout, hle3, hH3, _, _⟩
        cases e with
        | ret =>
          cases hout
          obtain ⟨w4, h4, h5⟩ := fin _ s3 w3 lo3 (some .ret) hle3 hH3 hl3
          exact ⟨_, w4, h4, _, s3, rfl, hle1.trans hle3, h5, Rel.mkv _⟩
        | exit i => cases hout
        | normal => cases hout
        | goto l => exact hout.elim
        | panic ch => exact hout.elim
        | outgrown => exact hout.elim
      · cases h
    · rename_i id A3 st3 hbd
      split at h
      · rename_i lo3 hl3
        cases h
        refine wpIn_mono (hbody _ hbd) ?_
        rintro e act3 w3 ⟨_, A', D', st', s3, hout, hle3, hH3, _, _⟩
        cases e with
        | exit i =>
          cases hout
          obtain ⟨w4, h4, h5⟩ := fin _ s3 w3 lo3 (some (.exit id)) hle3 hH3 hl3
          exact ⟨_, w4, h4, _, s3, rfl, hle1.trans hle3, h5, Rel.mkv _⟩
        | ret => cases hout
        | normal => cases hout
        | goto l => exact hout.elim
        | panic ch => exact hout.elim
        | outgrown => exact hout.elim
      · cases h
    · cases h
  | exit i => cases hout
  | ret => cases hout
  | goto l => exact hout.elim
  | panic ch => exact hout.elim
  | outgrown => exact hout.elim
end
end Go.Proofs.YtjogencedcgdjaaGreatDoor.Ev
