/- The evaluator is right: loops over functions, code, all of it. Program-agnostic. -/
import Derived.Test.YtkcnljgennehaaaE10
namespace Go.Proofs.Ytkcnljgennehaaa.Ev
open Go.RowKit Go.Proofs.Ytkcnljgennehaaa.W

section
variable {ω : Nat → Value} {s : Sg} {w0 w : World} {st : Stt} {P : Program}
theorem run_callable {f : FuncId} (h : callableB P f = true) (args : Array Value) (w : World) : (callFunc f args).run P w = .ok (.enter f args) w := by
  obtain ⟨fn, hfn, hname, hb⟩ := callable_of h
  have hn' : ¬ fn.name = "runtime.NumGoroutine" := by simpa using hname
  have hb' : ¬ fn.body = none := by intro e; rw [e] at hb; cases hb
  simp [go_sem, callFunc, hfn, hn', hb']
theorem seq_ok {A : AE} {E : Env} {g : Operand} {f : FuncId} {cs : List AV} (hE : EnvOK ω s A E) (h : seqOf P A g = some (f, cs)) : callableB P f = true ∧ ∃ vs, ev E g = .func (.func f) #[] vs.toArray ∧ RelL ω s cs vs := by
  unfold seqOf at h
  split at h
  · rename_i f' fs cs' hg
    cases hc : (Nat.beq fs.size 0 && callableB P f') with
    | false => rw [hc] at h; cases h
    | true =>
      rw [hc] at h
      cases h
      simp only [Bool.and_eq_true] at hc
      have hfs : fs = #[] := Array.eq_empty_of_size_eq_zero (beq_t hc.1)
      subst hfs
      exact ⟨hc.2, cs'.toList, by simpa using (opd_ok hg hE).v_of, RelL.vs _⟩
  · rename_i f' cs' hg
    cases hc : callableB P f' with
    | false => rw [hc] at h; cases h
    | true =>
      rw [hc] at h
      cases h
      have hr := opd_ok hg hE
      simp only [Rel] at hr
      obtain ⟨vs, hr, he⟩ := hr
      exact ⟨hc, vs, he, hr⟩
  · cases h
theorem range_ok {cf : CallF} (hc : CallOK ω w0 P cf) {N : Nat} {g : Operand} {ps : Array Nat} {asg body : Code} {A : AE} {D : List Nat} {out : Out} (h : evRange P cf N g ps.toList asg body A D st = some out) (a : Act) (hsz : a.tmps.size = N) (hH : Hold ω s w0 st w) (hE : EnvOK ω s A (envOf a)) (hM : MarkOK s D a.defers) :
    (Code.rangeFunc g ps asg body).wpIn (Fr none) 1 P (OutOK ω w0 s N out) a w := by
  unfold evRange at h
  split at h
  · cases h
  rename_i f cs hs
  obtain ⟨hcal, vs, hg, hr⟩ := seq_ok hE hs
  simp only at h
  split at h
  · cases h
  rename_i av st2 hcf
  refine wpIn_rangeFunc fun fn hfn => ?_
  -- the two blocks
  have hH1 : Hold ω (s.ins st.nx (w.heap.size, 0)) w0 (newX st .d) (w.alloc (.deferred (some []))) := hH.new (Ext.alloc w _) ⟨hH.ge, heap_alloc_new w _⟩
  have hle1 : s.le (s.ins st.nx (w.heap.size, 0)) := hH.le_new _
  obtain ⟨rec, hrec⟩ : ∃ rec : Loop, rec = { state := .ready, pending := none, fn := fn, tmps := a.tmps, params := ps, assign := asg, body := body, defers := w.heap.size } := ⟨_, rfl⟩
  have hsize1 : (w.alloc (.deferred (some []))).heap.size = w.heap.size + 1 := by simp
  have hH2 : Hold ω ((s.ins st.nx (w.heap.size, 0)).ins (st.nx + 1) (w.heap.size + 1, 0)) w0 (newX (newX st .d) (.l ⟨.ready, N, A, ps.toList, asg, body, none⟩)) ((w.alloc (.deferred (some []))).alloc (.loop rec)) := by
    have := hH1.new (o := .l ⟨.ready, N, A, ps.toList, asg, body, none⟩) (w' := (w.alloc (.deferred (some []))).alloc (.loop rec)) (c := 0) (Ext.alloc _ _) ⟨hH1.ge, fn, a.tmps, w.heap.size, by
      rw [heap_alloc_new, hrec], hsz, hE.mono hle1⟩
    rw [hsize1] at this
    exact this
  have hle2 : (s.ins st.nx (w.heap.size, 0)).le ((s.ins st.nx (w.heap.size, 0)).ins (st.nx + 1) (w.heap.size + 1, 0)) := by
    have := hH1.le_new (w.heap.size + 1, 0)
    exact this
  have hl0 : (s.ins st.nx (w.heap.size, 0)).ins (st.nx + 1) (w.heap.size + 1, 0) (st.nx + 1) = some (w.heap.size + 1, 0) := Sg.ins_same
  have hd0 : (s.ins st.nx (w.heap.size, 0)).ins (st.nx + 1) (w.heap.size + 1, 0) st.nx = some (w.heap.size, 0) := hle2 _ _ Sg.ins_same
  refine ⟨w.heap.size + 1, [{ target := .collected w.heap.size, args := #[] }], (w.alloc (.deferred (some []))).alloc (.loop rec), { target := .fn (.func f) vs.toArray, args := #[.func (.yield (w.heap.size + 1)) #[] #[]] }, (w.alloc (.deferred (some []))).alloc (.loop rec), f,
    #[.func (.yield (w.heap.size + 1)) #[] #[]] ++ vs.toArray, (w.alloc (.deferred (some []))).alloc (.loop rec), ?_, ?_, ?_, ?_, fun h => (by cases h), ?_⟩
  · rw [hrec]; exact run_enterLoop_outer _ _ _ _ _
  · have hg' : a.eval g = .func (.func f) #[] vs.toArray := by rw [eval_envOf]; exact hg
    simp only [resolve, hg']
    simp [go_sem]
  · intro f' _; trivial
  · simp only [invoke]
    exact run_callable hcal _ _
  · have hargs : #[.func (.yield (w.heap.size + 1)) #[] #[]] ++ vs.toArray = (Value.func (.yield (w.heap.size + 1)) #[] #[] :: vs).toArray := by simp
    rw [hargs]
    have hcall := hc f (.yld (st.nx + 1) :: cs) _ av st2 hcf _ _ _ hH2 (RelL.cons (by simp only [Rel]; exact ⟨_, _, hl0, rfl⟩) (RelL.mono (hle1.trans hle2) _ _ hr))
    have hcall' : CallsIn (Fr none) (1 - 1) P f (Value.func (.yield (w.heap.size + 1)) #[] #[] :: vs).toArray ((w.alloc (.deferred (some []))).alloc (.loop rec)) _ := (callsIn_wide (n := 1 - 1)).2 hcall
    refine CallsIn.mono hcall' ?_
    rintro e w3 ⟨v, rfl, s3, hle3, hH3, _⟩
    split at h
    case h_2 => cases h
    rename_i lo hl hdd
    cases hbz : isBusy lo.state with
    | true => rw [hbz] at h; cases h
    | false =>
    rw [hbz] at h
    simp only [cond_false] at h
    have hl3 := hle3 _ _ hl0
    have hd3 := hle3 _ _ hd0
    obtain ⟨b4, c4, e4, hob4⟩ := hH3.obj _ _ hl
    rw [hl3] at e4; cases e4
    obtain ⟨fn4, tmps4, df4, hheap4, _, _⟩ := hob4.cur
    have hnb : lo.state ≠ .busy := by intro e; rw [e] at hbz; cases hbz
    have hend := run_endLoop (P := P) hheap4 (by exact hnb)
    have hH4 := hH3.drop hl hl3 (Ext.putObj w3 (w.heap.size + 1) (.loop { state := .exhausted, pending := lo.jump, fn := fn4, tmps := tmps4, params := lo.ps.toArray, assign := lo.asg, body := lo.body, defers := df4 }))
    have hleA : s.le s3 := (hle1.trans hle2).trans hle3
    have fin : ∃ A' D' st' s', (A' = A ∧ D' = st.nx :: D ∧ st' = delO st2 (st.nx + 1)) ∧ s.le s' ∧ Hold ω s' w0 st' (w3.putObj (w.heap.size + 1) (.loop { state := .exhausted, pending := lo.jump, fn := fn4, tmps := tmps4, params := lo.ps.toArray, assign := lo.asg, body := lo.body, defers := df4 })) ∧ EnvOK ω s' A' (envOf { a with defers := [{ target := .collected w.heap.size, args := #[] }] ++ a.defers }) ∧ MarkOK s' D' ([{ target := .collected w.heap.size, args := #[] }] ++ a.defers) :=
      ⟨A, _, _, s3, ⟨rfl, rfl, rfl⟩, hleA, hH4, hE.mono hleA, w.heap.size, 0, a.defers, hd3, MarkOK.mono hleA D _ hM, rfl⟩
    obtain ⟨A', D', st', s', ⟨rfl, rfl, rfl⟩, f1, f2, f3, f4⟩ := fin
    refine ⟨lo.jump, _, hend, ?_⟩
    split at h
    · rename_i hj
      cases h
      simp only [hj]
      rw [hj] at f2
      exact ⟨hsz, _, _, _, s', rfl, f1, f2, f3, f4⟩
    · rename_i hj
      cases h
      simp only [hj]
      rw [hj] at f2
      exact wpIn_ret ⟨hsz, _, _, _, s', rfl, f1, f2, f3, f4⟩
    · rename_i id hj
      cases h
      simp only [hj]
      rw [hj] at f2
      exact wpIn_exit ⟨hsz, _, _, _, s', rfl, f1, f2, f3, f4⟩
    · cases h
/-- a region, in a frame with whatever marks -/
theorem region_of {N : Nat} {ro : Option Nat} {c : Code} {A' : AE} {D : List Nat} {st' : Stt} {a : Act} (hsz : a.tmps.size = N) (hM : MarkOK s D a.defers) (h : ∀ Nn : Env → World → Prop, (∀ s' E' w', s.le s' → Hold ω s' w0 st' w' → EnvOK ω s' A' E' → Nn E' w') → WPr ro P ⟨N, a.defers⟩ c ⟨Nn, fun _ _ _ => False, fun _ _ => False⟩ (envOf a) w) :
    c.wpIn (Fr ro) 1 P (OutOK ω w0 s N (.norm A' D st')) a w := by
  have := h (fun E' w' => ∃ s', s.le s' ∧ Hold ω s' w0 st' w' ∧ EnvOK ω s' A' E') (fun s' E' w' h1 h2 h3 => ⟨s', h1, h2, h3⟩) a ⟨hsz, rfl⟩ rfl
  refine wpIn_mono this ?_
  rintro e a' w' ⟨⟨h1, h2⟩, h3⟩
  cases e with
  | normal =>
    obtain ⟨s', q1, q2, q3⟩ := h3
    exact ⟨h1, A', D, st', s', rfl, q1, q2, q3, by rw [h2]; exact MarkOK.mono q1 D _ hM⟩
  | exit i => exact h3.elim
  | ret => exact h3.elim
  | goto l => exact h3.elim
  | panic ch => exact h3.elim
  | outgrown => exact h3.elim
theorem OutOK.mono {s s' : Sg} {N : Nat} {out : Out} {e : Exit} {a : Act} {w : World} (hle : s.le s') (h : OutOK ω w0 s' N out e a w) : OutOK ω w0 s N out e a w := by
  obtain ⟨h1, A, D, st, s2, h2, h3, h4⟩ := h
  exact ⟨h1, A, D, st, s2, h2, hle.trans h3, h4⟩
theorem loop_ok {N : Nat} {ro : Option Nat} {c : Code} {f : AE → List Nat → Stt → Option Out} (hf : ∀ A D st out, f A D st = some out → ∀ s a w, a.tmps.size = N → Hold ω s w0 st w → EnvOK ω s A (envOf a) → MarkOK s D a.defers → c.wpIn (Fr ro) 1 P (OutOK ω w0 s N out) a w) :
    ∀ (m : Nat) (A : AE) (D : List Nat) (st : Stt) (out : Out), evLoop f m A D st = some out → ∀ s a w, a.tmps.size = N → Hold ω s w0 st w → EnvOK ω s A (envOf a) → MarkOK s D a.defers → Code.roundsIn (Fr ro) 1 P c (OutOK ω w0 s N out) m a w
  | 0, A, D, st, out, h, _, _, _, _, _, _, _ => by simp [evLoop] at h
  | m + 1, A, D, st, out, h, s, a, w, hsz, hH, hE, hM => by
    simp only [evLoop] at h
    unfold Code.roundsIn
    split at h
    · rename_i A' D' st' ho
      refine wpIn_mono (hf A D st _ ho s a w hsz hH hE hM) ?_
      rintro e a1 w1 ⟨h1, A2, D2, st2, s2, hout, hle, hH2, hE2, hM2⟩
      cases e with
      | normal =>
        cases hout
        have hrec := loop_ok hf m _ _ _ out h s2 a1 w1 h1 hH2 hE2 hM2
        -- the rest answers for the smaller names as well
        have lower : ∀ m a w, Code.roundsIn (Fr ro) 1 P c (OutOK ω w0 s2 N out) m a w → Code.roundsIn (Fr ro) 1 P c (OutOK ω w0 s N out) m a w := by
          intro m
          induction m with
          | zero => intro a w h; exact h
          | succ m ih =>
            intro a w h
            unfold Code.roundsIn at h ⊢
            refine wpIn_mono h ?_
            intro e a w h
            have lift : ∀ e', OutOK ω w0 s2 N out e' a w → OutOK ω w0 s N out e' a w := fun e' q => OutOK.mono hle q
            cases e with
            | normal => exact ih _ _ h
            | exit i => exact lift (.exit i) h
            | ret => exact lift .ret h
            | goto l => exact lift (.goto l) h
            | panic ch => exact lift (.panic ch) h
            | outgrown => exact lift .outgrown h
        exact lower _ _ _ hrec
      | exit i => cases hout
      | ret => cases hout
      | goto l => exact hout.elim
      | panic ch => exact hout.elim
      | outgrown => exact hout.elim
    · rename_i hne
      refine wpIn_mono (hf A D st _ h s a w hsz hH hE hM) ?_
      intro e a1 w1 hq
      cases e with
      | normal => obtain ⟨h1, A2, D2, st2, s2, hout, _⟩ := hq; cases hout; exact absurd h (hne _ _ _)
      | exit i => exact hq
      | ret => exact hq
      | goto l => exact hq
      | panic ch => exact hq
      | outgrown => exact hq
theorem code_ok (hω : OneW ω) (hm : P.follows .mixedOrders = true) {S : Sums} (hS : CallOK ω w0 P S) : ∀ (n : Nat) (inr : Bool), CodeOK ω w0 P inr (evCode P S n inr) := by
  intro n
  induction n with
  | zero => intro inr N c A D st out h; simp [evCode] at h
  | succ n ih =>
    intro inr N c A D st out h ro hro s a w hsz hH hE hM
    have hcall := callBy_ok hS (ih false)
    have hrnd := roundBy_ok (ih true)
    cases c with
    | skip => simp only [evCode, Option.some.injEq] at h; subst h; exact wpIn_skip ⟨hsz, A, D, st, s, rfl, Sg.le.refl s, hH, hE, hM⟩
    | label l => simp only [evCode, Option.some.injEq] at h; subst h; exact wpIn_label ⟨hsz, A, D, st, s, rfl, Sg.le.refl s, hH, hE, hM⟩
    | exit id => simp only [evCode, Option.some.injEq] at h; subst h; exact wpIn_exit ⟨hsz, A, D, st, s, rfl, Sg.le.refl s, hH, hE, hM⟩
    | ret => simp only [evCode, Option.some.injEq] at h; subst h; exact wpIn_ret ⟨hsz, A, D, st, s, rfl, Sg.le.refl s, hH, hE, hM⟩
    | region id ops d =>
      simp only [evCode] at h
      cases d with
      | true =>
        simp only [cond_true] at h
        split at h
        · rename_i A' st' ho
          cases h
          exact region_of hsz hM fun Nn k => drawn_ok hω hm hcall (hrnd ro) ho s (envOf a) w hH hE k
        · cases h
      | false =>
        simp only [cond_false] at h
        split at h
        · rename_i A' st' ho
          cases h
          refine region_of hsz hM fun Nn k => ?_
          have : ops = ops.toList.toArray := by simp
          rw [this]
          refine WP.region ?_
          rw [← this]
          exact list_ok hω hcall (hrnd ro) ops.toList A st A' st' ho s (envOf a) w hH hE k
        · cases h
    | seq x y =>
      simp only [evCode] at h
      split at h
      · rename_i A' D' st' ho
        refine wpIn_seq (wpIn_mono (ih inr N x A D st _ ho ro hro s a w hsz hH hE hM) ?_)
        rintro e a1 w1 ⟨h1, A2, D2, st2, s2, hout, hle, hH2, hE2, hM2⟩
        cases e with
        | normal => cases hout; exact wpIn_mono (ih inr N y _ _ _ out h ro hro s2 a1 w1 h1 hH2 hE2 hM2) fun e a w q => OutOK.mono hle q
        | exit i => cases hout
        | ret => cases hout
        | goto l => exact hout.elim
        | panic ch => exact hout.elim
        | outgrown => exact hout.elim
      · rename_i hne
        refine wpIn_seq (wpIn_mono (ih inr N x A D st _ h ro hro s a w hsz hH hE hM) ?_)
        intro e a1 w1 hq
        cases e with
        | normal => obtain ⟨h1, A2, D2, st2, s2, hout, _⟩ := hq; cases hout; exact absurd h (hne _ _ _)
        | exit i => exact hq
        | ret => exact hq
        | goto l => exact hq
        | panic ch => exact hq
        | outgrown => exact hq
    | cond x b1 b2 =>
      simp only [evCode] at h
      split at h
      · rename_i t hx
        have hc : a.eval x = .bool t := by rw [eval_envOf]; exact (opd_ok hx hE).v_of
        cases t with
        | true => exact wpIn_cond_true hc (ih inr N b1 A D st out h ro hro s a w hsz hH hE hM)
        | false => exact wpIn_cond_false hc (ih inr N b2 A D st out h ro hro s a w hsz hH hE hM)
      · cases h
    | block id b =>
      simp only [evCode] at h
      split at h
      · rename_i i A' D' st' ho
        refine wpIn_block (wpIn_mono (ih inr N b A D st _ ho ro hro s a w hsz hH hE hM) ?_)
        rintro e a1 w1 ⟨h1, A2, D2, st2, s2, hout, hle, hH2, hE2, hM2⟩
        cases e with
        | exit j =>
          cases hout
          simp only [Exit.inBlock]
          cases hb : Nat.beq i id with
          | true =>
            rw [hb] at h
            simp only [cond_true, Option.some.injEq] at h
            subst h
            rw [if_pos (beq_t hb)]
            exact ⟨h1, _, _, _, s2, rfl, hle, hH2, hE2, hM2⟩
          | false =>
            rw [hb] at h
            simp only [cond_false, Option.some.injEq] at h
            subst h
            rw [if_neg (beq_f hb)]
            exact ⟨h1, _, _, _, s2, rfl, hle, hH2, hE2, hM2⟩
        | normal => cases hout
        | ret => cases hout
        | goto l => exact hout.elim
        | panic ch => exact hout.elim
        | outgrown => exact hout.elim
      · rename_i hne
        refine wpIn_block (wpIn_mono (ih inr N b A D st _ h ro hro s a w hsz hH hE hM) ?_)
        intro e a1 w1 hq
        cases e with
        | exit i => obtain ⟨h1, A2, D2, st2, s2, hout, _⟩ := hq; cases hout; exact absurd h (hne _ _ _ _)
        | normal => exact hq
        | ret => exact hq
        | goto l => exact hq
        | panic ch => exact hq
        | outgrown => exact hq
    | loop b =>
      simp only [evCode] at h
      exact wpIn_loop_rounds n (loop_ok (fun A D st out ho s a w => ih inr N b A D st out ho ro hro s a w) n A D st out h s a w hsz hH hE hM)
    | rangeFunc g ps asg body =>
      simp only [evCode] at h
      cases hi : inr with
      | true => rw [hi] at h; cases h
      | false =>
        rw [hi] at h
        simp only [cond_false] at h
        have := hro hi
        subst this
        exact range_ok hcall h a hsz hH hE hM
    | _ => simp [evCode] at h
/-- A call that the evaluator carries out: it returns what the evaluator says, in whatever world. -/
theorem fn_ok (hω : OneW ω) (hm : P.follows .mixedOrders = true) {S : Sums} (hS : CallOK ω w0 P S) (n : Nat) : CallOK ω w0 P (evFn P S n) := callBy_ok hS (code_ok hω hm hS n false)
theorem noSum_ok : CallOK ω w0 P (fun _ _ _ => none) := fun _ _ _ _ _ h => by cases h
/-- nothing is known yet -/
theorem Hold.start (w : World) : Hold ω (fun _ => none) w ⟨.nil, 0⟩ w := ⟨Ext.refl [] w, fun _ _ => rfl, fun l o h => by simp [Tr.get_nil] at h, fun l l' o o' b c c' h => by simp [Tr.get_nil] at h⟩
end
/-- does the evaluation answer with this value? -/
def answers (r : Option (AV × Stt)) (p : Value → Bool) : Bool := match r with
  | some (.v x, _) => p x
  | _ => false
/-- a closed call that answers true -/
theorem closed_true {P : Program} (hm : P.follows .mixedOrders = true) {f : FuncId} (n : Nat) (h : answers (evFn P (fun _ _ _ => none) n f [] ⟨.nil, 0⟩) (fun x => match x with | .bool true => true | _ => false) = true) (w : World) :
    Fnc P f #[] w fun v w' => v = .bool true ∧ Ext [] w w' := by
  unfold answers at h
  split at h
  · rename_i x st' hr
    simp only at h
    split at h
    · have := fn_ok (ω := fun _ => .bool true) (w0 := w) (fun _ => rfl) hm noSum_ok n f [] _ _ st' hr _ w [] (Hold.start w) RelL.nil
      refine Fnc.mono this ?_
      rintro v w' ⟨s', _, hH, hr⟩
      exact ⟨hr.v_of, hH.ext⟩
    · cases h
  · cases h
end Go.Proofs.Ytkcnljgennehaaa.Ev
