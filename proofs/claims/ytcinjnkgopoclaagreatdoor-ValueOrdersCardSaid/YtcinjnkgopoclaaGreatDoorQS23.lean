/- Pieces of code, from variables that others hold; code in front of a loop over a function. Program-agnostic. -/
import Derived.Test.YtcinjnkgopoclaaGreatDoorQS14x
import Derived.Test.YtcinjnkgopoclaaGreatDoorQW12
set_option linter.unusedVariables false
set_option linter.unusedSimpArgs false
set_option linter.unusedSectionVars false
namespace Go.Proofs.YtcinjnkgopoclaaGreatDoor.Sv
open Go.RowKit Go.Proofs.YtcinjnkgopoclaaGreatDoor.W
variable {Γ : Gl}

def EnvAt (E : Env) : List Nat → List Value → Prop
  | [], vs => vs = []
  | t :: ts, vs => ∃ v vs', vs = v :: vs' ∧ E t = v ∧ EnvAt E ts vs'
def putTs : List Nat → List AV → AE
  | t :: ts, a :: r => (putTs ts r).set t (some a)
  | _, _ => [.nil]
theorem putTs_ne : ∀ (ts : List Nat) (as' : List AV), putTs ts as' ≠ []
  | [], _ => by simp [putTs]
  | _ :: _, [] => by simp [putTs]
  | t :: ts, a :: r => by simp only [putTs]; exact ((Suf.refl (putTs_ne ts r)).set t (some a)).ne
theorem nil_get {t : Nat} {a : AV} (h : Ly.get ([.nil] : AE) t = some a) : False := by
  simp only [Ly.get, Ly.go, Tr.get] at h
  cases hb : Nat.blt t 1000000 <;> rw [hb] at h <;> cases h
theorem putTs_ok {s : Sg} {E : Env} : ∀ (ts : List Nat) (as' : List AV) (vs : List Value), RelL s as' vs → EnvAt E ts vs → EnvOK s (putTs ts as') E
  | [], _, _, _, _ => fun t a h => by simp only [putTs] at h; exact (nil_get h).elim
  | _ :: _, [], _, _, _ => fun t a h => by simp only [putTs] at h; exact (nil_get h).elim
  | t :: ts, a :: r, vs, hr, hE => by
    obtain ⟨v, vs', h1, h2, rfl⟩ := hr.uncons
    obtain ⟨u, us, e, h3, h4⟩ := hE
    cases e
    intro x b hx
    simp only [putTs] at hx
    rcases Ly.get_set hx with ⟨rfl, e⟩ | ⟨_, e⟩
    · cases e; rw [h3]; exact h1
    · exact putTs_ok ts r _ h2 h4 x b e
def hasB (st : Stt) : Nat → Nat → Bool
  | _, 0 => true
  | k, n + 1 => (match st.h.get k with | some (.c _ _) => true | _ => false) && hasB st (k + 1) n
section
variable {P : Program} {w0 w : World}
theorem hasB_at {st : Stt} : ∀ (n k : Nat), hasB st k n = true → ∀ j, j < n → ∃ et cs, st.h.get (k + j) = some (.c et cs)
  | 0, _, _, j, hj => by omega
  | n + 1, k, h, j, hj => by
    simp only [hasB, Bool.and_eq_true] at h
    cases j with
    | zero =>
      have h1 := h.1
      split at h1
      · rename_i et cs e; exact ⟨et, cs, e⟩
      · cases h1
    | succ j =>
      obtain ⟨et, cs, e⟩ := hasB_at n (k + 1) h.2 j (by omega)
      exact ⟨et, cs, by rw [show k + (j + 1) = k + 1 + j from by omega]; exact e⟩
theorem hasB_ids {s : Sg} {st : Stt} (hH : Hold Γ s w0 st w) : ∀ (n k : Nat), hasB st k n = true → ∃ bs : List Nat, Ids s k bs ∧ bs.length = n ∧ bs.Nodup ∧ ∀ b ∈ bs, ∃ l o p, k ≤ l ∧ st.h.get l = some o ∧ s.f l = some p ∧ there o p ∧ p.b = b
  | 0, k, _ => ⟨[], trivial, rfl, List.nodup_nil, by simp⟩
  | n + 1, k, h => by
    obtain ⟨et, cs, e⟩ := hasB_at (n + 1) k h 0 (by omega)
    simp only [Nat.add_zero] at e
    simp only [hasB, Bool.and_eq_true] at h
    obtain ⟨bs, h1, h2, h3, h4⟩ := hasB_ids hH n (k + 1) h.2
    obtain ⟨p, hp, _⟩ := hH.obj k _ e
    refine ⟨p.b :: bs, ⟨⟨p, hp, rfl⟩, h1⟩, by simp [h2], List.nodup_cons.2 ⟨fun hm => ?_, h3⟩, fun b hb => ?_⟩
    · obtain ⟨l, o, q, g1, g2, g3, g4, g5⟩ := h4 _ hm
      have := hH.inj k l _ o p q e g2 hp g3 trivial g4 g5.symm
      omega
    · rcases List.mem_cons.1 hb with rfl | hb
      · exact ⟨k, _, p, Nat.le_refl _, e, hp, trivial, rfl⟩
      · obtain ⟨l, o, q, g1, g2⟩ := h4 b hb
        exact ⟨l, o, q, by omega, g2⟩
theorem ids_free {s s' : Sg} {st st' : Stt} (hf : s'.f = s.f) (hH : Hold Γ s' w0 st' w) : ∀ (bs : List Nat) (k : Nat), Ids s k bs → hasB st' k bs.length = true → ∀ b ∈ bs, s'.F b = none ∧ (w0.heap.size ≤ b ∨ b ∈ s'.X)
  | [], _, _, _, b, hb => by simp at hb
  | c :: bs, k, hI, hB, b, hb => by
    obtain ⟨⟨p, h1, rfl⟩, h2⟩ := hI
    obtain ⟨et, cs, e⟩ := hasB_at _ k hB 0 (by simp)
    simp only [Nat.add_zero] at e
    simp only [List.length_cons, hasB, Bool.and_eq_true] at hB
    rcases List.mem_cons.1 hb with rfl | hb
    · obtain ⟨q, hq, hob⟩ := hH.obj k _ e
      rw [hf, h1] at hq; cases hq
      obtain ⟨g1, g2⟩ := hob.free trivial
      exact ⟨g1, g2.imp id (fun h => h.1)⟩
    · exact ids_free (st := st) hf hH bs (k + 1) h2 hB.2 b hb
def segB (ks : List AK) (es : List D) (st : Stt) : Prop := match retBoxes st ks 0 es with
  | some (ps, st') => bif hasB st 0 (nBox ks) && hasB st' 0 (nBox ks) then conj ps else False
  | none => False
/-- what a piece of code leaves of the variables that it may change -/
def SegPost (G : Fz) (ks : List AK) (es : List D) (bs : List Nat) (w w' : World) : Prop :=
  Ext bs w w' ∧ ∃ G' : Fz, Sub G G' ∧ (∀ b o, G' b = some o → w'.heap[b]? = some o) ∧ (∀ b, G b = none → G' b ≠ none → w.heap.size ≤ b) ∧ BoxesRd G' w' ks es bs
theorem seg_start {F G : Fz} {w : World} {ks : List AK} {ds : List D} {vs : List Value} {bs : List Nat} (hgl : Γ.ok w) (hgb : ∀ b ∈ bs, Γ.n ≤ b) (hF : ∀ b o, F b = some o → w.heap[b]? = some o) (hGF : Sub G F) (hnd : bs.Nodup) (hbF : ∀ b ∈ bs, F b = none) (hargs : ArgsRd F G w ks ds vs bs) :
    ∃ s : Sg, s.X = bs ∧ s.G0 = G ∧ s.F = F ∧ s.G = G ∧ Hold Γ s w (startSt ks ds ⟨[.nil], 0⟩) w ∧ RelL s (startAs ks ds 0) vs ∧ Ids s 0 bs ∧ (startSt ks ds ⟨[.nil], 0⟩).h ≠ [] := by
  have hH0 : Hold Γ ⟨fun _ => none, F, G, bs, G⟩ w ⟨[.nil], 0⟩ w := by
    have hno : ∀ l o, (⟨[.nil], 0⟩ : Stt).h.get l = some o → False := by
      intro l o hl
      simp only [Ly.get, Ly.go, Tr.get] at hl
      cases hb : Nat.blt l 1000000 <;> rw [hb] at hl <;> cases hl
    exact ⟨Ext.refl _ w, hF, hGF, fun _ _ => rfl, fun l o hl => (hno l o hl).elim, fun l l' o o' p p' hl => (hno l o hl).elim, fun b hb => .inl hb, hgl, hgb⟩
  obtain ⟨s, k1, k2, k3, k4, k5, k6, k7⟩ := start_ok ks ds vs bs ⟨fun _ => none, F, G, bs, G⟩ ⟨[.nil], 0⟩ hargs hH0 rfl rfl (fun b hb => ⟨hbF b hb, hb⟩) hnd (fun l o p _ hp => by cases hp) (by simp)
  exact ⟨s, k1.X, k1.G0, k2, k3, k4, k5, k6, k7⟩
theorem segB_ok {s : Sg} {st : Stt} {ks : List AK} {es : List D} {bs : List Nat} (h : segB ks es st) (hH : Hold Γ s w0 st w) (hI : Ids s 0 bs) (hl : bs.length = nBox ks) :
    Ext s.X w0 w ∧ ∃ G' : Fz, Sub s.G G' ∧ (∀ b o, G' b = some o → w.heap[b]? = some o) ∧ (∀ b, G' b ≠ none → s.G0 b ≠ none ∨ w0.heap.size ≤ b) ∧ BoxesRd G' w ks es bs ∧ ∀ b ∈ bs, G' b = none ∧ (w0.heap.size ≤ b ∨ b ∈ s.X) := by
  unfold segB at h
  split at h
  case h_2 => exact h.elim
  rename_i ps st' hr
  cases h2 : (hasB st 0 (nBox ks) && hasB st' 0 (nBox ks)) with
  | false => rw [h2] at h; exact h.elim
  | true =>
  rw [h2] at h
  have h1 : conj ps := h
  simp only [Bool.and_eq_true] at h2
  obtain ⟨s', k1, k2, k3, k4⟩ := retBoxes_ok ks 0 es ps s st st' bs hr (conj_ok h1) hH hI hl
  refine ⟨hH.ext, s'.G, k1.G, fun b o hb => k2.frz b o (k2.gf b o hb), fun b hb => ?_, k4, fun b hb => ?_⟩
  · have := k2.gnew b hb
    rw [k1.G0] at this
    exact this
  · obtain ⟨g1, g2⟩ := ids_free (st := st) k3.f k2 bs 0 hI (by rw [hl]; exact h2.2) b hb
    rw [k1.X] at g2
    refine ⟨?_, g2⟩
    cases hg : s'.G b with
    | none => rfl
    | some o => have := k2.gf b o hg; rw [g1] at this; cases this
def segN (ks : List AK) (es : List D) : Out → Prop
  | .norm _ st => segB ks es st
  | _ => False
/-- A piece of code, from variables that others hold, that goes on behind itself. -/
theorem seg_ok (hm : P.follows .mixedOrders = true) {S : Sums} (hS : SumsOK P Γ S) {an : Anns} (n : Nat) (f : FuncId) (N : Nat) (c : Code) {ro : Option Nat} {DD : List Deferred} {F G : Fz} {ks : List AK} {ds es : List D} {ts : List Nat} {vs : List Value} {bs : List Nat} {E : Env}
    (hgl : Γ.ok w) (hgb : ∀ b ∈ bs, Γ.n ≤ b) (hF : ∀ b o, F b = some o → w.heap[b]? = some o) (hGF : Sub G F) (hnd : bs.Nodup) (hbF : ∀ b ∈ bs, F b = none) (hargs : ArgsRd F G w ks ds vs bs) (hE : EnvAt E ts vs)
    (h : evCode P S an n f N c (putTs ts (startAs ks ds 0)) (startSt ks ds ⟨[.nil], 0⟩) (segN ks es)) :
    WPr ro P ⟨N, DD⟩ c ⟨fun _ w' => SegPost G ks es bs w w', fun _ _ _ => False, fun _ _ => False⟩ E w := by
  obtain ⟨s, k1, k2, k3, k4, k5, k6, k7, k8⟩ := seg_start hgl hgb hF hGF hnd hbF hargs
  refine WP.mono (code_ok hm hS n f N c _ _ _ h (putTs_ne _ _) k8 s w E w k5 (putTs_ok ts _ _ k6 hE)) ?_ ?_ ?_
  · rintro E' w' ⟨A', st', s', h1, h2, h3, h4⟩
    obtain ⟨g1, G', g2, g3, g4, g5, g6⟩ := segB_ok h1 h3 (Ids.mono h2 bs 0 k7) (args_nBox _ _ _ _ hargs)
    rw [h2.X, k1] at g1
    refine ⟨g1, G', ?_, g3, fun b hb hb' => ?_, g5⟩
    · have := h2.G
      rw [k4] at this
      exact fun b o hb => g2 b o (this b o hb)
    · rcases g4 b hb' with g | g
      · rw [h2.G0, k2] at g; exact absurd hb g
      · exact g
  · rintro i E' w' ⟨A', st', s', h1, _⟩; exact h1
  · rintro E' w' ⟨A', st', s', h1, _⟩; exact h1
theorem segB_has {ks : List AK} {es : List D} {st : Stt} (h : segB ks es st) : hasB st 0 (nBox ks) = true := by
  unfold segB at h
  split at h
  case h_2 => exact h.elim
  rename_i ps st' hr
  cases h2 : hasB st 0 (nBox ks) with
  | false => rw [h2] at h; exact h.elim
  | true => rfl
theorem BoxesRd.ext {G : Fz} {w w' : World} {X : List Nat} (hx : Ext X w w') : ∀ (ks : List AK) (es : List D) (bs : List Nat), BoxesRd G w ks es bs → (∀ b ∈ bs, b ∉ X) → BoxesRd G w' ks es bs
  | [], _, _, _, _ => trivial
  | .d _ _ :: r, es, bs, h, hb => BoxesRd.ext hx r es bs h hb
  | .p _ :: r, es, bs, h, hb => BoxesRd.ext hx r es bs h hb
  | .o _ _ _ :: _, _, _, h, _ => h.elim
  | .box et ts :: r, es, bs, h, hb => by
    obtain ⟨b, bs', rfl, ⟨cs, h2, h3⟩, h4⟩ := h
    exact ⟨b, bs', rfl, ⟨cs, Ext.keepB hx h2 (hb b (by simp)), h3⟩, BoxesRd.ext hx r _ bs' h4 (fun c hc => hb c (List.mem_cons_of_mem _ hc))⟩
theorem rds1 {G : Fz} {t : DT} {ds : List D} {cs : List Value} (h : Rds G [t] ds cs) : Rd G t (nthD ds 0) cs := by
  simp only [Rds] at h
  obtain ⟨us, vs, rfl, h1, rfl⟩ := h
  rw [List.append_nil]; exact h1
theorem glob_ext {w w' : World} {X : List Nat} (h : Γ.ok w) (hx : Ext X w w') (hX : ∀ x ∈ X, Γ.n ≤ x) : Γ.ok w' :=
  Γ.mono w w' h hx.size fun b hb => hx.block b (Nat.lt_of_lt_of_le hb (Γ.low w h)) fun hm => by have := hX b hm; omega
/-! ### In front of a loop -/
def evPre (P : Program) (S : Sums) (an : Anns) (n : Nat) (f N : Nat) : List Code → AE → Stt → (Out → Prop) → Prop
  | [], A, st, k => k (.norm A st)
  | c :: cs, A, st, k => evCode P S an n f N c A st fun o => match o with | .norm A' st' => evPre P S an n f N cs A' st' k | r => k r
def seqs : List Code → Code → Code
  | [], T => T
  | c :: cs, T => .seq c (seqs cs T)
theorem pre_ok (hm : P.follows .mixedOrders = true) {S : Sums} (hS : SumsOK P Γ S) {an : Anns} (n : Nat) (f N : Nat) {DD : List Deferred} {T : Code} {Q : Exit → Act → World → Prop} : ∀ (cs : List Code) (A : AE) (st : Stt) (k : Out → Prop), evPre P S an n f N cs A st k → A ≠ [] → st.h ≠ [] → ∀ (s : Sg) (w0 : World) (E : Env) (w : World), Hold Γ s w0 st w → EnvOK s A E →
    (∀ A' st' s' E' w', k (.norm A' st') → A' ≠ [] → st'.h ≠ [] → s.le s' → Hold Γ s' w0 st' w' → EnvOK s' A' E' → WX P ⟨N, DD⟩ T Q E' w') →
    (∀ A' st' s' E' w', k (.ret A' st') → s.le s' → Hold Γ s' w0 st' w' → EnvOK s' A' E' → ∀ a, Ok ⟨N, DD⟩ a → envOf a = E' → Q .ret a w') → (∀ i A st, ¬ k (.exit i A st)) → WX P ⟨N, DD⟩ (seqs cs T) Q E w
  | [], A, st, k, h, hA, hn, s, w0, E, w, hH, hE, h1, _, _ => h1 A st s E w h hA hn (Sg.le.refl s) hH hE
  | c :: cs, A, st, k, h, hA, hn, s, w0, E, w, hH, hE, h1, h2, h3 => by
    have h' := code_imp (P := P) (S := S) (an := an) n f N c A st _ (fun o => SufO A st o ∧ (match o with | .norm A' st' => evPre P S an n f N cs A' st' k | r => k r)) h hA hn (fun o ho h => ⟨ho, h⟩)
    refine WX.seq (WP.mono (code_ok hm hS n f N c A st _ h' hA hn s w0 E w hH hE) ?_ ?_ ?_)
    · rintro E' w' ⟨A', st', s', ⟨g0, g1⟩, g2, g3, g4⟩
      exact pre_ok hm hS n f N cs A' st' k g1 g0.1.ne g0.2.1.ne s' w0 E' w' g3 g4 (fun A2 st2 s2 E2 w2 q1 qa qb q2 q3 q4 => h1 A2 st2 s2 E2 w2 q1 qa qb (g2.trans q2) q3 q4) (fun A2 st2 s2 E2 w2 q1 q2 q3 q4 => h2 A2 st2 s2 E2 w2 q1 (g2.trans q2) q3 q4) h3
    · rintro i E' w' ⟨A', st', s', ⟨_, g1⟩, _⟩
      exact (h3 _ _ _ g1).elim
    · rintro E' w' ⟨A', st', s', ⟨_, g1⟩, g2, g3, g4⟩
      exact h2 A' st' s' E' w' g1 g2 g3 g4
/-- one value handed out: a round -/
theorem round_wp1 {ro : Option Nat} {N l p1 : Nat} {r : Loop} {E : Env} {u : Value} {R : Value → World → Prop} {J : Env → World → Prop} (hp : r.params = #[p1]) (htm : r.tmps.size = N) (hE : (fun t => r.tmps.getD t undef) = E) (h1 : p1 < N)
    (h : WPr (some l) P ⟨N, []⟩ r.assign ⟨J, fun _ _ _ => False, fun _ _ => False⟩ (upd E p1 u) w)
    (hJ : ∀ E2 w2, J E2 w2 → ∃ r2 : Loop, w2.heap[l]? = some (.loop r2) ∧ r2.state = .ready ∧ ∀ w2', Ext [l] w2 w2' → w2'.heap[l]? = some (.loop { r2 with state := .busy }) →
      WPr (some l) P ⟨N, []⟩ r.body ⟨fun _ w3 => EndR l R none w3, fun i _ w3 => EndR l R (some (.exit i)) w3, fun _ w3 => EndR l R (some .ret) w3⟩ E2 w2') :
    RoundIn (Fr ro) 0 P l r.fn ((r.params.zip #[u]).foldl (fun tmps (x : Nat × Value) => tmps.setIfInBounds x.1 x.2) r.tmps) r.assign r.body w fun e w' => ∃ v, e = .returned v ∧ R v w' := by
  have hz : (r.params.zip #[u]).foldl (fun tmps (x : Nat × Value) => tmps.setIfInBounds x.1 x.2) r.tmps = r.tmps.setIfInBounds p1 u := by
    rw [hp]
    show ([p1].toArray.zip [u].toArray).foldl _ _ = _
    simp
  rw [hz]
  have henv : envOf { tmps := r.tmps.setIfInBounds p1 u, defers := [] } = upd E p1 u := by
    have hok : Ok ⟨N, []⟩ { tmps := r.tmps, defers := [] } := ⟨htm, rfl⟩
    have e1 := envOf_put hok (some p1) (by simp [dstOk, Nat.blt]; omega) u
    have e3 : envOf { tmps := r.tmps, defers := [] } = E := hE
    rw [e3] at e1
    exact e1
  refine roundIn_of_wpIn trivial ?_
  have ha := wpInN 1 0 (h { tmps := r.tmps.setIfInBounds p1 u, defers := [] } ⟨by simpa using htm, rfl⟩ henv)
  refine wpIn_mono ha ?_
  rintro e a1 w1 ⟨hok1, hq⟩
  cases e with
  | normal =>
    obtain ⟨r2, g1, g2, g3⟩ := hJ _ _ hq
    refine ⟨_, run_beginRound g1 g2, ?_⟩
    have hb := wpInN 1 0 (g3 _ (ext_putObj w1 l _) (World.putObj_heap_same (heap_lt g1)) a1 hok1 rfl)
    refine wpIn_mono hb ?_
    rintro e a3 w3 ⟨_, hq3⟩
    cases e with
    | normal => obtain ⟨x, w', q1, q2⟩ := EndR.run (P := P) hq3; exact ⟨x, w', q1, q2⟩
    | ret => obtain ⟨x, w', q1, q2⟩ := EndR.run (P := P) hq3; exact ⟨x, w', q1, q2⟩
    | exit i => obtain ⟨x, w', q1, q2⟩ := EndR.run (P := P) hq3; exact ⟨x, w', q1, q2⟩
    | goto _ => exact hq3.elim
    | panic _ => exact hq3.elim
    | outgrown => exact hq3.elim
  | ret => exact hq.elim
  | exit i => exact hq.elim
  | goto _ => exact hq.elim
  | panic _ => exact hq.elim
  | outgrown => exact hq.elim
end
section
variable {P : Program} {o : Oper} {E : Env} {w : World}
/-- the call of a loop's yield, one value handed out -/
theorem WL.yield1 {n : Fsz} {ro : Option Nat} {Q : K} {ops : Array Oper} {rest : List Oper} {l : Nat} {r : Loop} {g x : Operand} {tys : Array TypeId} {u : Value} (hs : Sure ops o E) (hd : dstOk n o.dst = true) (ho : o.op = .call ⟨.value g, #[x], tys⟩) (hg : ev E g = .func (.yield l) #[] #[]) (hx : ev E x = u)
    (hl : w.heap[l]? = some (.loop r)) (hp : r.params.size = 1)
    (k : RoundIn (Fr ro) 0 P l r.fn ((r.params.zip #[u]).foldl (fun tmps (x : Nat × Value) => tmps.setIfInBounds x.1 x.2) r.tmps) r.assign r.body w fun e w' => ∃ v, e = .returned v ∧ WLr ro P n ops Q rest (updO E o.dst v) w') : WLr ro P n ops Q (o :: rest) E w := by
  obtain ⟨T, hT⟩ : ∃ T, (r.params.zip #[u]).foldl (fun tmps (x : Nat × Value) => tmps.setIfInBounds x.1 x.2) r.tmps = T := ⟨_, rfl⟩
  have hy' : (Instr.yield l #[u]).run P w = .ok (.round l r.fn T r.assign r.body) w := by rw [← hT]; exact run_yield (P := P) (args := #[u]) hl (by rw [hp]; rfl)
  rw [hT] at k
  refine WL.round hs hd ?_ k
  cases g with
  | func f => simp [ev] at hg
  | _ => simp [execOp, ho, go_sem, hg, hx, hy']
end
end Go.Proofs.YtcinjnkgopoclaaGreatDoor.Sv
