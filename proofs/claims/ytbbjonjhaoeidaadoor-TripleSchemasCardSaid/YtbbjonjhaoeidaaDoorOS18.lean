/- The symbolic evaluator is right: code, calls of functions whose code is looked at. Program-agnostic. -/
import Derived.Test.YtbbjonjhaoeidaaDoorOS17
set_option linter.unusedVariables false
set_option linter.unusedSimpArgs false
namespace Go.Proofs.YtbbjonjhaoeidaaDoor.Sv
open Go.RowKit Go.Proofs.YtbbjonjhaoeidaaDoor.W
variable {Γ : Gl}

def QK (Γ : Gl) (k : Out → Prop) (s : Sg) (w0 : World) : K :=
  ⟨fun E w => ∃ A st s', k (.norm A st) ∧ s.le s' ∧ Hold Γ s' w0 st w ∧ EnvOK s' A E,
   fun i E w => ∃ A st s', k (.exit i A st) ∧ s.le s' ∧ Hold Γ s' w0 st w ∧ EnvOK s' A E,
   fun E w => ∃ A st s', k (.ret A st) ∧ s.le s' ∧ Hold Γ s' w0 st w ∧ EnvOK s' A E⟩
def CodeOK (P : Program) (Γ : Gl) (N : Nat) (c : Code) (ev : AE → Stt → (Out → Prop) → Prop) : Prop := ∀ A st k, ev A st k → A ≠ [] → st.h ≠ [] → ∀ s w0 E w, Hold Γ s w0 st w → EnvOK s A E → WP P ⟨N, []⟩ c (QK Γ k s w0) E w
section
variable {s : Sg} {w0 w w' : World} {st st' : Stt} {A : AE} {E : Env} {P : Program} {o : Oper}
def CallOK (P : Program) (Γ : Gl) (cf : CallF) : Prop := ∀ f l st k, cf f l st k → st.h ≠ [] → ∀ s w0 w vs, Hold Γ s w0 st w → RelL s l vs → Fnc P f vs.toArray w fun v w' => ∃ a st' s', k a st' ∧ st'.h ≠ [] ∧ s.le s' ∧ Hold Γ s' w0 st' w' ∧ Rel s' a v
theorem evList_drop {S : Sums} {cf : CallF} {N : Nat} {ops : Array Oper} : ∀ (l : List Oper) (n : Nat) (A : AE) (st : Stt) (k : AE → Stt → Prop), evList P S cf N ops l n A st k = evList P S cf N ops (l.drop n) 0 A st k
  | [], n, A, st, k => by simp [evList]
  | o :: r, 0, A, st, k => rfl
  | o :: r, n + 1, A, st, k => by
    rw [evList, List.drop_succ_cons]; exact evList_drop r n A st k
theorem made_list {N : Nat} {DD : List Deferred} {ops : Array Oper} {Q : K} {rest : List Oper} {R : Value → World → Prop} (hs : Sure ops o E) (hd : dstOk ⟨N, DD⟩ o.dst = true) (h : Made P o E w R) (k : ∀ v w', R v w' → WL P ⟨N, DD⟩ ops Q rest (updO E o.dst v) w') : WL P ⟨N, DD⟩ ops Q (o :: rest) E w := by
  rcases h with ⟨v, w', h1, h2⟩ | ⟨f, args, h1, h2⟩
  · exact WL.x hs hd h1 (k v w' h2)
  · exact WL.c hs hd h1 (Fnc.mono h2 fun v w' hv => k v w' hv)
theorem evList_ok {S : Sums} (hS : SumsOK P Γ S) {cf : CallF} (hcf : CallOK P Γ cf) {N : Nat} {DD : List Deferred} {ops : Array Oper} {Nn R : Env → World → Prop} {X : Nat → Env → World → Prop} : ∀ (m : Nat) (l : List Oper), l.length ≤ m → ∀ (A : AE) (st : Stt) (k : AE → Stt → Prop), evList P S cf N ops l 0 A st k → st.h ≠ [] → ∀ (s : Sg) (E : Env) (w : World), Hold Γ s w0 st w → EnvOK s A E →
    (∀ A' st' s' E' w', k A' st' → s.le s' → Hold Γ s' w0 st' w' → EnvOK s' A' E' → Nn E' w') → WL P ⟨N, DD⟩ ops ⟨Nn, X, R⟩ l E w := by
  intro m
  induction m with
  | zero =>
    intro l hl A st k h hn s E w hH hE hk
    have : l = [] := List.eq_nil_of_length_eq_zero (by omega)
    subst this
    simp only [evList] at h
    exact WL.nil (hk A st s E w h (Sg.le.refl s) hH hE)
  | succ m ih =>
    intro l hl A st k h hn s E w hH hE hk
    cases l with
    | nil =>
      simp only [evList] at h
      exact WL.nil (hk A st s E w h (Sg.le.refl s) hH hE)
    | cons o r =>
    have hr : r.length ≤ m := by simpa using hl
    rw [evList] at h
    cases hdst : dstB N o.dst with
    | false => rw [hdst] at h; exact h.elim
    | true =>
    rw [hdst] at h
    simp only [cond_true] at h
    split at h
    · rename_i hg
      have hsure : Sure ops o E := Sure.none hg
      split at h
      · rename_i ps a hop
        obtain ⟨hp, hq⟩ := obs_ok h
        obtain ⟨v, hrel, hq1⟩ := evOp_rd hS hH hE hop hp
        have key := (wl_rules (P := P) (w := w) (N := N) (DD := DD) (ops := ops) (Q := ⟨Nn, X, R⟩)).q (rest := r) hsure (dst_of hdst) hq1 (fun w' hw => ih r hr _ _ k hq hn s _ w' (hH.grow hw) (hE.put hrel) hk)
        exact key w (Ext.refl _ _)
      · rename_i ps a st1 hop
        obtain ⟨hp, hq⟩ := obs_ok h
        refine made_list hsure (dst_of hdst) (evOp_wr hS hH hE hop hp) ?_
        rintro v w' ⟨s', h1, h2, h3⟩
        exact ih r hr _ _ k hq (suf_op hop hn).1.ne s' _ w' h2 ((hE.mono h1).put h3) (fun A' st' s'' E' w'' hk1 hle => hk A' st' s'' E' w'' hk1 (h1.trans hle))
      · split at h
        case h_2 => exact h.elim
        rename_i f l' hc
        obtain ⟨vs, h1, h2⟩ := call_op hE hc
        refine WL.c hsure (dst_of hdst) (h2 w) (Fnc.mono (hcf f l' st _ h hn s w0 w vs hH h1) ?_)
        rintro v w' ⟨a, st1, s', h3, hn1, h4, h5, h6⟩
        exact ih r hr _ _ k h3 hn1 s' _ w' h5 ((hE.mono h4).put h6) (fun A' st' s'' E' w'' hk1 hle => hk A' st' s'' E' w'' hk1 (h4.trans hle))
    · rename_i g hg
      split at h
      case h_1 => exact h.elim
      rename_i d b hgs
      split at h
      case h_2 => exact h.elim
      rename_i p r' ps A1 hbe hB
      cases hck : (!(dsts (ahead none (o :: r))).contains d && dstB N p.dst) with
      | false => rw [hck] at h; exact h.elim
      | true =>
      rw [hck] at h
      simp only [cond_true] at h
      simp only [Bool.and_eq_true, Bool.not_eq_true'] at hck
      obtain ⟨c2, c3⟩ := hck
      split at h
      case h_2 => exact h.elim
      rename_i a hpk
      obtain ⟨hp, hq⟩ := obs_ok h
      obtain ⟨hp1, _⟩ := guardP_ok hp
      obtain ⟨hs1, hs2⟩ := gslot_ok hgs
      have hsplit := ahead_behind none (o :: r)
      rw [hbe] at hsplit
      have hEd : E d = .bool b := (hE d _ hs2).v_of
      have c2' : d ∉ dsts (ahead none (o :: r)) := by simpa using c2
      rw [evList_drop] at hq
      generalize hBl : ahead none (o :: r) = B at *
      have hrr : r.drop B.length = r' := by
        have : (o :: r).drop (B.length + 1) = r' := by rw [hsplit, List.drop_append]; simp
        simpa using this
      rw [hrr] at hq
      have hrl : r'.length ≤ m := by rw [← hrr, List.length_drop]; omega
      have fin : ∀ E1, (∀ t, t ∉ dsts B → E1 t = E t) → (b = g.2 → EnvOK s A1 E1) → ∀ w', Ext [] w w' → WL P ⟨N, DD⟩ ops ⟨Nn, X, R⟩ (p :: r') E1 w' := by
        intro E1 hag h1 w' hw
        have hk1 : EnvOK s (killA A (dsts B)) E1 := killA_env hE hag
        obtain ⟨v, hrel, hpo⟩ := pick_ok (P := P) hpk ((hag d c2').trans hEd) hk1 h1
        have hpg : p.guard = none := cxIs_ok (behind_head hbe)
        exact WL.v (Sure.none hpg) (dst_of c3) (hpo w') (ih r' hrl _ _ k hq hn s _ w' (hH.grow hw) (hk1.put hrel) hk)
      have RR := wl_rules (P := P) (w := w) (N := N) (DD := DD) (ops := ops) (Q := ⟨Nn, X, R⟩)
      rw [hsplit]
      by_cases hb : b = g.2
      · exact blk_ok hS hH RR 400 (some g) [] B _ _ _ E (p :: r') hB (hp1 hb) ⟨d, hs1, c2', by rw [hEd, hb]⟩ hE (fun E1 h1 h2 => fin E1 h2 (fun _ => h1)) w (Ext.refl _ _)
      · exact blk_skip RR 400 g.1 g.2 [] B _ _ _ E (p :: r') hB ⟨d, hs1, c2', .inl (by rw [hEd, ne_not hb])⟩ (by simp) (fun E1 h1 h2 => fin E1 h2 (fun e => absurd e hb)) w (Ext.refl _ _)
end
section
variable {P : Program}
theorem reg_ok (hm : P.follows .mixedOrders = true) {S : Sums} (hS : SumsOK P Γ S) {cf : CallF} (hcf : CallOK P Γ cf) {N id : Nat} {ops : Array Oper} {d : Bool} {Nn R : Env → World → Prop} {X : Nat → Env → World → Prop} {A : AE} {st : Stt} {k : AE → Stt → Prop} (h : evReg P S cf N ops d A st k) (hn : st.h ≠ []) {s : Sg} {w0 w : World} {E : Env} (hH : Hold Γ s w0 st w) (hE : EnvOK s A E)
    (hk : ∀ A' st' s' E' w', k A' st' → s.le s' → Hold Γ s' w0 st' w' → EnvOK s' A' E' → Nn E' w') : WP P ⟨N, []⟩ (.region id ops d) ⟨Nn, X, R⟩ E w := by
  unfold evReg at h
  split at h
  · rename_i ps A' hq
    obtain ⟨hp, hq2⟩ := obs_ok h
    revert hq
    cases hdl : (d && !Region.lexB .any ops) with
    | true => intro h; cases h
    | false =>
      intro hq
      refine quiet_ok hm hS hq hp (fun hd => ?_) hH hE (fun E' w' hx hE' => hk A' st s E' w' hq2 (Sg.le.refl s) (hH.grow hx) hE')
      subst hd
      simpa using hdl
  · cases d with
    | true =>
      simp only [cond_true] at h
      split at h
      · rename_i ps A' st' hd
        obtain ⟨hp, hq2⟩ := obs_ok h
        exact drawn_ok hm hS hd hp s E w hH hE (fun s' E' w' hle hH' hE' => hk A' st' s' E' w' hq2 hle hH' hE')
      · exact h.elim
    | false =>
      simp only [cond_false] at h
      obtain ⟨l⟩ := ops
      refine WP.region ?_
      exact evList_ok hS hcf l.length l (Nat.le_refl _) A st k h hn s E w hH hE hk
theorem loop_ok {N : Nat} {c : Code} {ev : AE → Stt → (Out → Prop) → Prop} (hev : CodeOK P Γ N c ev) (he : EvImp ev) (m : Nat) : CodeOK P Γ N (.loop c) (evLoop ev m) := by
  intro A st k h hA hn s w0 E w hH hE
  refine WP.loop (σ := Nat) (fun m E w => ∃ A st s', evLoop ev m A st k ∧ A ≠ [] ∧ st.h ≠ [] ∧ s.le s' ∧ Hold Γ s' w0 st w ∧ EnvOK s' A E) id m ⟨A, st, s, h, hA, hn, Sg.le.refl s, hH, hE⟩ ?_
  rintro m E w ⟨A, st, s', h, hA, hn, hle, hH, hE⟩
  cases m with
  | zero => exact h.elim
  | succ m =>
    have h' := he A st _ (fun o => SufO A st o ∧ (match o with | .norm A' st' => evLoop ev m A' st' k | r => k r)) h hA hn (fun o ho h => ⟨ho, h⟩)
    refine WP.mono (hev A st _ h' hA hn s' w0 E w hH hE) ?_ ?_ ?_
    · rintro E' w' ⟨A', st', s2, ⟨h1, h2⟩, h3, h4, h5⟩
      exact ⟨m, ⟨A', st', s2, h2, h1.1.ne, h1.2.1.ne, hle.trans h3, h4, h5⟩, Nat.lt_succ_self m⟩
    · rintro i E' w' ⟨A', st', s2, ⟨_, h2⟩, h3, h4, h5⟩
      exact ⟨A', st', s2, h2, hle.trans h3, h4, h5⟩
    · rintro E' w' ⟨A', st', s2, ⟨_, h2⟩, h3, h4, h5⟩
      exact ⟨A', st', s2, h2, hle.trans h3, h4, h5⟩
theorem bif_some {b : Bool} {x : Option Ps} {qs : Ps} (h : (bif b then x else none) = some qs) : b = true := by
  cases b with
  | true => rfl
  | false => cases h
theorem ann_ok {N : Nat} {c : Code} {ev : AE → Stt → (Out → Prop) → Prop} (hev : CodeOK P Γ N c ev) (he : EvImp ev) (kill : List Nat) (L : LAnn) {A : AE} {st : Stt} {k : Out → Prop} (h : evAnn ev kill L A st k) (hA : A ≠ []) (hn : st.h ≠ []) {s : Sg} {w0 w : World} {E : Env} (hH : Hold Γ s w0 st w) (hE : EnvOK s A E) : WP P ⟨N, []⟩ (.loop c) (QK Γ k s w0) E w := by
  obtain ⟨g0, h⟩ := h
  split at h
  · exact h.elim
  rename_i ps hm
  cases hc : (small kill && small (elder st.nx (L.sl g0) (L.ob g0) A st)) with
  | false => rw [hc] at h; exact h.elim
  | true =>
  rw [hc] at h
  simp only [cond_true] at h
  simp only [Bool.and_eq_true] at hc
  obtain ⟨hkill, hdel⟩ := hc
  obtain ⟨hp, hi0, hbody⟩ := obs_ok h
  generalize hdl : elder st.nx (L.sl g0) (L.ob g0) A st = del at *
  have hdom := hH.dom
  have obIds : ∀ k x, st.h.get k = some x → idsX st.nx x = true ∧ k < st.nx := by
    intro k x hk
    obtain ⟨p, h1, h2⟩ := hH.obj k x hk
    refine ⟨?_, Nat.lt_of_not_le fun hl => by rw [hdom k hl] at h1; cases h1⟩
    cases x with
    | c e cs => obtain ⟨vs, _, h3⟩ := h2.cur; exact RelL.ids hdom cs vs h3
    | q e t xs => rfl
  have slIds : ∀ t a, A.get t = some a → idsA st.nx a = true := fun t a ht => Rel.ids hdom a _ (hE t a ht)
  have hstart := meets_ok (s := s) (st := st) (A := A) hm hp hH hE (Sg.le.refl s) hdom hkill hdel (fun k x _ _ hk => ⟨hk, obIds k x hk⟩) (fun t a _ _ ht => ⟨ht, slIds t a ht⟩) (fun l hl hlt => by
    rw [← hdl]
    exact List.mem_filter.2 ⟨List.mem_map.2 ⟨l, hl, rfl⟩, Nat.ble_eq_true_of_le hlt⟩)
  refine WP.loop (σ := L.β) (fun g E w => L.inv g ∧ ∃ s', s.le s' ∧ Hold Γ s' w0 (headS st del (L.ob g)) w ∧ EnvOK s' (headA A kill (L.sl g)) E) L.mu g0 ⟨hi0, hstart⟩ ?_
  rintro g E w ⟨hi, s1, hle, hH1, hE1⟩
  have h' := he _ _ _ (fun o => SufO (headA A kill (L.sl g)) (headS st del (L.ob g)) o ∧ (match o with
      | .norm A' st' => bif only A A' (kill ++ (L.sl g).map (·.1)) && only st.h st'.h ((L.ob g).map (·.1) ++ del ++ List.range' st.nx (st'.nx - st.nx)) then (∃ g' : L.β, match meets st.nx false (L.sl g') (L.ob g') A' st' with
        | none => False
        | some qs => bif eqNs ((L.sl g).map (·.1)) ((L.sl g').map (·.1)) && eqNs ((L.ob g).map (·.1)) ((L.ob g').map (·.1)) then obs qs (L.inv g' ∧ L.mu g' < L.mu g) else False) else False
      | r => k r)) (hbody g hi) (by simp [headA]) (by simp [headS]) (fun o ho h => ⟨ho, h⟩)
  refine WP.mono (hev _ _ _ h' (by simp [headA]) (by simp [headS]) s1 w0 E w hH1 hE1) ?_ ?_ ?_
  · rintro E' w' ⟨A', st', s2, ⟨hsuf, hx⟩, hle2, hH2, hE2⟩
    simp only at hx
    cases hc : (only A A' (kill ++ (L.sl g).map (·.1)) && only st.h st'.h ((L.ob g).map (·.1) ++ del ++ List.range' st.nx (st'.nx - st.nx))) with
    | false => rw [hc] at hx; exact hx.elim
    | true =>
    rw [hc] at hx
    simp only [cond_true] at hx
    simp only [Bool.and_eq_true] at hc
    obtain ⟨o1, o2⟩ := hc
    obtain ⟨g', hx⟩ := hx
    split at hx
    · exact hx.elim
    rename_i qs hm'
    cases hc : (eqNs ((L.sl g).map (·.1)) ((L.sl g').map (·.1)) && eqNs ((L.ob g).map (·.1)) ((L.ob g').map (·.1))) with
    | false => rw [hc] at hx; exact hx.elim
    | true =>
    rw [hc] at hx
    simp only [cond_true] at hx
    simp only [Bool.and_eq_true] at hc
    have e1 := eqNs_ok hc.1; have e2 := eqNs_ok hc.2
    obtain ⟨hq, hi', hmu⟩ := obs_ok hx
    have hA' := only_ok o1 hsuf.1
    have hS' := only_ok o2 hsuf.2.1
    refine ⟨g', ⟨hi', meets_ok (s := s) (st := st) (A := A) (A' := A') (st' := st') hm' hq hH2 hE2 (hle.trans hle2) hdom hkill hdel ?_ ?_ ?_⟩, hmu⟩
    · intro k x h1 h2 hk
      obtain ⟨h3, h4⟩ := obIds k x hk
      refine ⟨?_, h3, h4⟩
      rw [hS' k ?_]; exact hk
      simp only [List.mem_append, not_or]
      refine ⟨⟨by rw [e2]; exact h1, h2⟩, fun hr => ?_⟩
      have := (List.mem_range'_1.1 hr).1
      omega
    · intro t a h1 h2 ht
      refine ⟨?_, slIds t a ht⟩
      rw [hA' t ?_]; exact ht
      simp only [List.mem_append, not_or]
      exact ⟨h2, by rw [e1]; exact h1⟩
    · intro l hl hlt
      exfalso
      unfold meets at hm'
      have hb := bif_some hm'
      simp only [Bool.and_eq_true, Bool.false_or] at hb
      have := ble_t (List.all_eq_true.1 hb.1.1.2 l hl)
      omega
  · rintro i E' w' ⟨A', st', s2, ⟨_, h2⟩, h3, h4, h5⟩
    exact ⟨A', st', s2, h2, hle.trans h3, h4, h5⟩
  · rintro E' w' ⟨A', st', s2, ⟨_, h2⟩, h3, h4, h5⟩
    exact ⟨A', st', s2, h2, hle.trans h3, h4, h5⟩
theorem nils_ok : ∀ (l : List (Nat × AX)) {A : AE} {st : Stt} {x : AE × Stt} {s : Sg} {w0 w : World} {E : Env}, nilsA l A st = some x → Hold Γ s w0 st w → EnvOK s A E → ∃ s', s.le s' ∧ Hold Γ s' w0 x.2 w ∧ EnvOK s' x.1 E
  | [], A, st, x, s, w0, w, E, h, hH, hE => by
    simp only [nilsA, Option.some.injEq] at h
    subst h
    exact ⟨s, Sg.le.refl s, hH, hE⟩
  | (t, .q e dt []) :: r, A, st, x, s, w0, w, E, h, hH, hE => by
    simp only [nilsA] at h
    split at h
    · rename_i ht
      have hv : E t = .slice none 0 0 := by
        have := hE t _ ht
        simpa only [Rel] using this
      have hle := hH.le_new (⟨0, 0, 0⟩ : Loc)
      have hrel : Rel (s.ins st.nx ⟨0, 0, 0⟩) (.ow st.nx 0) (E t) := by
        simp only [Rel]
        exact ⟨_, Sg.ins_same, Nat.le_refl _, Nat.le_refl _, .inr ⟨rfl, .inl hv⟩⟩
      have hE2 : EnvOK (s.ins st.nx ⟨0, 0, 0⟩) (putA A (some t) (.ow st.nx 0)) E := by
        have := (hE.mono hle).put (d := some t) hrel
        have e : updO E (some t) (E t) = E := by
          funext u
          simp only [updO, upd]
          cases hb : Nat.beq u t with
          | true => rw [cond_true, beq_t hb]
          | false => rfl
        rwa [e] at this
      obtain ⟨s', h1, h2, h3⟩ := nils_ok r h (hH.absent (e := e) (dt := dt)) hE2
      exact ⟨s', hle.trans h1, h2, h3⟩
    · cases h
  | (t, .q e dt (_ :: _)) :: r, A, st, x, s, w0, w, E, h, hH, hE => by simp only [nilsA] at h; cases h
  | (t, .c e cs) :: r, A, st, x, s, w0, w, E, h, hH, hE => by simp only [nilsA] at h; cases h
theorem evNils_ok {N : Nat} {c : Code} {o : Option (AE → Stt → LAnn)} {A : AE} {st : Stt} {go : AE → Stt → Prop} {k : Out → Prop} {s : Sg} {w0 w : World} {E : Env} (h : evNils o A st go) (hA : A ≠ []) (hn : st.h ≠ []) (hH : Hold Γ s w0 st w) (hE : EnvOK s A E) (hk : ∀ A' st' s', go A' st' → A' ≠ [] → st'.h ≠ [] → Hold Γ s' w0 st' w → EnvOK s' A' E → WP P ⟨N, []⟩ c (QK Γ k s' w0) E w) : WP P ⟨N, []⟩ c (QK Γ k s w0) E w := by
  unfold evNils at h
  split at h
  · exact hk A st s h hA hn hH hE
  · obtain ⟨g, h⟩ := h
    split at h
    · rename_i x hx
      obtain ⟨a1, a2⟩ := nils_suf _ hx hA hn
      obtain ⟨s', b1, b2, b3⟩ := nils_ok _ hx hH hE
      refine WP.mono (hk _ _ s' h a1.ne a2.1.ne b2 b3) ?_ ?_ ?_
      · rintro E' w' ⟨A', st', s2, h2, h3, h4, h5⟩; exact ⟨A', st', s2, h2, b1.trans h3, h4, h5⟩
      · rintro i E' w' ⟨A', st', s2, h2, h3, h4, h5⟩; exact ⟨A', st', s2, h2, b1.trans h3, h4, h5⟩
      · rintro E' w' ⟨A', st', s2, h2, h3, h4, h5⟩; exact ⟨A', st', s2, h2, b1.trans h3, h4, h5⟩
    · exact h.elim
theorem cut_ok {N : Nat} {c1 c2 : Code} {eva evb : AE → Stt → (Out → Prop) → Prop} (ha : CodeOK P Γ N c1 eva) (hea : EvImp eva) (hb : CodeOK P Γ N c2 evb) (kill : List Nat) (L : LAnn) {A : AE} {st : Stt} {k : Out → Prop} (h : evCut eva evb kill L A st k) (hA : A ≠ []) (hn : st.h ≠ []) {s : Sg} {w0 w : World} {E : Env} (hH : Hold Γ s w0 st w) (hE : EnvOK s A E) : WP P ⟨N, []⟩ (.seq c1 c2) (QK Γ k s w0) E w := by
  obtain ⟨h1, h2⟩ := h
  have hdom := hH.dom
  have obIds : ∀ k x, st.h.get k = some x → idsX st.nx x = true ∧ k < st.nx := by
    intro k x hk
    obtain ⟨p, h1, h2⟩ := hH.obj k x hk
    refine ⟨?_, Nat.lt_of_not_le fun hl => by rw [hdom k hl] at h1; cases h1⟩
    cases x with
    | c e cs => obtain ⟨vs, _, h3⟩ := h2.cur; exact RelL.ids hdom cs vs h3
    | q e t xs => rfl
  have slIds : ∀ t a, A.get t = some a → idsA st.nx a = true := fun t a ht => Rel.ids hdom a _ (hE t a ht)
  have hm0 : meets st.nx true [] [] A st = some [] := rfl
  obtain ⟨s1, hle1, hH1, hE1⟩ := meets_ok (s := s) (st := st) (A := A) (kill := []) (del := []) hm0 (by simp) hH hE (Sg.le.refl s) hdom rfl rfl (fun k x _ _ hk => ⟨hk, obIds k x hk⟩) (fun t a _ _ ht => ⟨ht, slIds t a ht⟩) (fun l hl => by simp [news] at hl)
  have h1' := hea _ _ _ (fun o => SufO (.nil :: .nil :: A) ⟨.nil :: .nil :: st.h, st.nx⟩ o ∧ (match o with
      | .norm A' st' => ∃ g : L.β, match meets st.nx true (L.sl g) (L.ob g) A' st' with
        | none => False
        | some ps => bif small kill && small (elder st.nx (L.sl g) (L.ob g) A st) && only A A' (kill ++ (L.sl g).map (·.1)) && only st.h st'.h ((L.ob g).map (·.1) ++ elder st.nx (L.sl g) (L.ob g) A st ++ List.range' st.nx (st'.nx - st.nx)) && (elder st.nx (L.sl g) (L.ob g) A' st').all (fun l => (elder st.nx (L.sl g) (L.ob g) A st).contains l) then obs ps (L.inv g) else False
      | r => k r)) h1 (by simp) (by simp) (fun o ho h => ⟨ho, h⟩)
  refine WP.seq (WP.mono (ha _ _ _ h1' (by simp) (by simp) s1 w0 E w hH1 hE1) ?_ ?_ ?_)
  · rintro E' w' ⟨A', st', s2, ⟨hsuf, g, hx⟩, hle2, hH2, hE2⟩
    split at hx
    · exact hx.elim
    rename_i qs hm
    cases hc : (small kill && small (elder st.nx (L.sl g) (L.ob g) A st) && only A A' (kill ++ (L.sl g).map (·.1)) && only st.h st'.h ((L.ob g).map (·.1) ++ elder st.nx (L.sl g) (L.ob g) A st ++ List.range' st.nx (st'.nx - st.nx)) && (elder st.nx (L.sl g) (L.ob g) A' st').all (fun l => (elder st.nx (L.sl g) (L.ob g) A st).contains l)) with
    | false => rw [hc] at hx; exact hx.elim
    | true =>
    rw [hc] at hx
    simp only [cond_true] at hx
    simp only [Bool.and_eq_true] at hc
    obtain ⟨⟨⟨⟨hkill, hdel⟩, o1⟩, o2⟩, o3⟩ := hc
    obtain ⟨hq, hi⟩ := obs_ok hx
    have hA' := only_ok o1 hsuf.1
    have hS' := only_ok o2 hsuf.2.1
    obtain ⟨s3, hle3, hH3, hE3⟩ := meets_ok (s := s) (st := st) (A := A) (A' := A') (st' := st') (kill := kill) (del := elder st.nx (L.sl g) (L.ob g) A st) hm hq hH2 hE2 (hle1.trans hle2) hdom hkill hdel (by
      intro k x h1 h2 hk
      obtain ⟨h3, h4⟩ := obIds k x hk
      refine ⟨?_, h3, h4⟩
      rw [hS' k ?_]; exact hk
      simp only [List.mem_append, not_or]
      refine ⟨⟨h1, h2⟩, fun hr => ?_⟩
      have := (List.mem_range'_1.1 hr).1
      omega) (by
      intro t a h1 h2 ht
      refine ⟨?_, slIds t a ht⟩
      rw [hA' t ?_]; exact ht
      simp only [List.mem_append, not_or]
      exact ⟨h2, h1⟩) (by
      intro l hl hlt
      have := List.all_eq_true.1 o3 _ (List.mem_filter.2 ⟨List.mem_map.2 ⟨l, hl, rfl⟩, Nat.ble_eq_true_of_le hlt⟩)
      simpa using this)
    refine WP.mono (hb _ _ _ (h2 g hi) (by simp [headA]) (by simp [headS]) s3 w0 E' w' hH3 hE3) ?_ ?_ ?_
    · rintro E2 w2 ⟨A2, st2, s2, g1, g2, g3, g4⟩; exact ⟨A2, st2, s2, g1, hle3.trans g2, g3, g4⟩
    · rintro i E2 w2 ⟨A2, st2, s2, g1, g2, g3, g4⟩; exact ⟨A2, st2, s2, g1, hle3.trans g2, g3, g4⟩
    · rintro E2 w2 ⟨A2, st2, s2, g1, g2, g3, g4⟩; exact ⟨A2, st2, s2, g1, hle3.trans g2, g3, g4⟩
  · rintro i E' w' ⟨A', st', s', ⟨_, h1⟩, h2, h3, h4⟩; exact ⟨A', st', s', h1, hle1.trans h2, h3, h4⟩
  · rintro E' w' ⟨A', st', s', ⟨_, h1⟩, h2, h3, h4⟩; exact ⟨A', st', s', h1, hle1.trans h2, h3, h4⟩
/-! ### Results -/
theorem loadVar_ok {s : Sg} {w0 w : World} {st : Stt} {t : TypeId} {v : Value} {a p : AV} (hH : Hold Γ s w0 st w) (hp : Rel s p v) (h : evRead P st t p = some a) : ∃ b k u, v = .pointer (some ⟨b, k, none⟩) ∧ (loadVar t ⟨b, k, none⟩).run P w = .ok u w ∧ Rel s a u := by
  cases p with
  | ptr l k =>
    simp only [evRead] at h
    split at h
    case h_2 => cases h
    rename_i et cs hl
    obtain ⟨q, h1, h2⟩ := hH.obj l _ hl
    obtain ⟨vs, h3, h4⟩ := h2.cur
    simp only [Rel] at hp
    obtain ⟨q', h5, he⟩ := hp
    rw [h1] at h5; cases h5
    have hbox : Box w q.b et vs := h3
    rcases part_ok h h4 with ⟨u, hpl, hv, hrel⟩ | ⟨sz, us, hpl, hle, hus, hlen, hrel⟩
    · exact ⟨q.b, k, u, he, run_loadVar_one hpl (hbox.cell hv), hrel⟩
    · refine ⟨q.b, k, _, he, run_loadVar_agg hpl ?_ hlen, hrel⟩
      have := At.seg hbox k sz
      rw [hus] at this; exact this
  | pd m dt d =>
    simp only [evRead] at h
    simp only [Rel] at hp
    obtain ⟨b, k, cs, he, hf, hrd⟩ := hp
    have hat := hf.at (hH.H m)
    unfold readD at h
    split at h
    · rename_i u sz hu hsz
      cases hc : (Nat.beq sz dt.sz && (dt.isT == isAggD u)) with
      | false => rw [hc] at h; cases h
      | true =>
        rw [hc] at h
        cases h
        simp only [Bool.and_eq_true, beq_iff_eq] at hc
        have hlen := Rd.len _ _ _ hrd
        rcases oneD_ok hrd with ⟨fs, rfl, hrel⟩ | ⟨hne, v, rfl, hrel⟩
        · exact ⟨b, k, _, he, run_loadVar_agg (aggr_of hu hc.2.symm (szOf_sized hsz)) hat (by rw [hlen]; exact (beq_t hc.1).symm), hrel⟩
        · refine ⟨b, k, v, he, run_loadVar_one (plain_of hu ?_) (by have := hat 0 v rfl; simpa using this), hrel⟩
          have h2 := hc.2.symm
          cases dt with
          | t fs => exact absurd rfl (hne fs)
          | _ => simpa [DT.isT] using h2
    · cases h
  | _ => simp [evRead] at h
theorem resA_ok {s : Sg} {w0 w : World} {st : Stt} {A : AE} {tmps : Array Value} {r : ResultVar} {a : AV} (hH : Hold Γ s w0 st w) (hE : EnvOK s A (fun t => tmps.getD t undef)) (h : resA P A st r = some a) : ∃ v, (readVar tmps r).run P w = .ok v w ∧ Rel s a v := by
  cases r with
  | tmp t => exact ⟨_, rfl, hE t a h⟩
  | cell x t =>
    simp only [resA] at h
    split at h
    · rename_i p hp
      obtain ⟨b, k, u, h1, h2, h3⟩ := loadVar_ok hH (hE x p hp) h
      refine ⟨u, ?_, h3⟩
      simp only [readVar, h1, asAddr, Sem.run_bind, Sem.run_pure, Result.andThen_ok, h2]
    · cases h
theorem resAs_ok {s : Sg} {w0 w : World} {st : Stt} {A : AE} {tmps : Array Value} (hH : Hold Γ s w0 st w) (hE : EnvOK s A (fun t => tmps.getD t undef)) : ∀ (rs : List ResultVar) (as' : List AV), resAs P A st rs = some as' → ∃ vs, (rs.mapM (readVar tmps)).run P w = .ok vs w ∧ RelL s as' vs
  | [], as', h => by simp only [resAs, Option.some.injEq] at h; subst h; exact ⟨[], by simp, RelL.nil⟩
  | r :: rs, as', h => by
    simp only [resAs] at h
    split at h
    · rename_i a ha
      split at h
      · rename_i as2 h2
        cases h
        obtain ⟨v, h3, h4⟩ := resA_ok hH hE ha
        obtain ⟨vs, h5, h6⟩ := resAs_ok hH hE rs as2 h2
        exact ⟨v :: vs, by simp only [List.mapM_cons, Sem.run_bind, Sem.run_pure, Result.andThen_ok, h3, h5], RelL.cons h4 h6⟩
      · cases h
    · cases h
theorem results_ok {s : Sg} {w0 w : World} {st : Stt} {A : AE} {tmps : Array Value} {fn : Func} {as' : List AV} (hH : Hold Γ s w0 st w) (hE : EnvOK s A (fun t => tmps.getD t undef)) (h : resAs P A st fn.results.toList = some as') :
    ∃ vs, (results fn tmps).run P w = .ok (tupV vs) w ∧ RelL s as' vs := by
  obtain ⟨vs, h1, h2⟩ := resAs_ok hH hE _ _ h
  refine ⟨vs, ?_, h2⟩
  rw [results_eq]
  have e : fn.results.mapM (readVar tmps) = List.toArray <$> fn.results.toList.mapM (readVar tmps) := by
    obtain ⟨rs⟩ := fn.results
    simp
  rw [e]
  simp only [Sem.run_bind, Sem.run_map, Sem.run_pure, Result.andThen_ok, h1]
  congr 1
  match vs with
  | [] => rfl
  | [v] => rfl
  | v :: u :: r => simp [tupV]
theorem argsA_get : ∀ (l : List AV) (k t : Nat) (a : AV), (argsA l k).get t = some a → k ≤ t ∧ l[t - k]? = some a
  | [], k, t, a, h => by
    simp only [argsA, Ly.get, Ly.go, Tr.get] at h
    cases hb : Nat.blt t 1000000 <;> rw [hb] at h <;> cases h
  | x :: r, k, t, a, h => by
    simp only [argsA] at h
    rcases Ly.get_set h with ⟨rfl, e⟩ | ⟨_, e⟩
    · cases e; exact ⟨Nat.le_refl _, by simp⟩
    · obtain ⟨h1, h2⟩ := argsA_get r (k + 1) t a e
      refine ⟨by omega, ?_⟩
      rw [show t - k = (t - (k + 1)) + 1 from by omega]
      simpa using h2
theorem argsA_ne : ∀ (l : List AV) (i : Nat), argsA l i ≠ []
  | [], i => by simp [argsA]
  | a :: r, i => ((Suf.refl (argsA_ne r (i + 1))).set i (some a)).ne
theorem inl_ok {ev : FuncId → Nat → Code → AE → Stt → (Out → Prop) → Prop} (hev : ∀ f N c, CodeOK P Γ N c (ev f N c)) (he : ∀ f N c, EvImp (ev f N c)) : CallOK P Γ (callInl P ev) := by
  intro f l st k h hn s w0 w vs hH hr
  have h := inl_imp he f l st k (fun a st' => k a st' ∧ st'.h ≠ []) h hn (fun a st' hs h => ⟨h, hs.1.ne⟩)
  unfold callInl at h
  split at h
  · exact h.elim
  rename_i fn hf
  cases hb0 : Nat.blt fn.ntmps l.length with
  | true => rw [hb0] at h; exact h.elim
  | false =>
  rw [hb0] at h
  simp only [cond_false] at h
  have hlen : vs.length ≤ fn.ntmps := by
    rw [← hr.len]
    rcases Nat.lt_or_ge fn.ntmps l.length with h1 | h1
    · have : Nat.blt fn.ntmps l.length = true := Nat.ble_eq_true_of_le h1
      rw [this] at hb0; cases hb0
    · exact h1
  split at h
  · exact h.elim
  rename_i c hb
  refine Fnc.of_WP hf hb rfl (by simpa using hlen) (fun E hE => ?_)
  have hEnv : EnvOK s (argsA l 0) E := by
    intro t a ht
    obtain ⟨_, h2⟩ := argsA_get l 0 t a ht
    obtain ⟨v, h3, h4⟩ := hr.get h2
    have h3' : vs[t]? = some v := h3
    have hlt : t < vs.length := (List.getElem?_eq_some_iff.1 h3').1
    rw [hE t (by simpa using hlt)]
    have : vs.toArray.getD t undef = v := by
      rw [List.getElem?_eq_getElem hlt] at h3'
      simpa [Array.getD, hlt] using h3'
    rw [this]; exact h4
  have fin : ∀ A' st' s' E' w', retA P fn A' st' (fun a st' => k a st' ∧ st'.h ≠ []) → s.le s' → Hold Γ s' w0 st' w' → EnvOK s' A' E' → resOf fn P E' w' fun v w'' => ∃ a st' s', k a st' ∧ st'.h ≠ [] ∧ s.le s' ∧ Hold Γ s' w0 st' w'' ∧ Rel s' a v := by
    intro A' st' s' E' w' hret hle hH' hE' tmps _ he
    subst he
    unfold retA at hret
    split at hret
    · rename_i as' has
      obtain ⟨us, h1, h2⟩ := results_ok hH' hE' has
      exact ⟨_, h1, _, st', s', hret.1, hret.2, hle, hH', tup1_rel h2⟩
    · exact hret.elim
  refine WP.mono (hev f _ c _ _ _ h (argsA_ne l 0) hn s w0 E w hH hEnv) ?_ ?_ ?_
  · rintro E' w' ⟨A', st', s', h1, h2, h3, h4⟩
    exact fin A' st' s' E' w' h1 h2 h3 h4
  · rintro i E' w' ⟨A', st', s', h1, _⟩
    exact h1
  · rintro E' w' ⟨A', st', s', h1, h2, h3, h4⟩
    exact fin A' st' s' E' w' h1 h2 h3 h4
theorem code_ok (hm : P.follows .mixedOrders = true) {S : Sums} (hS : SumsOK P Γ S) {an : Anns} : ∀ (n : Nat) (f : FuncId) (N : Nat) (c : Code), CodeOK P Γ N c (evCode P S an n f N c)
  | 0, _, _, _ => fun _ _ _ h => by simp only [evCode] at h
  | n + 1, f, N, c => by
    intro A st k h hA hn s w0 E w hH hE
    have ih := code_ok hm hS (an := an) n
    have im := code_imp (P := P) (S := S) (an := an) n
    unfold evCode at h
    split at h
    · exact WP.skip ⟨A, st, s, h, Sg.le.refl s, hH, hE⟩
    · exact WP.label ⟨A, st, s, h, Sg.le.refl s, hH, hE⟩
    · exact reg_ok hm hS (inl_ok ih im) h hn hH hE fun A' st' s' E' w' h1 h2 h3 h4 => ⟨A', st', s', h1, h2, h3, h4⟩
    · rename_i x y
      split at h
      · exact cut_ok (ih f N x) (im f N x) (ih f N y) _ _ h hA hn hH hE
      · have h' := im f N x A st _ (fun o => SufO A st o ∧ (match o with | .norm A' st' => evCode P S an n f N y A' st' k | r => k r)) h hA hn (fun o ho h => ⟨ho, h⟩)
        refine WP.seq (WP.mono (ih f N x A st _ h' hA hn s w0 E w hH hE) ?_ ?_ ?_)
        · rintro E' w' ⟨A', st', s', ⟨h0, h1⟩, h2, h3, h4⟩
          refine WP.mono (ih f N y A' st' k h1 h0.1.ne h0.2.1.ne s' w0 E' w' h3 h4) ?_ ?_ ?_
          · rintro E2 w2 ⟨A2, st2, s2, g1, g2, g3, g4⟩; exact ⟨A2, st2, s2, g1, h2.trans g2, g3, g4⟩
          · rintro i E2 w2 ⟨A2, st2, s2, g1, g2, g3, g4⟩; exact ⟨A2, st2, s2, g1, h2.trans g2, g3, g4⟩
          · rintro E2 w2 ⟨A2, st2, s2, g1, g2, g3, g4⟩; exact ⟨A2, st2, s2, g1, h2.trans g2, g3, g4⟩
        · rintro i E' w' ⟨A', st', s', ⟨_, h1⟩, h2, h3, h4⟩; exact ⟨A', st', s', h1, h2, h3, h4⟩
        · rintro E' w' ⟨A', st', s', ⟨_, h1⟩, h2, h3, h4⟩; exact ⟨A', st', s', h1, h2, h3, h4⟩
    · rename_i x a b
      split at h
      · rename_i t ht
        have hv := opd_v ht hE
        cases t with
        | true => exact WP.cond_true hv (ih f N a A st k h hA hn s w0 E w hH hE)
        | false => exact WP.cond_false hv (ih f N b A st k h hA hn s w0 E w hH hE)
      · exact h.elim
    · rename_i id b
      refine WP.block (WP.mono (ih f N b A st _ h hA hn s w0 E w hH hE) ?_ ?_ ?_)
      · rintro E' w' ⟨A', st', s', h1, h2, h3, h4⟩; exact ⟨A', st', s', h1, h2, h3, h4⟩
      · rintro i E' w' ⟨A', st', s', h1, h2, h3, h4⟩
        simp only at h1 ⊢
        revert h1
        cases Nat.beq i id with
        | true => intro h1; exact ⟨A', st', s', h1, h2, h3, h4⟩
        | false => intro h1; exact ⟨A', st', s', h1, h2, h3, h4⟩
      · rintro E' w' ⟨A', st', s', h1, h2, h3, h4⟩; exact ⟨A', st', s', h1, h2, h3, h4⟩
    · rename_i b
      split at h
      · exact evNils_ok h hA hn hH hE fun A' st' s' h hA hn hH hE => ann_ok (ih f N b) (im f N b) _ _ h hA hn hH hE
      · exact loop_ok (ih f N b) (im f N b) n A st k h hA hn s w0 E w hH hE
    · exact WP.exit ⟨A, st, s, h, Sg.le.refl s, hH, hE⟩
    · exact WP.ret ⟨A, st, s, h, Sg.le.refl s, hH, hE⟩
    · exact h.elim
end
end Go.Proofs.YtbbjonjhaoeidaaDoor.Sv
