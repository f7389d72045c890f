/- Pieces of code: a round that may jump out; code behind a loop, that returns; results under a mark. Program-agnostic. -/
import Derived.Test.YtcinjnkgopoclaaGreatDoorQS23
set_option linter.unusedVariables false
set_option linter.unusedSimpArgs false
set_option linter.unusedSectionVars false
namespace Go.Proofs.YtcinjnkgopoclaaGreatDoor.Sv
open Go.RowKit Go.Proofs.YtcinjnkgopoclaaGreatDoor.W
variable {Γ : Gl}
section
variable {P : Program} {w0 w : World}
theorem SegPost.of {s s' : Sg} {st : Stt} {ks : List AK} {es : List D} {bs : List Nat} {G : Fz} {w' : World} (h : segB ks es st) (hX : s.X = bs) (hG0 : s.G0 = G) (hG : s.G = G) (hle : s.le s') (hH : Hold Γ s' w st w') (hI : Ids s 0 bs) (hl : bs.length = nBox ks) : SegPost G ks es bs w w' := by
  obtain ⟨g1, G', g2, g3, g4, g5, g6⟩ := segB_ok h hH (Ids.mono hle bs 0 hI) hl
  rw [hle.X, hX] at g1
  refine ⟨g1, G', ?_, g3, fun b hb hb' => ?_, g5⟩
  · have := hle.G
    rw [hG] at this
    exact fun b o hb => g2 b o (this b o hb)
  · rcases g4 b hb' with g | g
    · rw [hle.G0, hG0] at g; exact absurd hb g
    · exact g
/-- what a round leaves: where it ends, where it jumps out -/
def segX (ks : List AK) (en : Option (List D)) (ex : Nat → Option (List D)) : Out → Prop
  | .norm _ st => match en with
    | some es => segB ks es st
    | none => False
  | .exit i _ st => match ex i with
    | some es => segB ks es st
    | none => False
  | .ret _ _ => False
theorem seg_ok2 (hm : P.follows .mixedOrders = true) {S : Sums} (hS : SumsOK P Γ S) {an : Anns} (n : Nat) (f : FuncId) (N : Nat) (c : Code) {ro : Option Nat} {DD : List Deferred} {F G : Fz} {ks : List AK} {ds : List D} {en : Option (List D)} {ex : Nat → Option (List D)} {ts : List Nat} {vs : List Value} {bs : List Nat} {E : Env}
    (hgl : Γ.ok w) (hgb : ∀ b ∈ bs, Γ.n ≤ b) (hF : ∀ b o, F b = some o → w.heap[b]? = some o) (hGF : Sub G F) (hnd : bs.Nodup) (hbF : ∀ b ∈ bs, F b = none) (hargs : ArgsRd F G w ks ds vs bs) (hE : EnvAt E ts vs)
    (h : evCode P S an n f N c (putTs ts (startAs ks ds 0)) (startSt ks ds ⟨[.nil], 0⟩) (segX ks en ex)) :
    WPr ro P ⟨N, DD⟩ c ⟨fun _ w' => ∃ es, en = some es ∧ SegPost G ks es bs w w', fun i _ w' => ∃ es, ex i = some es ∧ SegPost G ks es bs w w', fun _ _ => False⟩ E w := by
  obtain ⟨s, k1, k2, k3, k4, k5, k6, k7, k8⟩ := seg_start hgl hgb hF hGF hnd hbF hargs
  have hl := args_nBox _ _ _ _ hargs
  refine WP.mono (code_ok hm hS n f N c _ _ _ h (putTs_ne _ _) k8 s w E w k5 (putTs_ok ts _ _ k6 hE)) ?_ ?_ ?_
  · rintro E' w' ⟨A', st', s', h1, h2, h3, h4⟩
    simp only [segX] at h1
    split at h1
    · rename_i es; exact ⟨es, rfl, SegPost.of h1 k1 k2 k4 h2 h3 k7 hl⟩
    · exact h1.elim
  · rintro i E' w' ⟨A', st', s', h1, h2, h3, h4⟩
    simp only [segX] at h1
    split at h1
    · rename_i es e; exact ⟨es, e, SegPost.of h1 k1 k2 k4 h2 h3 k7 hl⟩
    · exact h1.elim
  · rintro E' w' ⟨A', st', s', h1, _⟩; exact h1
def isTmp : ResultVar → Bool
  | .tmp _ => true
  | _ => false
def isDat : RK → Bool
  | .d _ => true
  | _ => false
theorem mapM_tmp {tmps : Array Value} : ∀ (rs : List ResultVar), rs.all isTmp = true → ∃ vs, ∀ w : World, (rs.mapM (readVar tmps)).run P w = .ok vs w
  | [], _ => ⟨[], fun w => by simp⟩
  | r :: rs, h => by
    simp only [List.all_cons, Bool.and_eq_true] at h
    obtain ⟨vs, hv⟩ := mapM_tmp (tmps := tmps) rs h.2
    cases r with
    | tmp t => exact ⟨tmps.getD t undef :: vs, fun w => by
        have h1 : (readVar tmps (.tmp t)).run P w = .ok (tmps.getD t undef) w := rfl
        simp only [List.mapM_cons, Sem.run_bind, Sem.run_pure, Result.andThen_ok, hv w, h1]⟩
    | cell a t => simp [isTmp] at h
theorem results_tmp {fn : Func} {tmps : Array Value} (h : fn.results.toList.all isTmp = true) : ∃ v, ∀ w : World, (results fn tmps).run P w = .ok v w := by
  obtain ⟨vs, hv⟩ := mapM_tmp (P := P) (tmps := tmps) _ h
  have e : fn.results.mapM (readVar tmps) = List.toArray <$> fn.results.toList.mapM (readVar tmps) := by
    obtain ⟨rs⟩ := fn.results
    simp
  refine ⟨tupV vs, fun w => ?_⟩
  rw [results_eq, e]
  simp only [Sem.run_bind, Sem.run_map, Sem.run_pure, Result.andThen_ok, hv w]
  congr 1
  match vs with
  | [] => rfl
  | [v] => rfl
  | v :: u :: r => simp [tupV]
theorem outs_dat {G : Fz} {w w' : World} : ∀ (rs : List RK) (ds : List D) (vs : List Value) (os : List Nat), rs.all isDat = true → OutsRd G w rs ds vs os → OutsRd G w' rs ds vs os
  | [], _, _, _, _, h => h
  | r :: rs, ds, vs, os, hd, h => by
    simp only [List.all_cons, Bool.and_eq_true] at hd
    obtain ⟨v, vs', cs, o1, o2, h1, h2, h3, h4, h5⟩ := h
    refine ⟨v, vs', cs, o1, o2, h1, h2, h3, ?_, outs_dat rs _ _ _ hd.2 h5⟩
    cases r with
    | d t => simpa only [RkRd] using h4
    | _ => simp [isDat] at hd
/-- results that are data alone -/
def segR (rs : List ResultVar) (P : Program) (res : List RK) (out : List D) : Out → Prop
  | .ret A st => match resAs P A st rs with
    | some as' => match retOuts st res as' out with
      | some (qs, _) => conj qs
      | none => False
    | none => False
  | _ => False
/-- what a function hands back -/
def RetPost (w w' : World) (X : List Nat) (G : Fz) (res : List RK) (out : List D) (v : Value) : Prop :=
  ∃ G' os rs, Ext X w w' ∧ Sub G G' ∧ (∀ b o, G' b = some o → w'.heap[b]? = some o) ∧ (∀ b, G b = none → G' b ≠ none → w.heap.size ≤ b) ∧ os.Nodup ∧ (∀ b ∈ os, w.heap.size ≤ b ∧ G' b = none) ∧ OutsRd G' w' res out rs os ∧ v = tupV rs
/-- Code behind a loop that returns data out of slots, the mark still there. -/
theorem seg_ret (hm : P.follows .mixedOrders = true) {S : Sums} (hS : SumsOK P Γ S) {an : Anns} (n : Nat) (f : FuncId) {fn : Func} {N d : Nat} (c : Code) {F G : Fz} {ks : List AK} {ds out : List D} {res : List RK} {ts : List Nat} {vs : List Value} {bs : List Nat} {E : Env} {R : Value → World → Prop}
    (hN : fn.ntmps = N) (htm : fn.results.toList.all isTmp = true) (hdat : res.all isDat = true) (hgl : Γ.ok w) (hgb : ∀ b ∈ bs, Γ.n ≤ b) (hF : ∀ b o, F b = some o → w.heap[b]? = some o) (hGF : Sub G F) (hnd : bs.Nodup) (hbF : ∀ b ∈ bs, F b = none) (hdG : G d = none) (hd : w.heap[d]? = some (.deferred (some []))) (hbd : d ∉ bs) (hargs : ArgsRd F G w ks ds vs bs) (hE : EnvAt E ts vs)
    (h : evCode P S an n f N c (putTs ts (startAs ks ds 0)) (startSt ks ds ⟨[.nil], 0⟩) (segR fn.results.toList P res out))
    (hR : ∀ v w', RetPost w w' (d :: bs) G res out v → R v w') :
    WX P ⟨N, [W.mark d]⟩ c (PostM P fn R) E w := by
  obtain ⟨s, k1, k2, k3, k4, k5, k6, k7, k8⟩ := seg_start hgl hgb hF hGF hnd hbF hargs
  have hdl : d < w.heap.size := heap_lt hd
  refine WX.of (WP.mono (code_ok hm hS n f N c _ _ _ h (putTs_ne _ _) k8 s w E w k5 (putTs_ok ts _ _ k6 hE)) ?_ ?_ ?_)
  · rintro E' w' ⟨A', st', s', h1, _⟩; exact h1.elim
  · rintro i E' w' ⟨A', st', s', h1, _⟩; exact h1.elim
  · rintro E' w' ⟨A', st', s', h1, h2, h3, h4⟩ a ha he
    have hx : Ext bs w w' := by have := h3.ext; rw [h2.X, k1] at this; exact this
    refine PostM.marked hN ha (Ext.keepB hx hd hbd) fun w'' hx'' => ?_
    rw [he]
    intro tmps hs hte
    subst hte
    simp only [segR] at h1
    split at h1
    case h_2 => exact h1.elim
    rename_i as' has
    split at h1
    case h_2 => exact h1.elim
    rename_i qs st2 hro
    obtain ⟨us, u1, u2⟩ := results_ok (fn := fn) h3 h4 has
    obtain ⟨s2, os, r1, r2⟩ := retOuts_ok res as' out qs s' st' st2 us hro (conj_ok h1) h3 u2
    obtain ⟨v, hv⟩ := results_tmp (P := P) (tmps := tmps) htm
    have e : v = tupV us := by
      have := hv w'
      rw [u1] at this
      cases this; rfl
    subst e
    have hall : s.le s2 := h2.trans r1.le
    have hG0 : s2.G0 = G := hall.G0.trans k2
    have hGd : ∀ b, G b = none → s2.G b ≠ none → w.heap.size ≤ b := fun b hb hb' => by
      rcases r1.hold.gnew b hb' with g | g
      · rw [hG0] at g; exact absurd hb g
      · exact g
    refine ⟨_, hv w'', hR _ _ ⟨s2.G, os, us, (hx.mono (fun y hy => List.mem_cons_of_mem _ hy)).trans (hx''.mono (by simp)), ?_, fun b o hb => Ext.keepB hx'' (r1.hold.frz b o (r1.hold.gf b o hb)) ?_, hGd, r1.nd, fun b hb => ⟨(r1.new b hb).1, ?_⟩, outs_dat res _ _ _ hdat r2, rfl⟩⟩
    · have := hall.G
      rw [k4] at this
      exact this
    · intro hm
      simp only [List.mem_singleton] at hm
      subst hm
      have := hGd b hdG (by rw [hb]; simp)
      omega
    · cases hg2 : s2.G b with
      | none => rfl
      | some o => have := r1.hold.gf b o hg2; rw [(r1.new b hb).2] at this; cases this
/-- what a function leaves, as a contract says it -/
def FinPost (G : Fz) (ks : List AK) (es : List D) (bs : List Nat) (res : List RK) (out : List D) (w : World) (v : Value) (w' : World) : Prop :=
  ∃ G' os rs, Ext bs w w' ∧ Sub G G' ∧ (∀ b o, G' b = some o → w'.heap[b]? = some o) ∧ (∀ b, G b = none → G' b ≠ none → w.heap.size ≤ b) ∧ os.Nodup ∧ (∀ b ∈ os, w.heap.size ≤ b ∧ G' b = none) ∧ OutsRd G' w' res out rs os ∧ v = tupV rs ∧ BoxesRd G' w' ks es bs
def finA (rs : List ResultVar) (P : Program) (ks : List AK) (es : List D) (res : List RK) (out : List D) (A : AE) (st : Stt) : Prop := match resAs P A st rs with
  | some as' => match retBoxes st ks 0 es with
    | some (ps, st1) => match retOuts st1 res as' out with
      | some (qs, _) => conj (ps ++ qs)
      | none => False
    | none => False
  | none => False
def segF (rs : List ResultVar) (P : Program) (ks : List AK) (es : List D) (res : List RK) (out : List D) : Out → Prop
  | .ret A st => finA rs P ks es res out A st
  | .norm A st => finA rs P ks es res out A st
  | _ => False
theorem fin_ok {fn : Func} {s s' : Sg} {st' : Stt} {A' : AE} {G : Fz} {ks : List AK} {es out : List D} {res : List RK} {bs : List Nat} {E' : Env} {w' : World} {R : Value → World → Prop} (k1 : s.X = bs) (k2 : s.G0 = G) (k4 : s.G = G) (k7 : Ids s 0 bs) (hl : bs.length = nBox ks)
    (h1 : finA fn.results.toList P ks es res out A' st') (h2 : s.le s') (h3 : Hold Γ s' w st' w') (h4 : EnvOK s' A' E') (hR : ∀ v w', FinPost G ks es bs res out w v w' → R v w') : resOf fn P E' w' R := by
  intro tmps hs hte
  subst hte
  unfold finA at h1
  split at h1
  case h_2 => exact h1.elim
  rename_i as' has
  split at h1
  case h_2 => exact h1.elim
  rename_i ps st1 hbx
  split at h1
  case h_2 => exact h1.elim
  rename_i qs st2 hro
  have hps := conj_ok h1
  obtain ⟨us, u1, u2⟩ := results_ok (fn := fn) h3 h4 has
  obtain ⟨s1, b1, b2, b3, b4⟩ := retBoxes_ok ks 0 _ ps s' st' st1 bs hbx (fun p hp => hps p (List.mem_append_left _ hp)) h3 (Ids.mono h2 bs 0 k7) hl
  obtain ⟨s2, os, r1, r2⟩ := retOuts_ok res as' _ qs s1 st1 st2 us hro (fun p hp => hps p (List.mem_append_right _ hp)) b2 (RelL.mono b1 _ _ u2)
  have hall : s.le s2 := h2.trans (b1.trans r1.le)
  have hX : s2.X = bs := hall.X.trans k1
  have hG0 : s2.G0 = G := hall.G0.trans k2
  refine ⟨tupV us, u1, hR _ _ ⟨s2.G, os, us, hX ▸ r1.hold.ext, ?_, fun b o hb => r1.hold.frz b o (r1.hold.gf b o hb), fun b g1 g2 => ?_, r1.nd, fun b hb => ⟨(r1.new b hb).1, ?_⟩, r2, rfl, BoxesRd.mono r1.le.G _ _ _ b4⟩⟩
  · have := hall.G
    rw [k4] at this
    exact this
  · rcases r1.hold.gnew b g2 with g | g
    · rw [hG0] at g; exact absurd g1 g
    · exact g
  · cases hg2 : s2.G b with
    | none => rfl
    | some o => have := r1.hold.gf b o hg2; rw [(r1.new b hb).2] at this; cases this
/-- The last piece of a function's code: what it hands back is what the contract says. -/
theorem seg_fin (hm : P.follows .mixedOrders = true) {S : Sums} (hS : SumsOK P Γ S) {an : Anns} (n : Nat) (f : FuncId) {fn : Func} {N : Nat} {DD : List Deferred} (c : Code) {F G : Fz} {ks : List AK} {ds es out : List D} {res : List RK} {ts : List Nat} {vs : List Value} {bs : List Nat} {E : Env} {R : Value → World → Prop}
    (hgl : Γ.ok w) (hgb : ∀ b ∈ bs, Γ.n ≤ b) (hF : ∀ b o, F b = some o → w.heap[b]? = some o) (hGF : Sub G F) (hnd : bs.Nodup) (hbF : ∀ b ∈ bs, F b = none) (hargs : ArgsRd F G w ks ds vs bs) (hE : EnvAt E ts vs)
    (h : evCode P S an n f N c (putTs ts (startAs ks ds 0)) (startSt ks ds ⟨[.nil], 0⟩) (segF fn.results.toList P ks es res out))
    (hR : ∀ v w', FinPost G ks es bs res out w v w' → R v w') :
    WPr none P ⟨N, DD⟩ c ⟨fun E w' => resOf fn P E w' R, fun _ _ _ => False, fun E w' => resOf fn P E w' R⟩ E w := by
  obtain ⟨s, k1, k2, k3, k4, k5, k6, k7, k8⟩ := seg_start hgl hgb hF hGF hnd hbF hargs
  have fin : ∀ A' st' s' E' w', finA fn.results.toList P ks es res out A' st' → s.le s' → Hold Γ s' w st' w' → EnvOK s' A' E' → resOf fn P E' w' R :=
    fun A' st' s' E' w' h1 h2 h3 h4 => fin_ok k1 k2 k4 k7 (args_nBox _ _ _ _ hargs) h1 h2 h3 h4 hR
  refine WP.mono (code_ok hm hS n f N c _ _ _ h (putTs_ne _ _) k8 s w E w k5 (putTs_ok ts _ _ k6 hE)) ?_ ?_ ?_
  · rintro E' w' ⟨A', st', s', h1, h2, h3, h4⟩; exact fin A' st' s' E' w' h1 h2 h3 h4
  · rintro i E' w' ⟨A', st', s', h1, _⟩; exact h1.elim
  · rintro E' w' ⟨A', st', s', h1, h2, h3, h4⟩; exact fin A' st' s' E' w' h1 h2 h3 h4
end
end Go.Proofs.YtcinjnkgopoclaaGreatDoor.Sv
