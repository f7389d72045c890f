/- Contracts. -/
import Derived.Test.YtplflgclomiihaaGreatQS14x
import Derived.Test.YtplflgclomiihaaGreatQP1x
import Derived.ChangeArms
import Derived.SizedLaws
set_option linter.unusedVariables false
set_option linter.unusedSimpArgs false
namespace Go.Proofs.YtplflgclomiihaaGreat.Sv
open Go.RowKit Go.Proofs.YtplflgclomiihaaGreat.W
variable {Γ : Gl}
section
variable {P : Program} {b : Frame} {a : Act} {k : List Item} {cs : List Frame} {w : World}
theorem stepR_scope {c:Code}:step P (lone (b.atR a (.code (.scope c) :: k)) cs w)=.next (lone (b.atR a (.code c :: .inScope c :: k)) cs w) :=
 step_lone_go (by simp [stepG,stepG.exec,Frame.atR])
theorem stepR_inScope {c:Code}:step P (lone (b.atR a (.inScope c :: k)) cs w)=.next (lone (b.atR a k) cs w) :=
 step_lone_go (by simp [stepG,stepG.exec,Frame.atR])
theorem wpIn_scope {F:Fence} {n:Nat} {Q:Exit → Act → World → Prop} {c:Code} (h:c.wpIn F n P Q a w) (hg:∀ l a w,¬ Q (.goto l) a w):(Code.scope c).wpIn F n P Q a w:=by
 intro b k cs hro hb hr
 have h0:(lone (b.atR a (.code (.scope c) :: k)) cs w).fenced P F:=fenced_calm hb hr rfl
 obtain ⟨e,a₁,w₁,hq,harr⟩:=h b (.inScope c :: k) cs hro hb hr
 cases e with
 | normal=>exact ⟨.normal,a₁,w₁,hq,.head h0 stepR_scope (StepsIn.trans harr (.one (fenced_calm hb hr rfl) stepR_inScope))⟩
 | exit id =>
  have hx:exitTo id (.inScope c :: k)=exitTo id k:=by simp [exitTo]
  exact ⟨.exit id,a₁,w₁,hq,fun k' hk=>.head h0 stepR_scope (harr.1 k' (by rw [hx]; exact hk)),
   fun hr' hk=>let ⟨k₁,h1,h2⟩:=harr.2 hr' (by rw [hx]; exact hk); ⟨k₁,h1,.head h0 stepR_scope h2⟩⟩
 | goto l=>exact (hg l _ _ hq).elim
 | ret=>exact ⟨_,a₁,w₁,hq,.of_steps (.one h0 stepR_scope) harr⟩
 | panic ch=>exact ⟨_,a₁,w₁,hq,.of_steps (.one h0 stepR_scope) harr⟩
 | outgrown=>exact ⟨_,a₁,w₁,hq,.of_steps (.one h0 stepR_scope) harr⟩
theorem WP.scope {ro:Option Nat} {n:Fsz} {Q:K} {E:Env} {c:Code} (h:WPr ro P n c Q E w):WPr ro P n (.scope c) Q E w :=
 fun a ha he=>wpIn_scope (h a ha he) fun l a w hq=>hq.2
end
def QK (Γ : Gl) (k : Out → Prop) (s : Sg) (w0 : World) : K :=
  ⟨fun E w => ∃ A st s', k (.norm A st) ∧ s.le s' ∧ Hold Γ s' w0 st w ∧ EnvOK s' A E,
   fun i E w => ∃ A st s', k (.exit i A st) ∧ s.le s' ∧ Hold Γ s' w0 st w ∧ EnvOK s' A E,
   fun E w => ∃ A st s', k (.ret A st) ∧ s.le s' ∧ Hold Γ s' w0 st w ∧ EnvOK s' A E⟩
def CodeOK (P:Program) (Γ:Gl) (N:Nat) (c:Code) (ev:AE → Stt → (Out → Prop) → Prop):Prop:=∀ {ro:Option Nat} {DD:List Deferred} A st k,ev A st k → A ≠ [] → st.h ≠ [] → ∀ s w0 E w,Hold Γ s w0 st w → EnvOK s A E → WPr ro P ⟨N,DD⟩ c (QK Γ k s w0) E w
section
variable {ro : Option Nat} {s : Sg} {w0 w w' : World} {st st' : Stt} {A : AE} {E : Env} {P : Program} {o : Oper}
def CallOK (P:Program) (Γ:Gl) (cf:CallF):Prop:=∀ f l st k,cf f l st k → st.h ≠ [] → ∀ s w0 w vs,Hold Γ s w0 st w → RelL s l vs → Fnc P f vs.toArray w fun v w'=>∃ a st' s',k a st'∧st'.h ≠ []∧s.le s'∧Hold Γ s' w0 st' w'∧Rel s' a v
theorem evList_drop {S:Sums} {cf:CallF} {N:Nat} {ops:Array Oper}:∀ (l:List Oper) (n:Nat) (A:AE) (st:Stt) (k:AE → Stt → Prop),evList P S cf N ops l n A st k=evList P S cf N ops (l.drop n) 0 A st k
 | [],n,A,st,k=>by simp [evList]
 | o :: r,0,A,st,k=>rfl
 | o :: r,n + 1,A,st,k=>by
  rw [evList,List.drop_succ_cons]; exact evList_drop r n A st k
theorem made_list {N:Nat} {DD:List Deferred} {ops:Array Oper} {Q:K} {rest:List Oper} {R:Value → World → Prop} (hs:Sure ops o E) (hd:dstOk ⟨N,DD⟩ o.dst=true) (h:Made P o E w R) (k:∀ v w',R v w' → WLr ro P ⟨N,DD⟩ ops Q rest (updO E o.dst v) w'):WLr ro P ⟨N,DD⟩ ops Q (o :: rest) E w:=by
 rcases h with ⟨v,w',h1,h2⟩ | ⟨f,args,h1,h2⟩
 ·exact WL.x hs hd h1 (k v w' h2)
 ·exact WL.c hs hd h1 (Fnc.mono h2 fun v w' hv=>k v w' hv)
theorem evList_ok {S : Sums} (hS : SumsOK P Γ S) {cf : CallF} (hcf : CallOK P Γ cf) {N : Nat} {DD : List Deferred} {ops : Array Oper} {Nn R : Env → World → Prop} {X : Nat → Env → World → Prop} : ∀ (m : Nat) (l : List Oper), l.length ≤ m → ∀ (A : AE) (st : Stt) (k : AE → Stt → Prop), evList P S cf N ops l 0 A st k → st.h ≠ [] → ∀ (s : Sg) (E : Env) (w : World), Hold Γ s w0 st w → EnvOK s A E →
    (∀ A' st' s' E' w', k A' st' → s.le s' → Hold Γ s' w0 st' w' → EnvOK s' A' E' → Nn E' w') → WLr ro P ⟨N, DD⟩ ops ⟨Nn, X, R⟩ l E w := by
  intro m
  induction m with
  | zero =>
    intro l hl A st k h hn s E w hH hE hk
    have : l = [] := List.eq_nil_of_length_eq_zero (by omega)
    subst this
    simp only [evList] at h
    exact WL.nil (hk A st s E w h (Sg.le.refl s) hH hE)
  | succ m ih =>
    intro l hl A st k h hn s E w hH hE hk
    cases l with
    | nil =>
      simp only [evList] at h
      exact WL.nil (hk A st s E w h (Sg.le.refl s) hH hE)
    | cons o r =>
    have hr : r.length ≤ m := by simpa using hl
    rw [evList] at h
    cases hdst : dstB N o.dst with
    | false => rw [hdst] at h; exact h.elim
    | true =>
    rw [hdst] at h
    simp only [cond_true] at h
    split at h
    · rename_i hg
      have hsure : Sure ops o E := Sure.none hg
      split at h
      · rename_i ps a hop
        obtain ⟨hp, hq⟩ := obs_ok h
        obtain ⟨v, hrel, hq1⟩ := evOp_rd hS hH hE hop hp
        have key := (wl_rules (P := P) (w := w) (N := N) (DD := DD) (ops := ops) (Q := ⟨Nn, X, R⟩)).q (rest := r) hsure (dst_of hdst) hq1 (fun w' hw => ih r hr _ _ k hq hn s _ w' (hH.grow hw) (hE.put hrel) hk)
        exact key w (Ext.refl _ _)
      · rename_i ps a st1 hop
        obtain ⟨hp, hq⟩ := obs_ok h
        refine made_list hsure (dst_of hdst) (evOp_wr hS hH hE hop hp) ?_
        rintro v w' ⟨s', h1, h2, h3⟩
        exact ih r hr _ _ k hq (suf_op hop hn).1.ne s' _ w' h2 ((hE.mono h1).put h3) (fun A' st' s'' E' w'' hk1 hle => hk A' st' s'' E' w'' hk1 (h1.trans hle))
      · split at h
        case h_2 => exact h.elim
        rename_i f l' hc
        obtain ⟨vs, h1, h2⟩ := call_op hE hc
        refine WL.c hsure (dst_of hdst) (h2 w) (Fnc.mono (hcf f l' st _ h hn s w0 w vs hH h1) ?_)
        rintro v w' ⟨a, st1, s', h3, hn1, h4, h5, h6⟩
        exact ih r hr _ _ k h3 hn1 s' _ w' h5 ((hE.mono h4).put h6) (fun A' st' s'' E' w'' hk1 hle => hk A' st' s'' E' w'' hk1 (h4.trans hle))
    · rename_i g hg
      split at h
      case h_1 => exact h.elim
      rename_i d b hgs
      split at h
      case h_2 =>
        obtain ⟨hs1, hs2⟩ := gslot_ok hgs
        have hEd : E d = .bool b := (hE d _ hs2).v_of
        have hsb : ∀ x : Bool, E d = .bool x → EnvOK s (setB A d x) E := fun x hx => by
          have h1 := EnvOK.put (d := some d) (a := .v (.bool x)) (v := .bool x) hE (Rel.mkv _)
          have h2 : updO E (some d) (.bool x) = E := by
            funext u
            simp only [updO, upd]
            by_cases hu : u = d
            · subst hu; rw [Nat.beq_refl, hx]; rfl
            · cases hb : Nat.beq u d with
              | false => rfl
              | true => exact absurd (Nat.eq_of_beq_eq_true hb) hu
          rw [h2] at h1
          exact h1
        cases hb : eqvB g.2 b with
        | true =>
          rw [hb] at h
          simp only [cond_true] at h
          have hbb : b = g.2 := by cases hg2 : g.2 <;> rw [hg2] at hb <;> cases b <;> first | rfl | cases hb
          have hsure : Sure ops o E := Sure.yes hg hs1 (by rw [hEd, hbb])
          have hE1 := hsb g.2 (by rw [hEd, hbb])
          unfold evOne at h
          split at h
          · rename_i ps a hop
            obtain ⟨hp, hq⟩ := obs_ok h
            obtain ⟨v, hrel, hq1⟩ := evOp_rd hS hH hE1 hop hp
            have key := (wl_rules (P := P) (w := w) (N := N) (DD := DD) (ops := ops) (Q := ⟨Nn, X, R⟩)).q (rest := r) hsure (dst_of hdst) hq1 (fun w' hw => ih r hr _ _ k hq hn s _ w' (hH.grow hw) (hE1.put hrel) hk)
            exact key w (Ext.refl _ _)
          · rename_i ps a st1 hop
            obtain ⟨hp, hq⟩ := obs_ok h
            refine made_list hsure (dst_of hdst) (evOp_wr hS hH hE1 hop hp) ?_
            rintro v w' ⟨s', h1, h2, h3⟩
            exact ih r hr _ _ k hq (suf_op hop hn).1.ne s' _ w' h2 ((hE1.mono h1).put h3) (fun A' st' s'' E' w'' hk1 hle => hk A' st' s'' E' w'' hk1 (h1.trans hle))
          · split at h
            case h_2 => exact h.elim
            rename_i f l' hc
            obtain ⟨vs, h1, h2⟩ := call_op hE1 hc
            refine WL.c hsure (dst_of hdst) (h2 w) (Fnc.mono (hcf f l' st _ h hn s w0 w vs hH h1) ?_)
            rintro v w' ⟨a, st1, s', h3, hn1, h4, h5, h6⟩
            exact ih r hr _ _ k h3 hn1 s' _ w' h5 ((hE1.mono h4).put h6) (fun A' st' s'' E' w'' hk1 hle => hk A' st' s'' E' w'' hk1 (h4.trans hle))
        | false =>
          rw [hb] at h
          simp only [cond_false] at h
          have hbb : b = !g.2 := by cases hg2 : g.2 <;> rw [hg2] at hb <;> cases b <;> first | rfl | cases hb
          have hshut : Shut ops o E := Shut.no hg hs1 hEd (by rw [hbb]; cases g.2 <;> rfl)
          exact WL.s hshut (dst_of hdst) (ih r hr _ _ k h hn s _ w hH ((hsb (!g.2) (by rw [hEd, hbb])).put (Rel.mkv undef)) hk)
      rename_i p r' ps A1 hbe hB
      cases hck : (!(dsts (ahead none (o :: r))).contains d && dstB N p.dst) with
      | false => rw [hck] at h; exact h.elim
      | true =>
      rw [hck] at h
      simp only [cond_true] at h
      simp only [Bool.and_eq_true, Bool.not_eq_true'] at hck
      obtain ⟨c2, c3⟩ := hck
      split at h
      case h_2 => exact h.elim
      rename_i a hpk
      obtain ⟨hp, hq⟩ := obs_ok h
      obtain ⟨hp1, _⟩ := guardP_ok hp
      obtain ⟨hs1, hs2⟩ := gslot_ok hgs
      have hsplit := ahead_behind none (o :: r)
      rw [hbe] at hsplit
      have hEd : E d = .bool b := (hE d _ hs2).v_of
      have c2' : d ∉ dsts (ahead none (o :: r)) := by simpa using c2
      rw [evList_drop] at hq
      generalize hBl : ahead none (o :: r) = B at *
      have hrr : r.drop B.length = r' := by
        have : (o :: r).drop (B.length + 1) = r' := by rw [hsplit, List.drop_append]; simp
        simpa using this
      rw [hrr] at hq
      have hrl : r'.length ≤ m := by rw [← hrr, List.length_drop]; omega
      have fin : ∀ E1, (∀ t, t ∉ dsts B → E1 t = E t) → (b = g.2 → EnvOK s A1 E1) → ∀ w', Ext [] w w' → WLr ro P ⟨N, DD⟩ ops ⟨Nn, X, R⟩ (p :: r') E1 w' := by
        intro E1 hag h1 w' hw
        have hk1 : EnvOK s (killA A (dsts B)) E1 := killA_env hE hag
        obtain ⟨v, hrel, hpo⟩ := pick_ok (P := P) hpk ((hag d c2').trans hEd) hk1 h1
        have hpg : p.guard = none := cxIs_ok (behind_head hbe)
        exact WL.v (Sure.none hpg) (dst_of c3) (hpo w') (ih r' hrl _ _ k hq hn s _ w' (hH.grow hw) (hk1.put hrel) hk)
      have RR := wl_rules (ro := ro) (P := P) (w := w) (N := N) (DD := DD) (ops := ops) (Q := ⟨Nn, X, R⟩)
      rw [hsplit]
      by_cases hb : b = g.2
      · exact blk_ok hS hH RR 400 (some g) [] B _ _ _ E (p :: r') hB (hp1 hb) ⟨d, hs1, c2', by rw [hEd, hb]⟩ hE (fun E1 h1 h2 => fin E1 h2 (fun _ => h1)) w (Ext.refl _ _)
      · exact blk_skip RR 400 g.1 g.2 [] B _ _ _ E (p :: r') hB ⟨d, hs1, c2', .inl (by rw [hEd, ne_not hb])⟩ (by simp) (fun E1 h1 h2 => fin E1 h2 (fun e => absurd e hb)) w (Ext.refl _ _)
end
section
variable {P : Program} {ro : Option Nat} {DD : List Deferred}
theorem reg_ok (hm : P.follows .mixedOrders = true) {S : Sums} (hS : SumsOK P Γ S) {cf : CallF} (hcf : CallOK P Γ cf) {N id : Nat} {ops : Array Oper} {d : Bool} {Nn R : Env → World → Prop} {X : Nat → Env → World → Prop} {A : AE} {st : Stt} {k : AE → Stt → Prop} (h : evReg P S cf N ops d A st k) (hn : st.h ≠ []) {s : Sg} {w0 w : World} {E : Env} (hH : Hold Γ s w0 st w) (hE : EnvOK s A E)
    (hk : ∀ A' st' s' E' w', k A' st' → s.le s' → Hold Γ s' w0 st' w' → EnvOK s' A' E' → Nn E' w') : WPr ro P ⟨N, DD⟩ (.region id ops d) ⟨Nn, X, R⟩ E w := by
  unfold evReg at h
  split at h
  · rename_i ps A' hq
    obtain ⟨hp, hq2⟩ := obs_ok h
    revert hq
    cases hdl : (d && !regOk ops) with
    | true => intro h; cases h
    | false =>
      intro hq
      refine quiet_ok hm hS hq hp (fun hd => ?_) hH hE (fun E' w' hx hE' => hk A' st s E' w' hq2 (Sg.le.refl s) (hH.grow hx) hE')
      subst hd
      simpa using hdl
  · cases d with
    | true =>
      simp only [cond_true] at h
      split at h
      · rename_i ps A' st' hd
        obtain ⟨hp, hq2⟩ := obs_ok h
        exact drawn_ok hm hS hd hp s E w hH hE (fun s' E' w' hle hH' hE' => hk A' st' s' E' w' hq2 hle hH' hE')
      · split at h
        · rename_i ps qs A' st' hd
          obtain ⟨hp, hq1⟩ := obs_ok h
          obtain ⟨hp2, hq2⟩ := obs_ok hq1
          unfold evSplit at hd
          split at hd
          · cases hd
          rename_i m hm'
          revert hd
          cases hc : (splitOk ops.toList m && regOk ((ops.toList.drop m).map (shiftO m)).toArray) with
          | false => intro hd; cases hd
          | true =>
            intro hd
            simp only [cond_true] at hd
            simp only [Bool.and_eq_true] at hc
            split at hd
            case h_2 => cases hd
            rename_i ps1 A1 st1 hd1
            split at hd
            case h_2 => cases hd
            rename_i qs1 A2 hb
            cases hd
            refine AnyWP.wp (l := ops.toList) hm (AnyWP.split hc.1 ?_)
            refine drawn_okV (ops := (ops.toList.take m).toArray) hS hd1 hp s E w hH hE fun s' E' w' hle hH' hE' => ?_
            exact quiet_okV hS hb hp2 hc.2 hH' hE' fun E2 w2 hx hE2 => hk _ _ s' E2 w2 hq2 hle (hH'.grow hx) hE2
        · split at h
          · rename_i gs ps A' st' hd
            obtain ⟨hp, hq1⟩ := obs_ok h
            obtain ⟨hp2, hq2⟩ := obs_ok hq1
            exact force_ok hm hS hd hp hp2 s E w hH hE (fun s' E' w' hle hH' hE' => hk A' st' s' E' w' hq2 hle hH' hE')
          · exact h.elim
    | false =>
      simp only [cond_false] at h
      obtain ⟨l⟩ := ops
      refine WP.region ?_
      exact evList_ok hS hcf l.length l (Nat.le_refl _) A st k h hn s E w hH hE hk
theorem loop_ok {N:Nat} {c:Code} {ev:AE → Stt → (Out → Prop) → Prop} (hev:CodeOK P Γ N c ev) (he:EvImp ev) (m:Nat):CodeOK P Γ N (.loop c) (evLoop ev m):=by
 intro ro DD A st k h hA hn s w0 E w hH hE
 refine WP.loop (σ:=Nat) (fun m E w=>∃ A st s',evLoop ev m A st k∧A ≠ []∧st.h ≠ []∧s.le s'∧Hold Γ s' w0 st w∧EnvOK s' A E) id m ⟨A,st,s,h,hA,hn,Sg.le.refl s,hH,hE⟩ ?_
 rintro m E w ⟨A,st,s',h,hA,hn,hle,hH,hE⟩
 cases m with
 | zero=>exact h.elim
 | succ m =>
  have h':=he A st _ (fun o=>SufO A st o∧(match o with | .norm A' st'=>evLoop ev m A' st' k | r=>k r)) h hA hn (fun o ho h=>⟨ho,h⟩)
  refine WP.mono (hev A st _ h' hA hn s' w0 E w hH hE) ?_ ?_ ?_
  ·rintro E' w' ⟨A',st',s2,⟨h1,h2⟩,h3,h4,h5⟩
   exact ⟨m,⟨A',st',s2,h2,h1.1.ne,h1.2.1.ne,hle.trans h3,h4,h5⟩,Nat.lt_succ_self m⟩
  ·rintro i E' w' ⟨A',st',s2,⟨_,h2⟩,h3,h4,h5⟩
   exact ⟨A',st',s2,h2,hle.trans h3,h4,h5⟩
  ·rintro E' w' ⟨A',st',s2,⟨_,h2⟩,h3,h4,h5⟩
   exact ⟨A',st',s2,h2,hle.trans h3,h4,h5⟩
theorem bif_some {b:Bool} {x:Option Ps} {qs:Ps} (h:(bif b then x else none)=some qs):b=true:=by
 cases b with
 | true=>rfl
 | false=>cases h
theorem ann_ok {N : Nat} {c : Code} {ev : AE → Stt → (Out → Prop) → Prop} (hev : CodeOK P Γ N c ev) (he : EvImp ev) (kill : List Nat) (L : LAnn) {A : AE} {st : Stt} {k : Out → Prop} (h : evAnn ev kill L A st k) (hA : A ≠ []) (hn : st.h ≠ []) {s : Sg} {w0 w : World} {E : Env} (hH : Hold Γ s w0 st w) (hE : EnvOK s A E) : WPr ro P ⟨N, DD⟩ (.loop c) (QK Γ k s w0) E w := by
  obtain ⟨g0, h⟩ := h
  split at h
  · exact h.elim
  rename_i ps hm
  cases hc : (small kill && small (elder st.nx (L.sl g0) (L.ob g0) A st)) with
  | false => rw [hc] at h; exact h.elim
  | true =>
  rw [hc] at h
  simp only [cond_true] at h
  simp only [Bool.and_eq_true] at hc
  obtain ⟨hkill, hdel⟩ := hc
  obtain ⟨hp, hi0, hbody⟩ := obs_ok h
  generalize hdl : elder st.nx (L.sl g0) (L.ob g0) A st = del at *
  have hdom := hH.dom
  have obIds : ∀ k x, st.h.get k = some x → idsX st.nx x = true ∧ k < st.nx := by
    intro k x hk
    obtain ⟨p, h1, h2⟩ := hH.obj k x hk
    refine ⟨?_, Nat.lt_of_not_le fun hl => by rw [hdom k hl] at h1; cases h1⟩
    cases x with
    | c e cs => obtain ⟨vs, _, h3⟩ := h2.cur; exact RelL.ids hdom cs vs h3
    | q e t xs => rfl
  have slIds : ∀ t a, A.get t = some a → idsA st.nx a = true := fun t a ht => Rel.ids hdom a _ (hE t a ht)
  have hstart := meets_ok (s := s) (st := st) (A := A) hm hp hH hE (Sg.le.refl s) hdom hkill hdel (fun k x _ _ hk => ⟨hk, obIds k x hk⟩) (fun t a _ _ ht => ⟨ht, slIds t a ht⟩) (fun l hl hlt => by
    rw [← hdl]
    exact List.mem_filter.2 ⟨List.mem_map.2 ⟨l, hl, rfl⟩, Nat.ble_eq_true_of_le hlt⟩)
  refine WP.loop (σ := L.β) (fun g E w => L.inv g ∧ ∃ s', s.le s' ∧ Hold Γ s' w0 (headS st del (L.ob g)) w ∧ EnvOK s' (headA A kill (L.sl g)) E) L.mu g0 ⟨hi0, hstart⟩ ?_
  rintro g E w ⟨hi, s1, hle, hH1, hE1⟩
  have h' := he _ _ _ (fun o => SufO (headA A kill (L.sl g)) (headS st del (L.ob g)) o ∧ (match o with
      | .norm A' st' => bif only A A' (kill ++ (L.sl g).map (·.1)) && only st.h st'.h ((L.ob g).map (·.1) ++ del ++ List.range' st.nx (st'.nx - st.nx)) then (∃ g' : L.β, match meets st.nx false (L.sl g') (L.ob g') A' st' with
        | none => False
        | some qs => bif eqNs ((L.sl g).map (·.1)) ((L.sl g').map (·.1)) && eqNs ((L.ob g).map (·.1)) ((L.ob g').map (·.1)) then obs qs (L.inv g' ∧ L.mu g' < L.mu g) else False) else False
      | r => k r)) (hbody g hi) (by simp [headA]) (by simp [headS]) (fun o ho h => ⟨ho, h⟩)
  refine WP.mono (hev _ _ _ h' (by simp [headA]) (by simp [headS]) s1 w0 E w hH1 hE1) ?_ ?_ ?_
  · rintro E' w' ⟨A', st', s2, ⟨hsuf, hx⟩, hle2, hH2, hE2⟩
    simp only at hx
    cases hc : (only A A' (kill ++ (L.sl g).map (·.1)) && only st.h st'.h ((L.ob g).map (·.1) ++ del ++ List.range' st.nx (st'.nx - st.nx))) with
    | false => rw [hc] at hx; exact hx.elim
    | true =>
    rw [hc] at hx
    simp only [cond_true] at hx
    simp only [Bool.and_eq_true] at hc
    obtain ⟨o1, o2⟩ := hc
    obtain ⟨g', hx⟩ := hx
    split at hx
    · exact hx.elim
    rename_i qs hm'
    cases hc : (eqNs ((L.sl g).map (·.1)) ((L.sl g').map (·.1)) && eqNs ((L.ob g).map (·.1)) ((L.ob g').map (·.1))) with
    | false => rw [hc] at hx; exact hx.elim
    | true =>
    rw [hc] at hx
    simp only [cond_true] at hx
    simp only [Bool.and_eq_true] at hc
    have e1 := eqNs_ok hc.1; have e2 := eqNs_ok hc.2
    obtain ⟨hq, hi', hmu⟩ := obs_ok hx
    have hA' := only_ok o1 hsuf.1
    have hS' := only_ok o2 hsuf.2.1
    refine ⟨g', ⟨hi', meets_ok (s := s) (st := st) (A := A) (A' := A') (st' := st') hm' hq hH2 hE2 (hle.trans hle2) hdom hkill hdel ?_ ?_ ?_⟩, hmu⟩
    · intro k x h1 h2 hk
      obtain ⟨h3, h4⟩ := obIds k x hk
      refine ⟨?_, h3, h4⟩
      rw [hS' k ?_]; exact hk
      simp only [List.mem_append, not_or]
      refine ⟨⟨by rw [e2]; exact h1, h2⟩, fun hr => ?_⟩
      have := (List.mem_range'_1.1 hr).1
      omega
    · intro t a h1 h2 ht
      refine ⟨?_, slIds t a ht⟩
      rw [hA' t ?_]; exact ht
      simp only [List.mem_append, not_or]
      exact ⟨h2, by rw [e1]; exact h1⟩
    · intro l hl hlt
      exfalso
      unfold meets at hm'
      have hb := bif_some hm'
      simp only [Bool.and_eq_true, Bool.false_or] at hb
      have := ble_t (List.all_eq_true.1 hb.1.1.2 l hl)
      omega
  · rintro i E' w' ⟨A', st', s2, ⟨_, h2⟩, h3, h4, h5⟩
    exact ⟨A', st', s2, h2, hle.trans h3, h4, h5⟩
  · rintro E' w' ⟨A', st', s2, ⟨_, h2⟩, h3, h4, h5⟩
    exact ⟨A', st', s2, h2, hle.trans h3, h4, h5⟩
theorem splice_self {vs:List Value} {k:Nat} {v:Value} (h:vs[k]?=some v):W.splice vs k [v]=vs:=by
 obtain ⟨hk,e⟩:=List.getElem?_eq_some_iff.1 h
 unfold W.splice
 have:vs.drop k=v :: vs.drop (k + 1):=by rw [List.drop_eq_getElem_cons hk,e]
 rw [List.append_assoc,List.length_singleton,List.singleton_append,← this,List.take_append_drop]
theorem nils_ok:∀ (l:List (Nat × AX)) {A:AE} {st:Stt} {x:AE × Stt} {s:Sg} {w0 w:World} {E:Env},nilsA l A st=some x → Hold Γ s w0 st w → EnvOK s A E → ∃ s',s.le s'∧Hold Γ s' w0 x.2 w∧EnvOK s' x.1 E
 | [],A,st,x,s,w0,w,E,h,hH,hE=>by
  simp only [nilsA,Option.some.injEq] at h
  subst h
  exact ⟨s,Sg.le.refl s,hH,hE⟩
 | (t,.q e dt []) :: r,A,st,x,s,w0,w,E,h,hH,hE=>by
  simp only [nilsA] at h
  split at h
  ·rename_i ht
   have hv:E t=.slice none 0 0:=by
    have:=hE t _ ht
    simpa only [Rel] using this
   have hle:=hH.le_new (⟨0,0,0⟩:Loc)
   have hrel:Rel (s.ins st.nx ⟨0,0,0⟩) (.ow st.nx 0) (E t):=by
    simp only [Rel]
    exact ⟨_,Sg.ins_same,Nat.le_refl _,Nat.le_refl _,.inr ⟨rfl,.inl hv⟩⟩
   have hE2:EnvOK (s.ins st.nx ⟨0,0,0⟩) (putA A (some t) (.ow st.nx 0)) E:=by
    have:=(hE.mono hle).put (d:=some t) hrel
    have e:updO E (some t) (E t)=E:=by
     funext u
     simp only [updO,upd]
     cases hb:Nat.beq u t with
     | true=>rw [cond_true,beq_t hb]
     | false=>rfl
    rwa [e] at this
   obtain ⟨s',h1,h2,h3⟩:=nils_ok r h (hH.absent (e:=e) (dt:=dt)) hE2
   exact ⟨s',hle.trans h1,h2,h3⟩
  ·rename_i l k _
   split at h
   ·rename_i et cs hl
    split at h
    case h_2=>cases h
    rename_i hck
    cases hb:(Nat.blt l st.nx && Nat.blt st.nx 1000000) with
    | false=>rw [hb] at h; cases h
    | true =>
     rw [hb] at h
     simp only [cond_true] at h
     simp only [Bool.and_eq_true,Nat.blt_eq] at hb
     have hle:=hH.le_new (⟨0,0,0⟩:Loc)
     have hH1:=hH.absent (e:=e) (dt:=dt)
     obtain ⟨p,hp,hok⟩:=hH.obj l _ hl
     have hp1:(s.ins st.nx ⟨0,0,0⟩).f l=some p:=hle.f l p hp
     have hl1:(newX st (.q e dt [])).h.get l=some (.c et cs):=by
      rw [newX]; exact (Ly.get_set_ne (by omega)).trans hl
     obtain ⟨vs,hv1,hrl⟩:=hok.cur
     obtain ⟨v,hvk,hv⟩:=hrl.get hck
     have hv':v=.slice none 0 0:=by simpa only [Rel] using hv
     have hat:ObjAt (s.ins st.nx ⟨0,0,0⟩) w p (.c et (spliceA cs k [.ow st.nx 0])):=by
      refine ⟨vs,hv1,?_⟩
      have hone:RelL (s.ins st.nx ⟨0,0,0⟩) [.ow st.nx 0] [v]:=RelL.cons (by simp only [Rel]; exact ⟨_,Sg.ins_same,Nat.le_refl _,Nat.le_refl _,.inr ⟨rfl,.inl hv'⟩⟩) RelL.nil
      have:=RelL.splice (RelL.mono hle _ _ hrl) hone k
      rwa [splice_self hvk] at this
     have hH2:=hH1.turn hl1 hp1 (o':=.c et (spliceA cs k [.ow st.nx 0])) trivial (fun _=>rfl) ((Ext.refl [] w).mono (by simp)) hat
     obtain ⟨s',h1,h2,h3⟩:=nils_ok r h hH2 (hE.mono hle)
     exact ⟨s',hle.trans h1,h2,h3⟩
   ·cases h
  ·cases h
 | (t,.q e dt (_ :: _)) :: r,A,st,x,s,w0,w,E,h,hH,hE=>by simp only [nilsA] at h; cases h
 | (t,.c e cs) :: r,A,st,x,s,w0,w,E,h,hH,hE=>by
  simp only [nilsA] at h
  split at h
  case h_2=>cases h
  rename_i et cs0 hl
  split at h
  case h_2=>cases h
  rename_i cs' st' hf
  split at h
  case h_2=>cases h
  rename_i y hy
  obtain ⟨p,hp,hok⟩:=hH.obj t _ hl
  obtain ⟨vs,hv1,hrl⟩:=hok.cur
  obtain ⟨s1,k1,k2,k3,k4⟩:=freezeL_ok' hH hf hrl
  have hy':=k4.sub t y hy
  rw [hl] at hy'
  cases hy'
  have hp1:s1.f t=some p:=k1.f t p hp
  have hH2:=k2.turn hy hp1 (o':=.c et cs') trivial (fun _=>rfl) ((Ext.refl [] w).mono (by simp)) ⟨vs,hv1,k3⟩
  obtain ⟨s',h1,h2,h3⟩:=nils_ok r h hH2 (hE.mono k1)
  exact ⟨s',k1.trans h1,h2,h3⟩
theorem evNils_ok {N:Nat} {c:Code} {o:Option (AE → Stt → LAnn)} {A:AE} {st:Stt} {go:AE → Stt → Prop} {k:Out → Prop} {s:Sg} {w0 w:World} {E:Env} (h:evNils o A st go) (hA:A ≠ []) (hn:st.h ≠ []) (hH:Hold Γ s w0 st w) (hE:EnvOK s A E) (hk:∀ A' st' s',go A' st' → A' ≠ [] → st'.h ≠ [] → Hold Γ s' w0 st' w → EnvOK s' A' E → WPr ro P ⟨N,DD⟩ c (QK Γ k s' w0) E w):WPr ro P ⟨N,DD⟩ c (QK Γ k s w0) E w:=by
 unfold evNils at h
 split at h
 ·exact hk A st s h hA hn hH hE
 ·obtain ⟨g,h⟩:=h
  split at h
  ·rename_i x hx
   obtain ⟨a1,a2⟩:=nils_suf _ hx hA hn
   obtain ⟨s',b1,b2,b3⟩:=nils_ok _ hx hH hE
   refine WP.mono (hk _ _ s' h a1.ne a2.1.ne b2 b3) ?_ ?_ ?_
   ·rintro E' w' ⟨A',st',s2,h2,h3,h4,h5⟩; exact ⟨A',st',s2,h2,b1.trans h3,h4,h5⟩
   ·rintro i E' w' ⟨A',st',s2,h2,h3,h4,h5⟩; exact ⟨A',st',s2,h2,b1.trans h3,h4,h5⟩
   ·rintro E' w' ⟨A',st',s2,h2,h3,h4,h5⟩; exact ⟨A',st',s2,h2,b1.trans h3,h4,h5⟩
  ·exact h.elim
theorem cut_ok {N : Nat} {c1 c2 : Code} {eva evb : AE → Stt → (Out → Prop) → Prop} (ha : CodeOK P Γ N c1 eva) (hea : EvImp eva) (hb : CodeOK P Γ N c2 evb) (kill : List Nat) (L : LAnn) {A : AE} {st : Stt} {k : Out → Prop} (h : evCut eva evb kill L A st k) (hA : A ≠ []) (hn : st.h ≠ []) {s : Sg} {w0 w : World} {E : Env} (hH : Hold Γ s w0 st w) (hE : EnvOK s A E) : WPr ro P ⟨N, DD⟩ (.seq c1 c2) (QK Γ k s w0) E w := by
  obtain ⟨h1, h2⟩ := h
  have hdom := hH.dom
  have obIds : ∀ k x, st.h.get k = some x → idsX st.nx x = true ∧ k < st.nx := by
    intro k x hk
    obtain ⟨p, h1, h2⟩ := hH.obj k x hk
    refine ⟨?_, Nat.lt_of_not_le fun hl => by rw [hdom k hl] at h1; cases h1⟩
    cases x with
    | c e cs => obtain ⟨vs, _, h3⟩ := h2.cur; exact RelL.ids hdom cs vs h3
    | q e t xs => rfl
  have slIds : ∀ t a, A.get t = some a → idsA st.nx a = true := fun t a ht => Rel.ids hdom a _ (hE t a ht)
  have hm0 : meets st.nx true [] [] A st = some [] := rfl
  obtain ⟨s1, hle1, hH1, hE1⟩ := meets_ok (s := s) (st := st) (A := A) (kill := []) (del := []) hm0 (by simp) hH hE (Sg.le.refl s) hdom rfl rfl (fun k x _ _ hk => ⟨hk, obIds k x hk⟩) (fun t a _ _ ht => ⟨ht, slIds t a ht⟩) (fun l hl => by simp [news] at hl)
  have h1' := hea _ _ _ (fun o => SufO (.nil :: .nil :: A) ⟨.nil :: .nil :: st.h, st.nx⟩ o ∧ (match o with
      | .norm A' st' => ∃ g : L.β, match meets st.nx true (L.sl g) (L.ob g) A' st' with
        | none => False
        | some ps => bif small kill && small (elder st.nx (L.sl g) (L.ob g) A st) && only A A' (kill ++ (L.sl g).map (·.1)) && only st.h st'.h ((L.ob g).map (·.1) ++ elder st.nx (L.sl g) (L.ob g) A st ++ List.range' st.nx (st'.nx - st.nx)) && (elder st.nx (L.sl g) (L.ob g) A' st').all (fun l => (elder st.nx (L.sl g) (L.ob g) A st).contains l) then obs ps (L.inv g) else False
      | r => k r)) h1 (by simp) (by simp) (fun o ho h => ⟨ho, h⟩)
  refine WP.seq (WP.mono (ha _ _ _ h1' (by simp) (by simp) s1 w0 E w hH1 hE1) ?_ ?_ ?_)
  · rintro E' w' ⟨A', st', s2, ⟨hsuf, g, hx⟩, hle2, hH2, hE2⟩
    split at hx
    · exact hx.elim
    rename_i qs hm
    cases hc : (small kill && small (elder st.nx (L.sl g) (L.ob g) A st) && only A A' (kill ++ (L.sl g).map (·.1)) && only st.h st'.h ((L.ob g).map (·.1) ++ elder st.nx (L.sl g) (L.ob g) A st ++ List.range' st.nx (st'.nx - st.nx)) && (elder st.nx (L.sl g) (L.ob g) A' st').all (fun l => (elder st.nx (L.sl g) (L.ob g) A st).contains l)) with
    | false => rw [hc] at hx; exact hx.elim
    | true =>
    rw [hc] at hx
    simp only [cond_true] at hx
    simp only [Bool.and_eq_true] at hc
    obtain ⟨⟨⟨⟨hkill, hdel⟩, o1⟩, o2⟩, o3⟩ := hc
    obtain ⟨hq, hi⟩ := obs_ok hx
    have hA' := only_ok o1 hsuf.1
    have hS' := only_ok o2 hsuf.2.1
    obtain ⟨s3, hle3, hH3, hE3⟩ := meets_ok (s := s) (st := st) (A := A) (A' := A') (st' := st') (kill := kill) (del := elder st.nx (L.sl g) (L.ob g) A st) hm hq hH2 hE2 (hle1.trans hle2) hdom hkill hdel (by
      intro k x h1 h2 hk
      obtain ⟨h3, h4⟩ := obIds k x hk
      refine ⟨?_, h3, h4⟩
      rw [hS' k ?_]; exact hk
      simp only [List.mem_append, not_or]
      refine ⟨⟨h1, h2⟩, fun hr => ?_⟩
      have := (List.mem_range'_1.1 hr).1
      omega) (by
      intro t a h1 h2 ht
      refine ⟨?_, slIds t a ht⟩
      rw [hA' t ?_]; exact ht
      simp only [List.mem_append, not_or]
      exact ⟨h2, h1⟩) (by
      intro l hl hlt
      have := List.all_eq_true.1 o3 _ (List.mem_filter.2 ⟨List.mem_map.2 ⟨l, hl, rfl⟩, Nat.ble_eq_true_of_le hlt⟩)
      simpa using this)
    refine WP.mono (hb _ _ _ (h2 g hi) (by simp [headA]) (by simp [headS]) s3 w0 E' w' hH3 hE3) ?_ ?_ ?_
    · rintro E2 w2 ⟨A2, st2, s2, g1, g2, g3, g4⟩; exact ⟨A2, st2, s2, g1, hle3.trans g2, g3, g4⟩
    · rintro i E2 w2 ⟨A2, st2, s2, g1, g2, g3, g4⟩; exact ⟨A2, st2, s2, g1, hle3.trans g2, g3, g4⟩
    · rintro E2 w2 ⟨A2, st2, s2, g1, g2, g3, g4⟩; exact ⟨A2, st2, s2, g1, hle3.trans g2, g3, g4⟩
  · rintro i E' w' ⟨A', st', s', ⟨_, h1⟩, h2, h3, h4⟩; exact ⟨A', st', s', h1, hle1.trans h2, h3, h4⟩
  · rintro E' w' ⟨A', st', s', ⟨_, h1⟩, h2, h3, h4⟩; exact ⟨A', st', s', h1, hle1.trans h2, h3, h4⟩
theorem loadVar_ok {s:Sg} {w0 w:World} {st:Stt} {t:TypeId} {v:Value} {a p:AV} (hH:Hold Γ s w0 st w) (hp:Rel s p v) (h:evRead P st t p=some a):∃ b k u,v=.pointer (some ⟨b,k,none⟩)∧(loadVar t ⟨b,k,none⟩).run P w=.ok u w∧Rel s a u:=by
 cases p with
 | ptr l k =>
  simp only [evRead] at h
  split at h
  case h_2=>cases h
  rename_i et cs hl
  obtain ⟨q,h1,h2⟩:=hH.obj l _ hl
  obtain ⟨vs,h3,h4⟩:=h2.cur
  simp only [Rel] at hp
  obtain ⟨q',h5,he⟩:=hp
  rw [h1] at h5; cases h5
  have hbox:Box w q.b et vs:=h3
  rcases part_ok h h4 with ⟨u,hpl,hv,hrel⟩ | ⟨sz,us,hpl,hle,hus,hlen,hrel⟩
  ·exact ⟨q.b,k,u,he,run_loadVar_one hpl (hbox.cell hv),hrel⟩
  ·refine ⟨q.b,k,_,he,run_loadVar_agg hpl ?_ hlen,hrel⟩
   have:=At.seg hbox k sz
   rw [hus] at this; exact this
 | pd m dt d =>
  simp only [evRead] at h
  simp only [Rel] at hp
  obtain ⟨b,k,cs,he,hf,hrd⟩:=hp
  have hat:=hf.at (hH.H m)
  unfold readD at h
  split at h
  ·rename_i u sz hu hsz
   cases hc:(Nat.beq sz dt.sz && (dt.isT == isAggD u)) with
   | false=>rw [hc] at h; cases h
   | true =>
    rw [hc] at h
    cases h
    simp only [Bool.and_eq_true,beq_iff_eq] at hc
    have hlen:=Rd.len _ _ _ hrd
    rcases oneD_ok hrd with ⟨fs,rfl,hrel⟩ | ⟨hne,v,rfl,hrel⟩
    ·exact ⟨b,k,_,he,run_loadVar_agg (aggr_of hu hc.2.symm (szOf_sized hsz)) hat (by rw [hlen]; exact (beq_t hc.1).symm),hrel⟩
    ·refine ⟨b,k,v,he,run_loadVar_one (plain_of hu ?_) (by have:=hat 0 v rfl; simpa using this),hrel⟩
     have h2:=hc.2.symm
     cases dt with
     | t fs=>exact absurd rfl (hne fs)
     | _=>simpa [DT.isT] using h2
  ·cases h
 | _=>simp [evRead] at h
theorem resA_ok {s:Sg} {w0 w:World} {st:Stt} {A:AE} {tmps:Array Value} {r:ResultVar} {a:AV} (hH:Hold Γ s w0 st w) (hE:EnvOK s A (fun t=>tmps.getD t undef)) (h:resA P A st r=some a):∃ v,(readVar tmps r).run P w=.ok v w∧Rel s a v:=by
 cases r with
 | tmp t=>exact ⟨_,rfl,hE t a h⟩
 | cell x t =>
  simp only [resA] at h
  split at h
  ·rename_i p hp
   obtain ⟨b,k,u,h1,h2,h3⟩:=loadVar_ok hH (hE x p hp) h
   refine ⟨u,?_,h3⟩
   simp only [readVar,h1,asAddr,Sem.run_bind,Sem.run_pure,Result.andThen_ok,h2]
  ·cases h
theorem resAs_ok {s:Sg} {w0 w:World} {st:Stt} {A:AE} {tmps:Array Value} (hH:Hold Γ s w0 st w) (hE:EnvOK s A (fun t=>tmps.getD t undef)):∀ (rs:List ResultVar) (as':List AV),resAs P A st rs=some as' → ∃ vs,(rs.mapM (readVar tmps)).run P w=.ok vs w∧RelL s as' vs
 | [],as',h=>by simp only [resAs,Option.some.injEq] at h; subst h; exact ⟨[],by simp,RelL.nil⟩
 | r :: rs,as',h=>by
  simp only [resAs] at h
  split at h
  ·rename_i a ha
   split at h
   ·rename_i as2 h2
    cases h
    obtain ⟨v,h3,h4⟩:=resA_ok hH hE ha
    obtain ⟨vs,h5,h6⟩:=resAs_ok hH hE rs as2 h2
    exact ⟨v :: vs,by simp only [List.mapM_cons,Sem.run_bind,Sem.run_pure,Result.andThen_ok,h3,h5],RelL.cons h4 h6⟩
   ·cases h
  ·cases h
theorem results_ok {s : Sg} {w0 w : World} {st : Stt} {A : AE} {tmps : Array Value} {fn : Func} {as' : List AV} (hH : Hold Γ s w0 st w) (hE : EnvOK s A (fun t => tmps.getD t undef)) (h : resAs P A st fn.results.toList = some as') :
    ∃ vs, (results fn tmps).run P w = .ok (tupV vs) w ∧ RelL s as' vs := by
  obtain ⟨vs, h1, h2⟩ := resAs_ok hH hE _ _ h
  refine ⟨vs, ?_, h2⟩
  rw [results_eq]
  have e : fn.results.mapM (readVar tmps) = List.toArray <$> fn.results.toList.mapM (readVar tmps) := by
    obtain ⟨rs⟩ := fn.results
    simp
  rw [e]
  simp only [Sem.run_bind, Sem.run_map, Sem.run_pure, Result.andThen_ok, h1]
  congr 1
  match vs with
  | [] => rfl
  | [v] => rfl
  | v :: u :: r => simp [tupV]
theorem argsA_get:∀ (l:List AV) (k t:Nat) (a:AV),(argsA l k).get t=some a → k ≤ t∧l[t - k]?=some a
 | [],k,t,a,h=>by
  simp only [argsA,Ly.get,Ly.go,Tr.get] at h
  cases hb:Nat.blt t 1000000 <;> rw [hb] at h <;> cases h
 | x :: r,k,t,a,h=>by
  simp only [argsA] at h
  rcases Ly.get_set h with ⟨rfl,e⟩ | ⟨_,e⟩
  ·cases e; exact ⟨Nat.le_refl _,by simp⟩
  ·obtain ⟨h1,h2⟩:=argsA_get r (k + 1) t a e
   refine ⟨by omega,?_⟩
   rw [show t - k=(t - (k + 1)) + 1 from by omega]
   simpa using h2
theorem argsA_ne:∀ (l:List AV) (i:Nat),argsA l i ≠ []
 | [],i=>by simp [argsA]
 | a :: r,i=>((Suf.refl (argsA_ne r (i + 1))).set i (some a)).ne
theorem inl_ok {ev:FuncId → Nat → Code → AE → Stt → (Out → Prop) → Prop} (hev:∀ f N c,CodeOK P Γ N c (ev f N c)) (he:∀ f N c,EvImp (ev f N c)):CallOK P Γ (callInl P ev):=by
 intro f l st k h hn s w0 w vs hH hr
 have h:=inl_imp he f l st k (fun a st'=>k a st'∧st'.h ≠ []) h hn (fun a st' hs h=>⟨h,hs.1.ne⟩)
 unfold callInl at h
 split at h
 ·exact h.elim
 rename_i fn hf
 cases hb0:Nat.blt fn.ntmps l.length with
 | true=>rw [hb0] at h; exact h.elim
 | false =>
 rw [hb0] at h
 simp only [cond_false] at h
 have hlen:vs.length ≤ fn.ntmps:=by
  rw [← hr.len]
  rcases Nat.lt_or_ge fn.ntmps l.length with h1 | h1
  ·have:Nat.blt fn.ntmps l.length=true:=Nat.ble_eq_true_of_le h1
   rw [this] at hb0; cases hb0
  ·exact h1
 split at h
 ·exact h.elim
 rename_i c hb
 refine Fnc.of_WP hf hb rfl (by simpa using hlen) (fun E hE=>?_)
 have hEnv:EnvOK s (argsA l 0) E:=by
  intro t a ht
  obtain ⟨_,h2⟩:=argsA_get l 0 t a ht
  obtain ⟨v,h3,h4⟩:=hr.get h2
  have h3':vs[t]?=some v:=h3
  have hlt:t < vs.length:=(List.getElem?_eq_some_iff.1 h3').1
  rw [hE t (by simpa using hlt)]
  have:vs.toArray.getD t undef=v:=by
   rw [List.getElem?_eq_getElem hlt] at h3'
   simpa [Array.getD,hlt] using h3'
  rw [this]; exact h4
 have fin:∀ A' st' s' E' w',retA P fn A' st' (fun a st'=>k a st'∧st'.h ≠ []) → s.le s' → Hold Γ s' w0 st' w' → EnvOK s' A' E' → resOf fn P E' w' fun v w''=>∃ a st' s',k a st'∧st'.h ≠ []∧s.le s'∧Hold Γ s' w0 st' w''∧Rel s' a v:=by
  intro A' st' s' E' w' hret hle hH' hE' tmps _ he
  subst he
  unfold retA at hret
  split at hret
  ·rename_i as' has
   obtain ⟨us,h1,h2⟩:=results_ok hH' hE' has
   exact ⟨_,h1,_,st',s',hret.1,hret.2,hle,hH',tup1_rel h2⟩
  ·exact hret.elim
 refine WP.mono (hev f _ c _ _ _ h (argsA_ne l 0) hn s w0 E w hH hEnv) ?_ ?_ ?_
 ·rintro E' w' ⟨A',st',s',h1,h2,h3,h4⟩
  exact fin A' st' s' E' w' h1 h2 h3 h4
 ·rintro i E' w' ⟨A',st',s',h1,_⟩
  exact h1
 ·rintro E' w' ⟨A',st',s',h1,h2,h3,h4⟩
  exact fin A' st' s' E' w' h1 h2 h3 h4
theorem code_ok (hm:P.follows .mixedOrders=true) {S:Sums} (hS:SumsOK P Γ S) {an:Anns}:∀ (n:Nat) (f:FuncId) (N:Nat) (c:Code),CodeOK P Γ N c (evCode P S an n f N c)
 | 0,_,_,_=>fun _ _ _ h=>by simp only [evCode] at h
 | n + 1,f,N,c=>by
  intro A st k h hA hn s w0 E w hH hE
  have ih:=code_ok hm hS (an:=an) n
  have im:=code_imp (P:=P) (S:=S) (an:=an) n
  unfold evCode at h
  split at h
  ·exact WP.skip ⟨A,st,s,h,Sg.le.refl s,hH,hE⟩
  ·exact WP.label ⟨A,st,s,h,Sg.le.refl s,hH,hE⟩
  ·exact reg_ok hm hS (inl_ok ih im) h hn hH hE fun A' st' s' E' w' h1 h2 h3 h4=>⟨A',st',s',h1,h2,h3,h4⟩
  ·rename_i x y
   refine evNils_ok h hA hn hH hE fun A st s h hA hn hH hE=>?_
   split at h
   ·exact cut_ok (ih f N x) (im f N x) (ih f N y) _ _ h hA hn hH hE
   ·have h':=im f N x A st _ (fun o=>SufO A st o∧(match o with | .norm A' st'=>evCode P S an n f N y A' st' k | r=>k r)) h hA hn (fun o ho h=>⟨ho,h⟩)
    refine WP.seq (WP.mono (ih f N x A st _ h' hA hn s w0 E w hH hE) ?_ ?_ ?_)
    ·rintro E' w' ⟨A',st',s',⟨h0,h1⟩,h2,h3,h4⟩
     refine WP.mono (ih f N y A' st' k h1 h0.1.ne h0.2.1.ne s' w0 E' w' h3 h4) ?_ ?_ ?_
     ·rintro E2 w2 ⟨A2,st2,s2,g1,g2,g3,g4⟩; exact ⟨A2,st2,s2,g1,h2.trans g2,g3,g4⟩
     ·rintro i E2 w2 ⟨A2,st2,s2,g1,g2,g3,g4⟩; exact ⟨A2,st2,s2,g1,h2.trans g2,g3,g4⟩
     ·rintro E2 w2 ⟨A2,st2,s2,g1,g2,g3,g4⟩; exact ⟨A2,st2,s2,g1,h2.trans g2,g3,g4⟩
    ·rintro i E' w' ⟨A',st',s',⟨_,h1⟩,h2,h3,h4⟩; exact ⟨A',st',s',h1,h2,h3,h4⟩
    ·rintro E' w' ⟨A',st',s',⟨_,h1⟩,h2,h3,h4⟩; exact ⟨A',st',s',h1,h2,h3,h4⟩
  ·rename_i x a b
   split at h
   ·rename_i t ht
    have hv:=opd_v ht hE
    cases t with
    | true=>exact WP.cond_true hv (ih f N a A st k h hA hn s w0 E w hH hE)
    | false=>exact WP.cond_false hv (ih f N b A st k h hA hn s w0 E w hH hE)
   ·exact h.elim
  ·rename_i id b
   refine WP.block (WP.mono (ih f N b A st _ h hA hn s w0 E w hH hE) ?_ ?_ ?_)
   ·rintro E' w' ⟨A',st',s',h1,h2,h3,h4⟩; exact ⟨A',st',s',h1,h2,h3,h4⟩
   ·rintro i E' w' ⟨A',st',s',h1,h2,h3,h4⟩
    simp only at h1 ⊢
    revert h1
    cases Nat.beq i id with
    | true=>intro h1; exact ⟨A',st',s',h1,h2,h3,h4⟩
    | false=>intro h1; exact ⟨A',st',s',h1,h2,h3,h4⟩
   ·rintro E' w' ⟨A',st',s',h1,h2,h3,h4⟩; exact ⟨A',st',s',h1,h2,h3,h4⟩
  ·rename_i b
   split at h
   ·exact evNils_ok h hA hn hH hE fun A' st' s' h hA hn hH hE=>ann_ok (ih f N b) (im f N b) _ _ h hA hn hH hE
   ·exact loop_ok (ih f N b) (im f N b) n A st k h hA hn s w0 E w hH hE
  ·exact WP.exit ⟨A,st,s,h,Sg.le.refl s,hH,hE⟩
  ·exact WP.ret ⟨A,st,s,h,Sg.le.refl s,hH,hE⟩
  ·exact WP.scope (ih f N _ A st k h hA hn s w0 E w hH hE)
  ·exact h.elim
end
end Go.Proofs.YtplflgclomiihaaGreat.Sv
namespace Go.Proofs.YtplflgclomiihaaGreat.Sv
open Go.RowKit Go.Proofs.YtplflgclomiihaaGreat.W
variable {Γ : Gl}
mutual
theorem eqD_ok {F:Fz}:∀ (t:DT) (d e:D) (cs:List Value),(∀ p ∈ eqD t d e,p) → Rd F t d cs → Rd F t e cs
 | .i _,d,e,cs,hp,h=>by simp only [Rd] at h ⊢; rw [← hp (d.int=e.int) (by simp [eqD])]; exact h
 | .b,d,e,cs,hp,h=>by simp only [Rd] at h ⊢; rw [← hp (d.bool=e.bool) (by simp [eqD])]; exact h
 | .s,d,e,cs,hp,h=>by simp only [Rd] at h ⊢; rw [← hp (d.str=e.str) (by simp [eqD])]; exact h
 | .l _,d,e,cs,hp,h=>by simp only [Rd] at h ⊢; rw [← hp (d.list=e.list) (by simp [eqD])]; exact h
 | .t fs,d,e,cs,hp,h=>by simp only [Rd] at h ⊢; exact eqDs_ok fs d.tup e.tup cs (by simpa only [eqD] using hp) h
theorem eqDs_ok {F:Fz}:∀ (ts:List DT) (ds es:List D) (cs:List Value),(∀ p ∈ eqDs ts ds es,p) → Rds F ts ds cs → Rds F ts es cs
 | [],_,_,_,_,h=>by simpa only [Rds] using h
 | t :: r,ds,es,cs,hp,h=>by
  simp only [eqDs] at hp
  simp only [Rds] at h ⊢
  obtain ⟨us,vs,h1,h2,h3⟩:=h
  exact ⟨us,vs,h1,eqD_ok t _ _ us (fun p hpp=>hp p (List.mem_append_left _ hpp)) h2,eqDs_ok r _ _ vs (fun p hpp=>hp p (List.mem_append_right _ hpp)) h3⟩
end
theorem OwnRd.mono {G G':Fz} {w:World} {et:TypeId} {t:DT} {xs:List D} {v:Value} {os:List Nat} (k:Sub G G') (h:OwnRd G w et t xs v os):OwnRd G' w et t xs v os:=by
 rcases h with h | ⟨p,h1,h2,h3,h4⟩
 ·exact .inl h
 ·refine .inr ⟨p,h1,h2,h3,?_⟩
  obtain ⟨a1,a2,a3,a4⟩:=h4
  refine ⟨a1,a2,a3,fun hc=>?_⟩
  obtain ⟨cur,b1,b2,b3,b4⟩:=a4 hc
  exact ⟨cur,b1,b2,b3,fun i x hi=>Rd.mono k t x _ (b4 i x hi)⟩
mutual
theorem RkRd.mono {G G':Fz} {w:World} (k:Sub G G'):∀ (r:RK) (d:D) (cs:List Value) (os:List Nat),RkRd G w r d cs os → RkRd G' w r d cs os
 | .d t,d,cs,os,h=>by simp only [RkRd] at h ⊢; exact ⟨h.1,Rd.mono k t d cs h.2⟩
 | .own et t,d,cs,os,h=>by simp only [RkRd] at h ⊢; obtain ⟨v,h1,h2⟩:=h; exact ⟨v,h1,h2.mono k⟩
 | .agg ks,d,cs,os,h=>by simp only [RkRd] at h ⊢; exact RkRds.mono k ks d.tup cs os h
 | .any,d,cs,os,h=>by simpa only [RkRd] using h
 | .er,d,cs,os,h=>by simpa only [RkRd] using h
theorem RkRds.mono {G G':Fz} {w:World} (k:Sub G G'):∀ (rs:List RK) (ds:List D) (cs:List Value) (os:List Nat),RkRds G w rs ds cs os → RkRds G' w rs ds cs os
 | [],_,_,_,h=>by simpa only [RkRds] using h
 | r :: rs,ds,cs,os,h=>by
  simp only [RkRds] at h ⊢
  obtain ⟨c1,c2,o1,o2,h1,h2,h3,h4⟩:=h
  exact ⟨c1,c2,o1,o2,h1,h2,RkRd.mono k r _ c1 o1 h3,RkRds.mono k rs _ c2 o2 h4⟩
end
theorem BoxesRd.mono {G G':Fz} {w:World} (k:Sub G G'):∀ (ks:List AK) (es:List D) (bs:List Nat),BoxesRd G w ks es bs → BoxesRd G' w ks es bs
 | [],_,_,_=>trivial
 | .d _ _ :: r,es,bs,h=>BoxesRd.mono k r es bs h
 | .p _ :: r,es,bs,h=>BoxesRd.mono k r es bs h
 | .o _ _ _ :: _,_,_,h=>h.elim
 | .box et ts :: r,es,bs,h=>by
  obtain ⟨b,bs',h1,⟨cs,h2,h3⟩,h4⟩:=h
  exact ⟨b,bs',h1,⟨cs,h2,Rds.mono k ts _ cs h3⟩,BoxesRd.mono k r _ bs' h4⟩
mutual
theorem rk_one {G:Fz} {w:World}:∀ (k:RK) (d:D) (cs:List Value) (os:List Nat),RkRd G w k d cs os → ∀ u ∈ cs,u.oneCell'=true
 | .d t,d,cs,os,h=>by simp only [RkRd] at h; exact Rd.one t d cs h.2
 | .own et t,d,cs,os,h=>by
  simp only [RkRd] at h
  obtain ⟨v,rfl,hown⟩:=h
  intro x hx
  simp only [List.mem_singleton] at hx
  subst hx
  rcases hown with ⟨hz,_⟩ | ⟨p,rfl,_⟩
  ·exact hz.one
  ·rfl
 | .agg ks,d,cs,os,h=>by simp only [RkRd] at h; exact rks_one ks d.tup cs os h
 | .any,d,cs,os,h=>by
  simp only [RkRd] at h
  obtain ⟨_,v,rfl,hv⟩:=h
  intro x hx
  simp only [List.mem_singleton] at hx
  subst hx
  exact hv
 | .er,d,cs,os,h=>by
  simp only [RkRd] at h
  obtain ⟨_,v,rfl,hv⟩:=h
  intro x hx
  simp only [List.mem_singleton] at hx
  subst hx
  rcases hv with ⟨_,rfl⟩ | ⟨_,u,p,rfl⟩ <;> rfl
theorem rks_one {G:Fz} {w:World}:∀ (ks:List RK) (ds:List D) (cs:List Value) (os:List Nat),RkRds G w ks ds cs os → ∀ u ∈ cs,u.oneCell'=true
 | [],_,_,_,h=>by simp only [RkRds] at h; rw [h.1]; simp
 | k :: ks,ds,cs,os,h=>by
  simp only [RkRds] at h
  obtain ⟨c1,c2,o1,o2,rfl,_,h1,h2⟩:=h
  intro u hu
  rcases List.mem_append.1 hu with hu | hu
  ·exact rk_one k _ c1 o1 h1 u hu
  ·exact rks_one ks _ c2 o2 h2 u hu
end
structure RetOK (Γ:Gl) (s:Sg) (st:Stt) (w0 w:World) (s':Sg) (st':Stt) (os:List Nat):Prop where
 le:s.le s'
 hold:Hold Γ s' w0 st' w
 frz:FrzRel s st s' st'
 nd:os.Nodup
 live:∀ b ∈ os,∃ l o p,st.h.get l=some o∧s.f l=some p∧there o p∧p.b=b
 new:∀ b ∈ os,w0.heap.size ≤ b∧s'.F b=none
 apart:∀ l o p,st'.h.get l=some o → s'.f l=some p → there o p → p.b ∉ os
theorem RetOK.comp {s s1 s2:Sg} {st st1 st2:Stt} {w0 w:World} {o1 o2:List Nat} (h:RetOK Γ s st w0 w s1 st1 o1) (k:RetOK Γ s1 st1 w0 w s2 st2 o2):RetOK Γ s st w0 w s2 st2 (o1 ++ o2) where
 le:=h.le.trans k.le
 hold:=k.hold
 frz:=h.frz.trans k.frz
 nd:=by
  refine List.nodup_append.2 ⟨h.nd,k.nd,fun a ha b hb e=>?_⟩
  subst e
  obtain ⟨l,o,p,h1,h2,h3,h4⟩:=k.live a hb
  exact h.apart l o p h1 h2 h3 (h4 ▸ ha)
 live:=by
  intro b hb
  rcases List.mem_append.1 hb with hb | hb
  ·exact h.live b hb
  ·obtain ⟨l,o,p,h1,h2,h3⟩:=k.live b hb
   exact ⟨l,o,p,h.frz.sub l o h1,by rw [← h.frz.f]; exact h2,h3⟩
 new:=by
  intro b hb
  rcases List.mem_append.1 hb with hb | hb
  ·obtain ⟨h1,h2⟩:=h.new b hb
   exact ⟨h1,k.frz.F b h2 fun l o p g1 g2 g3 e=>h.apart l o p g1 g2 g3 (e ▸ hb)⟩
  ·exact k.new b hb
 apart:=by
  intro l o p h1 h2 h3 hb
  rcases List.mem_append.1 hb with hb | hb
  ·exact h.apart l o p (k.frz.sub l o h1) (by rw [← k.frz.f]; exact h2) h3 hb
  ·exact k.apart l o p h1 h2 h3 hb
theorem RetOK.of_frz {s s':Sg} {st st':Stt} {w0 w:World} (h1:s.le s') (h2:Hold Γ s' w0 st' w) (h3:FrzRel s st s' st'):RetOK Γ s st w0 w s' st' [] :=
 ⟨h1,h2,h3,List.nodup_nil,by simp,by simp,by simp⟩
section
variable {P : Program} {w0 w : World}
theorem own_ret {s : Sg} {st : Stt} (hH : Hold Γ s w0 st w) {l n c : Nat} {et : TypeId} {t : DT} {xs : List D} {p : Loc} {v : Value} {e : D} (hl : st.h.get l = some (.q et t xs)) (hp : s.f l = some p) (hn : n ≤ p.m) (hc : n ≤ c ∧ c ≤ p.c) (hv : v = .slice (some ⟨p.b, 0, none⟩) n c ∨ (p.c = 0 ∧ ZV v)) (he : xs.take n = e.list) :
    ∃ os, RetOK Γ s st w0 w s (delX st l) os ∧ OwnRd s.G w et t e.list v os := by
  obtain ⟨p', hp', g1, g2, g3, g4⟩ := hH.row hl
  rw [hp] at hp'; cases hp'
  have hlen : (xs.take n).length = n := by rw [List.length_take]; omega
  have hbase : FrzRel s st s (delX st l) := ⟨rfl, fun k x hk => (delX_key hk).2, fun _ h _ => h⟩
  by_cases hcz : c = 0
  · refine ⟨[], RetOK.of_frz (Sg.le.refl s) (hH.del l) hbase, .inl ⟨?_, ?_, rfl⟩⟩
    · rcases hv with rfl | ⟨_, hv⟩
      · have : n = 0 := by omega
        subst this; subst hcz
        exact .inr ⟨_, rfl⟩
      · exact hv
    · rw [← he]; exact List.eq_nil_of_length_eq_zero (by omega)
  · have hc0 : p.c ≠ 0 := by omega
    have hv' : v = .slice (some ⟨p.b, 0, none⟩) n c := by
      rcases hv with hv | ⟨h, _⟩
      · exact hv
      · exact absurd h hc0
    obtain ⟨q, hq, hob⟩ := hH.obj l _ hl
    rw [hp] at hq; cases hq
    obtain ⟨hF, hge⟩ := hob.free hc0
    have hge' : w0.heap.size ≤ p.b := by
      rcases hge with h | ⟨_, h⟩
      · exact h
      · cases h
    obtain ⟨cur, h1, h2, h3, h4⟩ := hH.els hl hp hc0
    have h5 := h4.cut n (by omega)
    rw [List.take_take, Nat.min_eq_left (Nat.mul_le_mul_right _ (by omega)), he] at h5
    have hll : e.list.length = n := by rw [← he]; exact hlen
    refine ⟨[p.b], ⟨Sg.le.refl s, hH.del l, hbase, by simp, fun b hb => ?_, fun b hb => ?_, fun k x q hk hq ht hb => ?_⟩, .inr ⟨⟨p.b, c, n⟩, by rw [hll]; exact hv', hcz, rfl, ?_⟩⟩
    · simp only [List.mem_singleton] at hb
      exact ⟨l, _, p, hl, hp, hc0, hb.symm⟩
    · simp only [List.mem_singleton] at hb
      subst hb; exact ⟨hge', hF⟩
    · simp only [List.mem_singleton] at hb
      obtain ⟨hne, hx⟩ := delX_key hk
      exact hne (hH.inj k l x _ q p hx hl hq hp ht hc0 hb)
    · refine obj_row (s := ⟨fun _ => none, s.G, s.G, [], s.G⟩) (us := cur.toList.take (n * t.sz)) (cur := cur) h5 h1 (Nat.le_trans (Nat.mul_le_mul_right _ hc.2) h2) h3 ?_ hll hc.1 (Nat.le_trans hc.2 g3)
      rw [List.length_take, Nat.min_eq_left]
      rw [Array.length_toList]
      exact Nat.le_trans (Nat.mul_le_mul_right _ (by omega)) h2
mutual
theorem retRes_ok:∀ (k:RK) (cs:List AV) (e:D) (ps:Ps) (s:Sg) (st st':Stt) (vs:List Value),retRes st k cs e=some (ps,st') → (∀ p ∈ ps,p) → Hold Γ s w0 st w → RelL s cs vs → ∃ s' os,RetOK Γ s st w0 w s' st' os∧RkRd s'.G w k e vs os
 | .d t,cs,e,ps,s,st,st',vs,h,hp,hH,hr=>by
  simp only [retRes] at h
  split at h
  case h_2=>cases h
  rename_i cs' st1 hf
  split at h
  case h_2=>cases h
  rename_i d hd
  cases h
  obtain ⟨s',k1,k2,k3,k4⟩:=freezeL_ok' hH hf hr
  obtain ⟨us,ws,h1,h2,h3⟩:=toD_ok k2 (Sees.self _ w) t cs' vs d [] hd k3
  have:=h3.unnil
  subst this
  rw [List.append_nil] at h1
  subst h1
  exact ⟨s',[],RetOK.of_frz k1 k2 k4,by simp only [RkRd]; exact ⟨trivial,eqD_ok t d e _ hp h2⟩⟩
 | .own et t,cs,e,ps,s,st,st',vs,h,hp,hH,hr=>by
  cases cs with
  | nil=>simp [retRes] at h
  | cons a r =>
  cases r with
  | cons b r=>simp [retRes] at h
  | nil =>
  obtain ⟨v,vs',h1,h2,rfl⟩:=hr.uncons
  have:=h2.unnil
  subst this
  have zero:∀ {w':World},ZV v → ([]:List D)=e.list → ∃ s' os,RetOK Γ s st w0 w s' st os∧RkRd s'.G w (.own et t) e [v] os:=fun hv he =>
   ⟨s,[],RetOK.of_frz (Sg.le.refl s) hH (FrzRel.refl _ _),by simp only [RkRd]; exact ⟨v,rfl,.inl ⟨hv,he.symm,rfl⟩⟩⟩
  simp only [retRes] at h
  split at h
  ·rename_i l n
   split at h
   case h_2=>cases h
   rename_i et' t' xs hl
   cases hc:(Nat.beq et et' && t.beq t') with
   | false=>rw [hc] at h; cases h
   | true =>
   rw [hc] at h
   cases h
   simp only [Bool.and_eq_true] at hc
   have e1:=beq_t hc.1; have e2:=DT.beq_ok hc.2
   subst e1; subst e2
   simp only [Rel] at h1
   obtain ⟨p,hp1,hn,hmc,hv⟩:=h1
   obtain ⟨os,k1,k2⟩:=own_ret hH hl hp1 hn ⟨by omega,Nat.le_refl _⟩ hv (hp _ (List.mem_singleton.2 rfl))
   exact ⟨s,os,k1,by simp only [RkRd]; exact ⟨v,rfl,k2⟩⟩
  ·rename_i l n
   split at h
   case h_2=>cases h
   rename_i et' t' xs hl
   cases hc:(Nat.beq et et' && t.beq t') with
   | false=>rw [hc] at h; cases h
   | true =>
   rw [hc] at h
   cases h
   simp only [Bool.and_eq_true] at hc
   have e1:=beq_t hc.1; have e2:=DT.beq_ok hc.2
   subst e1; subst e2
   simp only [Rel] at h1
   obtain ⟨p,hp1,hn,hmc,hv⟩:=h1
   obtain ⟨os,k1,k2⟩:=own_ret hH hl hp1 hn ⟨Nat.le_refl _,by omega⟩ hv (hp _ (List.mem_singleton.2 rfl))
   exact ⟨s,os,k1,by simp only [RkRd]; exact ⟨v,rfl,k2⟩⟩
  ·cases h
   exact zero (w':=w) (.inl h1.v_of) (hp _ (List.mem_singleton.2 rfl))
  ·cases h
   simp only [Rel] at h1
   exact zero (w':=w) h1 (hp _ (List.mem_singleton.2 rfl))
  ·cases h
 | .agg ks,cs,e,ps,s,st,st',vs,h,hp,hH,hr=>by
  simp only [retRes] at h
  obtain ⟨s',os,h1,h2⟩:=retRess_ok ks cs e.tup ps s st st' vs h hp hH hr
  exact ⟨s',os,h1,by simp only [RkRd]; exact h2⟩
 | .any,cs,e,ps,s,st,st',vs,h,hp,hH,hr=>by
  cases cs with
  | nil=>simp [retRes] at h
  | cons a r =>
  cases r with
  | cons b r=>simp [retRes] at h
  | nil =>
  simp only [retRes] at h
  obtain ⟨v,vs',hv,hvs,rfl⟩:=hr.uncons
  have:=hvs.unnil
  subst this
  cases ho:oneCellA a with
  | false=>rw [ho] at h; cases h
  | true =>
  rw [ho] at h
  cases h
  exact ⟨s,[],RetOK.of_frz (Sg.le.refl s) hH (FrzRel.refl _ _),by simp only [RkRd]; exact ⟨trivial,v,rfl,hv.one ho⟩⟩
 | .er,cs,e,ps,s,st,st',vs,h,hp,hH,hr=>by
  cases cs with
  | nil=>simp [retRes] at h
  | cons a r =>
  cases r with
  | cons b r=>cases a <;> simp [retRes] at h
  | nil =>
  cases a with
  | er x =>
   simp only [retRes,Option.some.injEq,Prod.mk.injEq] at h
   obtain ⟨rfl,rfl⟩:=h
   obtain ⟨v,vs',hv,hvs,rfl⟩:=hr.uncons
   have:=hvs.unnil
   subst this
   have hx:=hp _ (List.mem_singleton.2 rfl)
   simp only [Rel] at hv
   rw [hx] at hv
   exact ⟨s,[],RetOK.of_frz (Sg.le.refl s) hH (FrzRel.refl _ _),by simp only [RkRd]; exact ⟨trivial,v,rfl,hv⟩⟩
  | _=>simp [retRes] at h
theorem retRess_ok:∀ (ks:List RK) (cs:List AV) (es:List D) (ps:Ps) (s:Sg) (st st':Stt) (vs:List Value),retRess st ks cs es=some (ps,st') → (∀ p ∈ ps,p) → Hold Γ s w0 st w → RelL s cs vs → ∃ s' os,RetOK Γ s st w0 w s' st' os∧RkRds s'.G w ks es vs os
 | [],cs,es,ps,s,st,st',vs,h,hp,hH,hr=>by
  cases cs with
  | cons a r=>simp [retRess] at h
  | nil =>
  simp only [retRess,Option.some.injEq,Prod.mk.injEq] at h
  obtain ⟨_,rfl⟩:=h
  exact ⟨s,[],RetOK.of_frz (Sg.le.refl s) hH (FrzRel.refl _ _),by simp only [RkRds]; exact ⟨hr.unnil,trivial⟩⟩
 | k :: ks,cs,es,ps,s,st,st',vs,h,hp,hH,hr=>by
  simp only [retRess] at h
  split at h
  case h_2=>cases h
  rename_i ps1 st1 h1
  split at h
  case h_2=>cases h
  rename_i ps2 st2 h2
  cases h
  obtain ⟨s1,o1,a1,a2⟩:=retRes_ok k _ _ ps1 s st st1 _ h1 (fun p hpp=>hp p (List.mem_append_left _ hpp)) hH (hr.take k.sz)
  obtain ⟨s2,o2,b1,b2⟩:=retRess_ok ks _ _ ps2 s1 st1 _ _ h2 (fun p hpp=>hp p (List.mem_append_right _ hpp)) a1.hold (RelL.mono a1.le _ _ (hr.drop k.sz))
  exact ⟨s2,o1 ++ o2,a1.comp b1,by simp only [RkRds]; exact ⟨_,_,o1,o2,(List.take_append_drop k.sz vs).symm,rfl,RkRd.mono b1.le.G k _ _ o1 a2,b2⟩⟩
end
theorem retOuts_ok:∀ (ks:List RK) (as':List AV) (es:List D) (ps:Ps) (s:Sg) (st st':Stt) (vs:List Value),retOuts st ks as' es=some (ps,st') → (∀ p ∈ ps,p) → Hold Γ s w0 st w → RelL s as' vs → ∃ s' os,RetOK Γ s st w0 w s' st' os∧OutsRd s'.G w ks es vs os
 | [],as',es,ps,s,st,st',vs,h,hp,hH,hr=>by
  cases as' with
  | cons a r=>simp [retOuts] at h
  | nil =>
  simp only [retOuts,Option.some.injEq,Prod.mk.injEq] at h
  obtain ⟨_,rfl⟩:=h
  exact ⟨s,[],RetOK.of_frz (Sg.le.refl s) hH (FrzRel.refl _ _),⟨hr.unnil,rfl⟩⟩
 | k :: ks,as',es,ps,s,st,st',vs,h,hp,hH,hr=>by
  cases as' with
  | nil=>simp [retOuts] at h
  | cons a r =>
  simp only [retOuts] at h
  cases hg:(isAggA a == k.isAgg) with
  | false=>rw [hg] at h; cases h
  | true =>
  rw [hg] at h
  simp only [cond_true] at h
  split at h
  case h_2=>cases h
  rename_i ps1 st1 h1
  split at h
  case h_2=>cases h
  rename_i ps2 st2 h2
  cases h
  obtain ⟨v,vs',hv,hvs,rfl⟩:=hr.uncons
  obtain ⟨s1,o1,a1,a2⟩:=retRes_ok k _ _ ps1 s st st1 _ h1 (fun p hpp=>hp p (List.mem_append_left _ hpp)) hH hv.cells
  obtain ⟨s2,o2,b1,b2⟩:=retOuts_ok ks r _ ps2 s1 st1 _ vs' h2 (fun p hpp=>hp p (List.mem_append_right _ hpp)) a1.hold (RelL.mono a1.le _ _ hvs)
  refine ⟨s2,o1 ++ o2,a1.comp b1,v,vs',v.cells.toList,o1,o2,rfl,rfl,?_,RkRd.mono b1.le.G k _ _ o1 a2,b2⟩
  have hb:isAggA a=k.isAgg:=by simpa using hg
  refine isAggA_val hv hb ?_ ?_
  ·cases k with
   | d t =>
    simp only [RkRd] at a2
    have:=Rd.len _ _ _ a2.2
    rw [this]
    cases t <;> simp [RK.isAgg,DT.isT,DT.sz]
   | own et t=>simp only [RkRd] at a2; obtain ⟨u,hu,_⟩:=a2; rw [hu]; exact .inl rfl
   | agg ks=>exact .inr rfl
   | any=>simp only [RkRd] at a2; obtain ⟨_,u,hu,_⟩:=a2; rw [hu]; exact .inl rfl
   | er=>simp only [RkRd] at a2; obtain ⟨_,u,hu,_⟩:=a2; rw [hu]; exact .inl rfl
  ·exact rk_one k _ _ o1 a2
end
end Go.Proofs.YtplflgclomiihaaGreat.Sv
namespace Go.Proofs.YtplflgclomiihaaGreat.Sv
open Go.RowKit Go.Proofs.YtplflgclomiihaaGreat.W
variable {Γ : Gl}
section
variable {P : Program} {w0 w : World}
def Ids (s:Sg):Nat → List Nat → Prop
 | _,[]=>True
 | k,b :: bs=>(∃ p,s.f k=some p∧p.b=b)∧Ids s (k + 1) bs
theorem Ids.mono {s s':Sg} (h:s.le s'):∀ (bs:List Nat) (k:Nat),Ids s k bs → Ids s' k bs
 | [],_,_=>trivial
 | b :: bs,k,⟨⟨p,h1,h2⟩,h3⟩=>⟨⟨p,h.f _ _ h1,h2⟩,Ids.mono h bs (k + 1) h3⟩
theorem retBoxes_ok:∀ (ks:List AK) (k:Nat) (es:List D) (ps:Ps) (s:Sg) (st st':Stt) (bs:List Nat),retBoxes st ks k es=some (ps,st') → (∀ p ∈ ps,p) → Hold Γ s w0 st w → Ids s k bs → bs.length=nBox ks → ∃ s',s.le s'∧Hold Γ s' w0 st' w∧FrzRel s st s' st'∧BoxesRd s'.G w ks es bs
 | [],k,es,ps,s,st,st',bs,h,hp,hH,hI,hn=>by
  simp only [retBoxes,Option.some.injEq,Prod.mk.injEq] at h
  obtain ⟨_,rfl⟩:=h
  exact ⟨s,Sg.le.refl s,hH,FrzRel.refl _ _,trivial⟩
 | .d _ _ :: r,k,es,ps,s,st,st',bs,h,hp,hH,hI,hn=>by
  simp only [retBoxes] at h
  exact retBoxes_ok r k es ps s st st' bs h hp hH hI hn
 | .o _ _ _ :: r,k,es,ps,s,st,st',bs,h,hp,hH,hI,hn=>by simp [retBoxes] at h
 | .p _ :: r,k,es,ps,s,st,st',bs,h,hp,hH,hI,hn=>by
  simp only [retBoxes] at h
  exact retBoxes_ok r k es ps s st st' bs h hp hH hI hn
 | .box et ts :: r,k,es,ps,s,st,st',bs,h,hp,hH,hI,hn=>by
  cases bs with
  | nil=>simp [nBox] at hn
  | cons b bs =>
  simp only [retBoxes] at h
  split at h
  case h_2=>cases h
  rename_i et' cs hl
  split at h
  case h_2=>cases h
  rename_i cs' st1 hf
  split at h
  case h_2=>cases h
  rename_i ds hds
  split at h
  case h_2=>cases h
  rename_i qs st2 hr
  cases hc:Nat.beq et et' with
  | false=>rw [hc] at h; cases h
  | true =>
  rw [hc] at h
  cases h
  have:=beq_t hc
  subst this
  obtain ⟨⟨p,hp1,rfl⟩,hI2⟩:=hI
  obtain ⟨p',hp',hob⟩:=hH.obj k _ hl
  rw [hp1] at hp'; cases hp'
  obtain ⟨vs,h1,h2⟩:=hob.cur
  obtain ⟨s1,k1,k2,k3,k4⟩:=freezeL_ok' hH hf h2
  obtain ⟨us,ws,h3,h4,h5⟩:=toDs_ok k2 (Sees.self _ w) ts cs' vs ds [] hds k3
  have:=h5.unnil
  subst this
  rw [List.append_nil] at h3
  subst h3
  obtain ⟨s2,m1,m2,m3,m4⟩:=retBoxes_ok r (k + 1) _ qs s1 st1 _ bs hr (fun p hpp=>hp p (List.mem_append_right _ hpp)) k2 (Ids.mono k1 bs _ hI2) (by simpa [nBox] using hn)
  exact ⟨s2,k1.trans m1,m2,k4.trans m3,p.b,bs,rfl,⟨vs,h1,Rds.mono m1.G ts _ vs (eqDs_ok ts ds _ vs (fun p hpp=>hp p (List.mem_append_left _ hpp)) h4)⟩,m4⟩
theorem args_nBox {F G:Fz}:∀ (ks:List AK) (ds:List D) (vs:List Value) (bs:List Nat),ArgsRd F G w ks ds vs bs → bs.length=nBox ks
 | [],_,_,_,h=>by rw [h.2]; rfl
 | .d _ _ :: r,ds,_,bs,h=>by obtain ⟨v,vs',rfl,_,h2⟩:=h; exact args_nBox r _ _ _ h2
 | .o _ _ _ :: r,_,_,_,h=>h.elim
 | .p _ :: r,ds,_,bs,h=>by obtain ⟨v,vs',rfl,_,h2⟩:=h; exact args_nBox r _ _ _ h2
 | .box _ _ :: r,ds,_,_,h=>by obtain ⟨v,vs',b,bs',rfl,rfl,_,_,h2⟩:=h; simp [nBox,args_nBox r _ _ _ h2]
theorem start_ok {F G : Fz} : ∀ (ks : List AK) (ds : List D) (vs : List Value) (bs : List Nat) (s : Sg) (st : Stt), ArgsRd F G w ks ds vs bs → Hold Γ s w st w → s.F = F → s.G = G → (∀ b ∈ bs, F b = none ∧ b ∈ s.X) → bs.Nodup → (∀ l o p, st.h.get l = some o → s.f l = some p → there o p → p.b ∉ bs) → st.h ≠ [] →
    ∃ s', s.le s' ∧ s'.F = F ∧ s'.G = G ∧ Hold Γ s' w (startSt ks ds st) w ∧ RelL s' (startAs ks ds st.nx) vs ∧ Ids s' st.nx bs ∧ (startSt ks ds st).h ≠ []
  | [], ds, vs, bs, s, st, hA, hH, hF, hG, hb, hnd, hap, hn => by
    obtain ⟨rfl, rfl⟩ := hA
    exact ⟨s, Sg.le.refl s, hF, hG, hH, RelL.nil, trivial, hn⟩
  | .d wf t :: r, ds, vs, bs, s, st, hA, hH, hF, hG, hb, hnd, hap, hn => by
    obtain ⟨v, vs', rfl, ⟨cs, h1, h2⟩, h3⟩ := hA
    obtain ⟨s', k1, k2, k3, k4, k5, k6, k7⟩ := start_ok r _ vs' bs s st h3 hH hF hG hb hnd hap hn
    have hHm : s'.H wf = (bif wf then G else F) := by cases wf <;> simp [Sg.H, k2, k3]
    have hrel : Rel s' (oneD wf t (nthD ds 0)) v := val_rel (oneD_agg wf t _).1 (oneD_agg wf t _).2 (by rw [oneD_cells]; exact cellsD_ok hHm t _ cs h1) h2
    exact ⟨s', k1, k2, k3, k4, RelL.cons hrel k5, k6, k7⟩
  | .o _ _ _ :: r, ds, vs, bs, s, st, hA, hH, hF, hG, hb, hnd, hap, hn => hA.elim
  | .p t :: r, ds, vs, bs, s, st, hA, hH, hF, hG, hb, hnd, hap, hn => by
    obtain ⟨v, vs', rfl, ⟨b, j, cs, h0, h1, h2⟩, h3⟩ := hA
    obtain ⟨s', k1, k2, k3, k4, k5, k6, k7⟩ := start_ok r _ vs' bs s st h3 hH hF hG hb hnd hap hn
    have hrel : Rel s' (.pd false t (nthD ds 0)) v := by
      simp only [Rel]
      exact ⟨b, j, cs, h0, by simpa [Sg.H, k2] using h1, by simpa [Sg.H, k2] using h2⟩
    exact ⟨s', k1, k2, k3, k4, RelL.cons hrel k5, k6, k7⟩
  | .box et ts :: r, ds, vs, bs, s, st, hA, hH, hF, hG, hb, hnd, hap, hn => by
    obtain ⟨v, vs', b, bs', rfl, rfl, rfl, ⟨cs, h1, h2⟩, h3⟩ := hA
    obtain ⟨n1, n2⟩ := List.nodup_cons.1 hnd
    have hle := hH.le_new ⟨b, 0, 0⟩
    have hob : ObjAt (s.ins st.nx ⟨b, 0, 0⟩) w ⟨b, 0, 0⟩ (.c et (cellsDs true ts (nthD ds 0) 0)) := ⟨cs, h1, cellsDs_ok (F := G) (by simp [Sg.H, Sg.ins, hG]) ts _ 0 _ cs (fun i => by rw [Nat.zero_add]; rfl) h2⟩
    have hH' : Hold Γ (s.ins st.nx ⟨b, 0, 0⟩) w (newX st (.c et (cellsDs true ts (nthD ds 0) 0))) w := by
      refine hH.upd hle rfl rfl (fun k x hk => newX_key hk) Sg.ins_same ?_ hH.ext (fun _ _ _ _ _ _ _ _ => rfl) hH.frz ⟨fun _ => ⟨by show s.F b = none; rw [hF]; exact (hb b (by simp)).1, .inr ⟨(hb b (by simp)).2, rfl⟩⟩, hob⟩ ?_
      · intro k hk
        have hk' : st.nx + 1 ≤ k := hk
        simp only [Sg.ins]
        rw [if_neg (by omega)]
        exact hH.dom k (by omega)
      · intro k x q _ _ hk hq ht _ e
        exact hap k x q hk hq ht (by rw [e]; simp)
    obtain ⟨s', k1, k2, k3, k4, k5, k6, k7⟩ := start_ok r _ vs' bs' (s.ins st.nx ⟨b, 0, 0⟩) (newX st (.c et (cellsDs true ts (nthD ds 0) 0))) h3 hH' hF hG (fun b hbm => hb b (List.mem_cons_of_mem _ hbm)) n2 (fun l o p hl hp ht hm => by
      rcases newX_key hl with ⟨rfl, rfl⟩ | ⟨hne, _, hx⟩
      · rw [Sg.ins_same] at hp; cases hp
        exact n1 hm
      · simp only [Sg.ins, if_neg hne] at hp
        exact hap l o p hx hp ht (List.mem_cons_of_mem _ hm)) (((Suf.refl hn).set _ _).ne)
    exact ⟨s', hle.trans k1, k2, k3, k4, RelL.cons (by simp only [Rel]; exact ⟨_, k1.f _ _ Sg.ins_same, rfl⟩) k5, ⟨⟨_, k1.f _ _ Sg.ins_same, rfl⟩, k6⟩, k7⟩
theorem tupV_outs {s:Sg} {n:Nat} {a:AV} {v:Value} {as':List AV} (h:outsOf n a=some as') (hr:Rel s a v):∃ vs,RelL s as' vs∧(as'.length=n → v=tupV vs):=by
 unfold outsOf at h
 split at h
 ·cases h; exact ⟨[v],RelL.cons hr RelL.nil,fun _=>rfl⟩
 ·rename_i hne
  split at h
  ·cases h
   simp only [Rel] at hr
   obtain ⟨vs,h1,rfl⟩:=hr
   refine ⟨vs,h1,fun hl=>?_⟩
   rw [h1.len] at hl
   match vs,hl with
   | [],_=>rfl
   | [x],hl=>exact absurd hl.symm (by simpa using hne)
   | _ :: _ :: _,_=>rfl
  ·cases h
theorem retOuts_len:∀ (ks:List RK) (as':List AV) (es:List D) (st:Stt) (r:Ps × Stt),retOuts st ks as' es=some r → as'.length=ks.length
 | [],[],_,_,_,_=>rfl
 | [],_ :: _,_,_,_,h=>by simp [retOuts] at h
 | _ :: _,[],_,_,_,h=>by simp [retOuts] at h
 | k :: ks,a :: as',es,st,r,h=>by
  simp only [retOuts] at h
  cases hg:(isAggA a == k.isAgg) with
  | false=>rw [hg] at h; cases h
  | true =>
  rw [hg] at h
  simp only [cond_true] at h
  split at h
  case h_2=>cases h
  split at h
  case h_2=>cases h
  rename_i h2
  simp [retOuts_len ks as' _ _ _ h2]
theorem con_of (hm:P.follows .mixedOrders=true) {S:Sums} (hS:SumsOK P Γ S) {an:Anns} (n:Nat) {f:FuncId} {c:Con} (h:∀ ds:List D,ds.length=c.args.length → (∀ p ∈ c.pre ds,p) → conGoal P S an n f c ds):ConOK P Γ f c:=by
 intro F G w vs ds bs hgl hgb hF hGF hnd hbF hargs hlen hpre
 have hg:=h ds hlen hpre
 unfold conGoal at hg
 have hbw:∀ (ks:List AK) (ds:List D) (vs:List Value) (bs:List Nat),ArgsRd F G w ks ds vs bs → ∀ b ∈ bs,b < w.heap.size:=by
  intro ks
  induction ks with
  | nil=>intro ds vs bs h b hb; rw [h.2] at hb; simp at hb
  | cons k ks ih =>
   intro ds vs bs h b hb
   cases k with
   | d wf t=>obtain ⟨v,vs',_,_,h3⟩:=h; exact ih _ _ _ h3 b hb
   | p t=>obtain ⟨v,vs',_,_,h3⟩:=h; exact ih _ _ _ h3 b hb
   | o _ _ _=>exact h.elim
   | box et ts =>
    obtain ⟨v,vs',b',bs',_,rfl,_,⟨cs,h4,_⟩,h3⟩:=h
    rcases List.mem_cons.1 hb with rfl | hb
    ·exact (Array.getElem?_eq_some_iff.1 h4).1
    ·exact ih _ _ _ h3 b hb
 have hH0:Hold Γ ⟨fun _=>none,F,G,bs,G⟩ w ⟨[.nil],0⟩ w:=by
  have hno:∀ l o,(⟨[.nil],0⟩:Stt).h.get l=some o → False:=by
   intro l o hl
   simp only [Ly.get,Ly.go,Tr.get] at hl
   cases hb:Nat.blt l 1000000 <;> rw [hb] at hl <;> cases hl
  exact ⟨Ext.refl _ w,hF,hGF,fun _ _=>rfl,fun l o hl=>(hno l o hl).elim,fun l l' o o' p p' hl=>(hno l o hl).elim,fun b hb=>.inl hb,hgl,hgb⟩
 obtain ⟨s,k1,k2,k3,k4,k5,k6,k7⟩:=start_ok c.args ds vs bs ⟨fun _=>none,F,G,bs,G⟩ ⟨[.nil],0⟩ hargs hH0 rfl rfl (fun b hb=>⟨hbF b hb,hb⟩) hnd (fun l o p _ hp=>by cases hp) (by simp)
 refine Fnc.mono (inl_ok (code_ok hm hS n) (code_imp n) f _ _ _ hg k7 s w w vs k4 k5) ?_
 rintro v w' ⟨a,st,s',hret,hn,hle,hH',hrel⟩
 unfold retOK at hret
 split at hret
 ·exact hret.elim
 rename_i as' hout
 split at hret
 ·exact hret.elim
 rename_i ps st1 hbx
 split at hret
 case h_2=>exact hret.elim
 rename_i qs st2 hro
 have hps:=conj_ok hret
 obtain ⟨s1,b1,b2,b3,b4⟩:=retBoxes_ok c.args 0 _ ps s' st st1 bs hbx (fun p hp=>hps p (List.mem_append_left _ hp)) hH' (Ids.mono hle bs 0 k6) (args_nBox _ _ _ _ hargs)
 obtain ⟨us,u1,u2⟩:=tupV_outs hout hrel
 obtain ⟨s2,os,r1,r2⟩:=retOuts_ok c.res as' _ qs s1 st1 st2 us hro (fun p hp=>hps p (List.mem_append_right _ hp)) b2 (RelL.mono b1 _ _ u1)
 have hall:(⟨fun _=>none,F,G,bs,G⟩:Sg).le s2:=k1.trans (hle.trans (b1.trans r1.le))
 have hX:s2.X=bs:=hall.X
 have hG0:s2.G0=G:=hall.G0
 refine ⟨s2.G,os,us,hX ▸ r1.hold.ext,hall.G,fun b o hb=>r1.hold.frz b o (r1.hold.gf b o hb),fun b h1 h2=>?_,r1.nd,fun b hb=>⟨(r1.new b hb).1,?_⟩,r2,u2 (retOuts_len _ _ _ _ _ hro),BoxesRd.mono r1.le.G _ _ _ b4⟩
 ·rcases r1.hold.gnew b h2 with h | h
  ·rw [hG0] at h; exact absurd h1 h
  ·exact h
 ·cases hg2:s2.G b with
  | none=>rfl
  | some o=>have:=r1.hold.gf b o hg2; rw [(r1.new b hb).2] at this; cases this
end
end Go.Proofs.YtplflgclomiihaaGreat.Sv
namespace Go.Proofs.YtplflgclomiihaaGreat.Sv
open Go.RowKit Go.Proofs.YtplflgclomiihaaGreat.W
variable {Γ : Gl}
theorem cond_of {b:Bool} {p q:Prop} (h:b=true → p) (k:b=false → q):cond b p q:=by cases b; exact k rfl; exact h rfl
def LAnn.bad:LAnn:=⟨Unit,fun _=>[],fun _=>[],fun _=>False,fun _=>0⟩
theorem len1 {ds:List D} (h:ds.length=1):∃ a,ds=[a]:=List.length_eq_one_iff.1 h
theorem len2 {ds:List D} (h:ds.length=2):∃ a b,ds=[a,b]:=by
 match ds,h with
 | [a,b],_=>exact ⟨a,b,rfl⟩
theorem len3 {ds:List D} (h:ds.length=3):∃ a b c,ds=[a,b,c]:=by
 match ds,h with
 | [a,b,c],_=>exact ⟨a,b,c,rfl⟩
abbrev condI (b:Bool) (x y:Int):Int:=cond b x y
abbrev EqI (a b:Int):Prop:=a=b
abbrev LeI (a b:Int):Prop:=a ≤ b
mutual
def etaD:DT → D → D
 | .i _,d=>.i d.int
 | .b,d=>.b d.bool
 | .s,d=>.s d.str
 | .l _,d=>.l d.list
 | .t fs,d=>.t (etaDs fs d 0)
def etaDs:List DT → D → Nat → List D
 | [],_,_=>[]
 | t :: r,d,j=>etaD t (d.fld j) :: etaDs r d (j + 1)
end
def putFs:List D → List (Nat × D) → List D
 | xs,[]=>xs
 | xs,(j,x) :: r=>putFs (setD xs j x) r
def putF (t:DT) (a:D) (l:List (Nat × D)):D:=match t with
 | .t fs=>.t (putFs (etaDs fs a 0) l)
 | _=>a
def Gl.none:Gl:=⟨0,fun _=>True,fun _ _=>Nat.zero_le _,fun _ _ _ _ _=>trivial⟩
def noS:Sums:=fun _=>none
theorem noS_ok (P:Program):SumsOK P Γ noS:=fun _ _ h=>by cases h
def addS (f:FuncId) (c:Con) (S:Sums):Sums:=fun g=>bif Nat.beq g f then some c else S g
theorem addA_ok {P:Program} {f:FuncId} {c:Con} {S:Sums} (h:ConAny P Γ f c) (k:SumsOK P Γ S):SumsOK P Γ (addS f c S):=fun g d hg=>by
 unfold addS at hg
 cases hb:Nat.beq g f with
 | true=>rw [hb] at hg; cases hg; rw [beq_t hb]; exact h
 | false=>rw [hb] at hg; exact k g d hg
theorem addS_ok {P:Program} {f:FuncId} {c:Con} {S:Sums} (h:ConOK P Γ f c) (k:SumsOK P Γ S) (hr:rowOf c.args=none:=by rfl):SumsOK P Γ (addS f c S) :=
 addA_ok (by unfold ConAny; rw [hr]; exact h) k
theorem addR_ok {P:Program} {f:FuncId} {c:Con} {S:Sums} {et:TypeId} {t:DT} {fs:List FuncId} (h:RowOK P Γ f c et t fs) (k:SumsOK P Γ S) (hr:rowOf c.args=some (et,t,fs):=by rfl):SumsOK P Γ (addS f c S) :=
 addA_ok (by unfold ConAny; rw [hr]; exact h) k
end Go.Proofs.YtplflgclomiihaaGreat.Sv
namespace Go.Proofs.YtplflgclomiihaaGreat.Sv
open Go.ChangeShapes Go.WideShapes Go.ChangeAt Go.RowKit Go.Proofs.YtplflgclomiihaaGreat.W
variable {Γ : Gl}
mutual
def chk (P:Program):DT → TypeId → Bool
 | .i k,t=>match P.underlying t with | some (.int k')=>decide (k=k') | _=>false
 | .b,t=>match P.underlying t with | some .bool=>true | _=>false
 | .s,t=>match P.underlying t with | some .string=>true | _=>false
 | .l e,t=>match P.underlying t with | some (.slice te)=>Nat.beq (P.cellsOf te) e.sz && Nat.ble 1 e.sz && Nat.ble 1 (P.bytesOf te) && chk P e te | _=>false
 | .t fs,t=>match P.underlying t with | some (.struct gs)=>Nat.beq (P.cellsOf t) (DT.szs fs) && Nat.beq gs.size fs.length && chks P fs gs.toList 0 | _=>false
def chks (P:Program):List DT → List Field → Nat → Bool
 | [],[],_=>true
 | t :: r,g :: gs,off=>Nat.beq g.offset off && Nat.beq (P.cellsOf g.type) t.sz && chk P t g.type && chks P r gs (off + t.sz)
 | _,_,_=>false
end
theorem wAll_mem {H:Type} {P:Program} {e:TypeId}:∀ {l:List (DataW H)} {d:DataW H} {n:Nat},d ∈ l → n ∈ DataW.weights P e d → n ∈ DataW.weightsAll P e l
 | x :: r,d,n,h,hn=>by
  simp only [DataW.weightsAll,List.mem_append]
  rcases List.mem_cons.1 h with rfl | h
  ·exact .inl hn
  ·exact .inr (wAll_mem h hn)
theorem wEach_mem {H:Type} {P:Program}:∀ {ts:List TypeId} {l:List (DataW H)} {i:Nat} {t:TypeId} {d:DataW H} {n:Nat},ts[i]?=some t → l[i]?=some d → n ∈ DataW.weights P t d → n ∈ DataW.weightsEach P ts l
 | t :: ts,d :: r,0,_,_,n,h1,h2,hn=>by
  simp only [List.getElem?_cons_zero,Option.some.injEq] at h1 h2
  subst h1; subst h2
  simp only [DataW.weightsEach,List.mem_append]; exact .inl hn
 | t :: ts,d :: r,i + 1,_,_,n,h1,h2,hn=>by
  simp only [DataW.weightsEach,List.mem_append]
  exact .inr (wEach_mem (by simpa using h1) (by simpa using h2) hn)
theorem cell_heap {w:World} {b k:Nat} {v:Value} (h:w.cell? ⟨b,k,none⟩=some v):∃ arr et fz,w.heap[b]?=some (.cells arr et fz)∧arr[k]?=some v:=by
 unfold World.cell? at h
 split at h
 ·split at h
  ·cases h
  ·rename_i heq _
   exact ⟨_,_,_,heq,h⟩
 ·cases h
theorem spot_none' {w:World} {a:Addr} {v:Value} (h:w.cell? a=some v):a.spot=none:=by
 unfold World.cell? at h
 split at h
 ·split at h
  ·cases h
  ·rename_i hs; simpa using hs
 ·cases h
theorem listD_of {n:Nat} {Q:Nat → D → Prop} (h:∀ i,i < n → ∃ d,Q i d):∃ xs:List D,xs.length=n∧∀ i x,xs[i]?=some x → Q i x:=by
 induction n with
 | zero=>exact ⟨[],rfl,by simp⟩
 | succ n ih =>
  obtain ⟨xs,hl,hx⟩:=ih fun i hi=>h i (by omega)
  obtain ⟨d,hd⟩:=h n (Nat.lt_succ_self n)
  refine ⟨xs ++ [d],by simp [hl],fun i x hi=>?_⟩
  rw [List.getElem?_append] at hi
  split at hi
  ·exact hx i x hi
  ·rename_i hge
   have:i - xs.length=0:=by
    rcases Nat.eq_zero_or_pos (i - xs.length) with h0 | h0
    ·exact h0
    ·rw [List.getElem?_eq_none (by simp; omega)] at hi; cases hi
   rw [this] at hi
   simp only [List.getElem?_cons_zero,Option.some.injEq] at hi
   subst hi
   obtain rfl:i=n:=by omega
   exact hd
section
variable {H : Type} {enc : TypeId × Value → H} {P : Program} {B : Nat} {Q : TypeId → DataW H → Prop}
theorem con_law {f:FuncId} {c:Con} {ts:List DT} (hc:ConOK P Γ f c) (ha:c.args=ts.map (AK.d true)) (hr:c.res=[.d .b]) (ho:∀ ds,c.out ds=[.b true]) {W:World} {vs:List Value} {ds:List D} (hΓ:Γ.ok W) (hl:ds.length=ts.length) (h:ArgsRd (fun b=>W.heap[b]?) (fun b=>W.heap[b]?) W (ts.map (AK.d true)) ds vs []) (hp:∀ p ∈ c.pre ds,p):Fnc P f vs.toArray W fun v w'=>v=.bool true∧Ext [] W w':=by
 refine Fnc.mono (hc _ _ W vs ds [] hΓ (by simp) (fun b o h=>h) (Sub.refl _) List.nodup_nil (by simp) (by rw [ha]; exact h) (by rw [ha]; simpa using hl) hp) ?_
 rintro v w' ⟨G',os,rs,h1,_,_,_,_,_,h2,rfl,_⟩
 refine ⟨?_,h1⟩
 rw [hr,ho] at h2
 simp only [OutsRd] at h2
 obtain ⟨v,vs',cs,o1,o2,rfl,_,hv,hk,rfl,_⟩:=h2
 simp only [RkRd,Rd,nthD,D.bool] at hk
 obtain ⟨_,rfl⟩:=hk
 simp only [Val,RK.isAgg,DT.isT,cond_false] at hv
 cases hv
 rfl
theorem sized_args {tis vts:List TypeId} {ds gs:List (DataW H)} (h:(DataW.weightsEach P (tis ++ vts) (ds ++ gs)).all (· ≤ reachBytes)=true):∀ (i:Nat) ti d,tis[i]?=some ti → ds[i]?=some d → ∀ n ∈ DataW.weights P ti d,n ≤ reachBytes:=by
 intro i ti d h1 h2 n hn
 have h3:(tis ++ vts)[i]?=some ti:=by rw [List.getElem?_append_left (List.getElem?_eq_some_iff.1 h1).1]; exact h1
 have h4:(ds ++ gs)[i]?=some d:=by rw [List.getElem?_append_left (List.getElem?_eq_some_iff.1 h2).1]; exact h2
 simpa using List.all_eq_true.1 h n (wEach_mem h3 h4 hn)
def argV:AK → D → Option Value
 | .d _ (.i k),d=>some (.int k d.int)
 | .d _ .b,d=>some (.bool d.bool)
 | .d _ .s,d=>some (.string d.str)
 | _,_=>none
def argVs:List AK → List D → Option (List Value)
 | [],_=>some []
 | k :: ks,ds=>match argV k (nthD ds 0),argVs ks (tailD ds) with
  | some v,some vs=>some (v :: vs)
  | _,_=>none
theorem args_scal {F G:Fz} {w:World}:∀ (ks:List AK) (ds:List D) (vs us:List Value) (bs:List Nat),ArgsRd F G w ks ds vs bs → argVs ks ds=some us → vs=us∧bs=[]
 | [],ds,vs,us,bs,h,hu=>by obtain ⟨rfl,rfl⟩:=h; simp only [argVs,Option.some.injEq] at hu; exact ⟨hu,rfl⟩
 | .box _ _ :: _,_,_,_,_,_,hu=>by simp [argVs,argV] at hu
 | .p _ :: _,_,_,_,_,_,hu=>by simp [argVs,argV] at hu
 | .o _ _ _ :: _,_,_,_,_,_,hu=>by simp [argVs,argV] at hu
 | .d wf t :: r,ds,vs,us,bs,h,hu=>by
  obtain ⟨v,vs',rfl,⟨cs,h1,h2⟩,h3⟩:=h
  simp only [argVs] at hu
  split at hu
  case h_2=>cases hu
  rename_i u us' e1 e2
  cases hu
  obtain ⟨rfl,rfl⟩:=args_scal r _ vs' us' bs h3 e2
  refine ⟨?_,rfl⟩
  congr 1
  cases t with
  | i k=>simp only [argV,Option.some.injEq] at e1; subst e1; simp only [Rd] at h1; subst h1; simp only [Val,DT.isT,cond_false] at h2; cases h2; rfl
  | b=>simp only [argV,Option.some.injEq] at e1; subst e1; simp only [Rd] at h1; subst h1; simp only [Val,DT.isT,cond_false] at h2; cases h2; rfl
  | s=>simp only [argV,Option.some.injEq] at e1; subst e1; simp only [Rd] at h1; subst h1; simp only [Val,DT.isT,cond_false] at h2; cases h2; rfl
  | l e=>simp [argV] at e1
  | t fs=>simp [argV] at e1
theorem outs_scal {G:Fz} {w:World}:∀ (ks:List RK) (ds:List D),ks.all scalar=true → OutsRd G w ks ds (scalVs ks ds) []
 | [],_,_=>⟨rfl,rfl⟩
 | k :: ks,ds,h=>by
  simp only [List.all_cons,Bool.and_eq_true] at h
  refine ⟨scalV k (nthD ds 0),scalVs ks (tailD ds),[scalV k (nthD ds 0)],[],[],rfl,rfl,?_,?_,outs_scal ks _ h.2⟩
  ·cases k with
   | d t=>cases t <;> simp [scalar] at h <;> rfl
   | own _ _=>simp [scalar] at h
   | agg _=>simp [scalar] at h
   | any=>simp [scalar] at h
   | er=>simp [scalar] at h
  ·cases k with
   | d t=>cases t <;> simp [scalar] at h <;> simp [RkRd,Rd,scalV]
   | own _ _=>simp [scalar] at h
   | agg _=>simp [scalar] at h
   | any=>simp [scalar] at h
   | er=>simp [scalar] at h
theorem boxes_scal {G:Fz} {w:World}:∀ (ks:List AK) (ds es:List D) (us:List Value),argVs ks ds=some us → BoxesRd G w ks es []
 | [],_,_,_,_=>trivial
 | .box _ _ :: _,_,_,_,hu=>by simp [argVs,argV] at hu
 | .p _ :: _,_,_,_,hu=>by simp [argVs,argV] at hu
 | .o _ _ _ :: _,_,_,_,hu=>by simp [argVs,argV] at hu
 | .d _ _ :: r,ds,es,us,hu=>by
  simp only [argVs] at hu
  split at hu
  case h_2=>cases hu
  rename_i e1 e2
  exact boxes_scal r _ es _ e2
theorem scal_ok {f : FuncId} {c : Con} (hr : c.res.all scalar = true) (ha : ∀ ds, ∃ us, argVs c.args ds = some us)
    (h : ∀ (w : World) (ds : List D) (vs : List Value), argVs c.args ds = some vs → Γ.ok w → (∀ p ∈ c.pre ds, p) → Fnc P f vs.toArray w fun v w' => v = tupV (scalVs c.res (c.out ds)) ∧ Ext [] w w') : ConOK P Γ f c := by
  intro F G w vs ds bs hg _ hF hGF hnd hbF hargs hlen hpre
  obtain ⟨us, hus⟩ := ha ds
  obtain ⟨rfl, rfl⟩ := args_scal _ _ _ _ _ hargs hus
  refine Fnc.mono (h w ds _ hus hg hpre) ?_
  rintro v w' ⟨rfl, hx⟩
  exact ⟨G, [], scalVs c.res (c.out ds), hx, Sub.refl _, fun b o hb => Ext.keepB hx (hF b o (hGF b o hb)) (by simp), fun b h1 h2 => absurd h1 h2, List.nodup_nil, by simp, outs_scal _ _ hr, rfl, boxes_scal _ ds _ _ hus⟩
def trueC:Con:=⟨[],fun _=>[],[.d .b],fun _=>[.b true],fun _=>[]⟩
theorem true_ok {f:FuncId} (h:∀ w,Γ.ok w → Fnc P f #[] w fun v w'=>v=.bool true∧Ext [] w w'):ConOK P Γ f trueC :=
 scal_ok (by rfl) (fun ds=>⟨[],rfl⟩) fun w ds vs e hg _=>by
  simp only [trueC,argVs,Option.some.injEq] at e
  subst e
  exact h w hg
end
end Go.Proofs.YtplflgclomiihaaGreat.Sv
