/- The symbolic evaluator is right: operations, and blocks of which none makes or writes. Program-agnostic. -/
import Derived.Test.YtbbjonjhaoeidaaDoorOS11
set_option linter.unusedVariables false
set_option linter.unusedSimpArgs false
namespace Go.Proofs.YtbbjonjhaoeidaaDoor.Sv
open Go.RowKit Go.Proofs.YtbbjonjhaoeidaaDoor.W
variable {Γ : Gl}

section
variable {s : Sg} {w0 w w' : World} {st st' : Stt} {A : AE} {E : Env} {P : Program} {o : Oper}
/-! ### Operations -/
/-- the operation, or the function that it calls, yields v and leaves all as it was -/
def Quiet1 (P : Program) (o : Oper) (E : Env) (w : World) (v : Value) : Prop :=
  (∀ w', Ext [] w w' → OpV P o E w' v) ∨ ∃ f args, (∀ w', Ext [] w w' → OpC P o E w' f args) ∧ ∀ w', Ext [] w w' → Fnc P f args w' fun u w'' => u = v ∧ Ext [] w' w''
/-- the operation, or the function that it calls, leaves this -/
def Made (P : Program) (o : Oper) (E : Env) (w : World) (R : Value → World → Prop) : Prop :=
  (∃ v w', OpX P o E w v w' ∧ R v w') ∨ ∃ f args, OpC P o E w f args ∧ Fnc P f args w R
def scalV : RK → D → Value
  | .d (.i k), d => .int k d.int
  | .d .b, d => .bool d.bool
  | .d .s, d => .string d.str
  | _, _ => undef
def scalVs : List RK → List D → List Value
  | [], _ => []
  | k :: ks, ds => scalV k (nthD ds 0) :: scalVs ks (tailD ds)
theorem outs_scalar {G : Fz} : ∀ (ks : List RK) (ds : List D) (vs : List Value) (os : List Nat), ks.all scalar = true → OutsRd G w ks ds vs os → vs = scalVs ks ds
  | [], ds, vs, os, _, h => h.1
  | k :: ks, ds, vs, os, hs, h => by
    simp only [List.all_cons, Bool.and_eq_true] at hs
    obtain ⟨v, vs', cs, o1, o2, rfl, rfl, hv, h1, h2⟩ := h
    rw [outs_scalar ks _ _ _ hs.2 h2]
    have h3 := hs.1
    congr 1
    cases k with
    | d t =>
      simp only [RkRd] at h1
      obtain ⟨_, h1⟩ := h1
      cases t <;> simp only [scalar] at h3 <;> try (cases h3; done)
      all_goals
        simp only [Rd] at h1
        subst h1
        simpa [Val, RK.isAgg, DT.isT, scalV] using hv.symm
    | own => simp [scalar] at h3
    | agg => simp [scalar] at h3
theorem mkOuts_scalar : ∀ (ks : List RK) (ds : List D) (st : Stt), ks.all scalar = true → (mkOuts st ks ds).1 = (scalVs ks ds).map .v
  | [], ds, st, _ => rfl
  | k :: ks, ds, st, hs => by
    simp only [List.all_cons, Bool.and_eq_true] at hs
    have h3 := hs.1
    simp only [mkOuts, scalVs, List.map_cons]
    rw [mkOuts_scalar ks _ _ hs.2]
    congr 1
    cases k with
    | d t => cases t <;> simp only [scalar] at h3 <;> first | rfl | (cases h3; done)
    | own => simp [scalar] at h3
    | agg => simp [scalar] at h3
theorem callable_of {f : FuncId} (h : callableB P f = true) : Callable P f := by
  unfold callableB at h
  split at h
  · rename_i fn hf
    simp only [Bool.and_eq_true, Bool.not_eq_true'] at h
    refine ⟨fn, hf, h.1, ?_⟩
    cases hb : fn.body with
    | none => rw [hb] at h; simp at h
    | some c => rfl
  · cases h
theorem ne_not {a b : Bool} (h : a ≠ b) : a = !b := by cases a <;> cases b <;> simp_all
theorem run_callable {f : FuncId} (h : callableB P f = true) (args : Array Value) (w : World) : (callFunc f args).run P w = .ok (.enter f args) w := by
  obtain ⟨fn, hfn, hname, hb⟩ := callable_of h
  have hn' : ¬ fn.name = "runtime.NumGoroutine" := by simpa using hname
  have hb' : ¬ fn.body = none := by intro e; rw [e] at hb; cases hb
  simp [go_sem, callFunc, hfn, hn', hb']
theorem call_op {f : FuncId} {l : List AV} (hE : EnvOK s A E) (h : evCallS P A o.op = some (f, l)) : ∃ vs, RelL s l vs ∧ ∀ w, OpC P o E w f vs.toArray := by
  have key : ∀ {g : Operand} {xs : Array Operand} {ts : Array TypeId} {cs : Array Value}, o.op = .call ⟨.value g, xs, ts⟩ → ev E g = .func (.func f) #[] cs → callableB P f = true → ∀ w, OpC P o E w f (xs.map (ev E) ++ cs) := by
    intro g xs ts cs ho hg hcb w
    have hrun := fun args => run_callable hcb args w
    unfold OpC
    cases g with
    | func f' =>
      simp only [ev] at hg
      cases hg
      simp [execOp, ho, go_sem, ev, hrun]
    | tmp t => simp [execOp, ho, go_sem, hg, hrun]
    | const v => simp [execOp, ho, go_sem, hg, hrun]
    | global gg => simp [ev] at hg
  unfold evCallS at h
  split at h
  case h_2 => cases h
  rename_i g xs ts ho
  split at h
  · rename_i f' fs cs l' hg hl
    cases hc : (Nat.beq fs.size 0 && callableB P f') with
    | false => rw [hc] at h; cases h
    | true =>
    rw [hc] at h
    cases h
    simp only [Bool.and_eq_true] at hc
    have hfs : fs = #[] := Array.eq_empty_of_size_eq_zero (beq_t hc.1)
    subst hfs
    refine ⟨(xs.toList.map (ev E)) ++ cs.toList, (opds_ok hl hE).append (RelL.vs _), fun w => ?_⟩
    have := key ho (opd_v hg hE) hc.2 w
    rw [show ((xs.toList.map (ev E)) ++ cs.toList).toArray = xs.map (ev E) ++ cs from Array.ext' (by simp)]
    exact this
  · rename_i f' cs l' hg hl
    cases hc : callableB P f' with
    | false => rw [hc] at h; cases h
    | true =>
    rw [hc] at h
    cases h
    have hr := opd_ok hg hE
    simp only [Rel] at hr
    obtain ⟨vs, hr, he⟩ := hr
    refine ⟨(xs.toList.map (ev E)) ++ vs, (opds_ok hl hE).append hr, fun w => ?_⟩
    have := key ho he hc w
    rw [show ((xs.toList.map (ev E)) ++ vs).toArray = xs.map (ev E) ++ vs.toArray from Array.ext' (by simp)]
    exact this
  · cases h
theorem con_quiet {f : FuncId} {c : Con} (hc : ConOK P Γ f c) (hH : Hold Γ s w0 st w) {as' : List AV} {vs : List Value} {ps : Ps} {a : AV} (h : conStep c as' st = some (ps, a, st', true)) (hp : ∀ p ∈ ps, p) (hr : RelL s as' vs) :
    ∃ v, Rel s a v ∧ ∀ w', Ext [] w w' → Fnc P f vs.toArray w' fun u w'' => u = v ∧ Ext [] w' w'' := by
  unfold conStep at h
  split at h
  case h_2 => cases h
  rename_i ds ls hm
  cases hnd : noDup ls with
  | false => rw [hnd] at h; cases h
  | true =>
  rw [hnd] at h
  simp only [cond_true] at h
  generalize hmk : mkOuts (setBoxes st c.args ls (c.boxes ds)) c.res (c.out ds) = qq at h
  obtain ⟨r, st1⟩ := qq
  simp only [Option.some.injEq, Prod.mk.injEq, Bool.and_eq_true] at h
  obtain ⟨rfl, rfl, _, hemp, hsc⟩ := h
  have hls : ls = [] := by simpa using hemp
  subst hls
  have hpre : ∀ p ∈ c.pre ds, p := hp
  have hr1 : r = (scalVs c.res (c.out ds)).map .v := by
    have := mkOuts_scalar c.res (c.out ds) (setBoxes st c.args [] (c.boxes ds)) hsc
    rw [hmk] at this; exact this
  refine ⟨tupV (scalVs c.res (c.out ds)), by rw [hr1]; exact tup1_rel (RelL.vs _), fun w' hw => ?_⟩
  have hH' := hH.grow hw
  have hFsub : Sub s.F (fun b => w'.heap[b]?) := fun b o hb => hH'.frz b o hb
  obtain ⟨hdl, bs, hargs, hL⟩ := matchArgs_ok (F := fun b => w'.heap[b]?) hH' ⟨hH'.gf.trans hFsub, fun _ => hFsub, fun _ _ _ _ _ _ _ _ _ => rfl⟩ _ _ _ _ _ hm hr
  have hbs : bs = [] := by simpa [LocsOf] using hL
  subst hbs
  refine Fnc.mono (hc _ s.G w' vs ds [] hH'.gl (by simp) (fun b o hb => hb) (hH'.gf.trans hFsub) List.nodup_nil (by simp) hargs hdl hpre) ?_
  rintro v w'' ⟨G', os, rs, hx, _, _, _, _, _, hout, rfl, _⟩
  exact ⟨by rw [outs_scalar _ _ _ _ hsc hout], hx⟩
theorem evOp_rd {S : Sums} (hS : SumsOK P Γ S) (hH : Hold Γ s w0 st w) (hE : EnvOK s A E) {ps : Ps} {a : AV} (h : evOp P S st A o = some (.rd ps a)) (hp : ∀ p ∈ ps, p) : ∃ v, Rel s a v ∧ Quiet1 P o E w v := by
  unfold evOp at h
  split at h
  · rename_i ps' a' hr
    cases h
    obtain ⟨v, h1, h2⟩ := rd_ok hH hE hr hp
    exact ⟨v, h1, .inl h2⟩
  · split at h
    · cases h
    · split at h
      · rename_i f l hc
        split at h
        case h_2 => cases h
        rename_i c hf
        split at h
        case h_2 => cases h
        rename_i ps' a' st1 q hcon
        cases q with
        | false => cases h
        | true =>
          cases h
          obtain ⟨vs, h1, h2⟩ := call_op hE hc
          obtain ⟨v, h3, h4⟩ := con_quiet (hS f c hf) hH hcon hp h1
          exact ⟨v, h3, .inr ⟨f, vs.toArray, fun w' _ => h2 w', h4⟩⟩
      · split at h
        · rename_i a' hpure
          cases h
          obtain ⟨v, h1, h2⟩ := pure_ok (w := w) hE hpure
          exact ⟨v, h1, .inl h2⟩
        · cases h
theorem evOp_wr {S : Sums} (hS : SumsOK P Γ S) (hH : Hold Γ s w0 st w) (hE : EnvOK s A E) {ps : Ps} {a : AV} (h : evOp P S st A o = some (.wr ps a st')) (hp : ∀ p ∈ ps, p) : Made P o E w fun v w' => ∃ s', s.le s' ∧ Hold Γ s' w0 st' w' ∧ Rel s' a v := by
  unfold evOp at h
  split at h
  · cases h
  · split at h
    · rename_i ps' a' st1 hw
      cases h
      obtain ⟨v, w', s', h1, h2⟩ := wr_ok hH hE hw hp
      exact .inl ⟨v, w', h1, s', h2⟩
    · split at h
      · rename_i f l hc
        split at h
        case h_2 => cases h
        rename_i c hf
        split at h
        case h_2 => cases h
        rename_i ps' a' st1 q hcon
        cases q with
        | true => cases h
        | false =>
          cases h
          obtain ⟨vs, h1, h2⟩ := call_op hE hc
          exact .inr ⟨f, vs.toArray, h2 w, con_ok (hS f c hf) hH hcon hp h1⟩
      · split at h
        · cases h
        · cases h

/-! ### Blocks -/
/-- what is needed of a logic of lists of operations, of which none makes or writes -/
structure QRules (P : Program) (n : Fsz) (ops : Array Oper) (w : World) (WX : List Oper → Env → Prop) : Prop where
  q : ∀ {o : Oper} {E : Env} {v : Value} {rest : List Oper}, Sure ops o E → dstOk n o.dst = true → Quiet1 P o E w v → WX rest (updO E o.dst v) → WX (o :: rest) E
  s : ∀ {o : Oper} {E : Env} {rest : List Oper}, Shut ops o E → dstOk n o.dst = true → WX rest (updO E o.dst undef) → WX (o :: rest) E
theorem cxIs_ok {a b : Cx} (h : cxIs a b = true) : a = b := by
  cases a <;> cases b <;> simp only [cxIs] at h <;> try (cases h; done)
  · rfl
  · rename_i x y
    obtain ⟨i, p⟩ := x; obtain ⟨j, q⟩ := y
    simp only [Bool.and_eq_true] at h
    rw [beq_t h.1, eq_of_beq h.2]
def CxH (ops : Array Oper) (E : Env) (ds : List Nat) : Cx → Prop
  | none => True
  | some (j, w) => ∃ d, (ops[j]?).bind (·.dst) = some d ∧ d ∉ ds ∧ E d = .bool w
def CxS (ops : Array Oper) (E : Env) (ds : List Nat) (j : Nat) (w : Bool) : Prop := ∃ d, (ops[j]?).bind (·.dst) = some d ∧ d ∉ ds ∧ (E d = .bool (!w) ∨ E d = undef)
theorem updO_out {E : Env} {d : Option Nat} {v : Value} {t : Nat} (h : ∀ x, d = some x → t ≠ x) : updO E d v t = E t := by
  cases d with
  | none => rfl
  | some x => exact upd_ne _ _ _ _ (h x rfl)
theorem dsts_cons (o : Oper) (r : List Oper) : dsts (o :: r) = dsts [o] ++ dsts r := by
  cases h : o.dst <;> simp [dsts, List.filterMap_cons, h]
theorem dsts_append (l r : List Oper) : dsts (l ++ r) = dsts l ++ dsts r := by simp [dsts]
theorem mem_dsts1 {o : Oper} {t : Nat} : t ∈ dsts [o] ↔ o.dst = some t := by
  cases h : o.dst <;> simp [dsts, h, eq_comm]
theorem ahead_behind (cx : Cx) : ∀ l : List Oper, l = ahead cx l ++ behind cx l
  | [] => rfl
  | o :: r => by
    simp only [ahead, behind]
    cases cxIs o.guard cx with
    | true => rfl
    | false => simp only [cond_false, List.cons_append]; rw [← ahead_behind cx r]
theorem behind_head {cx : Cx} : ∀ {l : List Oper} {p : Oper} {r : List Oper}, behind cx l = p :: r → cxIs p.guard cx = true
  | [], _, _, h => by simp [behind] at h
  | o :: l, p, r, h => by
    simp only [behind] at h
    cases hc : cxIs o.guard cx with
    | true => rw [hc] at h; cases h; exact hc
    | false => rw [hc] at h; exact behind_head h
theorem gslot_ok {ops : Array Oper} {g : Nat × Bool} {d : Nat} {b : Bool} (h : gslot ops A g = some (d, b)) : (ops[g.1]?).bind (·.dst) = some d ∧ A.get d = some (.v (.bool b)) := by
  unfold gslot at h
  split at h
  · rename_i q hq
    split at h
    · rename_i d' hd
      split at h
      · rename_i b' hb; cases h; exact ⟨by rw [hq]; exact hd, hb⟩
      · cases h
    · cases h
  · cases h
theorem guardP_ok {b w : Bool} {ps qs : Ps} (h : ∀ p ∈ guardP b w ps qs, p) : (b = w → ∀ p ∈ ps, p) ∧ ∀ q ∈ qs, q := by
  cases ps with
  | nil => exact ⟨fun _ => by simp, h⟩
  | cons p r =>
    simp only [guardP] at h
    refine ⟨fun e => conj_ok (h _ (List.mem_cons_self ..) e), fun q hq => h q (List.mem_cons_of_mem _ hq)⟩
theorem killA_env {ds : List Nat} {E' : Env} (hE : EnvOK s A E) (h : ∀ t, t ∉ ds → E' t = E t) : EnvOK s (killA A ds) E' := fun t a ht => by
  obtain ⟨h1, h2⟩ := killA_get ds A t a ht
  rw [h t h1]; exact hE t a h2
theorem pick_ok {Ak A1 : AE} {d : Nat} {b g : Bool} {a : AV} (h : evPick Ak A1 d b g o.op = some a) (hd : E d = .bool b) (hk : EnvOK s Ak E) (h1 : b = g → EnvOK s A1 E) : ∃ v, Rel s a v ∧ ∀ w, OpV P o E w v := by
  unfold evPick at h
  split at h
  case h_2 => cases h
  rename_i d' x y ho
  cases hq : Nat.beq d d' with
  | false => rw [hq] at h; cases h
  | true =>
  rw [hq] at h
  have := beq_t hq
  subst this
  simp only [cond_true] at h
  have hop : ∀ w, OpV P o E w (bif b then ev E x else ev E y) := fun w => V.pick ho hd rfl
  cases g with
  | true =>
    simp only [cond_true] at h
    split at h
    · rename_i p q hx hy
      split at h
      · rename_i hc
        cases h
        refine ⟨_, ?_, hop⟩
        cases b with
        | true => simp only [cond_true, Bool.true_and]; rw [opd_v hx (h1 rfl)]; exact Rel.mkv _
        | false => simp only [cond_false, Bool.false_and]; rw [constB_ok hc]; exact Rel.mkv _
      · exact ⟨_, pickA_ok h (fun e => opd_ok hx (h1 e)) (fun _ => opd_ok hy hk), hop⟩
    · rename_i p q _ hx hy
      exact ⟨_, pickA_ok h (fun e => opd_ok hx (h1 e)) (fun _ => opd_ok hy hk), hop⟩
    · cases h
  | false =>
    simp only [cond_false] at h
    split at h
    · rename_i p q hx hy
      split at h
      · rename_i hc
        cases h
        refine ⟨_, ?_, hop⟩
        cases b with
        | true => simp only [cond_true, Bool.true_or]; rw [constB_ok hc]; exact Rel.mkv _
        | false => simp only [cond_false, Bool.false_or]; rw [opd_v hy (h1 rfl)]; exact Rel.mkv _
      · exact ⟨_, pickA_ok h (fun _ => opd_ok hx hk) (fun e => opd_ok hy (h1 e)), hop⟩
    · rename_i p q _ hx hy
      exact ⟨_, pickA_ok h (fun _ => opd_ok hx hk) (fun e => opd_ok hy (h1 e)), hop⟩
    · cases h
theorem dst_of {N : Nat} {D : List Deferred} {d : Option Nat} (h : dstB N d = true) : dstOk ⟨N, D⟩ d = true := by
  cases d with
  | none => rfl
  | some d => exact h
/-- a block that is passed over -/
theorem blk_skip {S : Sums} {N : Nat} {DD : List Deferred} {ops : Array Oper} {WX : List Oper → Env → Prop} (R : QRules P ⟨N, DD⟩ ops w WX) : ∀ (n : Nat) (j : Nat) (g : Bool) (dl : List Nat) (l : List Oper) (A : AE) (ps : Ps) (A' : AE) (E : Env) (rest : List Oper),
    evBlk P S N ops st n (some (j, g)) dl l A = some (ps, A') → CxS ops E (dsts l) j g → (∀ x ∈ dl, E x = undef) → (∀ E', (∀ t, t ∈ dsts l → E' t = undef) → (∀ t, t ∉ dsts l → E' t = E t) → WX rest E') → WX (l ++ rest) E
  | 0, _, _, _, _, _, _, _, _, _, h, _, _, _ => by simp [evBlk] at h
  | n + 1, j, g, dl, [], A, ps, A', E, rest, h, _, _, k => k E (by simp [dsts]) (fun _ _ => rfl)
  | n + 1, j, g, dl, o :: r, A, ps, A', E, rest, h, hcx, hdl, k => by
    simp only [evBlk] at h
    obtain ⟨d, hd1, hd2, hd3⟩ := hcx
    rw [dsts_cons] at hd2
    simp only [List.mem_append, not_or] at hd2
    have hdo : ∀ x, o.dst = some x → d ≠ x := fun x hx e => hd2.1 (by subst e; exact mem_dsts1.2 hx)
    cases hc : cxIs o.guard (some (j, g)) with
    | true =>
      rw [hc] at h
      simp only [cond_true] at h
      cases hdst : dstB N o.dst with
      | false => rw [hdst] at h; cases h
      | true =>
      rw [hdst] at h
      simp only [cond_true] at h
      split at h
      case h_2 => cases h
      split at h
      case h_2 => cases h
      rename_i ps1 a1 _ qs A2 hrest
      have hg := cxIs_ok hc
      have hshut : Shut ops o E := by
        rcases hd3 with hd3 | hd3
        · exact Shut.no hg hd1 hd3 (by cases g <;> rfl)
        · exact Shut.undef hg hd1 hd3
      refine R.s hshut (dst_of hdst) ?_
      refine blk_skip R n j g _ r _ _ _ _ rest hrest ⟨d, hd1, hd2.2, by rw [updO_out hdo]; exact hd3⟩ (fun x hx => ?_) (fun E' h1 h2 => k E' (fun t ht => ?_) (fun t ht => ?_))
      · rcases List.mem_append.1 hx with hx | hx
        · rw [mem_dsts1.1 hx, updO, upd_same]
        · by_cases e : o.dst = some x
          · rw [e, updO, upd_same]
          · rw [updO_out (fun y hy e' => e (by rw [hy, e']))]; exact hdl x hx
      · rw [dsts_cons] at ht
        by_cases e : t ∈ dsts r
        · exact h1 t e
        · rw [h2 t e]
          rcases List.mem_append.1 ht with ht | ht
          · rw [mem_dsts1.1 ht, updO, upd_same]
          · exact absurd ht e
      · rw [dsts_cons] at ht
        simp only [List.mem_append, not_or] at ht
        rw [h2 t ht.2, updO_out (fun y hy e' => ht.1 (by subst e'; exact mem_dsts1.2 hy))]
    | false =>
      rw [hc] at h
      simp only [cond_false] at h
      split at h
      · cases h
      · rename_i g2 hg2
        split at h
        case h_2 => cases h
        rename_i d2 b2 p r' hgs hbe
        cases hck : ((cxTop (some (j, g)) || dl.contains d2) && !(dsts (ahead (some (j, g)) (o :: r))).contains d2 && dstB N p.dst) with
        | false => rw [hck] at h; cases h
        | true =>
        rw [hck] at h
        simp only [cond_true] at h
        simp only [Bool.and_eq_true, Bool.not_eq_true'] at hck
        obtain ⟨⟨c1, c2⟩, c3⟩ := hck
        split at h
        case h_2 => cases h
        rename_i ps1 A1 hB
        split at h
        case h_2 => cases h
        split at h
        case h_2 => cases h
        rename_i a _ qs A2 hR
        obtain ⟨hs1, hs2⟩ := gslot_ok hgs
        have hsplit := ahead_behind (some (j, g)) (o :: r)
        rw [hbe] at hsplit
        generalize hBl : ahead (some (j, g)) (o :: r) = B at *
        have hd2' : d ∉ dsts B ∧ d ∉ dsts [p] ∧ d ∉ dsts r' := by
          have : d ∉ dsts (o :: r) := by rw [dsts_cons]; simp only [List.mem_append, not_or]; exact hd2
          rw [hsplit, dsts_append, dsts_cons p r'] at this
          simpa [List.mem_append, not_or] using this
        have hdu : E d2 = undef := hdl d2 (by simpa [cxTop] using c1)
        rw [hsplit, List.append_assoc]
        refine blk_skip R n g2.1 g2.2 [] B _ _ _ E (p :: r' ++ rest) hB ⟨d2, hs1, by simpa using c2, .inr hdu⟩ (by simp) (fun E1 h1 h2 => ?_)
        have hpg := cxIs_ok (behind_head hbe)
        have hE1d : E1 d = E d := h2 d hd2'.1
        have hpd : ∀ x, p.dst = some x → d ≠ x := fun x hx e => hd2'.2.1 (by subst e; exact mem_dsts1.2 hx)
        have hshut : Shut ops p E1 := by
          rcases hd3 with hd3 | hd3
          · exact Shut.no hpg hd1 (hE1d.trans hd3) (by cases g <;> rfl)
          · exact Shut.undef hpg hd1 (hE1d.trans hd3)
        rw [List.cons_append]
        refine R.s hshut (dst_of c3) ?_
        refine blk_skip R n j g _ r' _ _ _ _ rest hR ⟨d, hd1, hd2'.2.2, by rw [updO_out hpd, hE1d]; exact hd3⟩ (fun x hx => ?_) (fun E' k1 k2 => k E' (fun t ht => ?_) (fun t ht => ?_))
        · by_cases e : p.dst = some x
          · rw [e, updO, upd_same]
          · rw [updO_out (fun y hy e' => e (by rw [hy, e']))]
            by_cases e2 : x ∈ dsts B
            · exact h1 x e2
            · rw [h2 x e2]
              rcases List.mem_append.1 hx with hx | hx
              · rcases List.mem_append.1 hx with hx | hx
                · exact absurd hx e2
                · exact absurd (mem_dsts1.1 hx) e
              · exact hdl x hx
        · rw [hsplit, dsts_append, dsts_cons p r'] at ht
          by_cases e : t ∈ dsts r'
          · exact k1 t e
          · rw [k2 t e]
            by_cases e1 : p.dst = some t
            · rw [e1, updO, upd_same]
            · rw [updO_out (fun y hy e' => e1 (by rw [hy, e']))]
              rcases List.mem_append.1 ht with ht | ht
              · exact h1 t ht
              · rcases List.mem_append.1 ht with ht | ht
                · exact absurd (mem_dsts1.1 ht) e1
                · exact absurd ht e
        · rw [hsplit, dsts_append, dsts_cons p r'] at ht
          simp only [List.mem_append, not_or] at ht
          rw [k2 t ht.2.2, updO_out (fun y hy e' => ht.2.1 (by subst e'; exact mem_dsts1.2 hy)), h2 t ht.1]
/-- a block that runs -/
theorem blk_ok {S : Sums} (hS : SumsOK P Γ S) (hH : Hold Γ s w0 st w) {N : Nat} {DD : List Deferred} {ops : Array Oper} {WX : List Oper → Env → Prop} (R : QRules P ⟨N, DD⟩ ops w WX) : ∀ (n : Nat) (cx : Cx) (dl : List Nat) (l : List Oper) (A : AE) (ps : Ps) (A' : AE) (E : Env) (rest : List Oper),
    evBlk P S N ops st n cx dl l A = some (ps, A') → (∀ p ∈ ps, p) → CxH ops E (dsts l) cx → EnvOK s A E → (∀ E', EnvOK s A' E' → (∀ t, t ∉ dsts l → E' t = E t) → WX rest E') → WX (l ++ rest) E
  | 0, _, _, _, _, _, _, _, _, h, _, _, _, _ => by simp [evBlk] at h
  | n + 1, cx, dl, [], A, ps, A', E, rest, h, hp, _, hE, k => by
    simp only [evBlk, Option.some.injEq, Prod.mk.injEq] at h
    obtain ⟨rfl, rfl⟩ := h
    exact k E hE (fun _ _ => rfl)
  | n + 1, cx, dl, o :: r, A, ps, A', E, rest, h, hp, hcx, hE, k => by
    simp only [evBlk] at h
    have hsure : ∀ {q : Oper} {E1 : Env}, cxIs q.guard cx = true → (∀ d, d ∉ dsts (o :: r) → E1 d = E d) → Sure ops q E1 := by
      intro q E1 hc hag
      have hg := cxIs_ok hc
      cases cx with
      | none => exact Sure.none hg
      | some jw =>
        obtain ⟨j, gw⟩ := jw
        obtain ⟨d, hd1, hd2, hd3⟩ := hcx
        exact Sure.yes hg hd1 ((hag d hd2).trans hd3)
    have hcx' : ∀ {E1 : Env} {ds : List Nat}, (∀ d, d ∉ dsts (o :: r) → E1 d = E d) → (∀ d, d ∈ ds → d ∈ dsts (o :: r)) → CxH ops E1 ds cx := by
      intro E1 ds hag hsub
      cases cx with
      | none => trivial
      | some jw =>
        obtain ⟨j, gw⟩ := jw
        obtain ⟨d, hd1, hd2, hd3⟩ := hcx
        exact ⟨d, hd1, fun hm => hd2 (hsub d hm), (hag d hd2).trans hd3⟩
    cases hc : cxIs o.guard cx with
    | true =>
      rw [hc] at h
      simp only [cond_true] at h
      cases hdst : dstB N o.dst with
      | false => rw [hdst] at h; cases h
      | true =>
      rw [hdst] at h
      simp only [cond_true] at h
      split at h
      case h_2 => cases h
      rename_i ps1 a1 hop
      split at h
      case h_2 => cases h
      rename_i qs A2 hrest
      cases h
      obtain ⟨v, hrel, hq⟩ := evOp_rd hS hH hE hop (fun p hpp => hp p (List.mem_append_left _ hpp))
      refine R.q (hsure hc (fun _ _ => rfl)) (dst_of hdst) hq ?_
      have hag : ∀ d, d ∉ dsts (o :: r) → updO E o.dst v d = E d := fun d hd => updO_out (fun x hx e => hd (by subst e; rw [dsts_cons]; exact List.mem_append_left _ (mem_dsts1.2 hx)))
      refine blk_ok hS hH R n cx _ r _ _ _ _ rest hrest (fun p hpp => hp p (List.mem_append_right _ hpp)) (hcx' hag (fun d hd => by rw [dsts_cons]; exact List.mem_append_right _ hd)) (hE.put hrel) (fun E' h1 h2 => k E' h1 (fun t ht => ?_))
      have ht' := ht
      rw [dsts_cons] at ht
      simp only [List.mem_append, not_or] at ht
      rw [h2 t ht.2, hag t ht']
    | false =>
      rw [hc] at h
      simp only [cond_false] at h
      split at h
      · cases h
      · rename_i g2 hg2
        split at h
        case h_2 => cases h
        rename_i d2 b2 p r' hgs hbe
        cases hck : ((cxTop cx || dl.contains d2) && !(dsts (ahead cx (o :: r))).contains d2 && dstB N p.dst) with
        | false => rw [hck] at h; cases h
        | true =>
        rw [hck] at h
        simp only [cond_true] at h
        simp only [Bool.and_eq_true, Bool.not_eq_true'] at hck
        obtain ⟨⟨c1, c2⟩, c3⟩ := hck
        split at h
        case h_2 => cases h
        rename_i ps1 A1 hB
        split at h
        case h_2 => cases h
        rename_i a hpk
        split at h
        case h_2 => cases h
        rename_i qs A2 hR
        cases h
        obtain ⟨hs1, hs2⟩ := gslot_ok hgs
        have hsplit := ahead_behind cx (o :: r)
        rw [hbe] at hsplit
        obtain ⟨hp1, hp2⟩ := guardP_ok hp
        have hEd : E d2 = .bool b2 := (hE d2 _ hs2).v_of
        generalize hBl : ahead cx (o :: r) = B at *
        have c2' : d2 ∉ dsts B := by simpa using c2
        have hall : dsts (o :: r) = dsts B ++ (dsts [p] ++ dsts r') := by rw [hsplit, dsts_append, dsts_cons p r']
        -- behind the block
        have fin : ∀ E1, (∀ t, t ∉ dsts B → E1 t = E t) → (b2 = g2.2 → EnvOK s A1 E1) → WX (p :: r' ++ rest) E1 := by
          intro E1 hag h1
          have hk1 : EnvOK s (killA A (dsts B)) E1 := killA_env hE hag
          obtain ⟨v, hrel, hpo⟩ := pick_ok (P := P) hpk ((hag d2 c2').trans hEd) hk1 h1
          rw [List.cons_append]
          have hag1 : ∀ d, d ∉ dsts (o :: r) → E1 d = E d := fun d hd => hag d (fun hm => hd (by rw [hall]; exact List.mem_append_left _ hm))
          refine R.q (hsure (behind_head hbe) hag1) (dst_of c3) (.inl fun w' _ => hpo w') ?_
          have hag2 : ∀ d, d ∉ dsts (o :: r) → updO E1 p.dst v d = E d := fun d hd => by
            rw [updO_out (fun x hx e => hd (by subst e; rw [hall]; exact List.mem_append_right _ (List.mem_append_left _ (mem_dsts1.2 hx))))]
            exact hag1 d hd
          refine blk_ok hS hH R n cx _ r' _ _ _ _ rest hR hp2 (hcx' hag2 (fun d hd => by rw [hall]; exact List.mem_append_right _ (List.mem_append_right _ hd))) (hk1.put hrel) (fun E' k1 k2 => k E' k1 (fun t ht => ?_))
          rw [k2 t (fun hm => ht (by rw [hall]; exact List.mem_append_right _ (List.mem_append_right _ hm))), hag2 t ht]
        rw [hsplit, List.append_assoc]
        by_cases hb : b2 = g2.2
        · refine blk_ok hS hH R n (some g2) [] B _ _ _ E (p :: r' ++ rest) hB (hp1 hb) ⟨d2, hs1, c2', by rw [hEd, hb]⟩ hE (fun E1 h1 h2 => fin E1 h2 (fun _ => h1))
        · refine blk_skip R n g2.1 g2.2 [] B _ _ _ E (p :: r' ++ rest) hB ⟨d2, hs1, c2', .inl (by rw [hEd, ne_not hb])⟩ (by simp) (fun E1 h1 h2 => fin E1 h2 (fun e => absurd e hb))
end
end Go.Proofs.YtbbjonjhaoeidaaDoor.Sv
