/- Loops over functions, over frames. Program-agnostic. -/
import Derived.Test.YtcinjnkgopoclaaGreatDoorQW11
import Derived.RangeFuncLeaves
import Derived.RangeFuncRecord
set_option linter.unusedVariables false
set_option linter.unusedSimpArgs false
set_option linter.unusedSectionVars false
namespace Go.Proofs.YtcinjnkgopoclaaGreatDoor.W
open Go.RowKit

/-- a piece of code and what stands behind it, over activations -/
def WX (P : Program) (n : Fsz) (c : Code) (Q : Exit → Act → World → Prop) (E : Env) (w : World) : Prop := ∀ a, Ok n a → envOf a = E → c.wpIn (Fr none) 1 P Q a w
abbrev KX (n : Fsz) (Q : Exit → Act → World → Prop) (N : Env → World → Prop) : K := ⟨N, fun i E w => ∀ a, Ok n a → envOf a = E → Q (.exit i) a w, fun E w => ∀ a, Ok n a → envOf a = E → Q .ret a w⟩
section
variable {P : Program} {n : Fsz} {Q : Exit → Act → World → Prop} {E : Env} {w : World}
theorem WX.seq {x y : Code} (h : WP P n x (KX n Q (WX P n y Q)) E w) : WX P n (.seq x y) Q E w := by
  intro a ha he
  refine wpIn_seq (wpIn_mono (h a ha he) ?_)
  intro e a' w' ⟨h1, h2⟩
  cases e with
  | normal => exact h2 a' h1 rfl
  | ret => exact h2 a' h1 rfl
  | exit i => exact h2 a' h1 rfl
  | goto _ => exact h2.elim
  | panic _ => exact h2.elim
  | outgrown => exact h2.elim
theorem WX.seqx {x y : Code} (h : WX P n x (Exit.then (y.wpIn (Fr none) 1 P Q) Q) E w) : WX P n (.seq x y) Q E w := fun a ha he => wpIn_seq (h a ha he)
theorem WX.block {id : Nat} {c : Code} (h : WX P n c (Exit.inBlock id Q) E w) : WX P n (.block id c) Q E w := fun a ha he => wpIn_block (h a ha he)
theorem WX.of {c : Code} (h : WP P n c (KX n Q fun E w => ∀ a, Ok n a → envOf a = E → Q .normal a w) E w) : WX P n c Q E w := by
  intro a ha he
  refine wpIn_mono (h a ha he) ?_
  intro e a' w' ⟨h1, h2⟩
  cases e with
  | normal => exact h2 a' h1 rfl
  | ret => exact h2 a' h1 rfl
  | exit i => exact h2 a' h1 rfl
  | goto _ => exact h2.elim
  | panic _ => exact h2.elim
  | outgrown => exact h2.elim
theorem ext_putObj (w : World) (b : Nat) (o : Obj) : Ext [b] w (w.putObj b o) := ⟨rfl, rfl, rfl, by simp, fun k _ hk => World.putObj_heap_other (by simpa using hk)⟩
theorem heap_lt {w : World} {b : Nat} {o : Obj} (h : w.heap[b]? = some o) : b < w.heap.size := by
  rcases Nat.lt_or_ge b w.heap.size with h1 | h1
  · exact h1
  · rw [Array.getElem?_eq_none h1] at h; cases h
def mark (d : Nat) : Deferred := { target := .collected d, args := #[] }
/-- A loop over a function: the function is called with the loop's yield; what it leaves is where the code goes on. -/
theorem WX.range {g : Operand} {ps : Array Tmp} {asg body : Code} {f : FuncId} {cap : Array Value} (hg : ev E g = .func (.func f) #[] cap) (hcal : Callable P f)
    (h : ∀ (fn : FuncId) (tmps : Array Value), tmps.size = n.n → (fun t => tmps.getD t undef) = E → ∀ W1, Ext [] w W1 → W1.heap.size = w.heap.size + 2 → W1.heap[w.heap.size]? = some (.deferred (some [])) →
      W1.heap[w.heap.size + 1]? = some (.loop { state := .ready, pending := none, fn := fn, tmps := tmps, params := ps, assign := asg, body := body, defers := w.heap.size }) →
      Fnc P f (#[.func (.yield (w.heap.size + 1)) #[] #[]] ++ cap) W1 fun _ w3 => ∃ r : Loop, w3.heap[w.heap.size + 1]? = some (.loop r) ∧ r.state ≠ .busy ∧
        ∀ w4, Ext [w.heap.size + 1] w3 w4 → ∀ a, Ok ⟨n.n, mark w.heap.size :: n.D⟩ a → envOf a = E → match r.pending with
          | none => Q .normal a w4
          | some .ret => Q .ret a w4
          | some (.exit i) => Q (.exit i) a w4
          | _ => False) : WX P n (.rangeFunc g ps asg body) Q E w := by
  intro a ha he
  refine wpIn_rangeFunc fun fn hfn => ?_
  obtain ⟨rec, hrec⟩ : ∃ rec : Loop, rec = { state := .ready, pending := none, fn := fn, tmps := a.tmps, params := ps, assign := asg, body := body, defers := w.heap.size } := ⟨_, rfl⟩
  have hX : Ext [] w ((w.alloc (.deferred (some []))).alloc (.loop rec)) := (Ext.alloc w _).trans (Ext.alloc _ _)
  have hsz : ((w.alloc (.deferred (some []))).alloc (.loop rec)).heap.size = w.heap.size + 2 := by simp
  have hD : ((w.alloc (.deferred (some []))).alloc (.loop rec)).heap[w.heap.size]? = some (.deferred (some [])) := by
    have h1 : (w.alloc (.deferred (some []))).heap[w.heap.size]? = some (.deferred (some [])) := World.alloc_heap_new w _
    rw [(Ext.alloc (X := []) (w.alloc (.deferred (some []))) (.loop rec)).block _ (heap_lt h1) (by simp)]; exact h1
  have hL : ((w.alloc (.deferred (some []))).alloc (.loop rec)).heap[w.heap.size + 1]? = some (.loop rec) := by
    have := World.alloc_heap_new (w.alloc (.deferred (some []))) (.loop rec)
    rwa [show (w.alloc (.deferred (some []))).heap.size = w.heap.size + 1 from by simp] at this
  refine ⟨w.heap.size + 1, [mark w.heap.size], (w.alloc (.deferred (some []))).alloc (.loop rec), { target := .fn (.func f) cap, args := #[.func (.yield (w.heap.size + 1)) #[] #[]] }, (w.alloc (.deferred (some []))).alloc (.loop rec), f,
    #[.func (.yield (w.heap.size + 1)) #[] #[]] ++ cap, (w.alloc (.deferred (some []))).alloc (.loop rec), ?_, ?_, ?_, ?_, fun h => (by cases h), ?_⟩
  · rw [hrec]; exact run_enterLoop_outer _ _ _ _ _
  · have hg' : a.eval g = .func (.func f) #[] cap := by rw [eval_envOf, he]; exact hg
    simp only [resolve, hg']
    simp [go_sem]
  · intro f' _; trivial
  · simp only [invoke]
    obtain ⟨fn', hfn', hname, hb⟩ := hcal
    have hn' : ¬ fn'.name = "runtime.NumGoroutine" := by simpa using hname
    have hb' : ¬ fn'.body = none := by intro e; rw [e] at hb; cases hb
    simp [go_sem, callFunc, hfn', hn', hb']
  · have hcall := h fn a.tmps ha.1 he _ hX hsz hD (by rw [hL, hrec])
    have hcall' : CallsIn (Fr none) (1 - 1) P f (#[.func (.yield (w.heap.size + 1)) #[] #[]] ++ cap) ((w.alloc (.deferred (some []))).alloc (.loop rec)) _ := (callsIn_wide (n := 1 - 1)).2 hcall
    refine CallsIn.mono hcall' ?_
    rintro e w3 ⟨v, rfl, r, hl3, hb3, hQ⟩
    have hend := run_endLoop (P := P) hl3 hb3
    have key := hQ _ (ext_putObj w3 (w.heap.size + 1) (.loop { r with state := .exhausted })) { a with defers := [mark w.heap.size] ++ a.defers } ⟨ha.1, by show [mark w.heap.size] ++ a.defers = _; rw [ha.2]; rfl⟩ he
    refine ⟨r.pending, _, hend, ?_⟩
    split at key
    · rename_i hj; simp only [hj] at key ⊢; exact key
    · rename_i hj; simp only [hj] at key ⊢; exact wpIn_ret key
    · rename_i i hj; simp only [hj] at key ⊢; exact wpIn_exit key
    · exact key.elim
end
section
variable {P : Program} {n : Fsz} {Q : Exit → Act → World → Prop} {E : Env} {w : World}
/-- code, a loop over a function in a block, and what stands behind it -/
theorem WX.seqRange {x T : Code} {id : Nat} {g : Operand} {ps : Array Tmp} {asg body : Code} (h : WP P n x (KX n Q fun E1 w1 => ∃ (f : FuncId) (cap : Array Value), ev E1 g = .func (.func f) #[] cap ∧ Callable P f ∧ ∃ J : World → Prop,
      (∀ rec : Loop, rec.state = .ready → rec.pending = none → rec.tmps.size = n.n → (fun t => rec.tmps.getD t undef) = E1 → rec.params = ps → rec.assign = asg → rec.body = body → ∀ W1, Ext [] w1 W1 → W1.heap.size = w1.heap.size + 2 → Blk W1 w1.heap.size (.deferred (some [])) → Blk W1 (w1.heap.size + 1) (.loop rec) →
        Fnc P f (#[.func (.yield (w1.heap.size + 1)) #[] #[]] ++ cap) W1 fun _ w3 => ∃ r : Loop, Blk w3 (w1.heap.size + 1) (.loop r) ∧ r.state ≠ .busy ∧ (r.pending = none ∨ r.pending = some (.exit id)) ∧ ∀ w4, Ext [w1.heap.size + 1] w3 w4 → J w4) ∧
      ∀ w4, J w4 → WX P ⟨n.n, mark w1.heap.size :: n.D⟩ T Q E1 w4) E w) : WX P n (.seq (.seq x (.block id (.rangeFunc g ps asg body))) T) Q E w := by
  refine WX.seqx (WX.seq (WP.mono h ?_ (fun _ _ _ h => h) (fun _ _ h => h)))
  rintro E1 w1 ⟨f, cap, hg, hcal, J, h1, h2⟩
  refine WX.block (WX.range hg hcal ?_)
  intro fn tmps htm hE W1 hx hs hd hl
  refine Fnc.mono (h1 _ rfl rfl htm hE rfl rfl rfl W1 hx hs hd hl) ?_
  rintro v w3 ⟨r, g1, g2, g3, g4⟩
  refine ⟨r, g1, g2, fun w4 hx4 a ha he => ?_⟩
  have key : T.wpIn (Fr none) 1 P Q a w4 := h2 w4 (g4 w4 hx4) a ha he
  rcases g3 with g3 | g3
  · rw [g3]; exact key
  · rw [g3]
    show Exit.inBlock id _ (.exit id) a w4
    simp only [Exit.inBlock, if_true]
    exact key
end
/-! ### A round -/
theorem wpInN {ro : Option Nat} {P : Program} {c : Code} {Q : Exit → Act → World → Prop} {a : Act} {w : World} (n m : Nat) (h : c.wpIn (Fr ro) n P Q a w) : c.wpIn (Fr ro) m P Q a w :=
  fun b k cs hro hb _ => h b k cs hro hb (fun _ hd => by cases hd)
/-- how a round is left -/
def EndR (l : Nat) (R : Value → World → Prop) (jump : Option Code) (w3 : World) : Prop := ∃ r3 : Loop, w3.heap[l]? = some (.loop r3) ∧
  ∀ w4, Ext [l] w3 w4 → w4.heap[l]? = some (.loop { r3 with state := if jump.isNone then .ready else .done, pending := jump }) → R (.bool jump.isNone) w4
theorem EndR.run {P : Program} {l : Nat} {R : Value → World → Prop} {jump : Option Code} {w3 : World} (h : EndR l R jump w3) : ∃ v w', (Instr.endRound l jump).run P w3 = .ok v w' ∧ ∃ u, Ending.returned v = .returned u ∧ R u w' := by
  obtain ⟨r3, h1, h2⟩ := h
  exact ⟨_, _, run_endRound jump h1, _, rfl, h2 _ (ext_putObj w3 l _) (World.putObj_heap_same (heap_lt h1))⟩
theorem round_wp {P : Program} {ro : Option Nat} {N l p1 p2 : Nat} {r : Loop} {E : Env} {w : World} {u v : Value} {R : Value → World → Prop} {J : Env → World → Prop} (hp : r.params = #[p1, p2]) (htm : r.tmps.size = N) (hE : (fun t => r.tmps.getD t undef) = E) (h1 : p1 < N) (h2 : p2 < N)
    (h : WPr (some l) P ⟨N, []⟩ r.assign ⟨J, fun _ _ _ => False, fun _ _ => False⟩ (upd (upd E p1 u) p2 v) w)
    (hJ : ∀ E2 w2, J E2 w2 → ∃ r2 : Loop, w2.heap[l]? = some (.loop r2) ∧ r2.state = .ready ∧ ∀ w2', Ext [l] w2 w2' → w2'.heap[l]? = some (.loop { r2 with state := .busy }) →
      WPr (some l) P ⟨N, []⟩ r.body ⟨fun _ w3 => EndR l R none w3, fun i _ w3 => EndR l R (some (.exit i)) w3, fun _ w3 => EndR l R (some .ret) w3⟩ E2 w2') :
    RoundIn (Fr ro) 0 P l r.fn ((r.params.zip #[u, v]).foldl (fun tmps (x : Nat × Value) => tmps.setIfInBounds x.1 x.2) r.tmps) r.assign r.body w fun e w' => ∃ v, e = .returned v ∧ R v w' := by
  have hz : (r.params.zip #[u, v]).foldl (fun tmps (x : Nat × Value) => tmps.setIfInBounds x.1 x.2) r.tmps = (r.tmps.setIfInBounds p1 u).setIfInBounds p2 v := by
    rw [hp]
    show ([p1, p2].toArray.zip [u, v].toArray).foldl _ _ = _
    simp
  rw [hz]
  have henv : envOf { tmps := (r.tmps.setIfInBounds p1 u).setIfInBounds p2 v, defers := [] } = upd (upd E p1 u) p2 v := by
    have hok : Ok ⟨N, []⟩ { tmps := r.tmps, defers := [] } := ⟨htm, rfl⟩
    have e1 := envOf_put hok (some p1) (by simp [dstOk, Nat.blt]; omega) u
    have e2 := envOf_put (hok.put (some p1) u) (some p2) (by simp [dstOk, Nat.blt]; omega) v
    have e3 : envOf { tmps := r.tmps, defers := [] } = E := hE
    rw [e1, e3] at e2
    exact e2
  refine roundIn_of_wpIn trivial ?_
  have ha := wpInN 1 0 (h { tmps := (r.tmps.setIfInBounds p1 u).setIfInBounds p2 v, defers := [] } ⟨by simpa using htm, rfl⟩ henv)
  refine wpIn_mono ha ?_
  rintro e a1 w1 ⟨hok1, hq⟩
  cases e with
  | normal =>
    obtain ⟨r2, g1, g2, g3⟩ := hJ _ _ hq
    refine ⟨_, run_beginRound g1 g2, ?_⟩
    have hb := wpInN 1 0 (g3 _ (ext_putObj w1 l _) (World.putObj_heap_same (heap_lt g1)) a1 hok1 rfl)
    refine wpIn_mono hb ?_
    rintro e a3 w3 ⟨_, hq3⟩
    cases e with
    | normal => obtain ⟨x, w', q1, q2⟩ := EndR.run (P := P) hq3; exact ⟨x, w', q1, q2⟩
    | ret => obtain ⟨x, w', q1, q2⟩ := EndR.run (P := P) hq3; exact ⟨x, w', q1, q2⟩
    | exit i => obtain ⟨x, w', q1, q2⟩ := EndR.run (P := P) hq3; exact ⟨x, w', q1, q2⟩
    | goto _ => exact hq3.elim
    | panic _ => exact hq3.elim
    | outgrown => exact hq3.elim
  | ret => exact hq.elim
  | exit i => exact hq.elim
  | goto _ => exact hq.elim
  | panic _ => exact hq.elim
  | outgrown => exact hq.elim
section
variable {P : Program} {o : Oper} {E : Env} {w : World}
theorem WL.round {n : Fsz} {ro : Option Nat} {Q : K} {ops : Array Oper} {rest : List Oper} {l : Nat} {f : FuncId} {tmps : Array Value} {asg body : Code} (hs : Sure ops o E) (hd : dstOk n o.dst = true) (h : (execOp (ev E) o).run P w = .ok (.round l f tmps asg body) w)
    (k : RoundIn (Fr ro) 0 P l f tmps asg body w fun e w' => ∃ v, e = .returned v ∧ WLr ro P n ops Q rest (updO E o.dst v) w') : WLr ro P n ops Q (o :: rest) E w := by
  intro a ha he
  unfold wpListIn
  rw [if_pos (hs a.tmps he)]
  refine ⟨fun _ _ => trivial, ?_⟩
  rw [eval_envOf, he, semAt_of h (by simp)]
  refine ⟨fun _ => Nat.le_refl 1, RoundIn.mono k ?_⟩
  rintro e w' ⟨v, rfl, hk⟩
  exact hk (a.put o.dst v) (ha.put _ _) (by rw [envOf_put ha _ hd, he])
/-- the call of a loop's yield, two values handed out -/
theorem WL.yield2 {n : Fsz} {ro : Option Nat} {Q : K} {ops : Array Oper} {rest : List Oper} {l : Nat} {r : Loop} {g x y : Operand} {tys : Array TypeId} {u v : Value} (hs : Sure ops o E) (hd : dstOk n o.dst = true) (ho : o.op = .call ⟨.value g, #[x, y], tys⟩) (hg : ev E g = .func (.yield l) #[] #[]) (hx : ev E x = u) (hy : ev E y = v)
    (hl : w.heap[l]? = some (.loop r)) (hp : r.params.size = 2)
    (k : RoundIn (Fr ro) 0 P l r.fn ((r.params.zip #[u, v]).foldl (fun tmps (x : Nat × Value) => tmps.setIfInBounds x.1 x.2) r.tmps) r.assign r.body w fun e w' => ∃ v, e = .returned v ∧ WLr ro P n ops Q rest (updO E o.dst v) w') : WLr ro P n ops Q (o :: rest) E w := by
  obtain ⟨T, hT⟩ : ∃ T, (r.params.zip #[u, v]).foldl (fun tmps (x : Nat × Value) => tmps.setIfInBounds x.1 x.2) r.tmps = T := ⟨_, rfl⟩
  have hy' : (Instr.yield l #[u, v]).run P w = .ok (.round l r.fn T r.assign r.body) w := by rw [← hT]; exact run_yield (P := P) (args := #[u, v]) hl (by rw [hp]; rfl)
  rw [hT] at k
  refine WL.round hs hd ?_ k
  cases g with
  | func f => simp [ev] at hg
  | _ => simp [execOp, ho, go_sem, hg, hx, hy, hy']
end
/-! ### A function that leaves a mark, or none -/
def PostM (P : Program) (fn : Func) (R : Value → World → Prop) : Exit → Act → World → Prop := bodyPostM (Fr none) 1 P fn (fun e w' => ∃ v, e = .returned v ∧ R v w')
theorem PostM.plain {P : Program} {fn : Func} {R : Value → World → Prop} {a : Act} {w : World} {n : Nat} (hn : fn.ntmps = n) (hok : Ok ⟨n, []⟩ a) (h : resOf fn P (envOf a) w R) : PostM P fn R .ret a w := by
  subst hn
  obtain ⟨v, hr, hR⟩ := h a.tmps hok.1 rfl
  show LeavesInM (Fr none) 1 P fn a.tmps _ a.defers .returning w
  rw [hok.2]
  exact ⟨v, hr, v, rfl, hR⟩
theorem PostM.marked {P : Program} {fn : Func} {R : Value → World → Prop} {a : Act} {w : World} {n d : Nat} (hn : fn.ntmps = n) (hok : Ok ⟨n, [mark d]⟩ a) (hd : w.heap[d]? = some (.deferred (some []))) (h : ∀ w', Ext [d] w w' → resOf fn P (envOf a) w' R) : PostM P fn R .ret a w := by
  subst hn
  obtain ⟨v, hr, hR⟩ := h _ (ext_putObj w d (.deferred none)) a.tmps hok.1 rfl
  show LeavesInM (Fr none) 1 P fn a.tmps _ a.defers .returning w
  rw [hok.2]
  exact ⟨by simp, .inl ⟨d, _, rfl, run_takeDeferred hd, v, hr, v, rfl, hR⟩⟩
theorem Fnc.of_WX {P : Program} {f : FuncId} {fn : Func} {c : Code} {args : Array Value} {w : World} {R : Value → World → Prop} {n : Nat}
    (hf : P.funcs[f]? = some fn) (hb : fn.body = some c) (hn : fn.ntmps = n) (hs : args.size ≤ n)
    (h : ∀ E : Env, (∀ t, t < args.size → E t = args.getD t undef) → WX P ⟨n, []⟩ c (PostM P fn R) E w) : Fnc P f args w R := by
  subst hn
  unfold Fnc
  refine (callsIn_wide (n := 1)).1 (callsIn_of_wp_marks (F := Fr none) hf hb trivial ?_)
  let a : Act := { tmps := args ++ Array.replicate (fn.ntmps - args.size) undef, defers := [] }
  have hok : Ok ⟨fn.ntmps, []⟩ a := ⟨by simp [a]; omega, rfl⟩
  have hE : ∀ t, t < args.size → envOf a t = args.getD t undef := by
    intro t ht
    simp [envOf, a, Array.getD_eq_getD_getElem?, Array.getElem?_append, ht]
  exact h _ hE a hok rfl
end Go.Proofs.YtcinjnkgopoclaaGreatDoor.W
