/- The evaluator, with one operation of the called function's own text put in by hand. Program-agnostic. -/
import Derived.Test.YtkcnljgennehaaaE11
namespace Go.Proofs.Ytkcnljgennehaaa.Ev
open Go.RowKit Go.Proofs.Ytkcnljgennehaaa.W

/-- the first k pieces of a row of code -/
def evHeads (ec : CodeF) (N : Nat) : Nat → Code → AE → Stt → Option (AE × Stt × Code)
  | 0, c, A, st => some (A, st, c)
  | k + 1, .seq a b, A, st => match ec N a A [] st with
    | some (.norm A' [] st') => evHeads ec N k b A' st'
    | _ => none
  | _, _, _, _ => none
/-- what a function hands back -/
def evRet (P : Program) (fn : Func) : Option Out → Option (AV × Stt)
  | some (.norm A D st) => bif marksB st D then retA P fn A D st else none
  | some (.ret A D st) => bif marksB st D then retA P fn A D st else none
  | _ => none
/-- the body c, its k-th piece's j-th operation answering a -/
def cutEval (P : Program) (n : Nat) (fn : Func) (c : Code) (k j : Nat) (a : AV) (as' : List AV) : Option (AV × Stt) :=
  match evHeads (evCode P (fun _ _ _ => none) n false) fn.ntmps k c (argsA as' 0) ⟨.nil, 0⟩ with
  | some (A1, st1, .seq (.region _ ops false) rest) => match evList P (callBy P (fun _ _ _ => none) (evCode P (fun _ _ _ => none) n false)) (roundBy (evCode P (fun _ _ _ => none) n true)) fn.ntmps ops (ops.toList.take j) A1 st1 with
    | some (A2, st2) => match ops.toList.drop j with
      | o :: post => match o.guard with
        | none => bif dstB fn.ntmps o.dst then match evList P (callBy P (fun _ _ _ => none) (evCode P (fun _ _ _ => none) n false)) (roundBy (evCode P (fun _ _ _ => none) n true)) fn.ntmps ops post (putA A2 o.dst a) st2 with
            | some (A3, st3) => evRet P fn (evCode P (fun _ _ _ => none) n false fn.ntmps rest A3 [] st3)
            | none => none
          else none
        | some _ => none
      | [] => none
    | none => none
  | _ => none
/-- that operation, and the frame that it sees -/
def cutOp (P : Program) (n : Nat) (fn : Func) (c : Code) (k j : Nat) (as' : List AV) : Option (Oper × AE) :=
  match evHeads (evCode P (fun _ _ _ => none) n false) fn.ntmps k c (argsA as' 0) ⟨.nil, 0⟩ with
  | some (A1, st1, .seq (.region _ ops false) _) => match evList P (callBy P (fun _ _ _ => none) (evCode P (fun _ _ _ => none) n false)) (roundBy (evCode P (fun _ _ _ => none) n true)) fn.ntmps ops (ops.toList.take j) A1 st1 with
    | some (A2, _) => match ops.toList.drop j with
      | o :: _ => some (o, A2)
      | [] => none
    | none => none
  | _ => none
section
variable {ω : Nat → Value} {s : Sg} {w0 w : World} {st : Stt} {P : Program}
theorem heads_ok {ec : CodeF} (hec : CodeOK ω w0 P false ec) {N : Nat} {Q : Exit → Act → World → Prop} : ∀ (k : Nat) (c : Code) (A : AE) (st : Stt) (A' : AE) (st' : Stt) (t : Code), evHeads ec N k c A st = some (A', st', t) → ∀ s a w, a.tmps.size = N → a.defers = [] → Hold ω s w0 st w → EnvOK ω s A (envOf a) →
    (∀ s' a' w', s.le s' → a'.tmps.size = N → a'.defers = [] → Hold ω s' w0 st' w' → EnvOK ω s' A' (envOf a') → t.wpIn (Fr none) 1 P Q a' w') → c.wpIn (Fr none) 1 P Q a w
  | 0, c, A, st, A', st', t, h, s, a, w, h1, h2, h3, h4, k => by
    simp only [evHeads, Option.some.injEq, Prod.mk.injEq] at h
    obtain ⟨rfl, rfl, rfl⟩ := h
    exact k s a w (Sg.le.refl s) h1 h2 h3 h4
  | m + 1, c, A, st, A', st', t, h, s, a, w, h1, h2, h3, h4, k => by
    unfold evHeads at h
    split at h
    · cases ‹m + 1 = 0›
    · rename_i heq
      cases heq
      split at h
      · rename_i A1 st1 ho
        refine wpIn_seq (wpIn_mono (hec N _ _ [] _ _ ho none (fun _ => rfl) s a w h1 h3 h4 h2) ?_)
        rintro e a1 w1 ⟨g1, A2, D2, st2, s2, hout, hle, hH2, hE2, hM2⟩
        cases e with
        | normal =>
          cases hout
          exact heads_ok hec m _ _ _ A' st' t h s2 a1 w1 g1 hM2 hH2 hE2 fun s' a' w' q => k s' a' w' (hle.trans q)
        | exit i => cases hout
        | ret => cases hout
        | goto l => exact hout.elim
        | panic ch => exact hout.elim
        | outgrown => exact hout.elim
      · cases h
    · cases h
theorem ret_ok {fn : Func} {N : Nat} {out : Out} {u : AV} {st' : Stt} {R : Value → World → Prop} (h : evRet P fn (some out) = some (u, st')) {e : Exit} {a : Act} {w : World} (ho : OutOK ω w0 s N out e a w) (k : ∀ s' v w', s.le s' → Hold ω s' w0 st' w' → Rel ω s' u v → R v w') :
    bodyPostM (Fr none) 1 P fn (fun e w' => ∃ v, e = .returned v ∧ R v w') e a w := by
  obtain ⟨hsz, A, D, st1, s', hout, hle, hH', hE', hM'⟩ := ho
  have key : marksB st1 D = true → retA P fn A D st1 = some (u, st') → LeavesInM (Fr none) 1 P fn a.tmps (fun e w' => ∃ v, e = .returned v ∧ R v w') a.defers .returning w := by
    intro h1 h2
    refine leaves_ok D a.defers st1 w hM' h1 hH' fun w2 hw2 => ?_
    obtain ⟨e1, v, h3, h4⟩ := results_ok hw2 hE' h2
    subst e1
    exact ⟨v, h3, v, rfl, k s' v w2 hle hw2 h4⟩
  cases e with
  | normal =>
    subst hout
    simp only [evRet] at h
    cases hb : marksB st1 D with
    | false => rw [hb] at h; cases h
    | true => rw [hb] at h; exact key hb h
  | ret =>
    subst hout
    simp only [evRet] at h
    cases hb : marksB st1 D with
    | false => rw [hb] at h; cases h
    | true => rw [hb] at h; exact key hb h
  | exit i => subst hout; simp [evRet] at h
  | goto l => exact hout.elim
  | panic ch => exact hout.elim
  | outgrown => exact hout.elim
/-- A call whose text has one operation that is put in by hand. -/
theorem cut_ok (hω : OneW ω) (hm : P.follows .mixedOrders = true) {f : FuncId} {fn : Func} {c : Code} (hf : P.funcs[f]? = some fn) (hb : fn.body = some c) (n k j : Nat) {a : AV} {as' : List AV} {vs : List Value} (hr : ∀ s, RelL ω s as' vs) (hlen : vs.length ≤ fn.ntmps) {u : AV} {st' : Stt} {o : Oper} {A2 : AE}
    (h : cutEval P n fn c k j a as' = some (u, st')) (ho : cutOp P n fn c k j as' = some (o, A2)) (hop : ∀ s E w, EnvOK ω s A2 E → ∃ v, OpV P o E w v ∧ Rel ω s a v) (w : World) :
    Fnc P f vs.toArray w fun v w' => ∃ s', Hold ω s' w st' w' ∧ Rel ω s' u v := by
  have hS : CallOK ω w P (fun _ _ _ => none) := noSum_ok
  have hcode := fun inr => code_ok hω hm hS n inr
  have hcall := callBy_ok hS (hcode false)
  have hrnd := roundBy_ok (hcode true)
  unfold Fnc
  refine (callsIn_wide (n := 1)).1 (callsIn_of_wp_marks (F := Fr none) hf hb trivial ?_)
  unfold cutEval at h
  unfold cutOp at ho
  split at h
  case h_2 => cases h
  rename_i A1 st1 id ops rest hh
  rw [hh] at ho
  simp only at ho
  split at h
  case h_2 => cases h
  rename_i A2' st2 hpre
  rw [hpre] at ho
  simp only at ho
  split at h
  case h_2 => cases h
  rename_i o' post hdrop
  rw [hdrop] at ho
  cases ho
  split at h
  case h_2 => cases h
  rename_i hg
  cases hd : dstB fn.ntmps o.dst with
  | false => rw [hd] at h; cases h
  | true =>
  rw [hd] at h
  simp only [cond_true] at h
  split at h
  case h_2 => cases h
  rename_i A3 st3 hpost
  have henv : EnvOK ω (fun _ => none) (argsA as' 0) (envOf { tmps := vs.toArray ++ Array.replicate (fn.ntmps - vs.toArray.size) undef, defers := [] }) := by
    intro t x ht
    obtain ⟨_, h2⟩ := argsA_get as' 0 t x ht
    obtain ⟨v, h3, h4⟩ := (hr (fun _ => none)).get h2
    have hlt : t < vs.length := (List.getElem?_eq_some_iff.1 h3).1
    have : envOf { tmps := vs.toArray ++ Array.replicate (fn.ntmps - vs.toArray.size) undef, defers := [] } t = v := by
      have h3' : vs[t]? = some v := h3
      simp [envOf, Array.getD_eq_getD_getElem?, Array.getElem?_append, hlt]
      rw [List.getElem?_eq_getElem hlt] at h3'; exact Option.some.inj h3'
    rw [this]; exact h4
  refine heads_ok (hcode false) k c _ _ A1 st1 _ hh (fun _ => none) _ w (by simp; omega) rfl (Hold.start w) henv ?_
  intro s1 a1 w1 _ hsz1 hdef1 hH1 hE1
  refine wpIn_seq ?_
  -- the region
  have hreg : WPr none P ⟨fn.ntmps, []⟩ (.region id ops false) ⟨fun E' w' => ∃ s', Hold ω s' w st3 w' ∧ EnvOK ω s' A3 E', fun _ _ _ => False, fun _ _ => False⟩ (envOf a1) w1 := by
    have e : ops = ops.toList.toArray := by simp
    rw [e]
    refine WP.region ?_
    rw [← e]
    have e2 : ops.toList = ops.toList.take j ++ o :: post := by rw [← hdrop, List.take_append_drop]
    rw [e2]
    refine list_app hω hcall (hrnd none) _ A1 st1 _ st2 hpre s1 (envOf a1) w1 hH1 hE1 _ fun s2 E2 w2 _ hH2 hE2 => ?_
    obtain ⟨v, hv, hrel⟩ := hop s2 E2 w2 hE2
    refine WL.v (Sure.none hg) (dst_of hd) hv ?_
    exact list_ok hω hcall (hrnd none) post _ st2 A3 st3 hpost s2 _ w2 hH2 (hE2.put hrel) fun s3 E3 w3 _ hH3 hE3 => ⟨s3, hH3, hE3⟩
  refine wpIn_mono (hreg a1 ⟨hsz1, hdef1⟩ rfl) ?_
  rintro e a2 w2 ⟨⟨g1, g2⟩, g3⟩
  cases e with
  | normal =>
    obtain ⟨s3, hH3, hE3⟩ := g3
    cases hout : evCode P (fun _ _ _ => none) n false fn.ntmps rest A3 [] st3 with
    | none => rw [hout] at h; cases h
    | some out =>
      rw [hout] at h
      exact wpIn_mono (hcode false fn.ntmps rest A3 [] st3 out hout none (fun _ => rfl) s3 a2 w2 g1 hH3 hE3 g2) fun e a w ho => ret_ok h ho fun s' v w' _ h1 h2 => ⟨s', h1, h2⟩
  | exit i => exact g3.elim
  | ret => exact g3.elim
  | goto l => exact g3.elim
  | panic ch => exact g3.elim
  | outgrown => exact g3.elim
end
def isTrueA (r : Option (AV × Stt)) : Bool := match r with
  | some (.v (.bool true), _) => true
  | _ => false
theorem isTrueA_ok {r : Option (AV × Stt)} (h : isTrueA r = true) : ∃ st, r = some (.v (.bool true), st) := by
  unfold isTrueA at h
  split at h
  · rename_i st; exact ⟨st, rfl⟩
  · cases h
end Go.Proofs.Ytkcnljgennehaaa.Ev
