/- Frames as functions from slots to values; the weakest precondition over them; one rule a form of code. Program-agnostic. -/
import Derived.WalkKit
import Derived.Deep.Quiet
import Derived.Deep.LoopGhost
import Derived.Sort.LoopGhostIn
import Derived.TacticsIn
import Derived.RangeFuncFrom
set_option linter.unusedVariables false
set_option linter.unusedSimpArgs false
namespace Go.Proofs.YtbbjonjhaoeidaaDoor.W
open Go.RowKit

abbrev Env := Nat → Value
def envOf (a : Act) : Env := fun t => a.tmps.getD t undef
def ev (E : Env) : Operand → Value
  | .tmp t => E t
  | .const v => v
  | .global g => .pointer (some ⟨g, 0, none⟩)
  | .func f => .func (.func f) #[] #[]
theorem eval_envOf (a : Act) : a.eval = ev (envOf a) := by funext x; cases x <;> rfl

def upd (E : Env) (d : Nat) (v : Value) : Env := fun t => bif Nat.beq t d then v else E t
def updO (E : Env) (d : Option Nat) (v : Value) : Env := match d with | some d => upd E d v | none => E
theorem upd_same (E : Env) (d : Nat) (v : Value) : upd E d v d = v := by simp [upd, Nat.beq_refl]
theorem upd_ne (E : Env) (d t : Nat) (v : Value) (h : t ≠ d) : upd E d v t = E t := by
  have : Nat.beq t d = false := by
    cases hb : Nat.beq t d with
    | false => rfl
    | true => exact absurd (Nat.eq_of_beq_eq_true hb) h
  simp [upd, this]

/-- a frame's size, and what the activation has deferred -/
structure Fsz where
  n : Nat
  D : List Deferred
instance (k : Nat) : OfNat Fsz k := ⟨⟨k, []⟩⟩
def Ok (n : Fsz) (a : Act) : Prop := a.tmps.size = n.n ∧ a.defers = n.D
def dstOk (n : Fsz) : Option Nat → Bool
  | none => true
  | some d => Nat.blt d n.n

theorem Ok.put {n : Fsz} {a : Act} (h : Ok n a) (d : Option Nat) (v : Value) : Ok n (a.put d v) := by
  cases d with
  | none => exact h
  | some d => exact ⟨by simpa [Act.put] using h.1, h.2⟩

theorem envOf_put {n : Fsz} {a : Act} (h : Ok n a) (d : Option Nat) (hd : dstOk n d = true) (v : Value) :
    envOf (a.put d v) = updO (envOf a) d v := by
  cases d with
  | none => rfl
  | some d =>
    have hd' : d < n.n := Nat.le_of_ble_eq_true (by simpa [dstOk, Nat.blt] using hd)
    funext t
    by_cases ht : t = d
    · subst ht
      rw [updO, upd_same]
      simp [envOf, Act.put, h.1, hd', Array.getD_eq_getD_getElem?]
    · rw [updO, upd_ne _ _ _ _ ht]
      simp only [envOf, Act.put, Array.getD_eq_getD_getElem?, Array.getElem?_setIfInBounds]
      rw [if_neg (fun e => ht e.symm)]

/-- What stands behind a piece of code: at its end, at an exit, at a return. -/
structure K where
  norm : Env → World → Prop
  ex : Nat → Env → World → Prop
  ret : Env → World → Prop
def K.post (k : K) : Exit → Env → World → Prop
  | .normal, E, w => k.norm E w
  | .exit i, E, w => k.ex i E w
  | .ret, E, w => k.ret E w
  | _, _, _ => False
def lift (n : Fsz) (Q : K) : Exit → Act → World → Prop := fun e a w => Ok n a ∧ Q.post e (envOf a) w

/-- no fence at all; perhaps within a round of a range over a function -/
def Fr (ro : Option Nat) : Fence := { Fence.wide with round := ro }
theorem Fr_none : Fr none = Fence.wide := rfl
def WPr (ro : Option Nat) (P : Program) (n : Fsz) (c : Code) (Q : K) (E : Env) (w : World) : Prop :=
  ∀ a, Ok n a → envOf a = E → c.wpIn (Fr ro) 1 P (lift n Q) a w
abbrev WP := WPr none

section
variable {P : Program} {n : Fsz} {ro : Option Nat} {Q : K} {E : Env} {w : World} {N R : Env → World → Prop} {X : Nat → Env → World → Prop}

theorem WP.mono {c : Code} {Q' : K} (h : WPr ro P n c Q E w) (h1 : ∀ E w, Q.norm E w → Q'.norm E w) (h2 : ∀ i E w, Q.ex i E w → Q'.ex i E w) (h3 : ∀ E w, Q.ret E w → Q'.ret E w) : WPr ro P n c Q' E w :=
  fun a ha he => wpIn_mono (h a ha he) fun e _ _ ⟨g1, g2⟩ => ⟨g1, by cases e <;> first | exact h1 _ _ g2 | exact h2 _ _ _ g2 | exact h3 _ _ g2 | exact g2⟩

theorem WP.seq {x y : Code} (h : WPr ro P n x ⟨WPr ro P n y ⟨N, X, R⟩, X, R⟩ E w) : WPr ro P n (.seq x y) ⟨N, X, R⟩ E w := by
  intro a ha he
  refine wpIn_seq (wpIn_mono (h a ha he) ?_)
  intro e a' w' ⟨h1, h2⟩
  cases e <;> first | exact h2 a' h1 rfl | exact ⟨h1, h2⟩

theorem WP.cond {c : Operand} {x y : Code} {t : Bool} (hc : ev E c = .bool t) (ht : t = true → WPr ro P n x Q E w) (hf : t = false → WPr ro P n y Q E w) :
    WPr ro P n (.cond c x y) Q E w := by
  intro a ha he
  have hc' : a.eval c = .bool t := by rw [eval_envOf, he]; exact hc
  exact wpIn_cond_split hc' (fun h => ht h a ha he) (fun h => hf h a ha he)

theorem WP.cond_true {c : Operand} {x y : Code} (hc : ev E c = .bool true) (ht : WPr ro P n x Q E w) : WPr ro P n (.cond c x y) Q E w :=
  WP.cond hc (fun _ => ht) (fun h => by cases h)
theorem WP.cond_false {c : Operand} {x y : Code} (hc : ev E c = .bool false) (ht : WPr ro P n y Q E w) : WPr ro P n (.cond c x y) Q E w :=
  WP.cond hc (fun h => by cases h) (fun _ => ht)

theorem WP.skip (h : N E w) : WPr ro P n .skip ⟨N, X, R⟩ E w := fun _ ha he => wpIn_skip ⟨ha, he ▸ h⟩
theorem WP.label {l : Nat} (h : N E w) : WPr ro P n (.label l) ⟨N, X, R⟩ E w := fun _ ha he => wpIn_label ⟨ha, he ▸ h⟩
theorem WP.ret (h : R E w) : WPr ro P n .ret ⟨N, X, R⟩ E w := fun _ ha he => wpIn_ret ⟨ha, he ▸ h⟩
theorem WP.exit {id : Nat} (h : X id E w) : WPr ro P n (.exit id) ⟨N, X, R⟩ E w := fun _ ha he => wpIn_exit ⟨ha, he ▸ h⟩

theorem WP.block {id : Nat} {c : Code} (h : WPr ro P n c ⟨N, fun i => bif Nat.beq i id then N else X i, R⟩ E w) : WPr ro P n (.block id c) ⟨N, X, R⟩ E w := by
  intro a ha he
  refine wpIn_block (wpIn_mono (h a ha he) ?_)
  intro e a' w' ⟨h1, h2⟩
  cases e with
  | exit i =>
    simp only [K.post] at h2
    simp only [Exit.inBlock]
    split
    · rename_i hi; subst hi; rw [Nat.beq_refl] at h2; exact ⟨h1, h2⟩
    · rename_i hi
      have : Nat.beq i id = false := by
        cases hb : Nat.beq i id with
        | false => rfl
        | true => exact absurd (Nat.eq_of_beq_eq_true hb) hi
      rw [this] at h2; exact ⟨h1, h2⟩
  | _ => exact ⟨h1, h2⟩

/-- A loop: a relation over a ghost state, and a measure of the ghost state that every round lowers. -/
theorem WP.loop {σ : Type} {c : Code} (I : σ → Env → World → Prop) (μ : σ → Nat) (s₀ : σ) (h₀ : I s₀ E w)
    (round : ∀ s E w, I s E w → WPr ro P n c ⟨fun E' w' => ∃ s', I s' E' w' ∧ μ s' < μ s, X, R⟩ E w) : WPr ro P n (.loop c) ⟨N, X, R⟩ E w := by
  intro a ha he
  refine wpIn_loop_ghost (fun k a w => Ok n a ∧ ∃ s, μ s = k ∧ I s (envOf a) w) (μ s₀) ⟨ha, s₀, rfl, he ▸ h₀⟩ ?_
  rintro k a w ⟨hok, s, rfl, hI⟩
  refine wpIn_mono (round s _ w hI a hok rfl) ?_
  intro e a' w' ⟨h1, h2⟩
  cases e with
  | normal => obtain ⟨s', hI', hlt⟩ := h2; exact ⟨μ s', hlt, h1, s', rfl, hI'⟩
  | _ => exact ⟨h1, h2⟩

/-- Whatever the frame and the world are, of which this holds. -/
theorem WP.cut {c : Code} (J : Env → World → Prop) (h : J E w) (hc : ∀ E w, J E w → WPr ro P n c Q E w) : WPr ro P n c Q E w := hc _ _ h
end

/-- The frame at a function's entry. -/
def argEnv (args : Array Value) : Env := fun t => args.getD t undef

/-- A call, over frames: it returns, and this holds of what it hands back. -/
def Fnc (P : Program) (f : FuncId) (args : Array Value) (w : World) (R : Value → World → Prop) : Prop :=
  Calls P f args w fun e w' => ∃ v, e = .returned v ∧ R v w'

theorem Fnc.mono {P : Program} {f : FuncId} {args : Array Value} {w : World} {R R' : Value → World → Prop} (h : Fnc P f args w R) (hr : ∀ v w', R v w' → R' v w') : Fnc P f args w R' :=
  Calls.mono h fun _ _ ⟨v, he, hR⟩ => ⟨v, he, hr _ _ hR⟩

/-- The value that a function hands back, out of its frame. -/
def resOf (fn : Func) (P : Program) (E : Env) (w : World) (R : Value → World → Prop) : Prop :=
  ∀ tmps : Array Value, tmps.size = fn.ntmps → (fun t => tmps.getD t undef) = E → ∃ v, (results fn tmps).run P w = .ok v w ∧ R v w

theorem Fnc.of_WP {P : Program} {f : FuncId} {fn : Func} {c : Code} {args : Array Value} {w : World} {R : Value → World → Prop} {n : Nat}
    (hf : P.funcs[f]? = some fn) (hb : fn.body = some c) (hn : fn.ntmps = n) (hs : args.size ≤ n)
    (h : ∀ E : Env, (∀ t, t < args.size → E t = args.getD t undef) → WP P ⟨n, []⟩ c ⟨fun E w => resOf fn P E w R, fun _ _ _ => False, fun E w => resOf fn P E w R⟩ E w) : Fnc P f args w R := by
  subst hn
  refine calls_of_wp hf hb ?_
  let a : Act := { tmps := args ++ Array.replicate (fn.ntmps - args.size) undef, defers := [] }
  have hok : Ok ⟨fn.ntmps, []⟩ a := ⟨by simp [a]; omega, rfl⟩
  have hE : ∀ t, t < args.size → envOf a t = args.getD t undef := by
    intro t ht
    simp [envOf, a, Array.getD_eq_getD_getElem?, Array.getElem?_append, ht]
  refine Go.wp_mono (wpIn_wide.1 (h _ hE a hok rfl)) ?_
  intro e a' w' ⟨h1, h2⟩
  cases e with
  | normal => obtain ⟨v, hr, hR⟩ := h2 a'.tmps h1.1 rfl; exact ⟨h1.2, v, hr, v, rfl, hR⟩
  | ret => obtain ⟨v, hr, hR⟩ := h2 a'.tmps h1.1 rfl; exact ⟨h1.2, v, hr, v, rfl, hR⟩
  | exit i => exact h2.elim
  | goto l => exact h2.elim
  | panic ch => exact h2.elim
  | outgrown => exact h2.elim

theorem resOf.one {fn : Func} {P : Program} {E : Env} {w : World} {R : Value → World → Prop} {t : Nat} {v : Value}
    (hr : fn.results = #[.tmp t]) (hv : E t = v) (hR : R v w) : resOf fn P E w R := by
  intro tmps _ he
  subst he
  refine ⟨v, ?_, hR⟩
  simp only [Array.getD_eq_getD_getElem?] at hv
  simp [results, hr, go_sem, hv]
theorem resOf.two {fn : Func} {P : Program} {E : Env} {w : World} {R : Value → World → Prop} {t u : Nat} {v v' : Value}
    (hr : fn.results = #[.tmp t, .tmp u]) (hv : E t = v) (hv' : E u = v') (hR : R (.tuple #[v, v']) w) : resOf fn P E w R := by
  intro tmps _ he
  subst he
  refine ⟨_, ?_, hR⟩
  simp only [Array.getD_eq_getD_getElem?] at hv hv'
  simp [results, hr, go_sem, hv, hv']
theorem resOf.three {fn : Func} {P : Program} {E : Env} {w : World} {R : Value → World → Prop} {t u x : Nat} {v v' v'' : Value}
    (hr : fn.results = #[.tmp t, .tmp u, .tmp x]) (hv : E t = v) (hv' : E u = v') (hv'' : E x = v'') (hR : R (.tuple #[v, v', v'']) w) : resOf fn P E w R := by
  intro tmps _ he
  subst he
  refine ⟨_, ?_, hR⟩
  simp only [Array.getD_eq_getD_getElem?] at hv hv' hv''
  simp [results, hr, go_sem, hv, hv', hv'']
theorem resOf.none {fn : Func} {P : Program} {E : Env} {w : World} {R : Value → World → Prop}
    (hr : fn.results = #[]) (hR : R (.tuple #[]) w) : resOf fn P E w R := by
  intro tmps _ he
  subst he
  refine ⟨_, ?_, hR⟩
  simp [results, hr, go_sem]
end Go.Proofs.YtbbjonjhaoeidaaDoor.W
