/- The symbolic evaluator is right: regions in the text's order. Program-agnostic. -/
import Derived.Test.YtbbjonjhaoeidaaDoorOS12
set_option linter.unusedVariables false
set_option linter.unusedSimpArgs false
namespace Go.Proofs.YtbbjonjhaoeidaaDoor.Sv
open Go.RowKit Go.Proofs.YtbbjonjhaoeidaaDoor.W
variable {Γ : Gl}

section
variable {s : Sg} {w0 w w' : World} {st st' : Stt} {A : AE} {E : Env} {P : Program} {o : Oper}
theorem wl_rules {N : Nat} {DD : List Deferred} {ops : Array Oper} {Q : K} : QRules P ⟨N, DD⟩ ops w (fun l E => ∀ w', Ext [] w w' → WL P ⟨N, DD⟩ ops Q l E w') where
  q := by
    intro o E v rest hs hd hq k w' hw
    rcases hq with hq | ⟨f, args, h1, h2⟩
    · exact WL.v hs hd (hq w' hw) (k w' hw)
    · refine WL.c hs hd (h1 w' hw) (Fnc.mono (h2 w' hw) ?_)
      rintro u w'' ⟨rfl, hx⟩
      exact k w'' (hw.trans hx)
  s := by
    intro o E rest hs hd k w' hw
    exact WL.s hs hd (k w' hw)
theorem wq_rules {N : Nat} {DD : List Deferred} {ops : Array Oper} {Q : Env → World → Prop} : QRules P ⟨N, DD⟩ ops w (fun l E => WQ P ⟨N, DD⟩ ops w Q l E) where
  q := by
    intro o E v rest hs hd hq k
    rcases hq with hq | ⟨f, args, h1, h2⟩
    · exact WQ.v hs hd hq k
    · exact WQ.c hs hd h1 h2 k
  s := by
    intro o E rest hs hd k
    exact WQ.s hs hd k
/-- a region of which nothing makes or writes -/
theorem quiet_ok (hm : P.follows .mixedOrders = true) {S : Sums} (hS : SumsOK P Γ S) {N id : Nat} {DD : List Deferred} {ops : Array Oper} {d : Bool} {Nn R : Env → World → Prop} {X : Nat → Env → World → Prop} {ps : Ps} {A' : AE} (h : evBlk P S N ops st 400 none [] ops.toList A = some (ps, A')) (hp : ∀ p ∈ ps, p) (hd : d = true → Region.lexB .any ops = true) (hH : Hold Γ s w0 st w) (hE : EnvOK s A E)
    (hk : ∀ E' w', Ext [] w w' → EnvOK s A' E' → Nn E' w') : WP P ⟨N, DD⟩ (.region id ops d) ⟨Nn, X, R⟩ E w := by
  obtain ⟨l⟩ := ops
  simp only [List.toList_toArray] at h
  cases d with
  | false =>
    refine WP.region ?_
    have := blk_ok hS hH (wl_rules (P := P) (w := w) (N := N) (DD := DD) (ops := l.toArray) (Q := ⟨Nn, X, R⟩)) 400 none [] l A ps A' E [] h hp trivial hE (fun E' h1 _ w' hw => WL.nil (hk E' w' hw h1)) w (Ext.refl _ _)
    simpa using this
  | true =>
    refine WP.quiet hm (hd rfl) ?_
    have := blk_ok hS hH (wq_rules (P := P) (w := w) (N := N) (DD := DD) (ops := l.toArray) (Q := Nn)) 400 none [] l A ps A' E [] h hp trivial hE (fun E' h1 _ => WQ.nil fun w' hw => hk E' w' hw h1)
    simpa using this
end
end Go.Proofs.YtbbjonjhaoeidaaDoor.Sv
