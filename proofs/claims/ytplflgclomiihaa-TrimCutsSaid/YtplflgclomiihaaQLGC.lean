/- Contracts. -/
import Derived.Test.YtplflgclomiihaaQS26
import Derived.Test.YtplflgclomiihaaQVTV
import Derived.Test.YtplflgclomiihaaQLGS
import Derived.Test.YtplflgclomiihaaProg
set_option linter.unusedVariables false
set_option linter.unusedSimpArgs false
namespace Go.Proofs.Ytplflgclomiihaa.XT
open Go Go.RowKit Go.Proofs.Ytplflgclomiihaa.Sv Go.Proofs.Ytplflgclomiihaa.W
set_option maxRecDepth 100000
def clipC : Con := ⟨[.o 60 entT []], fun _ => [], [.own 60 entT], fun ds => [.l (nthD ds 0).list], fun ds => [.l (nthD ds 0).list]⟩
theorem s60 : Sized Try.prog 60 4 := by unfold Sized; kernel_rfl
theorem u27 : Try.prog.underlying 27 = some (.slice 60) := by kernel_rfl
theorem clip_walk {w : World} {v u : Value} {n : Nat} (hl : ∀ {o : Oper} {E : Env} {x : Operand}, o.op = .call ⟨.builtin .len, #[x], #[27]⟩ → ev E x = v → OpV Try.prog o E w (.int .i64 (n : Int)))
    (hs : ∀ {o : Oper} {E : Env} {x y z : Operand}, o.op = .slice 27 x none (some y) (some z) → ev E x = v → ev E y = .int .i64 (n : Int) → ev E z = .int .i64 (n : Int) → OpV Try.prog o E w u) :
    Fnc Try.prog 43 #[v] w fun r w' => r = u ∧ w' = w := by
  refine Fnc.of_WP (n := 9) (fn := Try.f43) Try.func43 rfl Try.ntmps43 (by simp) ?_
  intro E hE
  have h0 : E 0 = v := hE 0 (by simp)
  refine WP.seq ?_
  refine WP.region ?_
  refine WL.v (u := .slice none 0 0) (Sure.none rfl) rfl (V.assign rfl rfl) ?_
  refine WL.nil ?_
  refine WP.seq ?_
  refine WP.region ?_
  refine WL.v (u := v) (Sure.none rfl) rfl (V.move (x := .tmp 0) rfl h0) ?_
  refine WL.v (u := v) (Sure.none rfl) rfl (V.move (x := .tmp 0) rfl h0) ?_
  refine WL.v (u := .int .i64 (n : Int)) (Sure.none rfl) rfl (hl (x := .tmp 4) rfl rfl) ?_
  refine WL.v (u := v) (Sure.none rfl) rfl (V.move (x := .tmp 0) rfl h0) ?_
  refine WL.v (u := .int .i64 (n : Int)) (Sure.none rfl) rfl (hl (x := .tmp 6) rfl rfl) ?_
  refine WL.v (u := u) (Sure.none rfl) rfl (hs (x := .tmp 3) (y := .tmp 5) (z := .tmp 7) rfl rfl rfl rfl) ?_
  refine WL.v (u := u) (Sure.none rfl) rfl (V.assign (x := .tmp 8) rfl rfl) ?_
  refine WL.nil ?_
  refine WP.ret ?_
  refine resOf.c1 rfl (v := u) rfl ?_
  exact ⟨rfl, rfl⟩
theorem clipC_ok {Γ : Gl} : RowOK Try.prog Γ 43 clipC 60 entT [] := by
  refine ⟨fun G w p xs hgl hpn hG hGp hc hob hpre => ?_, fun w z hgl hz hpre => ⟨rfl, ?_⟩⟩
  · have hle : xs.length ≤ p.c := by obtain ⟨o1, o2, _⟩ := hob; omega
    refine Fnc.mono (clip_walk (v := .slice (some ⟨p.b, 0, none⟩) xs.length p.c) (u := .slice (some ⟨p.b, 0, none⟩) xs.length xs.length) (n := xs.length) (fun ho hx => V.lenSlice ho rfl u27 hx) (fun ho hx hy hz => clip_at ho u27 s60 hx hy hz hle)) ?_
    rintro r w' ⟨rfl, rfl⟩
    exact ⟨rfl, Ext.refl _ _, hob⟩
  · refine Fnc.mono (clip_walk (v := z) (u := z) (n := 0) (fun ho hx => len_z ho rfl u27 hx hz) (fun ho hx hy hz' => clip_z ho u27 s60 hx hz hy hz')) ?_
    rintro r w' ⟨rfl, rfl⟩
    exact ⟨hz, Ext.refl _ _⟩
end Go.Proofs.Ytplflgclomiihaa.XT
