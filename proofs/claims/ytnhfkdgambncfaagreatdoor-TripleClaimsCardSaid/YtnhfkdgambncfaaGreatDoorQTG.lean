/- What the rows' lists say of the program's variables. -/
import Derived.Test.YtnhfkdgambncfaaGreatDoorQT0
import Derived.Test.YtnhfkdgambncfaaGreatDoorRows
import Derived.Lib.LaidTab
import Derived.Stop.LaidErr
set_option linter.unusedVariables false
set_option linter.unusedSimpArgs false
set_option linter.unusedSectionVars false
namespace Go.Proofs.YtnhfkdgambncfaaGreatDoor.XT
open Go Go.RowKit Go.Proofs.YtnhfkdgambncfaaGreatDoor.Sv
set_option maxRecDepth 100000
abbrev cellAt (P : Program) (g : Nat) : Option (Array Value × TypeId) := ((begin P (fun _ _ => 0) default).world.heap[g]?).bind Obj.row?
theorem row_of_shape {W : World} {g : Nat} {t : TypeId} {n : Nat} (h : W.ShapedOpen Tryz.prog) (hg : g < Tryz.prog.globals.size) (h0 : (cellAt Tryz.prog g).map (fun x => (x.1.size, x.2)) = some (n, t)) :
    ∃ cs, W.heap[g]? = some (.cells cs t (0, 0)) ∧ cs.size = n ∧ (Tryz.prog.buildable t = true → Row.ok Tryz.prog W .any 0 t cs) := by
  obtain ⟨⟨zero, t'⟩, h1, h2⟩ := Option.map_eq_some_iff.1 h0
  cases h2
  exact h.1 g zero t' hg h1
theorem int_of_shape {W : World} {g : Nat} {t : TypeId} {k : IntKind} (h : W.ShapedOpen Tryz.prog) (hg : g < Tryz.prog.globals.size) (h0 : (cellAt Tryz.prog g).map (fun x => (x.1.size, x.2)) = some (1, t))
    (hb : Tryz.prog.buildable t = true) (hc : Tryz.prog.cellTypes Tryz.prog.depth t = some [t]) (hu : Tryz.prog.underlying t = some (.int k)) : ∃ m, W.heap[g]? = some (.cells #[.int k m] t (0, 0)) := by
  obtain ⟨cs, hh, hs, hr⟩ := row_of_shape h hg h0
  obtain ⟨ts, hts, _, hall⟩ := hr hb
  rw [hc] at hts
  cases hts
  have h1 : 0 < cs.size := by omega
  obtain ⟨u, hu', hok⟩ := hall 0 cs[0] (by simp [h1])
  have : u = t := by simpa using hu'.symm
  subst this
  have hcs : cs = #[cs[0]] := by
    apply Array.ext
    · simpa using hs
    · intro i h2 h3
      have : i = 0 := by omega
      subst this; rfl
  unfold Cell.ok at hok
  rw [hu] at hok
  cases hv : cs[0] <;> rw [hv] at hok <;> try (simp at hok; done)
  rename_i k' m
  obtain ⟨rfl, _⟩ := hok
  rw [hv] at hcs
  exact ⟨m, by rw [hh, hcs]⟩
theorem tab_of {W : World} {name : String} {g : Nat} {k : IntKind} {zs : List Int} (h : W.ShapedOpen Tryz.prog) (hT : Lib.TabIs Tryz.prog W name k zs) (hn : Tryz.prog.globalNamed name = some g) (hg : g < Tryz.prog.globals.size) (h0 : (cellAt Tryz.prog g).isSome = true) :
    ∃ t, W.heap[g]? = some (.cells (numCells k zs) t (0, 0)) := by
  obtain ⟨⟨zero, t⟩, h1⟩ := Option.isSome_iff_exists.1 h0
  obtain ⟨cs, hh, _, _⟩ := h.1 g zero t hg h1
  unfold Lib.TabIs World.var? at hT
  rw [hn] at hT
  simp only [Option.bind_some, hh, Option.some.injEq] at hT
  exact ⟨t, by rw [hh, hT]; rfl⟩
theorem gl_of {W : World} {x : String × DataW Unit} {r : List (String × DataW Unit)} (hL : laidMet Tryz.prog (x :: ("math/bits.deBruijn64tab", Lib.tabData .u8 (Lib.deBruijn64tab.map Int.ofNat)) :: ("internal/strconv.uint64pow10", Lib.tabData .u64 pow10s) :: r) W) (h : W.ShapedOpen Tryz.prog) : gl.ok W := by
  have t64 := Lib.tabIs_of_head (P := Tryz.prog) (W := W) (g := 5) (t := 144) (e := 5) (n := 64) (by kernel_rfl) (by kernel_rfl) (by kernel_rfl) (by kernel_rfl) (by kernel_rfl) (by kernel_rfl) hL.tail
  have tpow := Lib.tabIs_of_head (P := Tryz.prog) (W := W) (g := 0) (t := 131) (e := 34) (n := 20) (by kernel_rfl) (by kernel_rfl) (by kernel_rfl) (by kernel_rfl) (by kernel_rfl) (by kernel_rfl) hL.tail.tail
  obtain ⟨u64, h64⟩ := tab_of h t64 (g := 5) (by kernel_rfl) (by decide +kernel) (by kernel_rfl)
  obtain ⟨upow, hpow⟩ := tab_of h tpow (g := 0) (by kernel_rfl) (by decide +kernel) (by kernel_rfl)
  obtain ⟨m, hm⟩ := int_of_shape h (g := 1) (t := 3) (k := .i64) (by decide +kernel) (by kernel_rfl) (by kernel_rfl) (by kernel_rfl) (by kernel_rfl)
  refine ⟨?_, ⟨m, _, hm⟩, ⟨_, hpow⟩, ⟨_, h64⟩⟩
  have : 6 ≤ W.heap.size := by
    obtain ⟨⟨zero, t'⟩, h1⟩ := Option.isSome_iff_exists.1 (show (cellAt Tryz.prog (6 - 1)).isSome = true by kernel_rfl)
    obtain ⟨cs, hh, _⟩ := h.1 (6 - 1) zero t' (by decide +kernel) h1
    have := (Array.getElem?_eq_some_iff.1 hh).1
    omega
  exact this
theorem laid_plain {P : Program} {l : List (String × DataW Unit)} {W : World} (h : (l.filter fun x => x.2.handleName?.isSome) = []) (hL : laidMetH P l W) : laidMet P l W := by
  unfold laidMetH at hL
  rw [h] at hL
  exact hL
end Go.Proofs.YtnhfkdgambncfaaGreatDoor.XT
