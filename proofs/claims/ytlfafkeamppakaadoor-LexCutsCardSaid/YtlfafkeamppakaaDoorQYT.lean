/- What the rows' lists say of the program's variables. -/
import Derived.Test.YtlfafkeamppakaaDoorQYG
import Derived.Test.YtlfafkeamppakaaDoorRows
import Derived.Test.YtlfafkeamppakaaDoorQP4
import Derived.Test.YtlfafkeamppakaaDoorQS14x
import Derived.Lib.LaidTab
import Derived.Stop.LaidErr
set_option linter.unusedVariables false
set_option linter.unusedSimpArgs false
namespace Go.Proofs.YtlfafkeamppakaaDoor.XT
open Go Go.RowKit Go.Proofs.YtlfafkeamppakaaDoor.Sv
set_option maxRecDepth 100000
abbrev cellAt (P : Program) (g : Nat) : Option (Array Value × TypeId) := ((begin P (fun _ _ => 0) default).world.heap[g]?).bind Obj.row?
theorem row_of_shape {W : World} {g : Nat} {t : TypeId} {n : Nat} (h : W.ShapedOpen Tryd.prog) (hg : g < Tryd.prog.globals.size) (h0 : (cellAt Tryd.prog g).map (fun x => (x.1.size, x.2)) = some (n, t)) :
    ∃ cs, W.heap[g]? = some (.cells cs t (0, 0)) ∧ cs.size = n ∧ (Tryd.prog.buildable t = true → Row.ok Tryd.prog W .any 0 t cs) := by
  obtain ⟨⟨zero, t'⟩, h1, h2⟩ := Option.map_eq_some_iff.1 h0
  cases h2
  exact h.1 g zero t' hg h1
theorem int_of_shape {W : World} {g : Nat} {t : TypeId} {k : IntKind} (h : W.ShapedOpen Tryd.prog) (hg : g < Tryd.prog.globals.size) (h0 : (cellAt Tryd.prog g).map (fun x => (x.1.size, x.2)) = some (1, t))
    (hb : Tryd.prog.buildable t = true) (hc : Tryd.prog.cellTypes Tryd.prog.depth t = some [t]) (hu : Tryd.prog.underlying t = some (.int k)) : ∃ m, W.heap[g]? = some (.cells #[.int k m] t (0, 0)) := by
  obtain ⟨cs, hh, hs, hr⟩ := row_of_shape h hg h0
  obtain ⟨ts, hts, _, hall⟩ := hr hb
  rw [hc] at hts
  cases hts
  have h1 : 0 < cs.size := by omega
  obtain ⟨u, hu', hok⟩ := hall 0 cs[0] (by simp [h1])
  have : u = t := by simpa using hu'.symm
  subst this
  have hcs : cs = #[cs[0]] := by
    apply Array.ext
    · simpa using hs
    · intro i h2 h3
      have : i = 0 := by omega
      subst this; rfl
  unfold Cell.ok at hok
  rw [hu] at hok
  cases hv : cs[0] <;> rw [hv] at hok <;> try (simp at hok; done)
  rename_i k' m
  obtain ⟨rfl, _⟩ := hok
  rw [hv] at hcs
  exact ⟨m, by rw [hh, hcs]⟩
theorem tab_of {W : World} {name : String} {g : Nat} {k : IntKind} {zs : List Int} (h : W.ShapedOpen Tryd.prog) (hT : Lib.TabIs Tryd.prog W name k zs) (hn : Tryd.prog.globalNamed name = some g) (hg : g < Tryd.prog.globals.size) (h0 : (cellAt Tryd.prog g).isSome = true) :
    ∃ t, W.heap[g]? = some (.cells (numCells k zs) t (0, 0)) := by
  obtain ⟨⟨zero, t⟩, h1⟩ := Option.isSome_iff_exists.1 h0
  obtain ⟨cs, hh, _, _⟩ := h.1 g zero t hg h1
  unfold Lib.TabIs World.var? at hT
  rw [hn] at hT
  simp only [Option.bind_some, hh, Option.some.injEq] at hT
  exact ⟨t, by rw [hh, hT]; rfl⟩
theorem err_of {W : World} {n nm : String} {g : Nat} {text : List UInt8} {r : List (String × DataW Unit)} (h : W.ShapedOpen Tryd.prog) (hL : laidMet Tryd.prog ((n, .iface nm (.ptr (.agg [.lit (.string text)]))) :: r) W)
    (hg : Tryd.prog.globalNamed n = some g) (ht : (Tryd.prog.globals[g]?).map (·.type) = some 63) (hrow : ∀ u, Tryd.prog.typeName? 3 u = some nm → u = 107) (hlt : g < Tryd.prog.globals.size) (h0 : (cellAt Tryd.prog g).isSome = true) :
    ∃ u p t, W.heap[g]? = some (.cells #[.iface u p] t (0, 0)) := by
  obtain ⟨a, s, hv, _⟩ := laid_sentinel hL hg ht Tryd.underlying63 hrow Tryd.underlying107 Tryd.underlying109 rfl rfl Tryd.underlying9 (by kernel_rfl) (by kernel_rfl)
  obtain ⟨⟨zero, t⟩, h1⟩ := Option.isSome_iff_exists.1 h0
  obtain ⟨cs, hh, _, _⟩ := h.1 g zero t hlt h1
  unfold World.var? at hv
  rw [hg] at hv
  simp only [Option.bind_some, hh, Option.some.injEq] at hv
  exact ⟨_, _, t, by rw [hh, hv]⟩
theorem star : "*" ++ "errors.errorString" = "*errors.errorString" := by decide
theorem row_err (u : TypeId) (h : Tryd.prog.typeName? 3 u = some "*errors.errorString") : u = 107 :=
  typeName_ptr_named (nm := "errors.errorString") (by rw [star]; kernel_rfl) (by kernel_rfl) (by decide) u (by rw [star]; exact h)
theorem gl_of {W : World} {x : String × DataW Unit} {tr ts : List UInt8} {r : List (String × DataW Unit)} (hL : laidMet Tryd.prog (x :: ("math/bits.deBruijn64tab", Lib.tabData .u8 (Lib.deBruijn64tab.map Int.ofNat)) :: ("internal/strconv.uint64pow10", Lib.tabData .u64 pow10s) :: ("strconv.ErrRange", .iface "*errors.errorString" (.ptr (.agg [.lit (.string tr)]))) :: ("strconv.ErrSyntax", .iface "*errors.errorString" (.ptr (.agg [.lit (.string ts)]))) :: r) W) (h : W.ShapedOpen Tryd.prog) : gl.ok W := by
  have t64 := Lib.tabIs_of_head (P := Tryd.prog) (W := W) (g := 5) (t := 125) (e := 5) (n := 64) (by kernel_rfl) (by kernel_rfl) (by kernel_rfl) (by kernel_rfl) (by kernel_rfl) (by kernel_rfl) hL.tail
  have tpow := Lib.tabIs_of_head (P := Tryd.prog) (W := W) (g := 3) (t := 118) (e := 91) (n := 20) (by kernel_rfl) (by kernel_rfl) (by kernel_rfl) (by kernel_rfl) (by kernel_rfl) (by kernel_rfl) hL.tail.tail
  obtain ⟨u64, h64⟩ := tab_of h t64 (g := 5) (by kernel_rfl) (by decide +kernel) (by kernel_rfl)
  obtain ⟨upow, hpow⟩ := tab_of h tpow (g := 3) (by kernel_rfl) (by decide +kernel) (by kernel_rfl)
  obtain ⟨m, hm⟩ := int_of_shape h (g := 0) (t := 3) (k := .i64) (by decide +kernel) (by kernel_rfl) (by kernel_rfl) (by kernel_rfl) (by kernel_rfl)
  have hrng := err_of h hL.tail.tail.tail (g := 2) (by kernel_rfl) (by kernel_rfl) row_err (by decide +kernel) (by kernel_rfl)
  have hsyn := err_of h hL.tail.tail.tail.tail (g := 1) (by kernel_rfl) (by kernel_rfl) row_err (by decide +kernel) (by kernel_rfl)
  refine ⟨?_, ⟨m, _, hm⟩, ⟨_, hpow⟩, hsyn, hrng, ⟨_, h64⟩⟩
  have : 5 < W.heap.size := (Array.getElem?_eq_some_iff.1 h64).1
  omega
theorem laid_plain {P : Program} {l : List (String × DataW Unit)} {W : World} (h : (l.filter fun x => x.2.handleName?.isSome) = []) (hL : laidMetH P l W) : laidMet P l W := by
  unfold laidMetH at hL
  rw [h] at hL
  exact hL
/-- what bounds the data that came in, by their bulk -/
theorem bd_bulk (H : Type) (P : Program) : Bd (H := H) P 1048576 (fun _ d => Rows.uptoBulk d ≤ 1048576) := by
  refine ⟨fun t l h => ?_, fun t e es sp ht hb h => ?_, fun t fs ps ht h i f d h1 h2 => ?_⟩
  · simp only [Rows.uptoBulk] at h; omega
  · simp only [Rows.uptoBulk] at h
    have h1 := Go.Proofs.YtlfafkeamppakaaDoor.W.bulk_len es
    refine ⟨by omega, fun d hd => ?_⟩
    have h2 := Go.Proofs.YtlfafkeamppakaaDoor.W.bulk_part hd
    omega
  · simp only [Rows.uptoBulk] at h
    have h3 := Go.Proofs.YtlfafkeamppakaaDoor.W.bulk_part (List.mem_of_getElem? h2)
    omega
theorem bulk_args {H : Type} {tis : List TypeId} {ds gs : List (DataW H)} (h : Rows.uptoSmall H (ds ++ gs) = true) : ∀ (i : Nat) (ti : TypeId) (d : DataW H), tis[i]? = some ti → ds[i]? = some d → Rows.uptoBulk d ≤ 1048576 := by
  intro i ti d _ h2
  have h := of_decide_eq_true h
  have := Go.Proofs.YtlfafkeamppakaaDoor.W.bulk_part (List.mem_append_left gs (List.mem_of_getElem? h2))
  omega
end Go.Proofs.YtlfafkeamppakaaDoor.XT
