/- What is known of the program's variables. -/
import Derived.Test.YtlfafkeamppakaaDoorQYL
import Derived.Test.YtlfafkeamppakaaDoorProg
import Derived.Lib.TrailingZeros
set_option linter.unusedVariables false
set_option linter.unusedSimpArgs false
namespace Go.Proofs.YtlfafkeamppakaaDoor.XT
open Go Go.RowKit Go.Proofs.YtlfafkeamppakaaDoor.Sv
theorem mo : Tryd.prog.follows .mixedOrders = true := by kernel_rfl
/-- cells of numbers -/
def numCells (k : IntKind) (l : List Int) : Array Value := (l.map (Value.int k)).toArray
def pow10s : List Int := (List.range 20).map fun i => ((10 ^ i : Nat) : Int)
/-- what is known of the program's variables -/
structure GlOK (w : World) : Prop where
  size : 6 ≤ w.heap.size
  len : ∃ m t, w.heap[0]? = some (.cells #[.int .i64 m] t (0, 0))
  pow : ∃ t, w.heap[3]? = some (.cells (numCells .u64 pow10s) t (0, 0))
  syn : ∃ u p t, w.heap[1]? = some (.cells #[.iface u p] t (0, 0))
  rng : ∃ u p t, w.heap[2]? = some (.cells #[.iface u p] t (0, 0))
  tz : ∃ t, w.heap[5]? = some (.cells (numCells .u8 (Lib.deBruijn64tab.map Int.ofNat)) t (0, 0))
def gl : Gl := ⟨6, GlOK, fun _ h => h.size, fun w w' h hs hb => ⟨Nat.le_trans h.size hs, by rw [hb 0 (by omega)]; exact h.len, by rw [hb 3 (by omega)]; exact h.pow, by rw [hb 1 (by omega)]; exact h.syn, by rw [hb 2 (by omega)]; exact h.rng, by rw [hb 5 (by omega)]; exact h.tz⟩⟩
end Go.Proofs.YtlfafkeamppakaaDoor.XT
