/- Values sorted: what is known of the program's variables; bits.TrailingZeros, out of the shelf. -/
import Derived.Test.YtcinjnkgopoclaaGreatDoorQS14x
import Derived.Test.YtcinjnkgopoclaaGreatDoorRows
import Derived.Shelf.Spec.TrailingZeros
import Derived.Lib.TrailingZeros
import Derived.Lib.LaidTab
import Derived.Stop.LaidErr
set_option linter.unusedVariables false
set_option linter.unusedSimpArgs false
set_option linter.unusedSectionVars false
namespace Go.Proofs
open Go.Shelf
def Tryz.lays7tz_ren : Go.Shelf.Ren := ⟨fun | 27 => 82 | 28 => 93 | 29 => 94 | n => n, fun | 25 => 66 | 3 => 3 | 27 => 85 | 22 => 23 | 4 => 4 | 53 => 129 | 0 => 0 | 5 => 5 | 54 => 130 | n => n, fun | 0 => 3 | 1 => 4 | n => n⟩
theorem Tryz.lays7tz : Go.Proofs.Lays7.n27 Tryz.prog Tryz.lays7tz_ren := {
  mixed := by kernel_rfl
  f27 := Tryz.func82.trans (congrArg some (by kernel_rfl))
  f28 := Tryz.func93.trans (congrArg some (by kernel_rfl))
  f29 := Tryz.func94.trans (congrArg some (by kernel_rfl))
  t0 := Tryz.underlying0
  a0 := Tryz.isAgg0
  z0 := Tryz.sizeOf0
  v0 := Tryz.zeroValue0
  i0 := by kernel_rfl
  t3 := Tryz.underlying3
  a3 := Tryz.isAgg3
  z3 := Tryz.sizeOf3
  v3 := Tryz.zeroValue3
  i3 := by kernel_rfl
  t4 := Tryz.underlying4
  a4 := Tryz.isAgg4
  z4 := Tryz.sizeOf4
  v4 := Tryz.zeroValue4
  i4 := by kernel_rfl
  t5 := Tryz.underlying5
  a5 := Tryz.isAgg5
  z5 := Tryz.sizeOf5
  v5 := Tryz.zeroValue5
  i5 := by kernel_rfl
  t22 := Tryz.underlying23
  a22 := Tryz.isAgg23
  z22 := Tryz.sizeOf23
  v22 := Tryz.zeroValue23
  i22 := by kernel_rfl
  t25 := Tryz.underlying66
  a25 := Tryz.isAgg66
  z25 := Tryz.sizeOf66
  v25 := Tryz.zeroValue66
  i25 := by kernel_rfl
  t27 := Tryz.underlying85
  a27 := Tryz.isAgg85
  z27 := Tryz.sizeOf85
  v27 := Tryz.zeroValue85
  i27 := by kernel_rfl
  t53 := Tryz.underlying129
  a53 := Tryz.isAgg129
  z53 := Tryz.sizeOf129
  v53 := Tryz.zeroValue129
  i53 := by kernel_rfl
  t54 := Tryz.underlying130
  a54 := Tryz.isAgg130
  z54 := Tryz.sizeOf130
  g0 := by kernel_rfl
  g1 := by kernel_rfl }
open Go.RowKit in
theorem Tryz.bits_TrailingZeros (x : Nat) (hx : x < 18446744073709551616) (w : World) (hT : x ≠ 0 → TabAt 4 Lib.deBruijn64tab w) :
    Calls Tryz.prog 82 #[.int .u64 x] w fun e w' => e = .returned (.int .i64 (Lib.ctz 64 x)) ∧ w' = w := Any7.bits_TrailingZeros Tryz.lays7tz x hx w hT
end Go.Proofs
namespace Go.Proofs.YtcinjnkgopoclaaGreatDoor.XT
open Go Go.RowKit Go.Proofs.YtcinjnkgopoclaaGreatDoor.Sv Go.Proofs.YtcinjnkgopoclaaGreatDoor.W
set_option maxRecDepth 100000
/-- cells of numbers -/
def numCells (k : IntKind) (l : List Int) : Array Value := (l.map (Value.int k)).toArray
/-- what is known of the program's variables -/
structure GlOK (w : World) : Prop where
  size : 5 ≤ w.heap.size
  tz : ∃ t, w.heap[4]? = some (.cells (numCells .u8 (Lib.deBruijn64tab.map Int.ofNat)) t (0, 0))
def gl : Gl := ⟨5, GlOK, fun _ h => h.size, fun w w' h hs hb => ⟨Nat.le_trans h.size hs, by rw [hb 4 (by omega)]; exact h.tz⟩⟩
theorem gl_tz {w : World} (h : GlOK w) : TabAt 4 Lib.deBruijn64tab w := by
  obtain ⟨t, ht⟩ := h.tz
  intro j hj
  have : (numCells .u8 (Lib.deBruijn64tab.map Int.ofNat))[j]? = some (.int .u8 (Lib.deBruijn64tab.getD j 0 : Nat)) := by
    simp [numCells, hj]
  simp [World.cell?, ht, this]
theorem fnc_ofT {f : FuncId} {args : Array Value} {w : World} {R : Value → World → Prop} {Q : Ending → World → Prop} (h : Calls Tryz.prog f args w Q) (k : ∀ e w', Q e w' → ∃ v, e = .returned v ∧ R v w') : Fnc Tryz.prog f args w R := Calls.mono h k
def tzC : Con := ⟨[.d true (.i .u64)], fun ds => [0 ≤ (nthD ds 0).int, (nthD ds 0).int < 18446744073709551616], [.d (.i .i64)], fun ds => [.i (Lib.ctz 64 (nthD ds 0).int.toNat)], fun _ => []⟩
theorem tzC_ok : ConOK Tryz.prog gl 82 tzC := scal_ok rfl (fun ds => ⟨_, rfl⟩) fun w ds vs e hg hp => by
  cases e
  have h1 : 0 ≤ (nthD ds 0).int := hp _ (by simp [tzC])
  have h2 : (nthD ds 0).int < 18446744073709551616 := hp _ (by simp [tzC])
  have e1 : (nthD ds 0).int = (((nthD ds 0).int.toNat : Nat) : Int) := by omega
  have := Tryz.bits_TrailingZeros (nthD ds 0).int.toNat (by omega) w (fun _ => gl_tz hg)
  rw [← e1] at this
  refine fnc_ofT this ?_
  rintro e w' ⟨rfl, rfl⟩
  exact ⟨_, rfl, rfl, Ext.refl _ _⟩
/-- never called -/
def usC : Con := ⟨[.d true .s], fun _ => [False], [.d .b], fun _ => [.b true], fun _ => []⟩
theorem usC_ok : ConOK Tryz.prog gl 68 usC := by
  intro F G w vs ds bs _ _ _ _ _ _ _ _ hp
  exact (hp False (List.mem_singleton.2 rfl)).elim
abbrev cellAt (P : Program) (g : Nat) : Option (Array Value × TypeId) := ((begin P (fun _ _ => 0) default).world.heap[g]?).bind Obj.row?
theorem row_of_shape {W : World} {g : Nat} {t : TypeId} {n : Nat} (h : W.ShapedOpen Tryz.prog) (hg : g < Tryz.prog.globals.size) (h0 : (cellAt Tryz.prog g).map (fun x => (x.1.size, x.2)) = some (n, t)) :
    ∃ cs, W.heap[g]? = some (.cells cs t (0, 0)) ∧ cs.size = n ∧ (Tryz.prog.buildable t = true → Row.ok Tryz.prog W .any 0 t cs) := by
  obtain ⟨⟨zero, t'⟩, h1, h2⟩ := Option.map_eq_some_iff.1 h0
  cases h2
  exact h.1 g zero t' hg h1
theorem tab_of {W : World} {name : String} {g : Nat} {k : IntKind} {zs : List Int} (h : W.ShapedOpen Tryz.prog) (hT : Lib.TabIs Tryz.prog W name k zs) (hn : Tryz.prog.globalNamed name = some g) (hg : g < Tryz.prog.globals.size) (h0 : (cellAt Tryz.prog g).isSome = true) :
    ∃ t, W.heap[g]? = some (.cells (numCells k zs) t (0, 0)) := by
  obtain ⟨⟨zero, t⟩, h1⟩ := Option.isSome_iff_exists.1 h0
  obtain ⟨cs, hh, _, _⟩ := h.1 g zero t hg h1
  unfold Lib.TabIs World.var? at hT
  rw [hn] at hT
  simp only [Option.bind_some, hh, Option.some.injEq] at hT
  exact ⟨t, by rw [hh, hT]; rfl⟩
theorem gl_of {W : World} {x : String × DataW Unit} {r : List (String × DataW Unit)} (hL : laidMet Tryz.prog (x :: ("math/bits.deBruijn64tab", Lib.tabData .u8 (Lib.deBruijn64tab.map Int.ofNat)) :: r) W) (h : W.ShapedOpen Tryz.prog) : gl.ok W := by
  have t64 := Lib.tabIs_of_head (P := Tryz.prog) (W := W) (g := 4) (t := 130) (e := 5) (n := 64) (by kernel_rfl) (by kernel_rfl) (by kernel_rfl) (by kernel_rfl) (by kernel_rfl) (by kernel_rfl) hL.tail
  obtain ⟨u64, h64⟩ := tab_of h t64 (g := 4) (by kernel_rfl) (by decide +kernel) (by kernel_rfl)
  refine ⟨?_, ⟨_, h64⟩⟩
  have : 4 < W.heap.size := (Array.getElem?_eq_some_iff.1 h64).1
  omega
theorem laid_plain {P : Program} {l : List (String × DataW Unit)} {W : World} (h : (l.filter fun x => x.2.handleName?.isSome) = []) (hL : laidMetH P l W) : laidMet P l W := by
  unfold laidMetH at hL
  rw [h] at hL
  exact hL
end Go.Proofs.YtcinjnkgopoclaaGreatDoor.XT
