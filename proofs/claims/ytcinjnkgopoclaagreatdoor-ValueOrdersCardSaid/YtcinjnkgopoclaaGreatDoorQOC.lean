/- The order of values as the program computes it: its walk, the world told exactly (boxes and one row are laid, one order is drawn). -/
import Derived.WalkKit
import Derived.Deep.QuietTactic
import Derived.StillTailTactics
import Derived.Shelf.SlSortCmp.NoneTotal
import Derived.Test.YtcinjnkgopoclaaGreatDoorProg
set_option linter.unusedVariables false
set_option linter.unusedSimpArgs false
set_option linter.unusedSectionVars false
namespace Go.Proofs
open Go Go.RowKit Go.Sort
def cS (a b : ByteArray) : Int := if Op.bytesLess a.toList b.toList = true then -1 else if (!(Op.bytesLess a.toList b.toList || a.toList == b.toList)) = true then 1 else 0
def cI (a b : Int) : Int := if a < b then -1 else if b < a then 1 else 0
theorem Tryz.nan39 (a : Int) (w : World) : Calls Tryz.prog 39 #[.int .u8 a] w fun e w' => e = .returned (.bool false) ∧ w' = w := by
  go_enter Tryz.func39, Tryz.ntmps39
  go_wp2
  go_ret
  exact ⟨by simp, rfl⟩
theorem Tryz.cmp20 (a b : Int) (w : World) : Calls Tryz.prog 20 #[.int .u8 a, .int .u8 b] w fun e w' => e = .returned (.int .i64 (cI a b)) ∧ w' = w := by
  have hn := fun a w => Tryz.nan39 a w
  go_enter Tryz.func20, Tryz.ntmps20
  go_wp2_with (go_at_call 39; refine (hn _ _).mono ?_; rintro e w' ⟨rfl, rfl⟩)
  all_goals (go_ret; refine ⟨?_, rfl⟩; unfold cI)
  · rw [if_pos (by assumption)]; rfl
  · rw [if_neg (by omega), if_pos (by assumption)]; rfl
  · rw [if_neg (by omega), if_neg (by omega)]; rfl
theorem Tryz.nan40 (a : Int) (w : World) : Calls Tryz.prog 40 #[.int .i64 a] w fun e w' => e = .returned (.bool false) ∧ w' = w := by
  go_enter Tryz.func40, Tryz.ntmps40
  go_wp2
  go_ret
  exact ⟨by simp, rfl⟩
theorem Tryz.cmp21 (a b : Int) (w : World) : Calls Tryz.prog 21 #[.int .i64 a, .int .i64 b] w fun e w' => e = .returned (.int .i64 (cI a b)) ∧ w' = w := by
  have hn := fun a w => Tryz.nan40 a w
  go_enter Tryz.func21, Tryz.ntmps21
  go_wp2_with (go_at_call 40; refine (hn _ _).mono ?_; rintro e w' ⟨rfl, rfl⟩)
  all_goals (go_ret; refine ⟨?_, rfl⟩; unfold cI)
  · rw [if_pos (by assumption)]; rfl
  · rw [if_neg (by omega), if_pos (by assumption)]; rfl
  · rw [if_neg (by omega), if_neg (by omega)]; rfl
theorem Tryz.nan41 (a : Int) (w : World) : Calls Tryz.prog 41 #[.int .i64 a] w fun e w' => e = .returned (.bool false) ∧ w' = w := by
  go_enter Tryz.func41, Tryz.ntmps41
  go_wp2
  go_ret
  exact ⟨by simp, rfl⟩
theorem Tryz.cmp23 (a b : Int) (w : World) : Calls Tryz.prog 23 #[.int .i64 a, .int .i64 b] w fun e w' => e = .returned (.int .i64 (cI a b)) ∧ w' = w := by
  have hn := fun a w => Tryz.nan41 a w
  go_enter Tryz.func23, Tryz.ntmps23
  go_wp2_with (go_at_call 41; refine (hn _ _).mono ?_; rintro e w' ⟨rfl, rfl⟩)
  all_goals (go_ret; refine ⟨?_, rfl⟩; unfold cI)
  · rw [if_pos (by assumption)]; rfl
  · rw [if_neg (by omega), if_pos (by assumption)]; rfl
  · rw [if_neg (by omega), if_neg (by omega)]; rfl
theorem Tryz.nan43 (a : Int) (w : World) : Calls Tryz.prog 43 #[.int .u64 a] w fun e w' => e = .returned (.bool false) ∧ w' = w := by
  go_enter Tryz.func43, Tryz.ntmps43
  go_wp2
  go_ret
  exact ⟨by simp, rfl⟩
theorem Tryz.cmp25 (a b : Int) (w : World) : Calls Tryz.prog 25 #[.int .u64 a, .int .u64 b] w fun e w' => e = .returned (.int .i64 (cI a b)) ∧ w' = w := by
  have hn := fun a w => Tryz.nan43 a w
  go_enter Tryz.func25, Tryz.ntmps25
  go_wp2_with (go_at_call 43; refine (hn _ _).mono ?_; rintro e w' ⟨rfl, rfl⟩)
  all_goals (go_ret; refine ⟨?_, rfl⟩; unfold cI)
  · rw [if_pos (by assumption)]; rfl
  · rw [if_neg (by omega), if_pos (by assumption)]; rfl
  · rw [if_neg (by omega), if_neg (by omega)]; rfl
theorem Tryz.nan42 (a : ByteArray) (w : World) : Calls Tryz.prog 42 #[.string a] w fun e w' => e = .returned (.bool false) ∧ w' = w := by
  go_enter Tryz.func42, Tryz.ntmps42
  go_wp2
  go_ret
  exact ⟨by simp, rfl⟩
theorem Tryz.gtr24 (a b : ByteArray) (w : World) : (binOp .gtr 9 (.string a) (.string b)).run Tryz.prog w = .ok (.bool (!(Op.bytesLess a.toList b.toList || a.toList == b.toList))) w := by
  simp [binOp, Op.stringOp, go_sem]
theorem Tryz.cmp24 (a b : ByteArray) (w : World) : Calls Tryz.prog 24 #[.string a, .string b] w fun e w' => e = .returned (.int .i64 (cS a b)) ∧ w' = w := by
  have hn := fun a w => Tryz.nan42 a w
  go_enter Tryz.func24, Tryz.ntmps24
  go_wp2_with (go_at_call 42; refine (hn _ _).mono ?_; rintro e w' ⟨rfl, rfl⟩)
  · have h : Op.bytesLess a.toList b.toList = true := by assumption
    go_ret
    refine ⟨?_, rfl⟩
    unfold cS; rw [h]; rfl
  · have h : Op.bytesLess a.toList b.toList = false := by assumption
    rw [Tryz.gtr24]
    cases hg : (!(Op.bytesLess a.toList b.toList || a.toList == b.toList))
    · go_wp2
      go_ret
      refine ⟨?_, rfl⟩
      unfold cS; rw [if_neg (by rw [h]; decide), if_neg (by rw [hg]; decide)]; rfl
    · go_wp2
      go_ret
      refine ⟨?_, rfl⟩
      unfold cS; rw [if_neg (by rw [h]; decide), if_pos hg]; rfl
theorem Tryz.tr22 (a : Bool) (w : World) : Calls Tryz.prog 22 #[.bool a] w fun e w' => e = .returned (.int .i64 (if a = true then 1 else 0)) ∧ w' = w := by
  cases a
  · go_enter Tryz.func22, Tryz.ntmps22
    go_wp2
    go_ret
    exact ⟨rfl, rfl⟩
  · go_enter Tryz.func22, Tryz.ntmps22
    go_wp2
    go_ret
    exact ⟨rfl, rfl⟩

def nz1 : List Int → Int
  | [] => 0
  | x :: r => if x = 0 then nz1 r else x
theorem Tryz.or19 (xs : List Int) (b : Nat) (w : World) (hn : xs.length ≤ 1000) (hc : ∀ k, k < xs.length → w.cell? ⟨b, k, none⟩ = some (.int .i64 (xs.getD k 0))) :
    Calls Tryz.prog 19 #[.slice (some ⟨b, 0, none⟩) xs.length xs.length] w fun e w' => e = .returned (.int .i64 (nz1 xs)) ∧ w' = w := by
  go_enter Tryz.func19, Tryz.ntmps19
  go_wp2
  go_loop [8] (fun i => ∃ k : Nat, k ≤ xs.length ∧ i = .int .i64 k ∧ nz1 (xs.drop k) = nz1 xs) (fun i => xs.length - (intOf i).toNat)
  case atStart => exact ⟨0, Nat.zero_le _, rfl, rfl⟩
  case round =>
    obtain ⟨k, hk, rfl, he⟩ := hrel
    have hd : ∀ h : k < xs.length, nz1 (xs.drop k) = if xs[k] = 0 then nz1 (xs.drop (k + 1)) else xs[k] := by
      intro h
      rw [List.drop_eq_getElem_cons h]
      rfl
    go_wp2
    · have hlt : k < xs.length := by assumption
      have hv : (xs[k] != 0) = true := by assumption
      go_ret
      refine ⟨?_, rfl⟩
      have hv : ¬ xs[k] = 0 := by simpa using hv
      rw [← he, hd hlt, if_neg hv]; rfl
    · have hlt : k < xs.length := by assumption
      have hv : (xs[k] != 0) = false := by assumption
      have hv : xs[k] = 0 := by simpa using hv
      go_round
      case rel => exact ⟨k + 1, by omega, by go_num, by rw [← he, hd hlt, if_pos hv]⟩
      case measure => simp [intOf]; omega
    · have hge : ¬ k < xs.length := by assumption
      have hge : xs.length ≤ k := by omega
      go_ret
      refine ⟨?_, rfl⟩
      rw [← he, List.drop_eq_nil_of_le hge]; rfl

theorem cellA (W : World) (A B : Array Value) (i : Nat) (v : Value) (h : A[i]? = some v) : ((W.alloc (.cells A 25)).alloc (.cells B 25)).cell? ⟨W.heap.size, i, none⟩ = some v := by
  have h1 : ((W.alloc (.cells A 25)).alloc (.cells B 25)).heap[W.heap.size]? = some (.cells A 25) := by
    show ((W.heap.push _).push _)[_]? = _
    simp [Array.getElem?_push]
  simp only [World.cell?, h1]; simpa using h
theorem cellB (W : World) (A B : Array Value) (i : Nat) (v : Value) (h : B[i]? = some v) : ((W.alloc (.cells A 25)).alloc (.cells B 25)).cell? ⟨W.heap.size + 1, i, none⟩ = some v := by
  have h1 : ((W.alloc (.cells A 25)).alloc (.cells B 25)).heap[W.heap.size + 1]? = some (.cells B 25) := by
    show ((W.heap.push (.cells A 25)).push _)[_]? = _
    rw [show W.heap.size + 1 = (W.heap.push (.cells A 25)).size by simp]
    exact Array.getElem?_push_size
  simp only [World.cell?, h1]; simpa using h
theorem Tryz.or5 (c1 c2 c3 c4 c5 : Int) (W : World) : Calls Tryz.prog 19 #[.slice (some ⟨W.heap.size, 0, none⟩) 5 5] (W.alloc (.cells #[.int .i64 c1, .int .i64 c2, .int .i64 c3, .int .i64 c4, .int .i64 c5] 3)) fun e w' => e = .returned (.int .i64 (nz1 [c1, c2, c3, c4, c5])) ∧ w' = W.alloc (.cells #[.int .i64 c1, .int .i64 c2, .int .i64 c3, .int .i64 c4, .int .i64 c5] 3) := by
  refine Tryz.or19 [c1, c2, c3, c4, c5] W.heap.size _ (by show (5 : Nat) ≤ 1000; omega) fun k hk => ?_
  have h1 : (W.alloc (.cells #[.int .i64 c1, .int .i64 c2, .int .i64 c3, .int .i64 c4, .int .i64 c5] 3)).heap[W.heap.size]? = some (.cells #[.int .i64 c1, .int .i64 c2, .int .i64 c3, .int .i64 c4, .int .i64 c5] 3) := Array.getElem?_push_size
  simp only [World.cell?, h1]
  have hk : k < 5 := hk
  rcases k with _ | _ | _ | _ | _ | k
  · rfl
  · rfl
  · rfl
  · rfl
  · rfl
  · omega
theorem growAB (W : World) (A B : Array Value) : ∃ os, ((W.alloc (.cells A 25)).alloc (.cells B 25)) = grow W os := ⟨_, by rw [alloc_eq_grow, alloc_eq_grow, grow_grow]⟩
theorem sizeAB (W : World) (A B : Array Value) : ((W.alloc (.cells A 25)).alloc (.cells B 25)).heap.size = W.heap.size + 2 := by
  show ((W.heap.push _).push _).size = _
  simp
set_option maxRecDepth 100000 in
theorem Tryz.compare11 (k1 k2 n1 n2 u1 u2 : Int) (b1 b2 : Bool) (s1 s2 : ByteArray) (W : World) (c1 c2 t1 t2 c3 c4 c5 : Int) (e1 : cI k1 k2 = c1) (et1 : (if b1 = true then 1 else 0) = t1) (et2 : (if b2 = true then 1 else 0) = t2) (e2 : cI t1 t2 = c2) (e3 : cI n1 n2 = c3) (e4 : cS s1 s2 = c4) (e5 : cI u1 u2 = c5) :
    Calls Tryz.prog 11 #[.agg #[.int .u8 k1, .bool b1, .int .i64 n1, .string s1, .int .u64 u1], .agg #[.int .u8 k2, .bool b2, .int .i64 n2, .string s2, .int .u64 u2]] W fun e w' => e = .returned (.int .i64 (nz1 [c1, c2, c3, c4, c5])) ∧ ∃ q os', w' = grow (W.drewN q) os' := by
  have q1 := fun w => Tryz.cmp20 k1 k2 w
  have q2 := fun w => Tryz.tr22 b1 w
  have q3 := fun w => Tryz.tr22 b2 w
  have q4 := fun w => Tryz.cmp21 t1 t2 w
  have q5 := fun w => Tryz.cmp23 n1 n2 w
  have q6 := fun w => Tryz.cmp24 s1 s2 w
  have q7 := fun w => Tryz.cmp25 u1 u2 w
  simp only [e1, et1, et2, e2, e3, e4, e5] at q1 q2 q3 q4 q5 q6 q7
  clear e1 et1 et2 e2 e3 e4 e5
  go_enter Tryz.func11, Tryz.ntmps11
  go_wp2
  have xa0 := cellA W #[(.int .u8 k1), (.bool b1), (.int .i64 n1), (.string s1), (.int .u64 u1)] #[(.int .u8 k2), (.bool b2), (.int .i64 n2), (.string s2), (.int .u64 u2)] 0 (.int .u8 k1) rfl
  have xa1 := cellA W #[(.int .u8 k1), (.bool b1), (.int .i64 n1), (.string s1), (.int .u64 u1)] #[(.int .u8 k2), (.bool b2), (.int .i64 n2), (.string s2), (.int .u64 u2)] 1 (.bool b1) rfl
  have xa2 := cellA W #[(.int .u8 k1), (.bool b1), (.int .i64 n1), (.string s1), (.int .u64 u1)] #[(.int .u8 k2), (.bool b2), (.int .i64 n2), (.string s2), (.int .u64 u2)] 2 (.int .i64 n1) rfl
  have xa3 := cellA W #[(.int .u8 k1), (.bool b1), (.int .i64 n1), (.string s1), (.int .u64 u1)] #[(.int .u8 k2), (.bool b2), (.int .i64 n2), (.string s2), (.int .u64 u2)] 3 (.string s1) rfl
  have xa4 := cellA W #[(.int .u8 k1), (.bool b1), (.int .i64 n1), (.string s1), (.int .u64 u1)] #[(.int .u8 k2), (.bool b2), (.int .i64 n2), (.string s2), (.int .u64 u2)] 4 (.int .u64 u1) rfl
  have xb0 := cellB W #[(.int .u8 k1), (.bool b1), (.int .i64 n1), (.string s1), (.int .u64 u1)] #[(.int .u8 k2), (.bool b2), (.int .i64 n2), (.string s2), (.int .u64 u2)] 0 (.int .u8 k2) rfl
  have xb1 := cellB W #[(.int .u8 k1), (.bool b1), (.int .i64 n1), (.string s1), (.int .u64 u1)] #[(.int .u8 k2), (.bool b2), (.int .i64 n2), (.string s2), (.int .u64 u2)] 1 (.bool b2) rfl
  have xb2 := cellB W #[(.int .u8 k1), (.bool b1), (.int .i64 n1), (.string s1), (.int .u64 u1)] #[(.int .u8 k2), (.bool b2), (.int .i64 n2), (.string s2), (.int .u64 u2)] 2 (.int .i64 n2) rfl
  have xb3 := cellB W #[(.int .u8 k1), (.bool b1), (.int .i64 n1), (.string s1), (.int .u64 u1)] #[(.int .u8 k2), (.bool b2), (.int .i64 n2), (.string s2), (.int .u64 u2)] 3 (.string s2) rfl
  have xb4 := cellB W #[(.int .u8 k1), (.bool b1), (.int .i64 n1), (.string s1), (.int .u64 u1)] #[(.int .u8 k2), (.bool b2), (.int .i64 n2), (.string s2), (.int .u64 u2)] 4 (.int .u64 u2) rfl
  have hg := growAB W #[.int .u8 k1, .bool b1, .int .i64 n1, .string s1, .int .u64 u1] #[.int .u8 k2, .bool b2, .int .i64 n2, .string s2, .int .u64 u2]
  have hs := sizeAB W #[.int .u8 k1, .bool b1, .int .i64 n1, .string s1, .int .u64 u1] #[.int .u8 k2, .bool b2, .int .i64 n2, .string s2, .int .u64 u2]
  generalize (W.alloc (.cells #[(.int .u8 k1), (.bool b1), (.int .i64 n1), (.string s1), (.int .u64 u1)] 25)).alloc (.cells #[(.int .u8 k2), (.bool b2), (.int .i64 n2), (.string s2), (.int .u64 u2)] 25) = W2 at *
  generalize W.heap.size = p at *
  have xa0 : (World.mk W2.heap W2.tape (W2.drawn + 1) W2.os W2.output).cell? _ = _ := xa0
  have xa1 : (World.mk W2.heap W2.tape (W2.drawn + 1) W2.os W2.output).cell? _ = _ := xa1
  have xa2 : (World.mk W2.heap W2.tape (W2.drawn + 1) W2.os W2.output).cell? _ = _ := xa2
  have xa3 : (World.mk W2.heap W2.tape (W2.drawn + 1) W2.os W2.output).cell? _ = _ := xa3
  have xa4 : (World.mk W2.heap W2.tape (W2.drawn + 1) W2.os W2.output).cell? _ = _ := xa4
  have xb0 : (World.mk W2.heap W2.tape (W2.drawn + 1) W2.os W2.output).cell? _ = _ := xb0
  have xb1 : (World.mk W2.heap W2.tape (W2.drawn + 1) W2.os W2.output).cell? _ = _ := xb1
  have xb2 : (World.mk W2.heap W2.tape (W2.drawn + 1) W2.os W2.output).cell? _ = _ := xb2
  have xb3 : (World.mk W2.heap W2.tape (W2.drawn + 1) W2.os W2.output).cell? _ = _ := xb3
  have xb4 : (World.mk W2.heap W2.tape (W2.drawn + 1) W2.os W2.output).cell? _ = _ := xb4
  go_still_tail 27, (by kernel_rfl)
  still_call (q1 _)
  repeat still_step
  still_call (q2 _)
  repeat still_step
  still_call (q3 _)
  repeat still_step
  still_call (q4 _)
  repeat still_step
  still_call (q5 _)
  repeat still_step
  still_call (q6 _)
  repeat still_step
  still_call (q7 _)
  repeat still_step
  refine wpStill_nil ?_
  change wpList _ _ _ _ _ W2.drew
  clear q1 q2 q3 q4 q5 q6 q7 xa0 xa1 xa2 xa3 xa4 xb0 xb1 xb2 xb3 xb4
  have hor := Tryz.or5 c1 c2 c3 c4 c5 W2.drew
  have hfin : ∃ q os', W2.drew.alloc (.cells #[.int .i64 c1, .int .i64 c2, .int .i64 c3, .int .i64 c4, .int .i64 c5] 3) = grow (W.drewN q) os' := by
    obtain ⟨os, rfl⟩ := hg
    exact ⟨1, _, by rw [alloc_eq_grow, show (grow W os).drew = grow (W.drewN 1) os from rfl, grow_grow]⟩
  generalize W2.drew = W3 at *
  go_wp2_with (go_at_call 19; refine hor.mono ?_; rintro e w' ⟨rfl, rfl⟩)
  go_ret
  exact ⟨rfl, hfin⟩
end Go.Proofs
