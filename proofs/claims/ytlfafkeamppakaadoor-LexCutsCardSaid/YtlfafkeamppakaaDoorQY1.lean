/- Contracts, by the symbolic evaluator. -/
import Derived.Test.YtlfafkeamppakaaDoorQY0
import Derived.Test.YtlfafkeamppakaaDoorProg
import Derived.Test.YtlfafkeamppakaaDoorQYG
set_option linter.unusedVariables false
set_option linter.unusedSimpArgs false
namespace Go.Proofs.YtlfafkeamppakaaDoor.XT
open Go Go.RowKit Go.Proofs.YtlfafkeamppakaaDoor.Sv
set_option maxRecDepth 100000
/-- what is left to a reader -/
def rst (a : D) : List Int := (bys ((D.str (D.fld a 0)))).drop ((D.int (D.fld a 1))).toNat
theorem skF (c : Int) (r : List Int) : skL (c :: r) false = if c = 32 ∨ c = 9 ∨ c = 10 ∨ c = 13 then skL r false + 1 else if c = 35 then skL r true + 1 else 0 := by rw [skL]
theorem skT (c : Int) (r : List Int) : skL (c :: r) true = if c = 10 then skL r false + 1 else skL r true + 1 := by rw [skL]
def lxdC : Con := ⟨[.d true (.i .u8)], fun ds => [], [.d .b], fun ds => (fun (a : D) => [.b (dgC a.int)]) (nthD ds 0), fun ds => []⟩
def lxdC_an : Anns := fun _ _ => none
theorem lxdC_vc (a : D) : ((decide (48 ≤ a.int) && decide (a.int ≤ 57)) = dgC a.int) = conGoal Tryd.prog noS lxdC_an 200 32 lxdC [a] := by kernel_rfl
theorem lxdC_ok : ConOK Tryd.prog gl 32 lxdC := con_of mo (noS_ok _) (an := lxdC_an) 200 fun ds hl hp => by
  obtain ⟨a, rfl⟩ := len1 hl
  rw [← lxdC_vc]
  rfl
def lxhC : Con := ⟨[.d true (.i .u8)], fun ds => [], [.d .b], fun ds => (fun (a : D) => [.b (hxC a.int)]) (nthD ds 0), fun ds => []⟩
def lxhC_an : Anns := fun _ _ => none
theorem lxhC_vc (a : D) : ((dgC a.int || decide (97 ≤ a.int) && decide (a.int ≤ 102)) = hxC a.int) = conGoal Tryd.prog (addS 32 lxdC noS) lxhC_an 200 50 lxhC [a] := by kernel_rfl
theorem lxhC_ok : ConOK Tryd.prog gl 50 lxhC := con_of mo (addS_ok lxdC_ok (noS_ok _)) (an := lxhC_an) 200 fun ds hl hp => by
  obtain ⟨a, rfl⟩ := len1 hl
  rw [← lxhC_vc]
  rfl
def lxbC : Con := ⟨[.d true (.i .u8)], fun ds => [], [.d .b], fun ds => (fun (a : D) => [.b (bgC a.int)]) (nthD ds 0), fun ds => []⟩
def lxbC_an : Anns := fun _ _ => none
theorem lxbC_vc (a : D) : ((decide (97 ≤ a.int) && decide (a.int ≤ 122) || decide (65 ≤ a.int) && decide (a.int ≤ 90) || decide (a.int = 95)) = bgC a.int) = conGoal Tryd.prog noS lxbC_an 200 31 lxbC [a] := by kernel_rfl
theorem lxbC_ok : ConOK Tryd.prog gl 31 lxbC := con_of mo (noS_ok _) (an := lxbC_an) 200 fun ds hl hp => by
  obtain ⟨a, rfl⟩ := len1 hl
  rw [← lxbC_vc]
  rfl
def lxpC : Con := ⟨[.d true (.i .u8)], fun ds => [], [.d .b], fun ds => (fun (a : D) => [.b (ptC a.int)]) (nthD ds 0), fun ds => []⟩
def lxpC_an : Anns := fun _ _ => none
theorem lxpC_vc (a : D) : ((bgC a.int || dgC a.int || decide (a.int = 46)) = ptC a.int) = conGoal Tryd.prog (addS 32 lxdC (addS 31 lxbC noS)) lxpC_an 200 35 lxpC [a] := by kernel_rfl
theorem lxpC_ok : ConOK Tryd.prog gl 35 lxpC := con_of mo (addS_ok lxdC_ok (addS_ok lxbC_ok (noS_ok _))) (an := lxpC_an) 200 fun ds hl hp => by
  obtain ⟨a, rfl⟩ := len1 hl
  rw [← lxpC_vc]
  rfl
def lxkC : Con := ⟨[.box 51 [.s, (.i .i64)], .d true (.i .i64)], fun ds => (fun (a : D) (b : D) => [0 ≤ (D.int (D.fld a 1)), (D.int (D.fld a 1)) ≤ ((D.str (D.fld a 0))).size, ((D.str (D.fld a 0))).size ≤ 1099511627776, 0 ≤ b.int, b.int ≤ 1]) (nthD ds 0) (nthD ds 1), [.d (.i .u8)], fun ds => (fun (a : D) (b : D) => [.i ((rst a).getD b.int.toNat 0)]) (nthD ds 0) (nthD ds 1), fun ds => (fun (a : D) (b : D) => [.t [.s ((D.str (D.fld a 0))), .i ((D.int (D.fld a 1)))]]) (nthD ds 0) (nthD ds 1)⟩
def lxkC_an : Anns := fun _ _ => none
theorem lxkC_vc (a b : D) : (I64 ((a.fld 1).int + b.int) ∧ bif decide ((↑(a.fld 0).str.size : Int) ≤ (a.fld 1).int + b.int) then (a.fld 0).str = (a.fld 0).str ∧ (a.fld 1).int = (a.fld 1).int ∧ EqI 0 ((rst a).getD b.int.toNat 0) else I64 ((a.fld 1).int + b.int) ∧ Idx ((a.fld 1).int + b.int) (a.fld 0).str.size ∧ (a.fld 0).str = (a.fld 0).str ∧ (a.fld 1).int = (a.fld 1).int ∧ byteAt' (a.fld 0).str ((a.fld 1).int + b.int).toNat = (rst a).getD b.int.toNat 0) = conGoal Tryd.prog noS lxkC_an 200 30 lxkC [a, b] := by kernel_rfl
theorem lxkC_ok : ConOK Tryd.prog gl 30 lxkC := con_of mo (noS_ok _) (an := lxkC_an) 200 fun ds hl hp => by
  obtain ⟨a, b, rfl⟩ := len2 hl
  rw [← lxkC_vc]
  have p0 : 0 ≤ (D.int (D.fld a 1)) := hp _ (.head _)
  have p1 : (D.int (D.fld a 1)) ≤ ((D.str (D.fld a 0))).size := hp _ (.tail _ (.head _))
  have p2 : ((D.str (D.fld a 0))).size ≤ 1099511627776 := hp _ (.tail _ (.tail _ (.head _)))
  have p3 : 0 ≤ b.int := hp _ (.tail _ (.tail _ (.tail _ (.head _))))
  have p4 : b.int ≤ 1 := hp _ (.tail _ (.tail _ (.tail _ (.tail _ (.head _)))))
  obtain ⟨p, hp⟩ := Int.eq_ofNat_of_zero_le p0
  obtain ⟨k, hk⟩ := Int.eq_ofNat_of_zero_le p3
  rw [hp] at p1
  rw [hk] at p4
  have hL : rst a = (bys ((D.str (D.fld a 0)))).drop p := by rw [rst, hp, Int.toNat_natCast]
  rw [hL, hp, hk, Int.toNat_natCast]
  have t : ((p : Int) + (k : Int)).toNat = p + k := by omega
  rw [t]
  refine ⟨⟨by omega, by omega⟩, cond_of (fun c => ⟨rfl, rfl, ?_⟩) (fun c => ?_)⟩
  · have c := of_decide_eq_true c
    have hl : ((bys ((D.str (D.fld a 0)))).drop p).length ≤ k := by rw [List.length_drop, bys_length]; omega
    rw [List.getD_eq_getElem?_getD, List.getElem?_eq_none hl]; rfl
  · have c := of_decide_eq_false c
    exact ⟨⟨by omega, by omega⟩, ⟨by omega, by omega⟩, rfl, rfl, (getD_drop (by omega)).symm⟩
def lxaC : Con := ⟨[.box 51 [.s, (.i .i64)]], fun ds => (fun (a : D) => [0 ≤ (D.int (D.fld a 1)), (D.int (D.fld a 1)) ≤ ((D.str (D.fld a 0))).size, ((D.str (D.fld a 0))).size ≤ 1099511627776]) (nthD ds 0), [.d .b], fun ds => (fun (a : D) => [.b (aloL (rst a))]) (nthD ds 0), fun ds => (fun (a : D) => [.t [.s ((D.str (D.fld a 0))), .i ((D.int (D.fld a 1)))]]) (nthD ds 0)⟩
def lxaC_an : Anns := fun _ _ => none
theorem lxaC_vc (a : D) : ((decide ((↑(a.fld 0).str.size : Int) ≤ (a.fld 1).int) = false → Idx (a.fld 1).int (a.fld 0).str.size) ∧ (a.fld 0).str = (a.fld 0).str ∧ (a.fld 1).int = (a.fld 1).int ∧ (decide ((↑(a.fld 0).str.size : Int) ≤ (a.fld 1).int) || !ptC (byteAt' (a.fld 0).str (a.fld 1).int.toNat)) = aloL (rst a)) = conGoal Tryd.prog (addS 35 lxpC noS) lxaC_an 200 51 lxaC [a] := by kernel_rfl
theorem lxaC_ok : ConOK Tryd.prog gl 51 lxaC := con_of mo (addS_ok lxpC_ok (noS_ok _)) (an := lxaC_an) 200 fun ds hl hp => by
  obtain ⟨a, rfl⟩ := len1 hl
  rw [← lxaC_vc]
  have p0 : 0 ≤ (D.int (D.fld a 1)) := hp _ (.head _)
  have p1 : (D.int (D.fld a 1)) ≤ ((D.str (D.fld a 0))).size := hp _ (.tail _ (.head _))
  have p2 : ((D.str (D.fld a 0))).size ≤ 1099511627776 := hp _ (.tail _ (.tail _ (.head _)))
  obtain ⟨p, hp⟩ := Int.eq_ofNat_of_zero_le p0
  rw [hp] at p1
  have hL : rst a = (bys ((D.str (D.fld a 0)))).drop p := by rw [rst, hp, Int.toNat_natCast]
  rw [hL, hp, Int.toNat_natCast]
  refine ⟨fun c => ⟨by omega, by have := of_decide_eq_false c; omega⟩, rfl, rfl, ?_⟩
  by_cases c : p < ((D.str (D.fld a 0))).size
  · rw [bys_drop c, decide_eq_false (by omega)]; rfl
  · rw [bys_end (by omega), decide_eq_true (by omega)]; rfl
def lxsC : Con := ⟨[.box 51 [.s, (.i .i64)]], fun ds => (fun (a : D) => [0 ≤ (D.int (D.fld a 1)), (D.int (D.fld a 1)) ≤ ((D.str (D.fld a 0))).size, ((D.str (D.fld a 0))).size ≤ 1099511627776]) (nthD ds 0), [], fun ds => [], fun ds => (fun (a : D) => [.t [.s ((D.str (D.fld a 0))), .i ((D.int (D.fld a 1)) + skL (rst a) false)]]) (nthD ds 0)⟩
def lxsC_an : Anns := fun f i => match f, i with
  | 21, 1000006 => some fun A st => match A.get 20 with
    | some (.v (.int _ c)) => ⟨Bool, fun b => [(21, .v (.bool b))], fun _ => [], fun b => b = (decide (c = 32) || decide (c = 9) || decide (c = 10) || decide (c = 13)), fun _ => 0⟩
    | _ => LAnn.bad
  | 21, 0 => some fun A st => match st.h.get 0 with
    | some (.c t [.v (.string s), .v (.int _ p)]) => ⟨Nat, fun _ => [], fun g => [(0, .c t [.v (.string s), .v (.int .i64 g)])], fun g => g ≤ s.size ∧ p.toNat + skL ((bys s).drop p.toNat) false = g + skL ((bys s).drop g) false, fun g => s.size - g⟩
    | _ => LAnn.bad
  | 21, 8 => some fun A st => match st.h.get 0 with
    | some (.c t [.v (.string s), .v (.int _ p)]) => ⟨Nat, fun _ => [], fun g => [(0, .c t [.v (.string s), .v (.int .i64 g)])], fun g => g ≤ s.size ∧ p.toNat ≤ g ∧ p.toNat + skL ((bys s).drop p.toNat) true = g + skL ((bys s).drop g) true, fun g => s.size - g⟩
    | _ => LAnn.bad
  | _, _ => none
theorem lxsC_vc (a : D) : (∃ (g : Nat), (a.fld 0).str = (a.fld 0).str ∧ (a.fld 1).int = (↑g : Int) ∧ (g ≤ (a.fld 0).str.size ∧ (a.fld 1).int.toNat + skL (List.drop (a.fld 1).int.toNat (bys (a.fld 0).str)) false = g + skL (List.drop g (bys (a.fld 0).str)) false) ∧ ∀ (g : Nat), g ≤ (a.fld 0).str.size ∧ (a.fld 1).int.toNat + skL (List.drop (a.fld 1).int.toNat (bys (a.fld 0).str)) false = g + skL (List.drop g (bys (a.fld 0).str)) false → bif decide ((↑g : Int) < (↑(a.fld 0).str.size : Int)) then Idx (↑g : Int) (a.fld 0).str.size ∧ (bif decide (byteAt' (a.fld 0).str g = 32) then ∃ (g_1 : Bool), decide (byteAt' (a.fld 0).str g = 32) = g_1 ∧ g_1 = (decide (byteAt' (a.fld 0).str g = 32) || decide (byteAt' (a.fld 0).str g = 9) || decide (byteAt' (a.fld 0).str g = 10) || decide (byteAt' (a.fld 0).str g = 13)) else bif decide (byteAt' (a.fld 0).str g = 9) then ∃ (g_1 : Bool), decide (byteAt' (a.fld 0).str g = 9) = g_1 ∧ g_1 = (decide (byteAt' (a.fld 0).str g = 32) || decide (byteAt' (a.fld 0).str g = 9) || decide (byteAt' (a.fld 0).str g = 10) || decide (byteAt' (a.fld 0).str g = 13)) else bif decide (byteAt' (a.fld 0).str g = 10) then ∃ (g_1 : Bool), decide (byteAt' (a.fld 0).str g = 10) = g_1 ∧ g_1 = (decide (byteAt' (a.fld 0).str g = 32) || decide (byteAt' (a.fld 0).str g = 9) || decide (byteAt' (a.fld 0).str g = 10) || decide (byteAt' (a.fld 0).str g = 13)) else ∃ (g_1 : Bool), decide (byteAt' (a.fld 0).str g = 13) = g_1 ∧ g_1 = (decide (byteAt' (a.fld 0).str g = 32) || decide (byteAt' (a.fld 0).str g = 9) || decide (byteAt' (a.fld 0).str g = 10) || decide (byteAt' (a.fld 0).str g = 13))) ∧ ∀ (g_1 : Bool), g_1 = (decide (byteAt' (a.fld 0).str g = 32) || decide (byteAt' (a.fld 0).str g = 9) || decide (byteAt' (a.fld 0).str g = 10) || decide (byteAt' (a.fld 0).str g = 13)) → bif g_1 then I64 ((↑g : Int) + 1) ∧ ∃ (g_2 : Nat), (a.fld 0).str = (a.fld 0).str ∧ (↑g : Int) + 1 = (↑g_2 : Int) ∧ (g_2 ≤ (a.fld 0).str.size ∧ (a.fld 1).int.toNat + skL (List.drop (a.fld 1).int.toNat (bys (a.fld 0).str)) false = g_2 + skL (List.drop g_2 (bys (a.fld 0).str)) false) ∧ (a.fld 0).str.size - g_2 < (a.fld 0).str.size - g else bif decide (byteAt' (a.fld 0).str g = 35) then ∃ (g_2 : Nat), (a.fld 0).str = (a.fld 0).str ∧ (↑g : Int) = (↑g_2 : Int) ∧ (g_2 ≤ (a.fld 0).str.size ∧ g ≤ g_2 ∧ g + skL (List.drop g (bys (a.fld 0).str)) true = g_2 + skL (List.drop g_2 (bys (a.fld 0).str)) true) ∧ ∀ (g_3 : Nat), g_3 ≤ (a.fld 0).str.size ∧ g ≤ g_3 ∧ g + skL (List.drop g (bys (a.fld 0).str)) true = g_3 + skL (List.drop g_3 (bys (a.fld 0).str)) true → (decide ((↑g_3 : Int) < (↑(a.fld 0).str.size : Int)) = true → Idx (↑g_3 : Int) (a.fld 0).str.size) ∧ bif decide ((↑g_3 : Int) < (↑(a.fld 0).str.size : Int)) && !decide (byteAt' (a.fld 0).str g_3 = 10) then I64 ((↑g_3 : Int) + 1) ∧ ∃ (g_4 : Nat), (a.fld 0).str = (a.fld 0).str ∧ (↑g_3 : Int) + 1 = (↑g_4 : Int) ∧ (g_4 ≤ (a.fld 0).str.size ∧ g ≤ g_4 ∧ g + skL (List.drop g (bys (a.fld 0).str)) true = g_4 + skL (List.drop g_4 (bys (a.fld 0).str)) true) ∧ (a.fld 0).str.size - g_4 < (a.fld 0).str.size - g_3 else ∃ (g_4 : Nat), (a.fld 0).str = (a.fld 0).str ∧ (↑g_3 : Int) = (↑g_4 : Int) ∧ (g_4 ≤ (a.fld 0).str.size ∧ (a.fld 1).int.toNat + skL (List.drop (a.fld 1).int.toNat (bys (a.fld 0).str)) false = g_4 + skL (List.drop g_4 (bys (a.fld 0).str)) false) ∧ (a.fld 0).str.size - g_4 < (a.fld 0).str.size - g else (a.fld 0).str = (a.fld 0).str ∧ (↑g : Int) = (a.fld 1).int + (↑(skL (rst a) false) : Int) else (a.fld 0).str = (a.fld 0).str ∧ (↑g : Int) = (a.fld 1).int + (↑(skL (rst a) false) : Int)) = conGoal Tryd.prog noS lxsC_an 200 21 lxsC [a] := by kernel_rfl
set_option maxHeartbeats 1000000 in
theorem lxsC_ok : ConOK Tryd.prog gl 21 lxsC := con_of mo (noS_ok _) (an := lxsC_an) 200 fun ds hl hp => by
  obtain ⟨a, rfl⟩ := len1 hl
  rw [← lxsC_vc]
  have p0 : 0 ≤ (D.int (D.fld a 1)) := hp _ (.head _)
  have p1 : (D.int (D.fld a 1)) ≤ ((D.str (D.fld a 0))).size := hp _ (.tail _ (.head _))
  have p2 : ((D.str (D.fld a 0))).size ≤ 1099511627776 := hp _ (.tail _ (.tail _ (.head _)))
  obtain ⟨p, hp⟩ := Int.eq_ofNat_of_zero_le p0
  rw [hp] at p1
  have hL : rst a = (bys ((D.str (D.fld a 0)))).drop p := by rw [rst, hp, Int.toNat_natCast]
  rw [hL, hp, Int.toNat_natCast]
  generalize (D.str (D.fld a 0)) = s at *
  have end_ : ∀ g : Nat, g ≤ s.size → skL ((bys s).drop g) false = 0 → p + skL ((bys s).drop p) false = g + skL ((bys s).drop g) false → s = s ∧ (g : Int) = (p : Int) + (skL ((bys s).drop p) false : Int) := fun g _ h0 h => ⟨rfl, by omega⟩
  refine ⟨p, rfl, rfl, ⟨by omega, rfl⟩, ?_⟩
  rintro g ⟨g1, g2⟩
  refine cond_of (fun c => ?_) (fun c => ?_)
  · have c := of_decide_eq_true c
    have hg : g < s.size := by omega
    have hd := bys_drop hg
    refine ⟨⟨by omega, by omega⟩, ?_⟩
    refine ⟨cond_of (fun e => ⟨_, rfl, by rw [e]; rfl⟩) (fun e => cond_of (fun f => ⟨_, rfl, by rw [e, f]; rfl⟩) (fun f => cond_of (fun h => ⟨_, rfl, by rw [e, f, h]; rfl⟩) (fun h => ⟨_, rfl, by rw [e, f, h]; rfl⟩))), ?_⟩
    rintro b hb
    refine cond_of (fun d => ?_) (fun d => ?_)
    · have d' : byteAt' s g = 32 ∨ byteAt' s g = 9 ∨ byteAt' s g = 10 ∨ byteAt' s g = 13 := by
        rw [hb] at d
        simp only [Bool.or_eq_true, decide_eq_true_eq] at d
        omega
      have e : skL ((bys s).drop g) false = skL ((bys s).drop (g + 1)) false + 1 := by rw [hd, skL, if_pos d']
      exact ⟨⟨by omega, by omega⟩, g + 1, rfl, by omega, ⟨by omega, by omega⟩, by omega⟩
    have d' : ¬ (byteAt' s g = 32 ∨ byteAt' s g = 9 ∨ byteAt' s g = 10 ∨ byteAt' s g = 13) := by
      rw [hb] at d
      simp only [Bool.or_eq_false_iff, decide_eq_false_iff_not] at d
      omega
    refine cond_of (fun e => ?_) (fun e => ?_)
    · have e := of_decide_eq_true e
      have e1 : skL ((bys s).drop g) false = skL ((bys s).drop g) true := by
        rw [hd, skF, if_neg d', if_pos e, skT, if_neg (by omega)]
      refine ⟨g, rfl, rfl, ⟨by omega, Nat.le_refl _, rfl⟩, ?_⟩
      rintro k ⟨k1, k2, k3⟩
      refine ⟨fun h => ⟨by omega, by have := of_decide_eq_true h; omega⟩, cond_of (fun f => ?_) (fun f => ?_)⟩
      · simp only [Bool.and_eq_true, decide_eq_true_eq, Bool.not_eq_true', decide_eq_false_iff_not] at f
        have hk : k < s.size := by omega
        have e2 : skL ((bys s).drop k) true = skL ((bys s).drop (k + 1)) true + 1 := by rw [bys_drop hk, skL, if_neg f.2]
        exact ⟨⟨by omega, by omega⟩, k + 1, rfl, by omega, ⟨by omega, by omega, by omega⟩, by omega⟩
      · have e2 : skL ((bys s).drop k) true = skL ((bys s).drop k) false ∧ g < k := by
          by_cases hk : k < s.size
          · have h10 : byteAt' s k = 10 := by
              rw [decide_eq_true (show (k : Int) < (s.size : Int) by omega), Bool.true_and] at f
              simpa using f
            refine ⟨by rw [bys_drop hk, skT, if_pos h10, skF, if_pos (.inr (.inr (.inl h10)))], ?_⟩
            by_cases hgk : g = k
            · subst hgk; omega
            · omega
          · exact ⟨by rw [bys_end (by omega)]; rfl, by omega⟩
        exact ⟨k, rfl, rfl, ⟨by omega, by omega⟩, by omega⟩
    · have e := of_decide_eq_false e
      exact end_ g g1 (by rw [hd, skL, if_neg d', if_neg e]) g2
  · have c := of_decide_eq_false c
    exact end_ g g1 (by rw [bys_end (by omega)]; rfl) g2
def lxuC : Con := ⟨[.box 51 [.s, (.i .i64)]], fun ds => (fun (a : D) => [0 ≤ (D.int (D.fld a 1)), (D.int (D.fld a 1)) ≤ ((D.str (D.fld a 0))).size, ((D.str (D.fld a 0))).size ≤ 1099511627776, (D.int (D.fld a 1)) + 2 ≤ ((D.str (D.fld a 0))).size]) (nthD ds 0), [.d .b], fun ds => (fun (a : D) => [.b (uiO (rst a))]) (nthD ds 0), fun ds => (fun (a : D) => [.t [.s ((D.str (D.fld a 0))), .i ((D.int (D.fld a 1)) + uiK (rst a))]]) (nthD ds 0)⟩
def lxuC_an : Anns := fun f i => match f, i with
  | 34, 2 => some fun A st => match st.h.get 0 with
    | some (.c t [.v (.string s), .v (.int _ p)]) => ⟨Nat, fun g => [(7, .v (.int .i64 g))], fun g => [(0, .c t [.v (.string s), .v (.int .i64 (p + g))])], fun g => g ≤ 16 ∧ p.toNat + g ≤ s.size ∧ runL hxC ((bys s).drop p.toNat) = g + runL hxC ((bys s).drop (p.toNat + g)), fun g => s.size - (p.toNat + g)⟩
    | _ => LAnn.bad
  | _, _ => none
theorem lxuC_vc (a : D) : (I64 ((a.fld 1).int + 2) ∧ 0 ≤ (a.fld 1).int + 2 ∧ (a.fld 1).int + 2 ≤ (↑(a.fld 0).str.size : Int) ∧ (a.fld 0).str.size ≤ 1099511627776 ∧ LeI 0 0 ∧ LeI 0 1 ∧ bif decide ((rst (D.t [D.s (a.fld 0).str, D.i ((a.fld 1).int + 2)])).getD (Int.toNat 0) 0 = 48) || !hxC ((rst (D.t [D.s (a.fld 0).str, D.i ((a.fld 1).int + 2)])).getD (Int.toNat 0) 0) then (a.fld 0).str = (a.fld 0).str ∧ (a.fld 1).int + 2 = (a.fld 1).int + (↑(uiK (rst a)) : Int) ∧ false = uiO (rst a) else ∃ (g : Nat), EqI 0 (↑g : Int) ∧ (a.fld 0).str = (a.fld 0).str ∧ (a.fld 1).int + 2 = (a.fld 1).int + 2 + (↑g : Int) ∧ (g ≤ 16 ∧ ((a.fld 1).int + 2).toNat + g ≤ (a.fld 0).str.size ∧ runL hxC (List.drop ((a.fld 1).int + 2).toNat (bys (a.fld 0).str)) = g + runL hxC (List.drop (((a.fld 1).int + 2).toNat + g) (bys (a.fld 0).str))) ∧ ∀ (g : Nat), g ≤ 16 ∧ ((a.fld 1).int + 2).toNat + g ≤ (a.fld 0).str.size ∧ runL hxC (List.drop ((a.fld 1).int + 2).toNat (bys (a.fld 0).str)) = g + runL hxC (List.drop (((a.fld 1).int + 2).toNat + g) (bys (a.fld 0).str)) → (decide ((a.fld 1).int + 2 + (↑g : Int) < (↑(a.fld 0).str.size : Int)) = true → Idx ((a.fld 1).int + 2 + (↑g : Int)) (a.fld 0).str.size) ∧ bif decide ((a.fld 1).int + 2 + (↑g : Int) < (↑(a.fld 0).str.size : Int)) && hxC (byteAt' (a.fld 0).str ((a.fld 1).int + 2 + (↑g : Int)).toNat) then bif decide ((↑g : Int) = 16) then (!true) = false ∧ (a.fld 0).str = (a.fld 0).str ∧ (a.fld 1).int + 2 + (↑g : Int) = (a.fld 1).int + (↑(uiK (rst a)) : Int) ∧ false = uiO (rst a) else I64 ((a.fld 1).int + 2 + (↑g : Int) + 1) ∧ I64 ((↑g : Int) + 1) ∧ ∃ (g_1 : Nat), (↑g : Int) + 1 = (↑g_1 : Int) ∧ (a.fld 0).str = (a.fld 0).str ∧ (a.fld 1).int + 2 + (↑g : Int) + 1 = (a.fld 1).int + 2 + (↑g_1 : Int) ∧ (g_1 ≤ 16 ∧ ((a.fld 1).int + 2).toNat + g_1 ≤ (a.fld 0).str.size ∧ runL hxC (List.drop ((a.fld 1).int + 2).toNat (bys (a.fld 0).str)) = g_1 + runL hxC (List.drop (((a.fld 1).int + 2).toNat + g_1) (bys (a.fld 0).str))) ∧ (a.fld 0).str.size - (((a.fld 1).int + 2).toNat + g_1) < (a.fld 0).str.size - (((a.fld 1).int + 2).toNat + g) else 0 ≤ (a.fld 1).int + 2 + (↑g : Int) ∧ (a.fld 1).int + 2 + (↑g : Int) ≤ (↑(a.fld 0).str.size : Int) ∧ (a.fld 0).str.size ≤ 1099511627776 ∧ (a.fld 0).str = (a.fld 0).str ∧ (a.fld 1).int + 2 + (↑g : Int) = (a.fld 1).int + (↑(uiK (rst a)) : Int) ∧ (true && aloL (rst (D.t [D.s (a.fld 0).str, D.i ((a.fld 1).int + 2 + (↑g : Int))]))) = uiO (rst a)) = conGoal Tryd.prog (addS 51 lxaC (addS 50 lxhC (addS 30 lxkC noS))) lxuC_an 200 36 lxuC [a] := by kernel_rfl
set_option maxHeartbeats 1000000 in
theorem lxuC_ok : ConOK Tryd.prog gl 36 lxuC := con_of mo (addS_ok lxaC_ok (addS_ok lxhC_ok (addS_ok lxkC_ok (noS_ok _)))) (an := lxuC_an) 200 fun ds hl hp => by
  obtain ⟨a, rfl⟩ := len1 hl
  rw [← lxuC_vc]
  have p0 : 0 ≤ (D.int (D.fld a 1)) := hp _ (.head _)
  have p1 : (D.int (D.fld a 1)) ≤ ((D.str (D.fld a 0))).size := hp _ (.tail _ (.head _))
  have p2 : ((D.str (D.fld a 0))).size ≤ 1099511627776 := hp _ (.tail _ (.tail _ (.head _)))
  have p3 : (D.int (D.fld a 1)) + 2 ≤ ((D.str (D.fld a 0))).size := hp _ (.tail _ (.tail _ (.tail _ (.head _))))
  obtain ⟨p, hp⟩ := Int.eq_ofNat_of_zero_le p0
  rw [hp] at p1 p3
  have z0 : Int.toNat 0 = 0 := rfl
  have hR : ∀ n : Int, rst (.t [.s ((D.str (D.fld a 0))), .i n]) = (bys ((D.str (D.fld a 0)))).drop n.toNat := fun _ => rfl
  have hL : rst a = (bys ((D.str (D.fld a 0)))).drop p := by rw [rst, hp, Int.toNat_natCast]
  rw [hp, hR, hL, z0]
  have t2 : ((p : Int) + 2).toNat = p + 2 := by omega
  have tg : ∀ g : Nat, ((p : Int) + 2 + (g : Int)).toNat = p + 2 + g := fun g => by omega
  rw [t2]
  have hR' : ∀ n : Int, rst (.t [.s ((D.str (D.fld a 0))), .i n]) = (bys ((D.str (D.fld a 0)))).drop n.toNat := hR
  generalize (D.str (D.fld a 0)) = s at *
  have dd : ∀ k, (((bys s).drop p).drop (2 + k)) = (bys s).drop (p + 2 + k) := fun k => by rw [List.drop_drop]; congr 1; omega
  have d0 : ((bys s).drop p).drop 2 = (bys s).drop (p + 2) := by rw [List.drop_drop]
  have g2 : ((bys s).drop p).getD 2 0 = ((bys s).drop (p + 2)).getD 0 0 := by simp [List.getD_eq_getElem?_getD, List.getElem?_drop]
  rw [uiK, uiO, g2, d0]
  refine ⟨⟨by omega, by omega⟩, by omega, by omega, p2, by decide, by decide, cond_of (fun c => ?_) (fun c => ?_)⟩
  · have c : ((bys s).drop (p + 2)).getD 0 0 = 48 ∨ hxC (((bys s).drop (p + 2)).getD 0 0) = false := by simpa using c
    rw [if_pos c, if_pos c]; exact ⟨rfl, rfl, rfl⟩
  have c : ¬ (((bys s).drop (p + 2)).getD 0 0 = 48 ∨ hxC (((bys s).drop (p + 2)).getD 0 0) = false) := by
    rintro (h | h)
    · rw [h] at c; simp at c
    · rw [h] at c; simp at c
  rw [if_neg c, if_neg c]
  refine ⟨0, rfl, rfl, by omega, ⟨by omega, by omega, by simp⟩, ?_⟩
  rintro g ⟨g1, g2', g3⟩
  rw [tg g, hR', tg g]
  refine ⟨fun h => ⟨by omega, by have := of_decide_eq_true h; omega⟩, cond_of (fun d => ?_) (fun d => ?_)⟩
  · simp only [Bool.and_eq_true, decide_eq_true_eq] at d
    have hg : p + 2 + g < s.size := by omega
    have hr : runL hxC ((bys s).drop (p + 2 + g)) = runL hxC ((bys s).drop (p + 2 + g + 1)) + 1 := by rw [bys_drop hg, runL, if_pos d.2]
    refine cond_of (fun e => ?_) (fun e => ?_)
    · have e := of_decide_eq_true e
      refine ⟨rfl, rfl, ?_, ?_⟩
      · rw [Nat.min_eq_right (by omega)]; omega
      · rw [decide_eq_false (by omega)]; rfl
    · have e := of_decide_eq_false e
      exact ⟨⟨by omega, by omega⟩, ⟨by omega, by omega⟩, g + 1, rfl, rfl, by omega, ⟨by omega, by omega, by rw [show p + 2 + (g + 1) = p + 2 + g + 1 by omega]; omega⟩, by omega⟩
  · have hr : runL hxC ((bys s).drop (p + 2 + g)) = 0 := by
      by_cases hg : p + 2 + g < s.size
      · have h : hxC (byteAt' s (p + 2 + g)) = false := by
          rw [decide_eq_true (show (p : Int) + 2 + (g : Int) < (s.size : Int) by omega), Bool.true_and] at d
          exact d
        rw [bys_drop hg, runL, if_neg (by rw [h]; decide)]
      · rw [bys_end (by omega)]; rfl
    have g3 : runL hxC ((bys s).drop (p + 2)) = g := by omega
    rw [g3, Nat.min_eq_left g1, decide_eq_true g1, dd g]
    exact ⟨by omega, by omega, p2, rfl, by omega, rfl⟩
end Go.Proofs.YtlfafkeamppakaaDoor.XT
