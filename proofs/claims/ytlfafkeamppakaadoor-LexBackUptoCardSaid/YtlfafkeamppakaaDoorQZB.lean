/- Contracts, by the symbolic evaluator. -/
import Derived.Test.YtlfafkeamppakaaDoorQZA
import Derived.Test.YtlfafkeamppakaaDoorProg
set_option linter.unusedVariables false
set_option linter.unusedSimpArgs false
namespace Go.Proofs.YtlfafkeamppakaaDoor.XT
open Go Go.RowKit Go.Proofs.YtlfafkeamppakaaDoor.Sv
set_option maxRecDepth 100000
def cuTq (s : ByteArray) : List D × Nat × Int := cuT s
def lxcqC : Con := ⟨[.d true .s], fun ds => (fun (a : D) => []) (nthD ds 0), [.d (.l tokT), .d (.i .i64), .d (.i .i64)], fun ds => (fun (a : D) => [.l (cuTq a.str).1, .i ((cuTq a.str).2.1 : Int), .i (cuTq a.str).2.2]) (nthD ds 0), fun ds => []⟩
theorem lxcqC_ok : ConOK Tryd.prog gl 8 lxcqC := lxcC_ok
def lxBLC : Con := ⟨[.d true (.l tokT), .d true .s, .d true (.l (.i .u8))], fun ds => (fun (a : D) (b : D) (c : D) => [a.list.length ≤ 1048576, ∀ t ∈ a.list, (t.fld 1).str.size ≤ 1048576, b.str.size ≤ 1048576, c.list.length ≤ 1048576, ∀ t ∈ c.list, 0 ≤ t.int ∧ t.int < 256]) (nthD ds 0) (nthD ds 1) (nthD ds 2), [.d .b], fun ds => (fun (a : D) (b : D) (c : D) => [.b true]) (nthD ds 0) (nthD ds 1) (nthD ds 2), fun ds => []⟩
def lxBLC_an : Anns := fun f i => match f, i with
  | 6, 13 => some fun A st => match A.get 0, A.get 2 with
    | some (.dl _ _ l), some (.dl _ _ gs) => ⟨Nat, fun g => [(14, .v (.int .i64 g)), (13, .v (.string (sL (wdL l gs g))))], fun _ => [], fun g => g ≤ l.length, fun g => l.length - g⟩
    | _, _ => LAnn.bad
  | 6, 30 => some fun A st => match A.get 20 with
    | some (.dl _ _ cs) => ⟨Nat, fun g => [(24, .v (.int .i64 g)), (23, .v (.int .i64 (lastA cs g)))], fun _ => [], fun g => g ≤ cs.length, fun g => cs.length - g⟩
    | _ => LAnn.bad
  | _, _ => none
theorem lxBLC_vc (a b c : D) : (a.list.length ≤ 1048576 ∧ (∀ (t : D), t ∈ a.list → (t.fld 1).str.size ≤ 1048576) ∧ bif !smKo a.list || decide (3000 < (↑b.str.size : Int)) || decide (400 < (↑c.list.length : Int)) then true = true else a.list.length ≤ 1099511627776 ∧ (∀ (t : D), t ∈ a.list → (t.fld 1).str.size ≤ 1099511627776) ∧ (jnL (List.map foL a.list)).length ≤ 140737488355328 ∧ bif decide (joE a.list = 0) && decide ((↑(joS a.list).size : Int) < 20000) then ((!decide ((cuTq (joS a.list)).snd.snd = 0)) = false → (cuTq (joS a.list)).fst.length ≤ 1099511627776) ∧ bif !decide ((cuTq (joS a.list)).snd.snd = 0) || !allL smTk (cuTq (joS a.list)).fst a.list then false = true else ∃ (g : Nat), EqI 0 (↑g : Int) ∧ (ByteArray.mk #[]) = sL (wdL a.list c.list g) ∧ g ≤ a.list.length ∧ ∀ (g : Nat), g ≤ a.list.length → bif decide ((↑g : Int) < (↑a.list.length : Int)) then Idx (↑g : Int) a.list.length ∧ ((nthD a.list g).fld 1).str.size ≤ 1099511627776 ∧ (sL (wdL a.list c.list g)).size + (foS (nthD a.list g)).size ≤ 9223372036854775807 ∧ bif decide ((↑g : Int) < (↑c.list.length : Int)) then Idx (↑g : Int) c.list.length ∧ ¬EqI 5 0 ∧ Idx ((IntKind.i64.wrap (nthD c.list g).int).tmod 5) 5 ∧ (sL (wdL a.list c.list g) ++ foS (nthD a.list g)).size + (nthD [D.s (ByteArray.mk #[32]), D.s (ByteArray.mk #[32, 32]), D.s (ByteArray.mk #[9, 13, 10]), D.s (ByteArray.mk #[35, 32, 120, 32, 123, 10]), D.s (ByteArray.mk #[32, 35, 32, 34, 10, 10])] ((IntKind.i64.wrap (nthD c.list g).int).tmod 5).toNat).str.size ≤ 9223372036854775807 ∧ I64 ((↑g : Int) + 1) ∧ ∃ (g_1 : Nat), (↑g : Int) + 1 = (↑g_1 : Int) ∧ sL (wdL a.list c.list g) ++ foS (nthD a.list g) ++ (nthD [D.s (ByteArray.mk #[32]), D.s (ByteArray.mk #[32, 32]), D.s (ByteArray.mk #[9, 13, 10]), D.s (ByteArray.mk #[35, 32, 120, 32, 123, 10]), D.s (ByteArray.mk #[32, 35, 32, 34, 10, 10])] ((IntKind.i64.wrap (nthD c.list g).int).tmod 5).toNat).str = sL (wdL a.list c.list g_1) ∧ g_1 ≤ a.list.length ∧ a.list.length - g_1 < a.list.length - g else (sL (wdL a.list c.list g) ++ foS (nthD a.list g)).size + (ByteArray.mk #[32]).size ≤ 9223372036854775807 ∧ I64 ((↑g : Int) + 1) ∧ ∃ (g_1 : Nat), (↑g : Int) + 1 = (↑g_1 : Int) ∧ sL (wdL a.list c.list g) ++ foS (nthD a.list g) ++ ByteArray.mk #[32] = sL (wdL a.list c.list g_1) ∧ g_1 ≤ a.list.length ∧ a.list.length - g_1 < a.list.length - g else bif decide (65536 < (↑(sL (wdL a.list c.list g)).size : Int)) then true = true else ((!decide ((cuTq (sL (wdL a.list c.list g))).snd.snd = 0)) = false → (cuTq (sL (wdL a.list c.list g))).fst.length ≤ 1099511627776) ∧ bif !decide ((cuTq (sL (wdL a.list c.list g))).snd.snd = 0) || !allL smTk (cuTq (sL (wdL a.list c.list g))).fst a.list then false = true else bif !decide ((cuTq b.str).snd.snd = 0) then true = true else ∃ (g : Nat), EqI 0 (↑g : Int) ∧ EqI (-1) (lastA (cuTq b.str).fst g) ∧ g ≤ (cuTq b.str).fst.length ∧ ∀ (g : Nat), g ≤ (cuTq b.str).fst.length → bif decide ((↑g : Int) < (↑(cuTq b.str).fst.length : Int)) then Idx (↑g : Int) (cuTq b.str).fst.length ∧ bif decide (((nthD (cuTq b.str).fst g).fld 3).int ≤ lastA (cuTq b.str).fst g) then false = true else Idx (↑g : Int) (cuTq b.str).fst.length ∧ Idx (↑g : Int) (cuTq b.str).fst.length ∧ 0 ≤ ((nthD (cuTq b.str).fst g).fld 3).int ∧ ((nthD (cuTq b.str).fst g).fld 3).int ≤ (↑b.str.size : Int) ∧ ((!decide ((cuTq (b.str.extract ((nthD (cuTq b.str).fst g).fld 3).int.toNat b.str.size)).snd.snd = 0)) = false → I64 ((↑(cuTq b.str).fst.length : Int) - (↑g : Int))) ∧ ((!decide ((cuTq (b.str.extract ((nthD (cuTq b.str).fst g).fld 3).int.toNat b.str.size)).snd.snd = 0) || !decide ((↑(cuTq (b.str.extract ((nthD (cuTq b.str).fst g).fld 3).int.toNat b.str.size)).fst.length : Int) = (↑(cuTq b.str).fst.length : Int) - (↑g : Int))) = false → 0 ≤ (↑g : Int) ∧ (↑g : Int) ≤ (↑(cuTq b.str).fst.length : Int) ∧ (cuTq (b.str.extract ((nthD (cuTq b.str).fst g).fld 3).int.toNat b.str.size)).fst.length ≤ 1099511627776) ∧ ((!decide ((cuTq (b.str.extract ((nthD (cuTq b.str).fst g).fld 3).int.toNat b.str.size)).snd.snd = 0) || !decide ((↑(cuTq (b.str.extract ((nthD (cuTq b.str).fst g).fld 3).int.toNat b.str.size)).fst.length : Int) = (↑(cuTq b.str).fst.length : Int) - (↑g : Int)) || !allL smTk (cuTq (b.str.extract ((nthD (cuTq b.str).fst g).fld 3).int.toNat b.str.size)).fst (List.drop g (cuTq b.str).fst)) = false → Idx 0 (cuTq (b.str.extract ((nthD (cuTq b.str).fst g).fld 3).int.toNat b.str.size)).fst.length) ∧ bif !decide ((cuTq (b.str.extract ((nthD (cuTq b.str).fst g).fld 3).int.toNat b.str.size)).snd.snd = 0) || !decide ((↑(cuTq (b.str.extract ((nthD (cuTq b.str).fst g).fld 3).int.toNat b.str.size)).fst.length : Int) = (↑(cuTq b.str).fst.length : Int) - (↑g : Int)) || !allL smTk (cuTq (b.str.extract ((nthD (cuTq b.str).fst g).fld 3).int.toNat b.str.size)).fst (List.drop g (cuTq b.str).fst) || !decide (((nthD (cuTq (b.str.extract ((nthD (cuTq b.str).fst g).fld 3).int.toNat b.str.size)).fst (Int.toNat 0)).fld 3).int = 0) then false = true else bif decide (40 < (↑(cuTq b.str).fst.length : Int)) && decide (10 < (↑g : Int)) then true = true else I64 ((↑g : Int) + 1) ∧ ∃ (g_1 : Nat), (↑g : Int) + 1 = (↑g_1 : Int) ∧ ((nthD (cuTq b.str).fst g).fld 3).int = lastA (cuTq b.str).fst g_1 ∧ g_1 ≤ (cuTq b.str).fst.length ∧ (cuTq b.str).fst.length - g_1 < (cuTq b.str).fst.length - g else true = true else bif !decide ((cuTq b.str).snd.snd = 0) then true = true else ∃ (g : Nat), EqI 0 (↑g : Int) ∧ EqI (-1) (lastA (cuTq b.str).fst g) ∧ g ≤ (cuTq b.str).fst.length ∧ ∀ (g : Nat), g ≤ (cuTq b.str).fst.length → bif decide ((↑g : Int) < (↑(cuTq b.str).fst.length : Int)) then Idx (↑g : Int) (cuTq b.str).fst.length ∧ bif decide (((nthD (cuTq b.str).fst g).fld 3).int ≤ lastA (cuTq b.str).fst g) then false = true else Idx (↑g : Int) (cuTq b.str).fst.length ∧ Idx (↑g : Int) (cuTq b.str).fst.length ∧ 0 ≤ ((nthD (cuTq b.str).fst g).fld 3).int ∧ ((nthD (cuTq b.str).fst g).fld 3).int ≤ (↑b.str.size : Int) ∧ ((!decide ((cuTq (b.str.extract ((nthD (cuTq b.str).fst g).fld 3).int.toNat b.str.size)).snd.snd = 0)) = false → I64 ((↑(cuTq b.str).fst.length : Int) - (↑g : Int))) ∧ ((!decide ((cuTq (b.str.extract ((nthD (cuTq b.str).fst g).fld 3).int.toNat b.str.size)).snd.snd = 0) || !decide ((↑(cuTq (b.str.extract ((nthD (cuTq b.str).fst g).fld 3).int.toNat b.str.size)).fst.length : Int) = (↑(cuTq b.str).fst.length : Int) - (↑g : Int))) = false → 0 ≤ (↑g : Int) ∧ (↑g : Int) ≤ (↑(cuTq b.str).fst.length : Int) ∧ (cuTq (b.str.extract ((nthD (cuTq b.str).fst g).fld 3).int.toNat b.str.size)).fst.length ≤ 1099511627776) ∧ ((!decide ((cuTq (b.str.extract ((nthD (cuTq b.str).fst g).fld 3).int.toNat b.str.size)).snd.snd = 0) || !decide ((↑(cuTq (b.str.extract ((nthD (cuTq b.str).fst g).fld 3).int.toNat b.str.size)).fst.length : Int) = (↑(cuTq b.str).fst.length : Int) - (↑g : Int)) || !allL smTk (cuTq (b.str.extract ((nthD (cuTq b.str).fst g).fld 3).int.toNat b.str.size)).fst (List.drop g (cuTq b.str).fst)) = false → Idx 0 (cuTq (b.str.extract ((nthD (cuTq b.str).fst g).fld 3).int.toNat b.str.size)).fst.length) ∧ bif !decide ((cuTq (b.str.extract ((nthD (cuTq b.str).fst g).fld 3).int.toNat b.str.size)).snd.snd = 0) || !decide ((↑(cuTq (b.str.extract ((nthD (cuTq b.str).fst g).fld 3).int.toNat b.str.size)).fst.length : Int) = (↑(cuTq b.str).fst.length : Int) - (↑g : Int)) || !allL smTk (cuTq (b.str.extract ((nthD (cuTq b.str).fst g).fld 3).int.toNat b.str.size)).fst (List.drop g (cuTq b.str).fst) || !decide (((nthD (cuTq (b.str.extract ((nthD (cuTq b.str).fst g).fld 3).int.toNat b.str.size)).fst (Int.toNat 0)).fld 3).int = 0) then false = true else bif decide (40 < (↑(cuTq b.str).fst.length : Int)) && decide (10 < (↑g : Int)) then true = true else I64 ((↑g : Int) + 1) ∧ ∃ (g_1 : Nat), (↑g : Int) + 1 = (↑g_1 : Int) ∧ ((nthD (cuTq b.str).fst g).fld 3).int = lastA (cuTq b.str).fst g_1 ∧ g_1 ≤ (cuTq b.str).fst.length ∧ (cuTq b.str).fst.length - g_1 < (cuTq b.str).fst.length - g else true = true) = conGoal Tryd.prog (addS 14 lxfC (addS 20 rfSaC (addS 8 lxcqC (addS 16 lxJC (addS 13 lxsmC (addS 7 lvC noS)))))) lxBLC_an 200 6 lxBLC [a, b, c] := by kernel_rfl
set_option maxHeartbeats 4000000 in
theorem lxBLC_ok : ConOK Tryd.prog gl 6 lxBLC := con_of mo (addS_ok lxfC_ok (addS_ok rfSaC_ok (addS_ok lxcqC_ok (addS_ok lxJC_ok (addS_ok lxsmC_ok (addS_ok lvC_ok (noS_ok _))))))) (an := lxBLC_an) 200 fun ds hl hp => by
  obtain ⟨a, b, c, rfl⟩ := len3 hl
  rw [← lxBLC_vc]
  have p0 : a.list.length ≤ 1048576 := hp _ (.head _)
  have p1 : ∀ t ∈ a.list, (t.fld 1).str.size ≤ 1048576 := hp _ (.tail _ (.head _))
  have p2 : b.str.size ≤ 1048576 := hp _ (.tail _ (.tail _ (.head _)))
  have p3 : c.list.length ≤ 1048576 := hp _ (.tail _ (.tail _ (.tail _ (.head _))))
  have p4 : ∀ t ∈ c.list, 0 ≤ t.int ∧ t.int < 256 := hp _ (.tail _ (.tail _ (.tail _ (.tail _ (.head _)))))
  have cT : ∀ s, cuTq s = cuT s := fun _ => rfl
  have e2 : smKo a.list = smK a.list := rfl
  rw [e2]
  simp only [cT]
  refine ⟨p0, p1, cond_of (fun _ => trivial) (fun e => ?_)⟩
  simp only [Bool.or_eq_false_iff, Bool.not_eq_false', decide_eq_false_iff_not] at e
  obtain ⟨⟨e1, e3⟩, e4⟩ := e
  obtain ⟨s1, s2⟩ := smK_of e1
  have hj := jnL_len a.list
  have h40 : ∀ t ∈ a.list, (t.fld 1).str.size ≤ 1099511627776 := fun t ht => by have := p1 t ht; omega
  refine ⟨by omega, h40, by omega, cond_of (fun f => ?_) (fun f => ?_)⟩
  · simp only [Bool.and_eq_true, decide_eq_true_eq] at f
    obtain ⟨f1, f2⟩ := f
    have hall := jo_all f1
    obtain ⟨_, j2⟩ := jo_good hall
    have hjs : (joS a.list).size = (jnL (a.list.map foL)).length := by rw [j2, sL_size]
    obtain ⟨b1, b2⟩ := back_join hall s1 (by omega)
    rw [← j2] at b1 b2
    have bl := all_len _ b2
    rw [b1, b2]
    refine ⟨fun _ => by omega, cond_of (fun h => by cases h) (fun _ => ?_)⟩
    refine ⟨0, rfl, rfl, Nat.zero_le _, ?_⟩
    rintro g hg
    have hw := wd_len a.list c.list g hg
    have hst := smN_take a.list g
    refine cond_of (fun d => ?_) (fun d => ?_)
    · have hgl : g < a.list.length := by have := of_decide_eq_true d; omega
      have hfo := hall _ (nth_mem hgl)
      have hS : foS (nthD a.list g) = sL (foL (nthD a.list g)) := by rw [foS, if_pos hfo]
      have hw2 := wd_len a.list c.list (g + 1) (by omega)
      have hst2 := smN_take a.list (g + 1)
      have hfl := foL_len (nthD a.list g)
      have hsz := smN_mem (nth_mem hgl)
      rw [hS]
      refine ⟨⟨by omega, by omega⟩, h40 _ (nth_mem hgl), by rw [sL_size, sL_size]; omega, cond_of (fun k => ?_) (fun k => ?_)⟩
      · have hgc : g < c.list.length := by have := of_decide_eq_true k; omega
        obtain ⟨u0, u1⟩ := p4 _ (nth_mem hgc)
        have hwr : IntKind.i64.wrap (nthD c.list g).int = (nthD c.list g).int := W.wrap_i64 (by omega) (by omega)
        have hm : ((nthD c.list g).int.tmod 5) = (nthD c.list g).int % 5 := Int.tmod_eq_emod_of_nonneg u0
        have hG : gapC c.list g = gapK ((nthD c.list g).int % 5).toNat := if_pos hgc
        rw [hwr, hm, gap_get _ (by omega), ← hG]
        have hgl6 := gapC_len c.list g
        refine ⟨⟨by omega, by omega⟩, by decide, ⟨by omega, by omega⟩, by rw [ByteArray.size_append, sL_size, sL_size, sL_size]; omega, ⟨by omega, by omega⟩, g + 1, by omega, ?_, by omega, by omega⟩
        rw [wd_succ, sL_append, sL_append, List.append_assoc]
      · have hgc : ¬ g < c.list.length := by have := of_decide_eq_false k; omega
        have hG : gapC c.list g = [32] := if_neg hgc
        have z32 : (ByteArray.mk #[32]).size = 1 := rfl
        refine ⟨by rw [ByteArray.size_append, sL_size, sL_size, z32]; omega, ⟨by omega, by omega⟩, g + 1, by omega, ?_, by omega, by omega⟩
        rw [wd_succ, hG]
        show sL _ ++ sL _ ++ sL [32] = _
        rw [sL_append, sL_append, List.append_assoc]
    · have hge : g = a.list.length := by have := of_decide_eq_false d; omega
      refine cond_of (fun _ => trivial) (fun k => ?_)
      have k := of_decide_eq_false k
      rw [sL_size] at k
      obtain ⟨w1, w2⟩ := back_wide (gs := c.list) hall s1 (by rw [← hge]; omega)
      rw [← hge] at w1 w2
      have wl := all_len _ w2
      rw [w1, w2]
      refine ⟨fun _ => by omega, cond_of (fun h => by cases h) (fun _ => ?_)⟩
      refine cond_of (fun _ => trivial) (fun hz => ?_)
      have hz : (cuT b.str).2.2 = 0 := by simpa using hz
      have hcl := cut_small hz
      refine ⟨0, rfl, rfl, Nat.zero_le _, ?_⟩
      rintro i hi
      refine cond_of (fun d => ?_) (fun _ => trivial)
      have hil : i < (cuT b.str).1.length := by have := of_decide_eq_true d; omega
      obtain ⟨p, q1, q2, q3, q4, q5, q6, q7⟩ := back_at hz hil
      rw [q1, Int.toNat_natCast]
      have z0 : Int.toNat 0 = 0 := rfl
      rw [z0, q4, q5, q6, q7]
      refine ⟨⟨by omega, by omega⟩, cond_of (fun h => ?_) (fun _ => ?_)⟩
      · have := of_decide_eq_true h; omega
      refine ⟨⟨by omega, by omega⟩, ⟨by omega, by omega⟩, by omega, by omega, fun _ => ⟨by omega, by omega⟩, fun _ => ⟨by omega, by omega, by omega⟩, fun _ => ⟨by omega, by omega⟩, cond_of (fun h => ?_) (fun _ => ?_)⟩
      · exfalso
        rw [decide_eq_true (show (((cuT b.str).1.length - i : Nat) : Int) = ((cuT b.str).1.length : Int) - (i : Int) by omega)] at h
        simp at h
      · refine cond_of (fun _ => trivial) (fun _ => ⟨⟨by omega, by omega⟩, i + 1, by omega, ?_, by omega, by omega⟩)
        show (p : Int) = lastA (cuT b.str).1 (i + 1)
        unfold lastA
        rw [if_neg (by omega), Nat.add_sub_cancel, q1]
  · skip
    refine cond_of (fun _ => trivial) (fun hz => ?_)
    have hz : (cuT b.str).2.2 = 0 := by simpa using hz
    have hcl := cut_small hz
    refine ⟨0, rfl, rfl, Nat.zero_le _, ?_⟩
    rintro i hi
    refine cond_of (fun d => ?_) (fun _ => trivial)
    have hil : i < (cuT b.str).1.length := by have := of_decide_eq_true d; omega
    obtain ⟨p, q1, q2, q3, q4, q5, q6, q7⟩ := back_at hz hil
    rw [q1, Int.toNat_natCast]
    have z0 : Int.toNat 0 = 0 := rfl
    rw [z0, q4, q5, q6, q7]
    refine ⟨⟨by omega, by omega⟩, cond_of (fun h => ?_) (fun _ => ?_)⟩
    · have := of_decide_eq_true h; omega
    refine ⟨⟨by omega, by omega⟩, ⟨by omega, by omega⟩, by omega, by omega, fun _ => ⟨by omega, by omega⟩, fun _ => ⟨by omega, by omega, by omega⟩, fun _ => ⟨by omega, by omega⟩, cond_of (fun h => ?_) (fun _ => ?_)⟩
    · exfalso
      rw [decide_eq_true (show (((cuT b.str).1.length - i : Nat) : Int) = ((cuT b.str).1.length : Int) - (i : Int) by omega)] at h
      simp at h
    · refine cond_of (fun _ => trivial) (fun _ => ⟨⟨by omega, by omega⟩, i + 1, by omega, ?_, by omega, by omega⟩)
      show (p : Int) = lastA (cuT b.str).1 (i + 1)
      unfold lastA
      rw [if_neg (by omega), Nat.add_sub_cancel, q1]
end Go.Proofs.YtlfafkeamppakaaDoor.XT
