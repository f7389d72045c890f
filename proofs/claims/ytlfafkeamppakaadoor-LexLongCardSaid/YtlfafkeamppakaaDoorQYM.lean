/- Contracts, by the symbolic evaluator. -/
import Derived.Test.YtlfafkeamppakaaDoorQYW
import Derived.Test.YtlfafkeamppakaaDoorProg
set_option linter.unusedVariables false
set_option linter.unusedSimpArgs false
namespace Go.Proofs.YtlfafkeamppakaaDoor.XT
open Go Go.RowKit Go.Proofs.YtlfafkeamppakaaDoor.Sv
set_option maxRecDepth 100000
def cuTp (s : ByteArray) : List D × Nat × Int := cuT s
def lxcpC : Con := ⟨[.d true .s], fun ds => (fun (a : D) => []) (nthD ds 0), [.d (.l tokT), .d (.i .i64), .d (.i .i64)], fun ds => (fun (a : D) => [.l (cuTp a.str).1, .i ((cuTp a.str).2.1 : Int), .i (cuTp a.str).2.2]) (nthD ds 0), fun ds => []⟩
theorem lxcpC_ok : ConOK Tryd.prog gl 8 lxcpC := lxcC_ok
def rep0 (n : Nat) : List D := List.replicate n (D.i 0)
def parL (n : Nat) : List Int := (List.range n).map parF
def repI (n : Nat) (c : Int) : List Int := List.replicate n c
def lxLLC : Con := ⟨[], fun ds => [], [.d .b], fun ds => [.b true], fun ds => []⟩
def lxLLC_an : Anns := fun f i => match f, i with
  | 3, 5 => some fun A st => match A.get 1 with
    | some (.ow l _) => ⟨Nat, fun g => [(2, .v (.int .i64 g))], fun g => [(l, .q 5 (.i .u8) (dI (parL g) ++ rep0 (16384 - g)))], fun g => g ≤ 16384, fun g => 16384 - g⟩
    | _ => LAnn.bad
  | 3, 12 => some fun A st => match A.get 3 with
    | some (.ow l _) => ⟨Nat, fun g => [(4, .v (.int .i64 g))], fun g => [(l, .q 5 (.i .u8) (dI (repI g 32) ++ rep0 (65537 - g)))], fun g => g ≤ 65537, fun g => 65537 - g⟩
    | _ => LAnn.bad
  | 3, 17 => some fun A st => match A.get 5 with
    | some (.ow l _) => ⟨Nat, fun g => [(6, .v (.int .i64 g))], fun g => [(l, .q 5 (.i .u8) (dI (repI g 97) ++ rep0 (4097 - g)))], fun g => g ≤ 4097, fun g => 4097 - g⟩
    | _ => LAnn.bad
  | _, _ => none
theorem lxLLC_vc : (LeI 0 16384 ∧ EqI 16384 16384 ∧ LeI (16384 * (↑1 : Int)) 16777216 ∧ LeI (16384 * (↑1 : Int)) 281474976710656 ∧ LeI 16384 9223372036854775807 ∧ ∃ (g : Nat), EqI 0 (↑g : Int) ∧ List.replicate (Int.toNat 16384) (D.i 0) = dI (parL g) ++ rep0 (16384 - g) ∧ g ≤ 16384 ∧ ∀ (g : Nat), g ≤ 16384 → bif decide ((↑g : Int) < (↑(Int.toNat 16384) : Int)) then Idx (↑g : Int) (Int.toNat 16384) ∧ ¬EqI 2 0 ∧ bif decide ((↑g : Int).tmod 2 = 1) then Idx (↑g : Int) (Int.toNat 16384) ∧ I64 ((↑g : Int) + 1) ∧ ∃ (g_1 : Nat), (↑g : Int) + 1 = (↑g_1 : Int) ∧ setD (setD (dI (parL g) ++ rep0 (16384 - g)) g (D.i 40)) g (D.i 32) = dI (parL g_1) ++ rep0 (16384 - g_1) ∧ g_1 ≤ 16384 ∧ 16384 - g_1 < 16384 - g else I64 ((↑g : Int) + 1) ∧ ∃ (g_1 : Nat), (↑g : Int) + 1 = (↑g_1 : Int) ∧ setD (dI (parL g) ++ rep0 (16384 - g)) g (D.i 40) = dI (parL g_1) ++ rep0 (16384 - g_1) ∧ g_1 ≤ 16384 ∧ 16384 - g_1 < 16384 - g else LeI 0 65537 ∧ EqI 65537 65537 ∧ LeI (65537 * (↑1 : Int)) 16777216 ∧ LeI (65537 * (↑1 : Int)) 281474976710656 ∧ LeI 65537 9223372036854775807 ∧ ∃ (g_1 : Nat), EqI 0 (↑g_1 : Int) ∧ List.replicate (Int.toNat 65537) (D.i 0) = dI (repI g_1 32) ++ rep0 (65537 - g_1) ∧ g_1 ≤ 65537 ∧ ∀ (g_2 : Nat), g_2 ≤ 65537 → bif decide ((↑g_2 : Int) < (↑(Int.toNat 65537) : Int)) then Idx (↑g_2 : Int) (Int.toNat 65537) ∧ I64 ((↑g_2 : Int) + 1) ∧ ∃ (g : Nat), (↑g_2 : Int) + 1 = (↑g : Int) ∧ setD (dI (repI g_2 32) ++ rep0 (65537 - g_2)) g_2 (D.i 32) = dI (repI g 32) ++ rep0 (65537 - g) ∧ g ≤ 65537 ∧ 65537 - g < 65537 - g_2 else LeI 0 4097 ∧ EqI 4097 4097 ∧ LeI (4097 * (↑1 : Int)) 16777216 ∧ LeI (4097 * (↑1 : Int)) 281474976710656 ∧ LeI 4097 9223372036854775807 ∧ ∃ (g_3 : Nat), EqI 0 (↑g_3 : Int) ∧ List.replicate (Int.toNat 4097) (D.i 0) = dI (repI g_3 97) ++ rep0 (4097 - g_3) ∧ g_3 ≤ 4097 ∧ ∀ (g_4 : Nat), g_4 ≤ 4097 → bif decide ((↑g_4 : Int) < (↑(Int.toNat 4097) : Int)) then Idx (↑g_4 : Int) (Int.toNat 4097) ∧ I64 ((↑g_4 : Int) + 1) ∧ ∃ (g : Nat), (↑g_4 : Int) + 1 = (↑g : Int) ∧ setD (dI (repI g_4 97) ++ rep0 (4097 - g_4)) g_4 (D.i 97) = dI (repI g 97) ++ rep0 (4097 - g) ∧ g ≤ 4097 ∧ 4097 - g < 4097 - g_4 else (strOfD (List.take (Int.toNat 16384) (dI (parL g) ++ rep0 (16384 - g)))).size + (ByteArray.mk #[32, 48, 120]).size ≤ 9223372036854775807 ∧ LeI 0 65536 ∧ LeI 65536 (↑(Int.toNat 65537) : Int) ∧ LeI 0 4096 ∧ LeI 4096 (↑(Int.toNat 4097) : Int) ∧ (ByteArray.mk #[34]).size + (strOfD (List.take (Int.toNat 4096) (dI (repI g_4 97) ++ rep0 (4097 - g_4)))).size ≤ 9223372036854775807 ∧ (ByteArray.mk #[34] ++ strOfD (List.take (Int.toNat 4096) (dI (repI g_4 97) ++ rep0 (4097 - g_4)))).size + (ByteArray.mk #[34]).size ≤ 9223372036854775807 ∧ (ByteArray.mk #[34]).size + (strOfD (List.take (Int.toNat 4097) (dI (repI g_4 97) ++ rep0 (4097 - g_4)))).size ≤ 9223372036854775807 ∧ (ByteArray.mk #[34] ++ strOfD (List.take (Int.toNat 4097) (dI (repI g_4 97) ++ rep0 (4097 - g_4)))).size + (ByteArray.mk #[34]).size ≤ 9223372036854775807 ∧ LeI 0 64 ∧ LeI 64 (↑(Int.toNat 4097) : Int) ∧ LeI 0 65 ∧ LeI 65 (↑(Int.toNat 4097) : Int) ∧ (decide ((↑(cuTp (strOfD (List.take (Int.toNat 16384) (dI (parL g) ++ rep0 (16384 - g))))).fst.length : Int) = 8192) && decide ((↑(cuTp (strOfD (List.take (Int.toNat 16384) (dI (parL g) ++ rep0 (16384 - g))))).snd.fst : Int) = 16384) && decide ((cuTp (strOfD (List.take (Int.toNat 16384) (dI (parL g) ++ rep0 (16384 - g))))).snd.snd = 0) && decide ((↑(cuTp (strOfD (List.take (Int.toNat 16384) (dI (parL g) ++ rep0 (16384 - g))) ++ ByteArray.mk #[32, 48, 120])).snd.fst : Int) = 16385) && decide ((cuTp (strOfD (List.take (Int.toNat 16384) (dI (parL g) ++ rep0 (16384 - g))) ++ ByteArray.mk #[32, 48, 120])).snd.snd = 4) && decide ((cuTp (strOfD (List.take (Int.toNat 65536) (dI (repI g_2 32) ++ rep0 (65537 - g_2))))).snd.snd = 0) && decide ((↑(cuTp (strOfD (List.take (Int.toNat 65537) (dI (repI g_2 32) ++ rep0 (65537 - g_2))))).snd.fst : Int) = 65536) && decide ((cuTp (strOfD (List.take (Int.toNat 65537) (dI (repI g_2 32) ++ rep0 (65537 - g_2))))).snd.snd = 4) && decide ((cuTp (ByteArray.mk #[34] ++ strOfD (List.take (Int.toNat 4096) (dI (repI g_4 97) ++ rep0 (4097 - g_4))) ++ ByteArray.mk #[34])).snd.snd = 0) && decide ((↑(cuTp (ByteArray.mk #[34] ++ strOfD (List.take (Int.toNat 4097) (dI (repI g_4 97) ++ rep0 (4097 - g_4))) ++ ByteArray.mk #[34])).snd.fst : Int) = 4097) && decide ((cuTp (ByteArray.mk #[34] ++ strOfD (List.take (Int.toNat 4097) (dI (repI g_4 97) ++ rep0 (4097 - g_4))) ++ ByteArray.mk #[34])).snd.snd = 250) && decide ((cuTp (strOfD (List.take (Int.toNat 64) (dI (repI g_4 97) ++ rep0 (4097 - g_4))))).snd.snd = 0) && decide ((↑(cuTp (strOfD (List.take (Int.toNat 65) (dI (repI g_4 97) ++ rep0 (4097 - g_4))))).snd.fst : Int) = 64) && decide ((cuTp (strOfD (List.take (Int.toNat 65) (dI (repI g_4 97) ++ rep0 (4097 - g_4))))).snd.snd = 250)) = true) = conGoal Tryd.prog (addS 8 lxcpC (addS 7 lvC noS)) lxLLC_an 200 3 lxLLC [] := by kernel_rfl
set_option maxHeartbeats 4000000 in
set_option maxRecDepth 4000000 in
theorem lxLLC_ok : ConOK Tryd.prog gl 3 lxLLC := con_of mo (addS_ok lxcpC_ok (addS_ok lvC_ok (noS_ok _))) (an := lxLLC_an) 200 fun ds hl hp => by
  obtain rfl := len0 hl
  rw [← lxLLC_vc]
  have cT : ∀ s, cuTp s = cuT s := fun _ => rfl
  have n1 : Int.toNat 16384 = 16384 := by omega
  have n2 : Int.toNat 65537 = 65537 := by omega
  have n3 : Int.toNat 4097 = 4097 := by omega
  have n4 : Int.toNat 65536 = 65536 := by omega
  have n5 : Int.toNat 4096 = 4096 := by omega
  have n6 : Int.toNat 64 = 64 := by omega
  have n7 : Int.toNat 65 = 65 := by omega
  rw [n1, n2, n3, n4, n5, n6, n7]
  have pl : ∀ g, (parL g).length = g := fun g => by simp [parL]
  have rl : ∀ g c, (repI g c).length = g := fun g c => by simp [repI]
  have ps : ∀ g, parL (g + 1) = parL g ++ [parF g] := fun g => par_succ g
  have rs : ∀ g c, repI (g + 1) c = repI g c ++ [c] := fun g c => List.replicate_succ'
  have i0 : ∀ n c, List.replicate n (D.i 0) = dI (repI 0 c) ++ rep0 (n - 0) := fun n c => by simp [repI, rep0, dI]
  have i1 : ∀ n, List.replicate n (D.i 0) = dI (parL 0) ++ rep0 (n - 0) := fun n => by simp [parL, rep0, dI]
  have k1 : ∀ N g, g < N → ∀ c, setD (dI (repI g c) ++ rep0 (N - g)) g (D.i c) = dI (repI (g + 1) c) ++ rep0 (N - (g + 1)) := fun N g h c => by rw [rs]; exact set_row h _ (rl g c) c
  have k2 : ∀ N g, g < N → ∀ b, parF g = b → setD (dI (parL g) ++ rep0 (N - g)) g (D.i b) = dI (parL (g + 1)) ++ rep0 (N - (g + 1)) := fun N g h b e => by rw [ps, e]; exact set_row h _ (pl g) b
  have k3 : ∀ N g, g < N → ∀ b c, parF g = c → setD (setD (dI (parL g) ++ rep0 (N - g)) g (D.i b)) g (D.i c) = dI (parL (g + 1)) ++ rep0 (N - (g + 1)) := fun N g h b c e => by rw [ps, e]; exact set_two h _ (pl g) b c
  obtain ⟨N1, hN1⟩ : ∃ N : Nat, N = 16384 := ⟨_, rfl⟩
  obtain ⟨N2, hN2⟩ : ∃ N : Nat, N = 65537 := ⟨_, rfl⟩
  obtain ⟨N3, hN3⟩ : ∃ N : Nat, N = 4097 := ⟨_, rfl⟩
  rw [← hN1, ← hN2, ← hN3]
  refine ⟨by decide, by decide, by decide, by decide, by decide, 0, rfl, i1 _, Nat.zero_le _, ?_⟩
  rintro g hg
  refine cond_of (fun c => ?_) (fun c => ?_)
  · have c := of_decide_eq_true c
    refine ⟨⟨by omega, by omega⟩, by decide, cond_of (fun d => ?_) (fun d => ?_)⟩
    · have d := of_decide_eq_true d
      rw [Int.tmod_eq_emod_of_nonneg (by omega)] at d
      exact ⟨⟨by omega, by omega⟩, ⟨by omega, by omega⟩, g + 1, by omega, k3 _ g (by omega) 40 32 (by unfold parF; rw [if_pos (by omega)]), by omega, by omega⟩
    · have d := of_decide_eq_false d
      rw [Int.tmod_eq_emod_of_nonneg (by omega)] at d
      exact ⟨⟨by omega, by omega⟩, g + 1, by omega, k2 _ g (by omega) 40 (by unfold parF; rw [if_neg (by omega)]), by omega, by omega⟩
  have c1 := of_decide_eq_false c
  refine ⟨by decide, by decide, by decide, by decide, by decide, 0, rfl, i0 _ 32, Nat.zero_le _, ?_⟩
  rintro g2 hg2
  refine cond_of (fun c => ?_) (fun c => ?_)
  · have c := of_decide_eq_true c
    exact ⟨⟨by omega, by omega⟩, ⟨by omega, by omega⟩, g2 + 1, by omega, k1 _ g2 (by omega) 32, by omega, by omega⟩
  have c2 := of_decide_eq_false c
  refine ⟨by decide, by decide, by decide, by decide, by decide, 0, rfl, i0 _ 97, Nat.zero_le _, ?_⟩
  rintro g3 hg3
  refine cond_of (fun c => ?_) (fun c => ?_)
  · have c := of_decide_eq_true c
    exact ⟨⟨by omega, by omega⟩, ⟨by omega, by omega⟩, g3 + 1, by omega, k1 _ g3 (by omega) 97, by omega, by omega⟩
  have c3 := of_decide_eq_false c
  subst hN1 hN2 hN3
  have h1 : g = 2 * 8192 := by omega
  have h2 : g2 = 65537 := by omega
  have h3 : g3 = 4097 := by omega
  obtain ⟨m, hm⟩ : ∃ m : Nat, m = 8192 := ⟨_, rfl⟩
  have eP : parL g = pP m := by rw [h1, ← hm]; exact par_pP m
  have E1 : strOfD (List.take 16384 (dI (parL g) ++ rep0 (16384 - g))) = sL (pP m) := by
    have := row_text (parL g) (pl g) 16384 (by omega) (16384 - g)
    have e : (parL g).take 16384 = pP m := by rw [List.take_of_length_le (by rw [pl]; omega), eP]
    rw [e] at this; exact this
  have E2 : ∀ n, n ≤ 65537 → strOfD (List.take n (dI (repI g2 32) ++ rep0 (65537 - g2))) = sL (List.replicate n 32) := fun n hn => by
    have := row_text (repI g2 32) (rl g2 32) n (by omega) (65537 - g2)
    have e : (repI g2 32).take n = List.replicate n 32 := by
      show List.take n (List.replicate g2 32) = _
      rw [List.take_replicate, Nat.min_eq_left (by omega)]
    rw [e] at this; exact this
  have E3 : ∀ n, n ≤ 4097 → strOfD (List.take n (dI (repI g3 97) ++ rep0 (4097 - g3))) = sL (List.replicate n 97) := fun n hn => by
    have := row_text (repI g3 97) (rl g3 97) n (by omega) (4097 - g3)
    have e : (repI g3 97).take n = List.replicate n 97 := by
      show List.take n (List.replicate g3 97) = _
      rw [List.take_replicate, Nat.min_eq_left (by omega)]
    rw [e] at this; exact this
  have Q : ∀ n, ByteArray.mk #[34] ++ sL (List.replicate n 97) ++ ByteArray.mk #[34] = sL (34 :: (List.replicate n 97 ++ [34])) := fun n => by
    show sL [34] ++ sL _ ++ sL [34] = _
    rw [sL_append, sL_append]; rfl
  have M : sL (pP m) ++ ByteArray.mk #[32, 48, 120] = sL (pP m ++ [32, 48, 120]) := by
    show sL _ ++ sL [32, 48, 120] = _
    rw [sL_append]
  have z34 : (ByteArray.mk #[34]).size = 1 := rfl
  have z3 : (ByteArray.mk #[32, 48, 120]).size = 3 := rfl
  rw [E1, E2 65536 (by omega), E2 65537 (by omega), E3 4096 (by omega), E3 4097 (by omega), E3 64 (by omega), E3 65 (by omega)]
  obtain ⟨T, t1, t2⟩ := cut_many hm
  have C2 := cut_more hm
  have C3 := cut_blank (n := 65536) (Nat.le_refl _)
  have C4 : cuT (sL (List.replicate 65537 32)) = ([], 65536, 4) := cut_far (by rw [sL_size, List.length_replicate]; omega)
  have C5 := cut_text (n := 4096) rfl
  have C6 := cut_text2 (n := 4096) rfl
  have C7 := cut_name (n := 63) rfl
  have C8 := cut_name2 (n := 64) rfl
  have l2 : (sL (pP m)).size = 16384 := by rw [sL_size, pP_len]; omega
  have l3 : ∀ n, (sL (List.replicate n 97)).size = n := fun n => by rw [sL_size, List.length_replicate]
  refine ⟨by rw [l2, z3]; omega, by decide, by decide, by decide, by decide, by rw [l3, z34]; omega, by rw [ByteArray.size_append, l3, z34]; omega, by rw [l3, z34]; omega, by rw [ByteArray.size_append, l3, z34]; omega, by decide, by decide, by decide, by decide, ?_⟩
  rw [Q, Q, M]
  simp only [cT]
  rw [t2, C2, C3, C4, C5, C6, C7, C8, t1]
  rfl
end Go.Proofs.YtlfafkeamppakaaDoor.XT
