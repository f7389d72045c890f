/- Long texts are cut: plain laws. -/
import Derived.Test.YtlfafkeamppakaaDoorQYV
set_option linter.unusedVariables false
set_option linter.unusedSimpArgs false
namespace Go.Proofs.YtlfafkeamppakaaDoor.XT
open Go Go.RowKit Go.Proofs.YtlfafkeamppakaaDoor.Sv
theorem set_at : ∀ (l : List D) (y v : D) (r : List D), setD (l ++ y :: r) l.length v = l ++ v :: r
  | [], _, _, _ => rfl
  | d :: l, y, v, r => by
    show d :: setD (l ++ y :: r) l.length v = _
    rw [set_at l y v r]; rfl
theorem dI_len (l : List Int) : (dI l).length = l.length := by simp [dI]
theorem dI_snoc (l : List Int) (c : Int) : dI (l ++ [c]) = dI l ++ [D.i c] := by simp [dI]
theorem set_row {N g : Nat} (h : g < N) (l : List Int) (hl : l.length = g) (c : Int) : setD (dI l ++ List.replicate (N - g) (D.i 0)) g (D.i c) = dI (l ++ [c]) ++ List.replicate (N - (g + 1)) (D.i 0) := by
  have e : List.replicate (N - g) (D.i 0) = D.i 0 :: List.replicate (N - (g + 1)) (D.i 0) := by
    rw [← List.replicate_succ]; congr 1; omega
  have := set_at (dI l) (D.i 0) (D.i c) (List.replicate (N - (g + 1)) (D.i 0))
  rw [dI_len, hl] at this
  rw [e, this, dI_snoc]; simp
theorem set_two {N g : Nat} (h : g < N) (l : List Int) (hl : l.length = g) (b c : Int) : setD (setD (dI l ++ List.replicate (N - g) (D.i 0)) g (D.i b)) g (D.i c) = dI (l ++ [c]) ++ List.replicate (N - (g + 1)) (D.i 0) := by
  rw [set_row h l hl b, dI_snoc, List.append_assoc, List.singleton_append]
  have := set_at (dI l) (D.i b) (D.i c) (List.replicate (N - (g + 1)) (D.i 0))
  rw [dI_len, hl] at this
  rw [this, dI_snoc, List.append_assoc, List.singleton_append]
def parF (i : Nat) : Int := if i % 2 = 1 then 32 else 40
theorem par_succ (g : Nat) : (List.range (g + 1)).map parF = (List.range g).map parF ++ [parF g] := by rw [List.range_succ, List.map_append]; rfl
def pP : Nat → List Int
  | 0 => []
  | j + 1 => 40 :: 32 :: pP j
theorem pP_snoc : ∀ j, pP j ++ [40, 32] = pP (j + 1)
  | 0 => rfl
  | j + 1 => by
    show 40 :: 32 :: (pP j ++ [40, 32]) = _
    rw [pP_snoc j]; rfl
theorem par_pP : ∀ j, (List.range (2 * j)).map parF = pP j
  | 0 => rfl
  | j + 1 => by
    rw [show 2 * (j + 1) = 2 * j + 1 + 1 by omega, par_succ, par_succ, par_pP j, List.append_assoc]
    have e1 : parF (2 * j) = 40 := by unfold parF; rw [if_neg (by omega)]
    have e2 : parF (2 * j + 1) = 32 := by unfold parF; rw [if_pos (by omega)]
    rw [e1, e2]; exact pP_snoc j
theorem pP_len : ∀ j, (pP j).length = 2 * j
  | 0 => rfl
  | j + 1 => by show (pP j).length + 1 + 1 = _; rw [pP_len j]; omega
theorem pP_in : ∀ j, ∀ c ∈ pP j, 0 ≤ c ∧ c < 256
  | 0, c, h => by cases h
  | j + 1, c, h => by
    simp only [pP, List.mem_cons] at h
    rcases h with rfl | rfl | h
    · omega
    · omega
    · exact pP_in j c h
theorem kd40 (r : List Int) : kdL (40 :: r) = 5 := by
  unfold kdL
  have e : (40 :: r).getD 0 0 = (40 : Int) := rfl
  rw [e]; simp [bgC, dgC, sgC]
theorem cut_pairs : ∀ (j f k : Nat) (acc : List D) (R : List Int), acc.length + j ≤ 8192 → ∃ T, T.length = j ∧ cuG (f + 1 + j) (pP j ++ R) k acc = cuG (f + 1) R (k + 2 * j) (acc ++ T)
  | 0, f, k, acc, R, _ => ⟨[], rfl, by simp [pP]⟩
  | j + 1, f, k, acc, R, h => by
    have hk := kd40 (32 :: (pP j ++ R))
    obtain ⟨k1, k2, k3, k4⟩ := on5 hk
    have hL : pP (j + 1) ++ R = 40 :: 32 :: (pP j ++ R) := rfl
    rw [hL, show f + 1 + (j + 1) = (f + 1 + j) + 1 by omega, cuG_at (sk_tok (by rw [hk]; decide)), if_neg (by simp), if_neg (fun h' => by omega), if_neg (by rw [k4]; decide), k1]
    have hp := cuG_pass (L := 32 :: (pP j ++ R)) (j := 1) (f + j) (k + 1) (acc ++ [onT (40 :: 32 :: (pP j ++ R)) k]) (by rw [skF, if_pos (.inl rfl)]; simp; omega)
    rw [show f + j + 1 = f + 1 + j by omega] at hp
    obtain ⟨T, t1, t2⟩ := cut_pairs j f (k + 2) (acc ++ [onT (40 :: 32 :: (pP j ++ R)) k]) R (by simp; omega)
    refine ⟨onT (40 :: 32 :: (pP j ++ R)) k :: T, by simp [t1], ?_⟩
    show cuG (f + 1 + j) (32 :: (pP j ++ R)) (k + 1) _ = _
    rw [hp]
    show cuG (f + 1 + j) (pP j ++ R) (k + 1 + 1) _ = _
    rw [show k + 1 + 1 = k + 2 by omega, t2, List.append_assoc, show k + 2 + 2 * j = k + 2 * (j + 1) by omega]; rfl
theorem cuT_of {L : List Int} (h : ∀ c ∈ L, 0 ≤ c ∧ c < 256) (hl : L.length ≤ 65536) : cuT (sL L) = cuG (L.length + 1) L 0 [] := by
  unfold cuT
  rw [sL_size, if_neg (by omega), bys_sL h]
theorem cut_many {n : Nat} (hn : n = 8192) : ∃ T, T.length = 8192 ∧ cuT (sL (pP n)) = (T, 16384, 0) := by
  subst hn
  rw [cuT_of (pP_in _) (by rw [pP_len]; omega), pP_len]
  obtain ⟨T, t1, t2⟩ := cut_pairs 8192 8192 0 [] [] (by simp)
  refine ⟨T, t1, ?_⟩
  rw [List.append_nil] at t2
  rw [show 2 * 8192 + 1 = 8192 + 1 + 8192 by omega, t2, cuG_at (by rfl), if_pos rfl]; simp
theorem cut_more {n : Nat} (hn : n = 8192) : cuT (sL (pP n ++ [32, 48, 120])) = ([], 16385, 4) := by
  subst hn
  rw [cuT_of (fun c hc => by
    rcases List.mem_append.1 hc with hc | hc
    · exact pP_in _ c hc
    · simp only [List.mem_cons, List.not_mem_nil, or_false] at hc; rcases hc with rfl | rfl | rfl <;> omega) (by rw [List.length_append, pP_len]; simp), List.length_append, pP_len]
  obtain ⟨T, t1, t2⟩ := cut_pairs 8192 8195 0 [] [32, 48, 120] (by simp)
  have hl : 2 * 8192 + [(32 : Int), 48, 120].length + 1 = 8195 + 1 + 8192 := by simp
  have hs : skL [32, 48, 120] false = 1 + skL ([32, 48, 120].drop 1) false := by decide
  rw [hl, t2, cuG_pass (j := 1) 8195 _ _ hs]
  show cuG (8195 + 1) [48, 120] _ _ = _
  rw [cuG_at (by decide), if_neg (by simp), if_pos ⟨by simp [t1], by decide⟩]
theorem sk_blank : ∀ n, skL (List.replicate n 32) false = n
  | 0 => rfl
  | n + 1 => by rw [List.replicate_succ, skF, if_pos (.inl rfl), sk_blank n]
theorem cut_blank {n : Nat} (hn : n ≤ 65536) : (cuT (sL (List.replicate n 32))).2.2 = 0 := by
  rw [cuT_of (fun c hc => by have := List.eq_of_mem_replicate hc; omega) (by simpa using hn), cuG_skip, sk_blank, cuG_at (by simp [skL]), if_pos (by simp)]
theorem cut_far {s : ByteArray} (h : 65536 < s.size) : cuT s = ([], 65536, 4) := by unfold cuT; rw [if_pos h]
theorem qt_a : ∀ n, qtL (List.replicate n 97) = List.replicate n 97
  | 0 => rfl
  | n + 1 => by
    rw [List.replicate_succ]
    show escC 97 ++ qtL (List.replicate n 97) = _
    rw [qt_a n]; rfl
theorem tx_a (X : List Int) : ∀ (j m : Nat), m + j ≤ 4096 → (txG (List.replicate j 97 ++ X) m).2 = ((txG X (m + j)).2.1 + j, (txG X (m + j)).2.2)
  | 0, m, _ => rfl
  | j + 1, m, h => by
    rw [List.replicate_succ]
    show (txG (97 :: (List.replicate j 97 ++ X)) m).2 = _
    have ih := tx_a X j (m + 1) (by omega)
    rw [txPl (by decide) (by rintro (h' | h' | h'); exact absurd h' (by decide); exact absurd h' (by decide); omega) (by decide)]
    simp only [ih]
    rw [show m + 1 + j = m + (j + 1) by omega]; rfl
theorem a_in (n : Nat) : ∀ c ∈ (List.replicate n 97 : List Int), 0 ≤ c ∧ c < 256 := fun c hc => by have := List.eq_of_mem_replicate hc; omega
theorem q_in (n : Nat) : ∀ c ∈ (34 :: (List.replicate n 97 ++ [34]) : List Int), 0 ≤ c ∧ c < 256 := fun c hc => by
  simp only [List.mem_cons, List.mem_append, List.not_mem_nil, or_false] at hc
  rcases hc with rfl | hc | rfl
  · omega
  · exact a_in n c hc
  · omega
theorem cut_text {n : Nat} (hn : n = 4096) : (cuT (sL (34 :: (List.replicate n 97 ++ [34])))).2.2 = 0 := by
  rw [cuT_of (q_in n) (by simp; omega)]
  have hk := kd34 (List.replicate n 97 ++ [34])
  obtain ⟨k1, k2, k3, k4⟩ := on4 hk
  have ht := tx_a [34] n 0 (by omega)
  have hd : (34 :: (List.replicate n 97 ++ [34]) : List Int).drop 1 = List.replicate n 97 ++ [34] := rfl
  have h34 : (txG [34] (0 + n)).2 = (1, true) := by rw [tx34 rfl]
  have hO : onO (34 :: (List.replicate n 97 ++ [34])) = true := by rw [k4, txO, hd, ht, h34]
  have hK : onK (34 :: (List.replicate n 97 ++ [34])) = n + 2 := by rw [k1, txK, hd, ht, h34]; simp; omega
  rw [cuG_at (sk_tok (by rw [hk]; decide)), if_neg (by simp), if_neg (fun h => by simp at h), if_neg (by rw [hO]; decide), hK]
  have hdr : (34 :: (List.replicate n 97 ++ [34]) : List Int).drop (n + 2) = [] := List.drop_of_length_le (by simp)
  rw [hdr, List.length_cons, List.length_append, cuG_at (by rfl), if_pos rfl]
theorem cut_text2 {n : Nat} (hn : n = 4096) : cuT (sL (34 :: (List.replicate (n + 1) 97 ++ [34]))) = ([], 4097, 250) := by
  rw [cuT_of (q_in (n + 1)) (by simp; omega)]
  have hL : (34 :: (List.replicate (n + 1) 97 ++ [34]) : List Int) = 34 :: (List.replicate n 97 ++ [97, 34]) := by rw [List.replicate_succ']; simp
  rw [hL]
  have hk := kd34 (List.replicate n 97 ++ [97, 34])
  obtain ⟨k1, k2, k3, k4⟩ := on4 hk
  have ht := tx_a [97, 34] n 0 (by omega)
  have hd : (34 :: (List.replicate n 97 ++ [97, 34]) : List Int).drop 1 = List.replicate n 97 ++ [97, 34] := rfl
  have hb : (txG [97, 34] (0 + n)).2 = (0, false) := by rw [txBad (by decide) (.inr (.inr (by omega)))]
  have hO : onO (34 :: (List.replicate n 97 ++ [97, 34])) = false := by rw [k4, txO, hd, ht, hb]
  have hK : onK (34 :: (List.replicate n 97 ++ [97, 34])) = 4097 := by rw [k1, txK, hd, ht, hb]; simp; omega
  rw [cuG_at (sk_tok (by rw [hk]; decide)), if_neg (by simp), if_neg (fun h => by simp at h), if_pos hO, hK]
theorem run_a : ∀ n, runL ptC (List.replicate n 97) = n
  | 0 => rfl
  | n + 1 => by rw [List.replicate_succ, runL, if_pos (by decide), run_a n]
theorem kd97 (n : Nat) : kdL (List.replicate (n + 1) 97) = 1 := by
  rw [List.replicate_succ]
  unfold kdL
  have e : (97 :: List.replicate n 97).getD 0 0 = (97 : Int) := rfl
  rw [e]; simp [bgC]
theorem cut_name {n : Nat} (hn : n = 63) : (cuT (sL (List.replicate (n + 1) 97))).2.2 = 0 := by
  rw [cuT_of (a_in _) (by simp; omega)]
  have hk := kd97 n
  obtain ⟨k1, k2, k3, k4⟩ := on1 hk
  rw [run_a] at k1 k4
  rw [cuG_at (sk_tok (by rw [hk]; decide)), if_neg (by simp), if_neg (fun h => by simp at h), if_neg (by rw [k4, decide_eq_true (by omega)]; decide), k1]
  have hdr : (List.replicate (n + 1) 97 : List Int).drop (min (n + 1) 64) = [] := List.drop_of_length_le (by simp; omega)
  rw [hdr, List.length_replicate, cuG_at (by rfl), if_pos rfl]
theorem cut_name2 {n : Nat} (hn : n = 64) : cuT (sL (List.replicate (n + 1) 97)) = ([], 64, 250) := by
  rw [cuT_of (a_in _) (by simp; omega)]
  have hk := kd97 n
  obtain ⟨k1, k2, k3, k4⟩ := on1 hk
  rw [run_a] at k1 k4
  rw [cuG_at (sk_tok (by rw [hk]; decide)), if_neg (by simp), if_neg (fun h => by simp at h), if_pos (by rw [k4, decide_eq_false (by omega)]), k1, Nat.min_eq_right (by omega)]
/-- what a row of one's own holds in the end, as a text -/
theorem row_text {N : Nat} (l : List Int) (hl : l.length = N) (n : Nat) (h : n ≤ N) (k : Nat) : strOfD (List.take n (dI l ++ List.replicate k (D.i 0))) = sL (l.take n) := by
  rw [List.take_append_of_le_length (by rw [dI_len]; omega)]
  have : List.take n (dI l) = dI (l.take n) := by simp [dI]
  rw [this, strOfD_dI]
end Go.Proofs.YtlfafkeamppakaaDoor.XT
