/- LexBack's plain law. -/
import Derived.Test.YtlfafkeamppakaaDoorQYV
set_option linter.unusedVariables false
set_option linter.unusedSimpArgs false
namespace Go.Proofs.YtlfafkeamppakaaDoor.XT
open Go Go.RowKit Go.Proofs.YtlfafkeamppakaaDoor.Sv
/-! ### Tokens put together -/
theorem gap_1 : gapO [32] := ⟨⟨32, [], rfl, .inl rfl⟩, fun X => by simp [skL]; omega⟩
theorem gap_2 : gapO [32, 32] := ⟨⟨32, _, rfl, .inl rfl⟩, fun X => by simp [skL]; omega⟩
theorem gap_3 : gapO [9, 13, 10] := ⟨⟨9, _, rfl, .inr (.inl rfl)⟩, fun X => by simp [skL]; omega⟩
theorem gap_4 : gapO [35, 32, 120, 32, 123, 10] := ⟨⟨35, _, rfl, .inr (.inr rfl)⟩, fun X => by simp [skL]; omega⟩
theorem gap_5 : gapO [32, 35, 32, 34, 10, 10] := ⟨⟨32, _, rfl, .inl rfl⟩, fun X => by simp [skL]; omega⟩
def jps : List D → List (D × List Int)
  | [] => []
  | [t] => [(t, [])]
  | t :: u :: r => (t, [32]) :: jps (u :: r)
theorem glue_j : ∀ l : List D, glue (jps l) = jnL (l.map foL)
  | [] => rfl
  | [t] => by simp [jps, glue, jnL, jnT]
  | t :: u :: r => by
    have ih := glue_j (u :: r)
    show foL t ++ ([32] ++ glue (jps (u :: r))) = _
    rw [ih]
    simp [jnL, jnT]
theorem jps_gaps : ∀ l : List D, gapsO (jps l)
  | [] => trivial
  | [t] => .inl rfl
  | [t, u] => ⟨gap_1, .inl rfl⟩
  | t :: u :: v :: r => ⟨gap_1, jps_gaps (u :: v :: r)⟩
theorem jps_fst : ∀ l : List D, (jps l).map Prod.fst = l
  | [] => rfl
  | [t] => rfl
  | t :: u :: r => by show t :: (jps (u :: r)).map Prod.fst = _; rw [jps_fst (u :: r)]
theorem jps_len (l : List D) : (jps l).length = l.length := by
  have := congrArg List.length (jps_fst l)
  simpa using this
theorem ps_mem {ps : List (D × List Int)} {l : List D} (h : ps.map Prod.fst = l) (he : ∀ t ∈ l, foE t = 0) : ∀ p ∈ ps, foE p.1 = 0 := fun p hp => he p.1 (by rw [← h]; exact List.mem_map_of_mem hp)
theorem tok_ne {t : D} (h : foE t = 0) : 1 ≤ (foL t).length := by
  have := (tok_back h (.inl rfl : stp []) 0).2.2.2.2
  cases hf : foL t with
  | nil => exact absurd hf this
  | cons c r => simp
theorem glue_len : ∀ ps : List (D × List Int), (∀ p ∈ ps, foE p.1 = 0) → ps.length ≤ (glue ps).length
  | [], _ => Nat.le_refl _
  | p :: r, h => by
    have h1 := glue_len r fun q hq => h q (List.mem_cons_of_mem _ hq)
    have h2 := tok_ne (h p (List.mem_cons_self ..))
    simp only [glue, List.length_append, List.length_cons]; omega
theorem glue_in : ∀ ps : List (D × List Int), (∀ p ∈ ps, ∀ c ∈ p.2, 0 ≤ c ∧ c < 256) → ∀ c ∈ glue ps, 0 ≤ c ∧ c < 256
  | [], _, c, hc => by cases hc
  | p :: r, h, c, hc => by
    simp only [glue, List.mem_append] at hc
    rcases hc with hc | hc | hc
    · exact foL_in p.1 c hc
    · exact h p (List.mem_cons_self ..) c hc
    · exact glue_in r (fun q hq => h q (List.mem_cons_of_mem _ hq)) c hc
/-- what is put together is cut as it was -/
theorem cut_back {ps : List (D × List Int)} {l : List D} (h : ps.map Prod.fst = l) (he : ∀ t ∈ l, foE t = 0) (hg : gapsO ps) (hl : l.length ≤ 400) (hi : ∀ p ∈ ps, ∀ c ∈ p.2, 0 ≤ c ∧ c < 256) (hs : (glue ps).length ≤ 65536) : (cuT (sL (glue ps))).2.2 = 0 ∧ allL smTk (cuT (sL (glue ps))).1 l = true := by
  have hp := ps_mem h he
  have hlen : ps.length = l.length := by rw [← h, List.length_map]
  have e : cuT (sL (glue ps)) = cuG ((glue ps).length + 1) (glue ps) 0 [] := by
    unfold cuT
    rw [sL_size, if_neg (by omega), bys_sL (glue_in ps hi)]
  have := glue_len ps hp
  obtain ⟨T, t1, t2⟩ := cut_glue ps ((glue ps).length + 1) 0 [] hp hg (by omega) (by simp; omega)
  rw [e, t1]
  refine ⟨rfl, ?_⟩
  rw [← h]; simpa using t2
theorem gap_in {G : List Int} (h : G = [] ∨ G = [32] ∨ G = [32, 32] ∨ G = [9, 13, 10] ∨ G = [35, 32, 120, 32, 123, 10] ∨ G = [32, 35, 32, 34, 10, 10]) : ∀ c ∈ G, 0 ≤ c ∧ c < 256 := by
  intro c hc
  rcases h with rfl | rfl | rfl | rfl | rfl | rfl <;> simp only [List.mem_cons, List.not_mem_nil, or_false] at hc <;> omega
theorem jps_in : ∀ (l : List D), ∀ p ∈ jps l, ∀ c ∈ p.2, 0 ≤ c ∧ c < 256
  | [], p, hp => by cases hp
  | [t], p, hp => by
    simp only [jps, List.mem_singleton] at hp
    subst hp; simp
  | t :: u :: r, p, hp => by
    simp only [jps, List.mem_cons] at hp
    rcases hp with rfl | hp
    · exact gap_in (.inr (.inl rfl))
    · exact jps_in (u :: r) p (by simpa using hp)
theorem back_join {l : List D} (he : ∀ t ∈ l, foE t = 0) (hl : l.length ≤ 400) (hs : (jnL (l.map foL)).length ≤ 65536) : (cuT (sL (jnL (l.map foL)))).2.2 = 0 ∧ allL smTk (cuT (sL (jnL (l.map foL)))).1 l = true := by
  have := cut_back (jps_fst l) he (jps_gaps l) hl (jps_in l) (by rw [glue_j]; exact hs)
  rw [glue_j] at this; exact this
/-! ### With other things between them -/
def gapX : List D := [.s (sL [32]), .s (sL [32, 32]), .s (sL [9, 13, 10]), .s (sL [35, 32, 120, 32, 123, 10]), .s (sL [32, 35, 32, 34, 10, 10])]
def gapK (n : Nat) : List Int := match n with | 0 => [32] | 1 => [32, 32] | 2 => [9, 13, 10] | 3 => [35, 32, 120, 32, 123, 10] | _ => [32, 35, 32, 34, 10, 10]
theorem gapK_ok (n : Nat) : gapO (gapK n) ∧ ∀ c ∈ gapK n, 0 ≤ c ∧ c < 256 := by
  unfold gapK
  split
  · exact ⟨gap_1, gap_in (.inr (.inl rfl))⟩
  · exact ⟨gap_2, gap_in (.inr (.inr (.inl rfl)))⟩
  · exact ⟨gap_3, gap_in (.inr (.inr (.inr (.inl rfl))))⟩
  · exact ⟨gap_4, gap_in (.inr (.inr (.inr (.inr (.inl rfl)))))⟩
  · exact ⟨gap_5, gap_in (.inr (.inr (.inr (.inr (.inr rfl)))))⟩
def gapC (gs : List D) (i : Nat) : List Int := if i < gs.length then gapK ((nthD gs i).int % 5).toNat else [32]
theorem gapC_ok (gs : List D) (i : Nat) : gapO (gapC gs i) ∧ ∀ c ∈ gapC gs i, 0 ≤ c ∧ c < 256 := by
  unfold gapC
  split
  · exact gapK_ok _
  · exact ⟨gap_1, gap_in (.inr (.inl rfl))⟩
theorem gapC_len (gs : List D) (i : Nat) : (gapC gs i).length ≤ 6 := by
  unfold gapC gapK
  split
  · split <;> simp
  · simp
def wdL (l gs : List D) (g : Nat) : List Int := glue ((List.range g).map fun i => (nthD l i, gapC gs i))
theorem glue_app : ∀ a b : List (D × List Int), glue (a ++ b) = glue a ++ glue b
  | [], b => rfl
  | p :: a, b => by simp [glue, glue_app a b]
theorem wd_succ (l gs : List D) (g : Nat) : wdL l gs (g + 1) = wdL l gs g ++ (foL (nthD l g) ++ gapC gs g) := by
  unfold wdL
  rw [List.range_succ, List.map_append, glue_app]
  simp [glue]
theorem all_gaps : ∀ ps : List (D × List Int), (∀ p ∈ ps, gapO p.2) → gapsO ps
  | [], _ => trivial
  | [p], h => .inr (h p (List.mem_cons_self ..))
  | p :: q :: r, h => ⟨h p (List.mem_cons_self ..), all_gaps (q :: r) fun x hx => h x (List.mem_cons_of_mem _ hx)⟩
theorem range_nth (l : List D) : (List.range l.length).map (nthD l) = l := by
  refine List.ext_getElem? fun i => ?_
  rw [List.getElem?_map]
  by_cases h : i < l.length
  · rw [List.getElem?_range h, get_nthD h]; rfl
  · rw [List.getElem?_eq_none (by simpa using h), List.getElem?_eq_none (by omega)]; rfl
theorem back_wide {l gs : List D} (he : ∀ t ∈ l, foE t = 0) (hl : l.length ≤ 400) (hs : (wdL l gs l.length).length ≤ 65536) : (cuT (sL (wdL l gs l.length))).2.2 = 0 ∧ allL smTk (cuT (sL (wdL l gs l.length))).1 l = true := by
  refine cut_back ?_ he (all_gaps _ fun p hp => ?_) hl (fun p hp => ?_) hs
  · rw [List.map_map]; exact range_nth l
  · obtain ⟨i, _, rfl⟩ := List.mem_map.1 hp
    exact (gapC_ok gs i).1
  · obtain ⟨i, _, rfl⟩ := List.mem_map.1 hp
    exact (gapC_ok gs i).2
/-! ### What stands from a token on -/
theorem cuG_run (L : List Int) (n k : Nat) (acc : List D) : cuG (n + 1) L k acc = if L.drop (skL L false) = [] then (acc, k + skL L false, 0) else if acc.length = 8192 ∧ kdL (L.drop (skL L false)) ≠ 0 then ([], k + skL L false, 4) else if onO (L.drop (skL L false)) = false then ([], k + skL L false + onK (L.drop (skL L false)), 250) else cuG n ((L.drop (skL L false)).drop (onK (L.drop (skL L false)))) (k + skL L false + onK (L.drop (skL L false))) (acc ++ [onT (L.drop (skL L false)) (k + skL L false)]) := by
  rw [cuG_skip, cuG_at (skL_idem L false)]
theorem cut_ext : ∀ (f : Nat) (L : List Int) (k : Nat) (acc l : List D) (j : Nat), cuG f L k acc = (l, j, 0) → ∃ T, l = acc ++ T
  | 0, L, k, acc, l, j, h => by
    rw [cuG] at h
    simp only [Prod.mk.injEq] at h
    exact ⟨[], by rw [← h.1]; simp⟩
  | n + 1, L, k, acc, l, j, h => by
    rw [cuG_run] at h
    split at h
    · simp only [Prod.mk.injEq] at h
      exact ⟨[], by rw [← h.1]; simp⟩
    split at h
    · simp at h
    split at h
    · simp at h
    obtain ⟨T, hT⟩ := cut_ext n _ _ _ _ _ h
    exact ⟨onT (L.drop (skL L false)) (k + skL L false) :: T, by rw [hT]; simp⟩
theorem sm_on (M : List Int) (a b : Nat) : smTk (onT M a) (onT M b) = true := by
  show (decide (kdL M = kdL M) && decide (sL (onS M) = sL (onS M)) && decide (onN M = onN M)) = true
  simp
/-- one round of a cut that goes well -/
theorem cut_round {n : Nat} {L : List Int} {k : Nat} {acc T : List D} {j : Nat} (h : cuG (n + 1) L k acc = (acc ++ T, j, 0)) (hf : L.length < n + 1) (ha : acc.length ≤ 8192) :
    (L.drop (skL L false) = [] ∧ T = []) ∨ (L.drop (skL L false) ≠ [] ∧ acc.length < 8192 ∧ onO (L.drop (skL L false)) = true ∧ ((L.drop (skL L false)).drop (onK (L.drop (skL L false)))).length < n ∧ ∃ T2, T = onT (L.drop (skL L false)) (k + skL L false) :: T2 ∧ cuG n ((L.drop (skL L false)).drop (onK (L.drop (skL L false)))) (k + skL L false + onK (L.drop (skL L false))) (acc ++ [onT (L.drop (skL L false)) (k + skL L false)]) = ((acc ++ [onT (L.drop (skL L false)) (k + skL L false)]) ++ T2, j, 0)) := by
  rw [cuG_run] at h
  split at h
  · rename_i hM
    simp only [Prod.mk.injEq] at h
    exact .inl ⟨hM, by simpa using h.1.symm⟩
  rename_i hM
  split at h
  · simp at h
  rename_i h8
  split at h
  · simp at h
  rename_i hO
  have hO : onO (L.drop (skL L false)) = true := by simpa using hO
  have hkd : kdL (L.drop (skL L false)) ≠ 0 := fun e => by rw [(on0 e).2.2.2] at hO; cases hO
  have hpos := onK_pos hO
  obtain ⟨T2, hT⟩ := cut_ext _ _ _ _ _ _ h
  have hT' : T = onT (L.drop (skL L false)) (k + skL L false) :: T2 := by
    rw [List.append_assoc] at hT
    exact List.append_cancel_left hT
  have hml : 1 ≤ (L.drop (skL L false)).length := by
    cases hm : L.drop (skL L false) with
    | nil => exact absurd hm hM
    | cons c r => simp
  refine .inr ⟨hM, ?_, hO, ?_, T2, hT', ?_⟩
  · have : ¬ acc.length = 8192 := fun e => h8 ⟨e, hkd⟩
    omega
  · rw [List.length_drop]
    rw [List.length_drop] at hml ⊢
    omega
  · rw [h, hT]
theorem cut_shift : ∀ (f : Nat) (L : List Int) (k : Nat) (acc T : List D) (j : Nat), cuG f L k acc = (acc ++ T, j, 0) → L.length < f → acc.length ≤ 8192 → ∀ (f' k' : Nat) (acc' : List D), L.length < f' → acc'.length ≤ acc.length →
    ∃ T' j', cuG f' L k' acc' = (acc' ++ T', j', 0) ∧ T'.length = T.length ∧ allL smTk T' T = true ∧ (skL L false = 0 → L ≠ [] → ((nthD T' 0).fld 3).int = (k' : Int))
  | 0, L, k, acc, T, j, _, hf, _, _, _, _, _, _ => by omega
  | n + 1, L, k, acc, T, j, h, hf, ha, f', k', acc', hf', ha' => by
    obtain ⟨n', rfl⟩ : ∃ n', f' = n' + 1 := ⟨f' - 1, by omega⟩
    rcases cut_round h hf ha with ⟨hM, rfl⟩ | ⟨hM, h8, hO, hlt, T2, rfl, h2⟩
    · refine ⟨[], k' + skL L false, ?_, rfl, rfl, fun h0 hL => ?_⟩
      · rw [cuG_run, if_pos hM]; simp
      · rw [h0] at hM; exact absurd hM hL
    · have hpos := onK_pos hO
      have hml : 1 ≤ (L.drop (skL L false)).length := by
        cases hm : L.drop (skL L false) with
        | nil => exact absurd hm hM
        | cons c r => simp
      have hlt' : ((L.drop (skL L false)).drop (onK (L.drop (skL L false)))).length < n' := by
        rw [List.length_drop]
        rw [List.length_drop] at hml ⊢
        omega
      obtain ⟨T', j', t1, t2, t3, _⟩ := cut_shift n _ _ _ T2 j h2 hlt (by simp; omega) n' (k' + skL L false + onK (L.drop (skL L false))) (acc' ++ [onT (L.drop (skL L false)) (k' + skL L false)]) hlt' (by simp; omega)
      refine ⟨onT (L.drop (skL L false)) (k' + skL L false) :: T', j', ?_, by simp [t2], ?_, fun h0 _ => ?_⟩
      · rw [cuG_run, if_neg hM, if_neg (fun h => by omega), if_neg (by rw [hO]; decide), t1]; simp
      · rw [allL, sm_on, t3]; rfl
      · show ((k' + skL L false : Nat) : Int) = k'
        rw [h0]; rfl
theorem cut_at : ∀ (f : Nat) (L : List Int) (k : Nat) (acc T : List D) (j : Nat), cuG f L k acc = (acc ++ T, j, 0) → L.length < f → acc.length ≤ 8192 → ∀ i, i < T.length →
    ∃ p, ((nthD T i).fld 3).int = ((k + p : Nat) : Int) ∧ p < L.length ∧ (1 ≤ i → 1 ≤ p) ∧ skL (L.drop p) false = 0 ∧ ∃ f2 acc2 j2, (L.drop p).length < f2 ∧ acc2.length ≤ 8192 ∧ cuG f2 (L.drop p) (k + p) acc2 = (acc2 ++ T.drop i, j2, 0)
  | 0, L, k, acc, T, j, _, hf, _, _, _ => by omega
  | n + 1, L, k, acc, T, j, h, hf, ha, i, hi => by
    rcases cut_round h hf ha with ⟨hM, rfl⟩ | ⟨hM, h8, hO, hlt, T2, rfl, h2⟩
    · simp at hi
    have hml : 1 ≤ (L.drop (skL L false)).length := by
      cases hm : L.drop (skL L false) with
      | nil => exact absurd hm hM
      | cons c r => simp
    rw [List.length_drop] at hml
    have hpos := onK_pos hO
    have hle := onK_le (L.drop (skL L false))
    rw [List.length_drop] at hle
    cases i with
    | zero =>
      refine ⟨skL L false, rfl, by omega, fun h => absurd h (by omega), skL_idem L false, n + 1, acc, j, by rw [List.length_drop]; omega, ha, ?_⟩
      rw [← cuG_skip, h]; rfl
    | succ i =>
      obtain ⟨p, p1, p2, _, p3, f2, acc2, j2, q1, q2, q3⟩ := cut_at n _ _ _ T2 j h2 hlt (by simp; omega) i (by simpa using hi)
      rw [List.drop_drop, List.drop_drop] at p3 q1 q3
      rw [List.length_drop, List.length_drop] at p2
      refine ⟨skL L false + onK (L.drop (skL L false)) + p, ?_, by omega, fun _ => by omega, ?_, f2, acc2, j2, ?_, q2, ?_⟩
      · show ((nthD T2 i).fld 3).int = _
        rw [p1]; congr 1; omega
      · rw [← Nat.add_assoc] at p3; exact p3
      · rw [← Nat.add_assoc] at q1; exact q1
      · rw [← Nat.add_assoc] at q3
        rw [show k + (skL L false + onK (L.drop (skL L false)) + p) = k + skL L false + onK (L.drop (skL L false)) + p by omega]
        exact q3
theorem nth_drop (l : List D) : ∀ i k, nthD (l.drop i) k = nthD l (i + k) := fun i k => by
  induction l generalizing i with
  | nil => simp; cases i + k <;> cases k <;> rfl
  | cons d r ih =>
    cases i with
    | zero => simp
    | succ i => rw [List.drop_succ_cons, ih, show i + 1 + k = (i + k) + 1 by omega]; rfl
def lastA (c : List D) (g : Nat) : Int := if g = 0 then -1 else ((nthD c (g - 1)).fld 3).int
theorem back_at {s : ByteArray} (h : (cuT s).2.2 = 0) {g : Nat} (hg : g < (cuT s).1.length) :
    ∃ p : Nat, ((nthD (cuT s).1 g).fld 3).int = (p : Int) ∧ p < s.size ∧ lastA (cuT s).1 g < (p : Int) ∧ (cuT (s.extract p s.size)).2.2 = 0 ∧ (cuT (s.extract p s.size)).1.length = (cuT s).1.length - g ∧ allL smTk (cuT (s.extract p s.size)).1 ((cuT s).1.drop g) = true ∧ ((nthD (cuT (s.extract p s.size)).1 0).fld 3).int = 0 := by
  have hs : ¬ 65536 < s.size := fun e => by
    unfold cuT at h; rw [if_pos e] at h; simp at h
  have e : cuT s = cuG (s.size + 1) (bys s) 0 [] := by unfold cuT; rw [if_neg hs]
  have e2 : cuG (s.size + 1) (bys s) 0 [] = ([] ++ (cuT s).1, (cuT s).2.1, 0) := by rw [← e, List.nil_append, ← h]
  have hl : (bys s).length < s.size + 1 := by rw [bys_length]; omega
  obtain ⟨p, p1, p2, _, p3, f2, acc2, j2, q1, q2, q3⟩ := cut_at _ _ _ _ _ _ e2 hl (by simp) g hg
  rw [Nat.zero_add] at p1 q3
  rw [bys_length] at p2
  have hx : bys (s.extract p s.size) = (bys s).drop p := by
    rw [bys_extract, List.take_of_length_le (by rw [List.length_drop, bys_length]; omega)]
  have hxs : (s.extract p s.size).size = s.size - p := extract_size s p s.size (Nat.le_refl _)
  have hne : (bys s).drop p ≠ [] := fun e => by
    have := congrArg List.length e
    rw [List.length_drop, bys_length] at this; simp at this; omega
  obtain ⟨T', j', t1, t2, t3, t4⟩ := cut_shift _ _ _ _ _ _ q3 q1 q2 ((s.extract p s.size).size + 1) 0 [] (by rw [List.length_drop, bys_length, hxs]; omega) (by simp)
  have e3 : cuT (s.extract p s.size) = (T', j', 0) := by
    unfold cuT
    rw [if_neg (by omega), hx, t1]; rfl
  refine ⟨p, p1, p2, ?_, by rw [e3], by rw [e3]; simp only; rw [t2, List.length_drop], by rw [e3]; exact t3, by rw [e3]; exact t4 p3 hne⟩
  unfold lastA
  split
  · omega
  · rename_i h0
    obtain ⟨p', p1', p2', _, p3', f2', acc2', j2', q1', q2', q3'⟩ := cut_at _ _ _ _ _ _ e2 hl (by simp) (g - 1) (by omega)
    rw [Nat.zero_add] at p1' q3'
    obtain ⟨r, r1, r2, r3, _⟩ := cut_at _ _ _ _ _ _ q3' q1' q2' 1 (by rw [List.length_drop]; omega)
    rw [nth_drop, show g - 1 + 1 = g by omega] at r1
    have := r3 (Nat.le_refl _)
    rw [p1']
    rw [p1] at r1
    omega
theorem cut_bound : ∀ (f : Nat) (L : List Int) (k : Nat) (acc T : List D) (j : Nat), cuG f L k acc = (acc ++ T, j, 0) → L.length < f → acc.length ≤ 8192 → T.length ≤ L.length
  | 0, L, k, acc, T, j, _, hf, _ => by omega
  | n + 1, L, k, acc, T, j, h, hf, ha => by
    rcases cut_round h hf ha with ⟨hM, rfl⟩ | ⟨hM, h8, hO, hlt, T2, rfl, h2⟩
    · simp
    have hml : 1 ≤ (L.drop (skL L false)).length := by
      cases hm : L.drop (skL L false) with
      | nil => exact absurd hm hM
      | cons c r => simp
    have hpos := onK_pos hO
    have ih := cut_bound n _ _ _ T2 j h2 hlt (by simp; omega)
    rw [List.length_drop] at ih
    rw [List.length_drop] at hml ih
    simp only [List.length_cons]; omega
theorem cut_small {s : ByteArray} (h : (cuT s).2.2 = 0) : (cuT s).1.length ≤ s.size := by
  have hs : ¬ 65536 < s.size := fun e => by
    unfold cuT at h; rw [if_pos e] at h; simp at h
  have e : cuT s = cuG (s.size + 1) (bys s) 0 [] := by unfold cuT; rw [if_neg hs]
  have e2 : cuG (s.size + 1) (bys s) 0 [] = ([] ++ (cuT s).1, (cuT s).2.1, 0) := by rw [← e, List.nil_append, ← h]
  have := cut_bound _ _ _ _ _ _ e2 (by rw [bys_length]; omega) (by simp)
  rw [bys_length] at this; exact this
theorem all_len (p : D → D → Bool) : ∀ {xs ys : List D}, allL p xs ys = true → xs.length = ys.length
  | [], [], _ => rfl
  | [], _ :: _, h => by simp [allL] at h
  | _ :: _, [], h => by simp [allL] at h
  | x :: r, y :: s, h => by
    simp only [allL, Bool.and_eq_true] at h
    simp [all_len p h.2]
theorem jo_all {l : List D} (h : joE l = 0) : ∀ t ∈ l, foE t = 0 := by
  unfold joE at h
  split at h
  · rename_i k
    exact fun t ht => of_decide_eq_true (List.all_eq_true.1 k t ht)
  · cases h
theorem gap_get : ∀ m : Nat, m < 5 → (nthD [D.s (ByteArray.mk #[32]), D.s (ByteArray.mk #[32, 32]), D.s (ByteArray.mk #[9, 13, 10]), D.s (ByteArray.mk #[35, 32, 120, 32, 123, 10]), D.s (ByteArray.mk #[32, 35, 32, 34, 10, 10])] m).str = sL (gapK m)
  | 0, _ => rfl
  | 1, _ => rfl
  | 2, _ => rfl
  | 3, _ => rfl
  | 4, _ => rfl
  | m + 5, h => by omega
theorem wd_len (l gs : List D) : ∀ g, g ≤ l.length → (wdL l gs g).length ≤ 4 * smN (l.take g) + 8 * g
  | 0, _ => by simp [wdL, glue]
  | g + 1, h => by
    have ih := wd_len l gs g (by omega)
    have h1 := foL_len (nthD l g)
    have h2 := gapC_len gs g
    have e : smN (l.take (g + 1)) = smN (l.take g) + (1 + ((nthD l g).fld 1).str.size) := by
      rw [take_nth (by omega), smN_app]; rfl
    rw [wd_succ, List.length_append, List.length_append, e]; omega
end Go.Proofs.YtlfafkeamppakaaDoor.XT
