/- Contracts, by the symbolic evaluator. -/
import Derived.Test.YtlfafkeamppakaaDoorQY2
import Derived.Test.YtlfafkeamppakaaDoorProg
set_option linter.unusedVariables false
set_option linter.unusedSimpArgs false
namespace Go.Proofs.YtlfafkeamppakaaDoor.XT
open Go Go.RowKit Go.Proofs.YtlfafkeamppakaaDoor.Sv
set_option maxRecDepth 100000
theorem take_dI (l : List Int) : (dI l).take l.length = dI l := List.take_of_length_le (by simp [dI])
theorem tx34 {c : Int} {r : List Int} {m : Nat} (h : c = 34) : txG (c :: r) m = ([], 1, true) := by rw [txG.eq_def]; exact if_pos h
theorem txBad {c : Int} {r : List Int} {m : Nat} (h : ¬ c = 34) (hb : c < 32 ∨ 126 < c ∨ m = 4096) : txG (c :: r) m = ([], 0, false) := by rw [txG.eq_def]; exact (if_neg h).trans (if_pos hb)
theorem txPl {c : Int} {r : List Int} {m : Nat} (h : ¬ c = 34) (hb : ¬ (c < 32 ∨ 126 < c ∨ m = 4096)) (e : c ≠ 92) : txG (c :: r) m = (c :: (txG r (m + 1)).1, (txG r (m + 1)).2.1 + 1, (txG r (m + 1)).2.2) := by rw [txG.eq_def]; exact (if_neg h).trans ((if_neg hb).trans (if_pos e))
theorem tx_esc (r : List Int) (m : Nat) (hm : ¬ m = 4096) : txG (92 :: r) m = if esO r = true then (esV r :: (txG (r.drop (esK r)) (m + 1)).1, (txG (r.drop (esK r)) (m + 1)).2.1 + (1 + esK r), (txG (r.drop (esK r)) (m + 1)).2.2) else ([], 1 + esK r, false) := by
  have h0 : hxC 0 = false := by decide
  have b1 : ¬ (92 : Int) = 34 := by decide
  have b2 : ¬ ((92 : Int) < 32 ∨ (126 : Int) < 92 ∨ m = 4096) := by rintro (h | h | h); exact absurd h (by decide); exact absurd h (by decide); exact hm h
  have b3 : ¬ (92 : Int) ≠ 92 := by decide
  cases r with
  | nil => rw [txG.eq_def]; simp only [if_neg b1, if_neg b2, if_neg b3]; simp [esO, esK, h0]
  | cons d r =>
    rw [txG.eq_def]
    simp only [if_neg b1, if_neg b2, if_neg b3]
    by_cases d1 : d = 92 ∨ d = 34
    · have e1 : esO (d :: r) = true := by rcases d1 with rfl | rfl <;> simp [esO]
      have e2 : esK (d :: r) = 1 := by rcases d1 with rfl | rfl <;> simp [esK]
      have e3 : esV (d :: r) = d := by rcases d1 with rfl | rfl <;> simp [esV]
      rw [if_pos e1, e2, e3]; simp only [if_pos d1]; rfl
    by_cases d2 : d = 110
    · subst d2
      have e1 : esO (110 :: r) = true := by simp [esO]
      have e2 : esK (110 :: r) = 1 := by simp [esK]
      have e3 : esV (110 :: r) = 10 := by simp [esV]
      rw [if_pos e1, e2, e3]; simp only [if_neg d1, if_true]; rfl
    by_cases d3 : d = 120
    · subst d3
      simp only [if_neg d1, if_neg d2, if_true]
      cases r with
      | nil => simp [esO, esK, h0]
      | cons e r =>
        by_cases he : hxC e = false
        · simp [esO, esK, he]
        · have he' : hxC e = true := by simpa using he
          simp only [if_neg he]
          cases r with
          | nil => simp [esO, esK, h0, he']
          | cons f r =>
            by_cases hf : hxC f = false
            · simp [esO, esK, hf, he']
            · have hf' : hxC f = true := by simpa using hf
              simp [esO, esK, esV, hf', he']
    · have o1 : ¬ d = 92 := fun h => d1 (.inl h)
      have o2 : ¬ d = 34 := fun h => d1 (.inr h)
      simp [esO, esK, o1, o2, d2, d3]
theorem es_len {r : List Int} (h : esO r = true) : esK r ≤ r.length := by
  have h0 : hxC 0 = false := by decide
  cases r with
  | nil => simp [esO, h0] at h
  | cons d r =>
    by_cases d1 : d = 110 ∨ d = 92 ∨ d = 34
    · have : esK (d :: r) = 1 := if_pos d1
      rw [this]; simp
    by_cases d3 : d = 120
    · subst d3
      cases r with
      | nil => simp [esO, h0] at h
      | cons e r =>
        cases r with
        | nil => simp [esO, h0] at h
        | cons f r =>
          have : esK (120 :: e :: f :: r) ≤ 3 := by unfold esK; repeat' split
                                                    all_goals omega
          simp only [List.length_cons]; omega
    · have : esK (d :: r) = 0 := (if_neg d1).trans (if_neg d3)
      omega
def lxtC : Con := ⟨[.box 51 [.s, (.i .i64)]], fun ds => (fun (a : D) => [0 ≤ (D.int (D.fld a 1)), (D.int (D.fld a 1)) ≤ ((D.str (D.fld a 0))).size, ((D.str (D.fld a 0))).size ≤ 1099511627776, (D.int (D.fld a 1)) < ((D.str (D.fld a 0))).size]) (nthD ds 0), [.d .s, .d .b], fun ds => (fun (a : D) => [.s (sL (txS (rst a))), .b (txO (rst a))]) (nthD ds 0), fun ds => (fun (a : D) => [.t [.s ((D.str (D.fld a 0))), .i ((D.int (D.fld a 1)) + txK (rst a))]]) (nthD ds 0)⟩
def lxtC_an : Anns := fun f i => match f, i with
  | 38, 2000004 => some fun A st => ⟨Unit, fun _ => [], fun _ => [(4, .q 5 (.i .u8) [])], fun _ => True, fun _ => 0⟩
  | 38, 4 => some fun A st => match A.get 4, st.h.get 0 with
    | some (.ptr l _), some (.c t [.v (.string s), .v (.int _ p)]) => ⟨Nat × List Int, fun _ => [], fun g => [(0, .c t [.v (.string s), .v (.int .i64 g.1)]), (l, .c 23 [.ow st.nx g.2.length]), (st.nx, .q 5 (.i .u8) (dI g.2))], fun g => p.toNat ≤ g.1 ∧ g.1 ≤ s.size ∧ g.2.length ≤ 4096 ∧ txG ((bys s).drop p.toNat) 0 = (g.2 ++ (txG ((bys s).drop g.1) g.2.length).1, g.1 - p.toNat + (txG ((bys s).drop g.1) g.2.length).2.1, (txG ((bys s).drop g.1) g.2.length).2.2), fun g => s.size - g.1⟩
    | _, _ => LAnn.bad
  | _, _ => none
theorem lxtC_vc (a : D) : (I64 ((a.fld 1).int + 1) ∧ ∃ (g : Unit), ∃ (g : Nat × List Int), (a.fld 0).str = (a.fld 0).str ∧ (a.fld 1).int + 1 = (↑g.fst : Int) ∧ 0 = g.snd.length ∧ [] = dI g.snd ∧ (((a.fld 1).int + 1).toNat ≤ g.fst ∧ g.fst ≤ (a.fld 0).str.size ∧ g.snd.length ≤ 4096 ∧ txG (List.drop ((a.fld 1).int + 1).toNat (bys (a.fld 0).str)) 0 = (g.snd ++ (txG (List.drop g.fst (bys (a.fld 0).str)) g.snd.length).fst, g.fst - ((a.fld 1).int + 1).toNat + (txG (List.drop g.fst (bys (a.fld 0).str)) g.snd.length).snd.fst, (txG (List.drop g.fst (bys (a.fld 0).str)) g.snd.length).snd.snd)) ∧ ∀ (g : Nat × List Int), ((a.fld 1).int + 1).toNat ≤ g.fst ∧ g.fst ≤ (a.fld 0).str.size ∧ g.snd.length ≤ 4096 ∧ txG (List.drop ((a.fld 1).int + 1).toNat (bys (a.fld 0).str)) 0 = (g.snd ++ (txG (List.drop g.fst (bys (a.fld 0).str)) g.snd.length).fst, g.fst - ((a.fld 1).int + 1).toNat + (txG (List.drop g.fst (bys (a.fld 0).str)) g.snd.length).snd.fst, (txG (List.drop g.fst (bys (a.fld 0).str)) g.snd.length).snd.snd) → (decide ((↑g.fst : Int) < (↑(a.fld 0).str.size : Int)) = true → Idx (↑g.fst : Int) (a.fld 0).str.size) ∧ bif decide ((↑g.fst : Int) < (↑(a.fld 0).str.size : Int)) && !decide (byteAt' (a.fld 0).str g.fst = 34) then Idx (↑g.fst : Int) (a.fld 0).str.size ∧ bif decide (byteAt' (a.fld 0).str g.fst < 32) || decide (126 < byteAt' (a.fld 0).str g.fst) || decide ((↑g.snd.length : Int) = 4096) then (a.fld 0).str = (a.fld 0).str ∧ (↑g.fst : Int) = (a.fld 1).int + (↑(txK (rst a)) : Int) ∧ (ByteArray.mk #[]) = sL (txS (rst a)) ∧ false = txO (rst a) else I64 ((↑g.fst : Int) + 1) ∧ bif decide (byteAt' (a.fld 0).str g.fst = 92) then 0 ≤ (↑g.fst : Int) + 1 ∧ (↑g.fst : Int) + 1 ≤ (↑(a.fld 0).str.size : Int) ∧ (a.fld 0).str.size ≤ 1099511627776 ∧ (g.snd.length + [D.i (esV (rst (D.t [D.s (a.fld 0).str, D.i ((↑g.fst : Int) + 1)])))].length) * 1 ≤ 140737488355328 ∧ g.snd.length + [D.i (esV (rst (D.t [D.s (a.fld 0).str, D.i ((↑g.fst : Int) + 1)])))].length ≤ 9223372036854775807 ∧ bif !esO (rst (D.t [D.s (a.fld 0).str, D.i ((↑g.fst : Int) + 1)])) then (a.fld 0).str = (a.fld 0).str ∧ (↑g.fst : Int) + 1 + (↑(esK (rst (D.t [D.s (a.fld 0).str, D.i ((↑g.fst : Int) + 1)]))) : Int) = (a.fld 1).int + (↑(txK (rst a)) : Int) ∧ (ByteArray.mk #[]) = sL (txS (rst a)) ∧ false = txO (rst a) else ∃ (g_1 : Nat × List Int), (a.fld 0).str = (a.fld 0).str ∧ (↑g.fst : Int) + 1 + (↑(esK (rst (D.t [D.s (a.fld 0).str, D.i ((↑g.fst : Int) + 1)]))) : Int) = (↑g_1.fst : Int) ∧ g.snd.length + [D.i (esV (rst (D.t [D.s (a.fld 0).str, D.i ((↑g.fst : Int) + 1)])))].length = g_1.snd.length ∧ List.take g.snd.length (dI g.snd) ++ [D.i (esV (rst (D.t [D.s (a.fld 0).str, D.i ((↑g.fst : Int) + 1)])))] = dI g_1.snd ∧ (((a.fld 1).int + 1).toNat ≤ g_1.fst ∧ g_1.fst ≤ (a.fld 0).str.size ∧ g_1.snd.length ≤ 4096 ∧ txG (List.drop ((a.fld 1).int + 1).toNat (bys (a.fld 0).str)) 0 = (g_1.snd ++ (txG (List.drop g_1.fst (bys (a.fld 0).str)) g_1.snd.length).fst, g_1.fst - ((a.fld 1).int + 1).toNat + (txG (List.drop g_1.fst (bys (a.fld 0).str)) g_1.snd.length).snd.fst, (txG (List.drop g_1.fst (bys (a.fld 0).str)) g_1.snd.length).snd.snd)) ∧ (a.fld 0).str.size - g_1.fst < (a.fld 0).str.size - g.fst else (g.snd.length + [D.i (byteAt' (a.fld 0).str g.fst)].length) * 1 ≤ 140737488355328 ∧ g.snd.length + [D.i (byteAt' (a.fld 0).str g.fst)].length ≤ 9223372036854775807 ∧ ∃ (g_1 : Nat × List Int), (a.fld 0).str = (a.fld 0).str ∧ (↑g.fst : Int) + 1 = (↑g_1.fst : Int) ∧ g.snd.length + [D.i (byteAt' (a.fld 0).str g.fst)].length = g_1.snd.length ∧ List.take g.snd.length (dI g.snd) ++ [D.i (byteAt' (a.fld 0).str g.fst)] = dI g_1.snd ∧ (((a.fld 1).int + 1).toNat ≤ g_1.fst ∧ g_1.fst ≤ (a.fld 0).str.size ∧ g_1.snd.length ≤ 4096 ∧ txG (List.drop ((a.fld 1).int + 1).toNat (bys (a.fld 0).str)) 0 = (g_1.snd ++ (txG (List.drop g_1.fst (bys (a.fld 0).str)) g_1.snd.length).fst, g_1.fst - ((a.fld 1).int + 1).toNat + (txG (List.drop g_1.fst (bys (a.fld 0).str)) g_1.snd.length).snd.fst, (txG (List.drop g_1.fst (bys (a.fld 0).str)) g_1.snd.length).snd.snd)) ∧ (a.fld 0).str.size - g_1.fst < (a.fld 0).str.size - g.fst else bif decide ((↑g.fst : Int) = (↑(a.fld 0).str.size : Int)) then (a.fld 0).str = (a.fld 0).str ∧ (↑g.fst : Int) = (a.fld 1).int + (↑(txK (rst a)) : Int) ∧ (ByteArray.mk #[]) = sL (txS (rst a)) ∧ false = txO (rst a) else I64 ((↑g.fst : Int) + 1) ∧ (a.fld 0).str = (a.fld 0).str ∧ (↑g.fst : Int) + 1 = (a.fld 1).int + (↑(txK (rst a)) : Int) ∧ strOfD (List.take g.snd.length (dI g.snd)) = sL (txS (rst a)) ∧ true = txO (rst a)) = conGoal Tryd.prog (addS 54 lxeC noS) lxtC_an 200 38 lxtC [a] := by kernel_rfl
set_option maxHeartbeats 2000000 in
theorem lxtC_ok : ConOK Tryd.prog gl 38 lxtC := con_of mo (addS_ok lxeC_ok (noS_ok _)) (an := lxtC_an) 200 fun ds hl hp => by
  obtain ⟨a, rfl⟩ := len1 hl
  rw [← lxtC_vc]
  have p0 : 0 ≤ (D.int (D.fld a 1)) := hp _ (.head _)
  have p1 : (D.int (D.fld a 1)) ≤ ((D.str (D.fld a 0))).size := hp _ (.tail _ (.head _))
  have p2 : ((D.str (D.fld a 0))).size ≤ 1099511627776 := hp _ (.tail _ (.tail _ (.head _)))
  have p3 : (D.int (D.fld a 1)) < ((D.str (D.fld a 0))).size := hp _ (.tail _ (.tail _ (.tail _ (.head _))))
  obtain ⟨p, hp⟩ := Int.eq_ofNat_of_zero_le p0
  rw [hp] at p1 p3
  have hR : ∀ n : Int, rst (.t [.s ((D.str (D.fld a 0))), .i n]) = (bys ((D.str (D.fld a 0)))).drop n.toNat := fun _ => rfl
  have hL : rst a = (bys ((D.str (D.fld a 0)))).drop p := by rw [rst, hp, Int.toNat_natCast]
  rw [hp]
  have t1 : ((p : Int) + 1).toNat = p + 1 := by omega
  rw [t1]
  have hd1 : (rst a).drop 1 = (bys ((D.str (D.fld a 0)))).drop (p + 1) := by rw [hL, List.drop_drop]
  have eS : txS (rst a) = if (txG ((bys ((D.str (D.fld a 0)))).drop (p + 1)) 0).2.2 = true then (txG ((bys ((D.str (D.fld a 0)))).drop (p + 1)) 0).1 else [] := by rw [txS, hd1]
  have eK : txK (rst a) = 1 + (txG ((bys ((D.str (D.fld a 0)))).drop (p + 1)) 0).2.1 := by rw [txK, hd1]
  have eO : txO (rst a) = (txG ((bys ((D.str (D.fld a 0)))).drop (p + 1)) 0).2.2 := by rw [txO, hd1]
  generalize txS (rst a) = tS at eS ⊢
  generalize txK (rst a) = tK at eK ⊢
  generalize txO (rst a) = tO at eO ⊢
  generalize (D.str (D.fld a 0)) = s at *
  refine ⟨⟨by omega, by omega⟩, (), (p + 1, []), rfl, rfl, rfl, rfl, ⟨Nat.le_refl _, by omega, Nat.zero_le _, by simp⟩, ?_⟩
  rintro ⟨k, l⟩ ⟨h1, h2, h3, h4⟩
  dsimp only at h1 h2 h3 h4 ⊢
  have fail : ∀ (j : Nat) (x : Int), txG ((bys s).drop k) l.length = ([], j, false) → x = (k : Int) + j → (s = s ∧ x = (p : Int) + (tK : Int) ∧ (ByteArray.mk #[]) = sL tS ∧ false = tO) := fun j x hx he => by
    rw [hx] at h4
    rw [h4] at eS eK eO
    rw [eS, eK, eO]
    exact ⟨rfl, by simp only; omega, rfl, rfl⟩
  have step : ∀ (v : Int) (j : Nat) (x : Int), 1 ≤ j → k + j ≤ s.size → l.length < 4096 → x = (k : Int) + j → txG ((bys s).drop k) l.length = (v :: (txG ((bys s).drop (k + j)) (l.length + 1)).1, (txG ((bys s).drop (k + j)) (l.length + 1)).2.1 + j, (txG ((bys s).drop (k + j)) (l.length + 1)).2.2) →
      ∃ g_1 : Nat × List Int, s = s ∧ x = (g_1.fst : Int) ∧ l.length + [D.i v].length = g_1.snd.length ∧ List.take l.length (dI l) ++ [D.i v] = dI g_1.snd ∧ (p + 1 ≤ g_1.fst ∧ g_1.fst ≤ s.size ∧ g_1.snd.length ≤ 4096 ∧ txG (List.drop (p + 1) (bys s)) 0 = (g_1.snd ++ (txG (List.drop g_1.fst (bys s)) g_1.snd.length).fst, g_1.fst - (p + 1) + (txG (List.drop g_1.fst (bys s)) g_1.snd.length).snd.fst, (txG (List.drop g_1.fst (bys s)) g_1.snd.length).snd.snd)) ∧ s.size - g_1.fst < s.size - k := by
    intro v j x hj hk hl hx he
    have hlen : (l ++ [v]).length = l.length + 1 := by simp
    refine ⟨(k + j, l ++ [v]), rfl, by rw [hx]; simp, by simp, by rw [take_dI]; simp [dI], ⟨by show p + 1 ≤ k + j; omega, hk, by show (l ++ [v]).length ≤ 4096; omega, ?_⟩, by show s.size - (k + j) < s.size - k; omega⟩
    show txG (List.drop (p + 1) (bys s)) 0 = (l ++ [v] ++ (txG (List.drop (k + j) (bys s)) (l ++ [v]).length).fst, k + j - (p + 1) + (txG (List.drop (k + j) (bys s)) (l ++ [v]).length).snd.fst, (txG (List.drop (k + j) (bys s)) (l ++ [v]).length).snd.snd)
    rw [hlen, h4, he]
    simp only [List.append_assoc, List.singleton_append, Prod.mk.injEq, and_true, true_and]
    omega
  refine ⟨fun h => ⟨by omega, by have := of_decide_eq_true h; omega⟩, cond_of (fun c => ?_) (fun c => ?_)⟩
  · simp only [Bool.and_eq_true, decide_eq_true_eq, Bool.not_eq_true', decide_eq_false_iff_not] at c
    obtain ⟨c1, c2⟩ := c
    have hk : k < s.size := by omega
    have hd := bys_drop hk
    refine ⟨⟨by omega, by omega⟩, cond_of (fun d => ?_) (fun d => ?_)⟩
    · refine fail 0 _ ?_ (by omega)
      rw [hd]
      refine txBad c2 ?_
      simp only [Bool.or_eq_true, decide_eq_true_eq] at d
      rcases d with (d | d) | d
      · exact .inl d
      · exact .inr (.inl d)
      · exact .inr (.inr (by omega))
    have hb : ¬ (byteAt' s k < 32 ∨ 126 < byteAt' s k ∨ l.length = 4096) := by
      simp only [Bool.or_eq_false_iff, decide_eq_false_iff_not] at d
      rintro (h | h | h)
      · exact d.1.1 h
      · exact d.1.2 h
      · exact d.2 (by omega)
    have hl : l.length < 4096 := by
      have : ¬ l.length = 4096 := fun h => hb (.inr (.inr h))
      omega
    refine ⟨⟨by omega, by omega⟩, cond_of (fun e => ?_) (fun e => ?_)⟩
    · have e := of_decide_eq_true e
      have tk : ((k : Int) + 1).toNat = k + 1 := by omega
      rw [hR, tk]
      have he := tx_esc ((bys s).drop (k + 1)) l.length (by omega)
      rw [← e, ← hd] at he
      refine ⟨by omega, by omega, p2, by simp; omega, by simp; omega, cond_of (fun f => ?_) (fun f => ?_)⟩
      · have f : esO ((bys s).drop (k + 1)) = false := by simpa using f
        rw [f] at he
        exact fail _ _ he (by omega)
      · have f : esO ((bys s).drop (k + 1)) = true := by simpa using f
        have hle := es_len f
        rw [List.length_drop, bys_length] at hle
        rw [if_pos f, List.drop_drop, show k + 1 + esK ((bys s).drop (k + 1)) = k + (1 + esK ((bys s).drop (k + 1))) by omega] at he
        exact step _ _ _ (by omega) (by omega) hl (by omega) he
    · have e := of_decide_eq_false e
      refine ⟨by simp; omega, by simp; omega, step _ 1 _ (Nat.le_refl _) (by omega) hl (by omega) ?_⟩
      rw [hd]; exact txPl c2 hb e
  · refine cond_of (fun d => ?_) (fun d => ?_)
    · have d := of_decide_eq_true d
      refine fail 0 _ ?_ (by omega)
      rw [bys_end (by omega)]; rfl
    · have d := of_decide_eq_false d
      have hk : k < s.size := by omega
      have c34 : byteAt' s k = 34 := by
        rw [decide_eq_true (show (k : Int) < (s.size : Int) by omega), Bool.true_and] at c
        simpa using c
      have hx : txG ((bys s).drop k) l.length = ([], 1, true) := by rw [bys_drop hk]; exact tx34 c34
      rw [hx] at h4
      rw [h4] at eS eK eO
      rw [eS, eK, eO, take_dI, strOfD_dI]
      exact ⟨⟨by omega, by omega⟩, rfl, by simp only; omega, by simp, rfl⟩
end Go.Proofs.YtlfafkeamppakaaDoor.XT
