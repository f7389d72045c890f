/- Contracts, by the symbolic evaluator. -/
import Derived.Test.YtnhfkdgambncfaaGreatDoorQTO1
import Derived.Test.YtnhfkdgambncfaaGreatDoorProg
set_option linter.unusedVariables false
set_option linter.unusedSimpArgs false
set_option linter.unusedSectionVars false
namespace Go.Proofs.YtnhfkdgambncfaaGreatDoor.XT
open Go Go.RowKit Go.Proofs.YtnhfkdgambncfaaGreatDoor.Sv
set_option maxRecDepth 100000
def lastP (l : List D) : Nat → ByteArray
  | 0 => (ByteArray.mk #[])
  | k + 1 => (D.str (D.fld (nthD l k) 0))
def byM (l : List D) : Nat → Mp
  | 0 => newM
  | k + 1 => putM .s (.s ((D.str (D.fld (nthD l k) 0)))) (etaD schT (nthD l k)) (byM l k)
def badS (l : List D) (i : Nat) : Bool := decide ((i : Int) = 256) || !decide (schI (nthD l i) = 0) || (decide (0 < (i : Int)) && (ltS ((D.str (D.fld (nthD l i) 0))) (lastP l i) || decide ((D.str (D.fld (nthD l i) 0)) = lastP l i)))
def findS (l : List D) (p : ByteArray) : Option D := (getE .s (.s p) (byM l l.length).es)
def errW (l : List D) (x : D) : Int := if mayT ((D.fld x 1)) ≠ 0 then mayT ((D.fld x 1)) else match findS l ((D.str (D.fld ((D.fld x 1)) 1))) with
  | none => 5
  | some s => fitsI s x
def keyW (l : List D) (x : D) : ByteArray := sL (keyL (bys ((D.str (D.fld ((D.fld x 1)) 1)))) ++ [0, 1]) ++ sL (numL ((D.int (D.fld ((D.fld x 1)) 0)))) ++ (match findS l ((D.str (D.fld ((D.fld x 1)) 1))) with
  | none => (ByteArray.mk #[])
  | some s => bif (s.fld 2).bool then sL (valB ((D.fld ((D.fld x 1)) 2))) else (ByteArray.mk #[]))
def setK (l w : List D) : Nat → Mp
  | 0 => newM
  | k + 1 => putM .s (.s (keyW l (nthD w k))) (.t []) (setK l w k)
def firstF (n : Nat) (f : Nat → Bool) : Nat := ((List.range n).find? f).getD n
def ksM (m : Mp) : List D := m.es.map fun e => e.2.1
noncomputable def clm (l w : List D) : List D := if firstF l.length (badS l) < l.length then [.l [], .i (firstF l.length (badS l)), .i 43] else if 256 < w.length then [.l [], .i 256, .i 4]
  else if firstF w.length (fun i => !decide (errW l (nthD w i) = 0)) < w.length then [.l [], .i (firstF w.length (fun i => !decide (errW l (nthD w i) = 0))), .i (errW l (nthD w (firstF w.length (fun i => !decide (errW l (nthD w i) = 0)))))]
  else [.l (srtD (ksM (setK l w w.length))), .i w.length, .i 0]
abbrev okS (s : D) : Prop := ((D.str (D.fld s 0))).size ≤ 9223372036854775807
theorem getE_put (a k v : D) (n : Nat) : ∀ es : List (Nat × D × D), getE .s a (putE .s k v n es) = if a.str = k.str then some v else getE .s a es
  | [] => by
    simp only [putE, getE, keyEq]
    by_cases h : a.str = k.str
    · rw [decide_eq_true h, if_pos h]; rfl
    · rw [decide_eq_false h, if_neg h]; rfl
  | e :: r => by
    simp only [putE, keyEq]
    by_cases h : k.str = e.2.1.str
    · rw [decide_eq_true h]
      simp only [cond_true, getE, keyEq]
      by_cases h2 : a.str = k.str
      · rw [decide_eq_true h2, if_pos h2]; rfl
      · rw [decide_eq_false h2, if_neg h2, decide_eq_false (fun h3 => h2 (h3.trans h.symm))]; rfl
    · rw [decide_eq_false h]
      simp only [cond_false, getE, keyEq]
      rw [getE_put a k v n r]
      by_cases h2 : a.str = k.str
      · rw [if_pos h2, if_pos h2, decide_eq_false (fun h3 => h (h2.symm.trans h3))]; rfl
      · rw [if_neg h2, if_neg h2]
theorem putE_len (k v : D) (n : Nat) : ∀ es : List (Nat × D × D), (putE .s k v n es).length ≤ es.length + 1
  | [] => by simp [putE]
  | e :: r => by
    simp only [putE]
    cases keyEq .s k e.2.1 with
    | true => simp
    | false => have := putE_len k v n r; simp; exact this
theorem putE_key {k v : D} {n : Nat} (hk : k = .s k.str) : ∀ {es : List (Nat × D × D)}, (∀ e ∈ es, e.2.1 = .s e.2.1.str) → ∀ e ∈ putE .s k v n es, e.2.1 = .s e.2.1.str
  | [], _, e, he => by simp only [putE, List.mem_singleton] at he; subst he; exact hk
  | x :: r, h, e, he => by
    simp only [putE] at he
    cases hq : keyEq .s k x.2.1 with
    | true =>
      rw [hq] at he
      rcases List.mem_cons.1 he with rfl | he
      · exact hk
      · exact h e (List.mem_cons_of_mem _ he)
    | false =>
      rw [hq] at he
      rcases List.mem_cons.1 he with rfl | he
      · exact h _ List.mem_cons_self
      · exact putE_key hk (fun y hy => h y (List.mem_cons_of_mem _ hy)) e he
theorem setK_len (l w : List D) : ∀ k, (setK l w k).es.length ≤ k
  | 0 => Nat.le_refl _
  | k + 1 => Nat.le_trans (putE_len _ _ _ _) (Nat.succ_le_succ (setK_len l w k))
theorem setK_key (l w : List D) : ∀ k, ∀ e ∈ (setK l w k).es, e.2.1 = .s e.2.1.str
  | 0, _, h => by cases h
  | k + 1, e, h => putE_key rfl (setK_key l w k) e h
theorem byM_find (l : List D) (p : D) : ∀ (k : Nat) (s : D), getE .s p (byM l k).es = some s → ∃ j, j < k ∧ s = etaD schT (nthD l j) ∧ p.str = (D.str (D.fld (nthD l j) 0))
  | 0, _, h => by cases h
  | k + 1, s, h => by
    have h : getE .s p (putE .s (.s ((D.str (D.fld (nthD l k) 0)))) (etaD schT (nthD l k)) (byM l k).ck (byM l k).es) = some s := h
    rw [getE_put] at h
    split at h
    · rename_i e; cases h; exact ⟨k, Nat.lt_succ_self k, rfl, e⟩
    · obtain ⟨j, h1, h2⟩ := byM_find l p k s h; exact ⟨j, by omega, h2⟩
theorem firstF_at {n k : Nat} {f : Nat → Bool} (hk : k < n) (h : f k = true) (h0 : ∀ j, j < k → f j = false) : firstF n f = k := by
  unfold firstF
  have : (List.range n).find? f = some k := by
    rw [List.find?_range_eq_some]
    exact ⟨h, List.mem_range.2 hk, fun j hj => by rw [h0 j hj]; rfl⟩
  rw [this]; rfl
theorem firstF_none {n : Nat} {f : Nat → Bool} (h0 : ∀ j, j < n → f j = false) : firstF n f = n := by
  unfold firstF
  have : (List.range n).find? f = none := List.find?_eq_none.2 fun j hj => by rw [h0 j (List.mem_range.1 hj)]; exact Bool.false_ne_true
  rw [this]; rfl
theorem mem_nthD {l : List D} {j : Nat} (h : j < l.length) : nthD l j ∈ l := List.mem_of_getElem? (get_nthD h)
theorem left_nil (m : Mp) : leftM m [] = m.es := List.filter_eq_self.2 fun _ _ => rfl
theorem app_em (x : ByteArray) : x ++ (ByteArray.mk #[]) = x := by
  apply ByteArray.ext
  apply Array.ext'
  simp [ByteArray.data_append]
theorem sk_fact {s x : D} (h : fitsI s x = 0) : schI s = 0 ∧ mayT ((D.fld x 1)) = 0 := by
  unfold fitsI at h
  split at h
  · rename_i h0; exact absurd h h0
  · rename_i h0
    split at h
    · rename_i h1; exact absurd h h1
    · rename_i h1; exact ⟨by omega, by omega⟩
noncomputable def claimsC : Con := ⟨[.d false (.l schT), .d false (.l wrT)], fun ds => (fun (a : D) (b : D) => [a.list.length < 4611686018427387904, b.list.length < 4611686018427387904, ∀ s ∈ a.list, okS s, ∀ x ∈ b.list, okT ((D.fld x 1))]) (nthD ds 0) (nthD ds 1), [.d (.l .s), .d (.i .i64), .d (.i .i64)], fun ds => (fun (a : D) (b : D) => [nthD (clm a.list b.list) 0, nthD (clm a.list b.list) 1, nthD (clm a.list b.list) 2]) (nthD ds 0) (nthD ds 1), fun ds => []⟩
noncomputable def claimsC_an : Anns := fun f i => match f, i with
  | 5, 4 => some fun A st => match A.get 21, A.get 7 with
    | some (.dl _ _ xs), some (.mpv m) => ⟨Nat, fun k => [(23, .v (.int .i64 k)), (8, .v (.string (lastP xs k)))], fun k => [(m, .mp .s schT (byM xs k))], fun k => k ≤ xs.length ∧ ∀ j, j < k → badS xs j = false, fun k => xs.length - k⟩
    | _, _ => LAnn.bad
  | 5, 14 => some fun A st => match A.get 21, A.get 57, A.get 11 with
    | some (.dl _ _ xs), some (.dl _ _ ws), some (.mpv m) => ⟨Nat, fun k => [(59, .v (.int .i64 k))], fun k => [(m, .mp .s (.t []) (setK xs ws k))], fun k => k ≤ ws.length ∧ ∀ j, j < k → errW xs (nthD ws j) = 0, fun k => ws.length - k⟩
    | _, _, _ => LAnn.bad
  | 21, 2000003 => some fun A st => ⟨Unit, fun _ => [], fun _ => [(3, .q 9 .s [])], fun _ => True, fun _ => 0⟩
  | 21, 3 => some fun A st => match A.get 6 with
    | some (.ptr i 0) => match st.h.get i with
      | some (.it l n _) => match st.h.get l with
        | some (.mp _ _ m) => ⟨List Nat × List D, fun g => [(3, .ow st.nx g.2.length)], fun g => [(i, .it l n g.1), (st.nx, .q 9 .s g.2)], fun g => (g.2 ++ (leftM m g.1).map fun e => e.2.1).Perm (ksM m), fun g => (leftM m g.1).length⟩
        | _ => LAnn.bad
      | _ => LAnn.bad
    | _ => LAnn.bad
  | _, _ => none
theorem claimsC_vc (a b : D) : (∃ (g : Nat), EqI 0 (↑g : Int) ∧ (ByteArray.mk #[]) = lastP a.list g ∧ newM = byM a.list g ∧ (g ≤ a.list.length ∧ ∀ (j : Nat), j < g → badS a.list j = false) ∧ ∀ (g : Nat), (g ≤ a.list.length ∧ ∀ (j : Nat), j < g → badS a.list j = false) → bif decide ((↑g : Int) < (↑a.list.length : Int)) then Idx (↑g : Int) a.list.length ∧ (decide ((↑g : Int) = 256) = false → ((nthD a.list g).fld 0).str.size ≤ 9223372036854775807) ∧ bif decide ((↑g : Int) = 256) || !decide (schI (nthD a.list g) = 0) || decide (0 < (↑g : Int)) && (Op.bytesLess ((nthD a.list g).fld 0).str.toList (lastP a.list g).toList || decide (((nthD a.list g).fld 0).str = lastP a.list g)) then [] = (nthD (clm a.list b.list) 0).list ∧ (↑g : Int) = (nthD (clm a.list b.list) 1).int ∧ EqI 43 (nthD (clm a.list b.list) 2).int else ((nthD a.list g).fld 0).str = ((nthD a.list g).fld 0).str ∧ I64 ((↑g : Int) + 1) ∧ ∃ (g_1 : Nat), (↑g : Int) + 1 = (↑g_1 : Int) ∧ ((nthD a.list g).fld 0).str = lastP a.list g_1 ∧ putM DT.s (D.s ((nthD a.list g).fld 0).str) (putF schT (nthD a.list g) []) (byM a.list g) = byM a.list g_1 ∧ (g_1 ≤ a.list.length ∧ ∀ (j : Nat), j < g_1 → badS a.list j = false) ∧ a.list.length - g_1 < a.list.length - g else bif decide (256 < (↑b.list.length : Int)) then [] = (nthD (clm a.list b.list) 0).list ∧ EqI 256 (nthD (clm a.list b.list) 1).int ∧ EqI 4 (nthD (clm a.list b.list) 2).int else ∃ (g_1 : Nat), EqI 0 (↑g_1 : Int) ∧ newM = setK a.list b.list g_1 ∧ (g_1 ≤ b.list.length ∧ ∀ (j : Nat), j < g_1 → errW a.list (nthD b.list j) = 0) ∧ ∀ (g_2 : Nat), (g_2 ≤ b.list.length ∧ ∀ (j : Nat), j < g_2 → errW a.list (nthD b.list j) = 0) → bif decide ((↑g_2 : Int) < (↑b.list.length : Int)) then Idx (↑g_2 : Int) b.list.length ∧ ((D.fld (D.fld (nthD b.list g_2) 1) 1)).str.size ≤ 9223372036854775807 ∧ 0 ≤ (((D.fld (D.fld (nthD b.list g_2) 1) 2)).fld 4).int ∧ bif decide (mayT (D.fld (nthD b.list g_2) 1) = 0) && !hasM DT.s (D.s ((D.fld (D.fld (nthD b.list g_2) 1) 1)).str) (byM a.list g) then [] = (nthD (clm a.list b.list) 0).list ∧ (↑g_2 : Int) = (nthD (clm a.list b.list) 1).int ∧ EqI 5 (nthD (clm a.list b.list) 2).int else bif decide (mayT (D.fld (nthD b.list g_2) 1) = 0) then ((theM DT.s (D.s ((D.fld (D.fld (nthD b.list g_2) 1) 1)).str) (zD schT) (byM a.list g)).fld 0).str.size ≤ 9223372036854775807 ∧ ((D.fld (D.fld (nthD b.list g_2) 1) 1)).str.size ≤ 9223372036854775807 ∧ 0 ≤ (((D.fld (D.fld (nthD b.list g_2) 1) 2)).fld 4).int ∧ bif !decide (fitsI (theM DT.s (D.s ((D.fld (D.fld (nthD b.list g_2) 1) 1)).str) (zD schT) (byM a.list g)) (nthD b.list g_2) = 0) then [] = (nthD (clm a.list b.list) 0).list ∧ (↑g_2 : Int) = (nthD (clm a.list b.list) 1).int ∧ fitsI (theM DT.s (D.s ((D.fld (D.fld (nthD b.list g_2) 1) 1)).str) (zD schT) (byM a.list g)) (nthD b.list g_2) = (nthD (clm a.list b.list) 2).int else ((D.fld (D.fld (nthD b.list g_2) 1) 1)).str.size ≤ 16777216 ∧ (0 ≤ (((D.fld (nthD b.list g_2) 1)).fld 0).int ∧ (((D.fld (nthD b.list g_2) 1)).fld 0).int < 18446744073709551616) ∧ (sL (keyL (bys ((D.fld (D.fld (nthD b.list g_2) 1) 1)).str) ++ [0, 1])).size + (sL (numL (((D.fld (nthD b.list g_2) 1)).fld 0).int)).size ≤ 9223372036854775807 ∧ bif ((D.fld (theM DT.s (D.s ((D.fld (D.fld (nthD b.list g_2) 1) 1)).str) (zD schT) (byM a.list g)) 2)).bool then (0 ≤ (((D.fld (D.fld (nthD b.list g_2) 1) 2)).fld 0).int ∧ (((D.fld (D.fld (nthD b.list g_2) 1) 2)).fld 0).int < 256 ∧ I64 ((D.fld (D.fld (D.fld (nthD b.list g_2) 1) 2) 2)).int ∧ 0 ≤ (((D.fld (D.fld (nthD b.list g_2) 1) 2)).fld 4).int ∧ (((D.fld (D.fld (nthD b.list g_2) 1) 2)).fld 4).int < 18446744073709551616) ∧ (sL (keyL (bys ((D.fld (D.fld (nthD b.list g_2) 1) 1)).str) ++ [0, 1]) ++ sL (numL (((D.fld (nthD b.list g_2) 1)).fld 0).int)).size + (bif mayV (D.fld (D.fld (nthD b.list g_2) 1) 2) then sL (valB (D.fld (D.fld (nthD b.list g_2) 1) 2)) else (ByteArray.mk #[])).size ≤ 9223372036854775807 ∧ I64 ((↑g_2 : Int) + 1) ∧ ∃ (g : Nat), (↑g_2 : Int) + 1 = (↑g : Int) ∧ putM DT.s (D.s (sL (keyL (bys ((D.fld (D.fld (nthD b.list g_2) 1) 1)).str) ++ [0, 1]) ++ sL (numL (((D.fld (nthD b.list g_2) 1)).fld 0).int) ++ bif mayV (D.fld (D.fld (nthD b.list g_2) 1) 2) then sL (valB (D.fld (D.fld (nthD b.list g_2) 1) 2)) else (ByteArray.mk #[]))) (D.t []) (setK a.list b.list g_2) = setK a.list b.list g ∧ (g ≤ b.list.length ∧ ∀ (j : Nat), j < g → errW a.list (nthD b.list j) = 0) ∧ b.list.length - g < b.list.length - g_2 else I64 ((↑g_2 : Int) + 1) ∧ ∃ (g : Nat), (↑g_2 : Int) + 1 = (↑g : Int) ∧ putM DT.s (D.s (sL (keyL (bys ((D.fld (D.fld (nthD b.list g_2) 1) 1)).str) ++ [0, 1]) ++ sL (numL (((D.fld (nthD b.list g_2) 1)).fld 0).int))) (D.t []) (setK a.list b.list g_2) = setK a.list b.list g ∧ (g ≤ b.list.length ∧ ∀ (j : Nat), j < g → errW a.list (nthD b.list j) = 0) ∧ b.list.length - g < b.list.length - g_2 else bif !decide (mayT (D.fld (nthD b.list g_2) 1) = 0) then [] = (nthD (clm a.list b.list) 0).list ∧ (↑g_2 : Int) = (nthD (clm a.list b.list) 1).int ∧ mayT (D.fld (nthD b.list g_2) 1) = (nthD (clm a.list b.list) 2).int else ((D.fld (D.fld (nthD b.list g_2) 1) 1)).str.size ≤ 16777216 ∧ (0 ≤ (((D.fld (nthD b.list g_2) 1)).fld 0).int ∧ (((D.fld (nthD b.list g_2) 1)).fld 0).int < 18446744073709551616) ∧ (sL (keyL (bys ((D.fld (D.fld (nthD b.list g_2) 1) 1)).str) ++ [0, 1])).size + (sL (numL (((D.fld (nthD b.list g_2) 1)).fld 0).int)).size ≤ 9223372036854775807 ∧ bif ((D.fld (theM DT.s (D.s ((D.fld (D.fld (nthD b.list g_2) 1) 1)).str) (zD schT) (byM a.list g)) 2)).bool then (0 ≤ (((D.fld (D.fld (nthD b.list g_2) 1) 2)).fld 0).int ∧ (((D.fld (D.fld (nthD b.list g_2) 1) 2)).fld 0).int < 256 ∧ I64 ((D.fld (D.fld (D.fld (nthD b.list g_2) 1) 2) 2)).int ∧ 0 ≤ (((D.fld (D.fld (nthD b.list g_2) 1) 2)).fld 4).int ∧ (((D.fld (D.fld (nthD b.list g_2) 1) 2)).fld 4).int < 18446744073709551616) ∧ (sL (keyL (bys ((D.fld (D.fld (nthD b.list g_2) 1) 1)).str) ++ [0, 1]) ++ sL (numL (((D.fld (nthD b.list g_2) 1)).fld 0).int)).size + (bif mayV (D.fld (D.fld (nthD b.list g_2) 1) 2) then sL (valB (D.fld (D.fld (nthD b.list g_2) 1) 2)) else (ByteArray.mk #[])).size ≤ 9223372036854775807 ∧ I64 ((↑g_2 : Int) + 1) ∧ ∃ (g : Nat), (↑g_2 : Int) + 1 = (↑g : Int) ∧ putM DT.s (D.s (sL (keyL (bys ((D.fld (D.fld (nthD b.list g_2) 1) 1)).str) ++ [0, 1]) ++ sL (numL (((D.fld (nthD b.list g_2) 1)).fld 0).int) ++ bif mayV (D.fld (D.fld (nthD b.list g_2) 1) 2) then sL (valB (D.fld (D.fld (nthD b.list g_2) 1) 2)) else (ByteArray.mk #[]))) (D.t []) (setK a.list b.list g_2) = setK a.list b.list g ∧ (g ≤ b.list.length ∧ ∀ (j : Nat), j < g → errW a.list (nthD b.list j) = 0) ∧ b.list.length - g < b.list.length - g_2 else I64 ((↑g_2 : Int) + 1) ∧ ∃ (g : Nat), (↑g_2 : Int) + 1 = (↑g : Int) ∧ putM DT.s (D.s (sL (keyL (bys ((D.fld (D.fld (nthD b.list g_2) 1) 1)).str) ++ [0, 1]) ++ sL (numL (((D.fld (nthD b.list g_2) 1)).fld 0).int))) (D.t []) (setK a.list b.list g_2) = setK a.list b.list g ∧ (g ≤ b.list.length ∧ ∀ (j : Nat), j < g → errW a.list (nthD b.list j) = 0) ∧ b.list.length - g < b.list.length - g_2 else ∃ (g : Unit), ∃ (g : List Nat × List D), 0 = g.snd.length ∧ (setK a.list b.list g_2).ck = (setK a.list b.list g_2).ck ∧ [] = g.fst ∧ [] = g.snd ∧ (g.snd ++ List.map (fun (e : Nat × D × D) ↦ e.snd.fst) (leftM (setK a.list b.list g_2) g.fst)).Perm (ksM (setK a.list b.list g_2)) ∧ ∀ (g : List Nat × List D), (g.snd ++ List.map (fun (e : Nat × D × D) ↦ e.snd.fst) (leftM (setK a.list b.list g_2) g.fst)).Perm (ksM (setK a.list b.list g_2)) → (setK a.list b.list g_2).ck = (setK a.list b.list g_2).ck ∧ (leftM (setK a.list b.list g_2) g.fst = [] → g.snd.length = g.snd.length ∧ g.snd.length < 4611686018427387904 ∧ 0 ≤ (↑g.snd.length : Int) ∧ (↑g.snd.length : Int) ≤ (↑g.snd.length : Int) ∧ (↑g.snd.length : Int) = (↑g.snd.length : Int) ∧ List.take g.snd.length (srtD g.snd) = (nthD (clm a.list b.list) 0).list ∧ (↑b.list.length : Int) = (nthD (clm a.list b.list) 1).int ∧ EqI 0 (nthD (clm a.list b.list) 2).int) ∧ ∀ (a_4 b_1 : List (Nat × D × D)) (e : Nat × D × D), leftM (setK a.list b.list g_2) g.fst = a_4 ++ e :: b_1 → leftM (setK a.list b.list g_2) (g.fst ++ [e.fst]) = a_4 ++ b_1 → entM (setK a.list b.list g_2) (g.fst ++ [e.fst]) = e.snd → (∃ (g_3 : Nat), (g.fst ++ [e.fst]).getLast? = some g_3 ∧ ∃ (g : Nat × D × D), g ∈ (setK a.list b.list g_2).es ∧ g.fst = g_3) → (setK a.list b.list g_2).ck = (setK a.list b.list g_2).ck ∧ (∃ (g_3 : Nat), (g.fst ++ [e.fst]).getLast? = some g_3 ∧ ∃ (g : Nat × D × D), g ∈ (setK a.list b.list g_2).es ∧ g.fst = g_3) ∧ (g.snd.length + [D.s (entM (setK a.list b.list g_2) (g.fst ++ [e.fst])).fst.str].length) * 16 ≤ 140737488355328 ∧ g.snd.length + [D.s (entM (setK a.list b.list g_2) (g.fst ++ [e.fst])).fst.str].length ≤ 9223372036854775807 ∧ ∃ (g_3 : List Nat × List D), g.snd.length + [D.s (entM (setK a.list b.list g_2) (g.fst ++ [e.fst])).fst.str].length = g_3.snd.length ∧ (setK a.list b.list g_2).ck = (setK a.list b.list g_2).ck ∧ g.fst ++ [e.fst] = g_3.fst ∧ List.take g.snd.length g.snd ++ [D.s (entM (setK a.list b.list g_2) (g.fst ++ [e.fst])).fst.str] = g_3.snd ∧ (g_3.snd ++ List.map (fun (e : Nat × D × D) ↦ e.snd.fst) (leftM (setK a.list b.list g_2) g_3.fst)).Perm (ksM (setK a.list b.list g_2)) ∧ (leftM (setK a.list b.list g_2) g_3.fst).length < (leftM (setK a.list b.list g_2) g.fst).length) = conGoal Tryz.prog (addS 41 sortsC (addS 20 vBC (addS 19 numC (addS 18 keyC (addS 17 fitsC (addS 16 mayTC (addS 15 schC noS))))))) claimsC_an 200 5 claimsC [a, b] := by kernel_rfl
theorem claimsC_ok : ConOK Tryz.prog gl 5 claimsC := con_of mo (addR_ok sortsC_ok (addS_ok vBC_ok (addS_ok numC_ok (addS_ok keyC_ok (addS_ok fitsC_ok (addS_ok mayTC_ok (addS_ok schC_ok (noS_ok _)))))))) (an := claimsC_an) 200 fun ds hl hp => by
  obtain ⟨a, b, rfl⟩ := len2 hl
  rw [← claimsC_vc]
  have p0 : a.list.length < 4611686018427387904 := hp _ (.head _)
  have p1 : b.list.length < 4611686018427387904 := hp _ (.tail _ (.head _))
  have p2 : ∀ s ∈ a.list, okS s := hp _ (.tail _ (.tail _ (.head _)))
  have p3 : ∀ x ∈ b.list, okT ((D.fld x 1)) := hp _ (.tail _ (.tail _ (.tail _ (.head _))))
  refine ⟨0, rfl, rfl, rfl, ⟨Nat.zero_le _, fun j hj => absurd hj (by omega)⟩, ?_⟩
  rintro g ⟨h1, h2⟩
  refine cond_of (fun c => ?_) (fun c => ?_)
  · have c' : g < a.list.length := by have := of_decide_eq_true c; omega
    have hs := p2 _ (mem_nthD c')
    refine ⟨⟨by omega, by omega⟩, fun _ => hs, cond_of (fun e => ?_) (fun e => ?_)⟩
    · have hb : badS a.list g = true := e
      have hr : clm a.list b.list = [.l [], .i g, .i 43] := by unfold clm; rw [firstF_at c' hb h2, if_pos c']
      rw [hr]; exact ⟨rfl, rfl, rfl⟩
    · have hb : badS a.list g = false := e
      exact ⟨rfl, ⟨by omega, by omega⟩, g + 1, by omega, rfl, rfl, ⟨by omega, fun j hj => by
        rcases Nat.lt_or_ge j g with q | q
        · exact h2 j q
        · obtain rfl : j = g := by omega
          exact hb⟩, by omega⟩
  have hg : g = a.list.length := by have := of_decide_eq_false c; omega
  subst hg
  have hF : firstF a.list.length (badS a.list) = a.list.length := firstF_none h2
  refine cond_of (fun c2 => ?_) (fun c2 => ?_)
  · have c2' : 256 < b.list.length := by have := of_decide_eq_true c2; omega
    have hr : clm a.list b.list = [.l [], .i 256, .i 4] := by unfold clm; rw [hF, if_neg (Nat.lt_irrefl _), if_pos c2']
    rw [hr]; exact ⟨rfl, rfl, rfl⟩
  have c2' : ¬ 256 < b.list.length := by have := of_decide_eq_false c2; omega
  refine ⟨0, rfl, rfl, ⟨Nat.zero_le _, fun j hj => absurd hj (by omega)⟩, ?_⟩
  rintro k ⟨k1, k2⟩
  refine cond_of (fun d => ?_) (fun d => ?_)
  · have d' : k < b.list.length := by have := of_decide_eq_true d; omega
    obtain ⟨o1, o2, o3⟩ := p3 _ (mem_nthD d')
    have hbad : errW a.list (nthD b.list k) ≠ 0 → clm a.list b.list = [.l [], .i k, .i (errW a.list (nthD b.list k))] := fun he => by
      have hf : firstF b.list.length (fun i => !decide (errW a.list (nthD b.list i) = 0)) = k := firstF_at d' (by rw [decide_eq_false he]; rfl) fun j hj => by rw [decide_eq_true (k2 j hj)]; rfl
      unfold clm; rw [hF, if_neg (Nat.lt_irrefl _), if_neg c2', hf, if_pos d']
    refine ⟨⟨by omega, by omega⟩, o2, o3.2.2.2.1, ?_⟩
    by_cases hm : mayT ((D.fld (nthD b.list k) 1)) = 0
    · rw [decide_eq_true hm]
      cases hfd : findS a.list ((D.str (D.fld ((D.fld (nthD b.list k) 1)) 1))) with
      | none =>
        have hh : hasM .s (.s ((D.str (D.fld ((D.fld (nthD b.list k) 1)) 1)))) (byM a.list a.list.length) = false := by unfold hasM; unfold findS at hfd; rw [hfd]; rfl
        have he : errW a.list (nthD b.list k) = 5 := by unfold errW; rw [if_neg (by omega), hfd]
        rw [hh]
        rw [hbad (by rw [he]; decide), he]
        exact ⟨rfl, rfl, rfl⟩
      | some s =>
        have hh : hasM .s (.s ((D.str (D.fld ((D.fld (nthD b.list k) 1)) 1)))) (byM a.list a.list.length) = true := by unfold hasM; unfold findS at hfd; rw [hfd]; rfl
        have ht : theM .s (.s ((D.str (D.fld ((D.fld (nthD b.list k) 1)) 1)))) (zD schT) (byM a.list a.list.length) = s := by unfold theM; unfold findS at hfd; rw [hfd]; rfl
        have he : errW a.list (nthD b.list k) = fitsI s (nthD b.list k) := by unfold errW; rw [if_neg (by omega), hfd]
        obtain ⟨j, j1, j2, j3⟩ := byM_find _ _ _ _ hfd
        have hsz : ((D.str (D.fld s 0))).size ≤ 9223372036854775807 := by rw [j2]; exact p2 (nthD a.list j) (mem_nthD j1)
        rw [hh, ht]
        simp only [Bool.not_true, Bool.and_false, cond_false, cond_true]
        refine ⟨hsz, o2, o3.2.2.2.1, cond_of (fun q => ?_) (fun q => ?_)⟩
        · have q' : ¬ fitsI s (nthD b.list k) = 0 := by simpa using q
          rw [hbad (by rw [he]; exact q'), he]
          exact ⟨rfl, rfl, rfl⟩
        · have q' : fitsI s (nthD b.list k) = 0 := by simpa using q
          obtain ⟨m1, m2, m3⟩ := mayT_zero hm
          have z1 := predB_size m2
          have z2 := keyL_length (bys ((D.str (D.fld ((D.fld (nthD b.list k) 1)) 1))))
          have z3 := numL_length ((D.int (D.fld ((D.fld (nthD b.list k) 1)) 0)))
          rw [bys_length] at z2
          have n1 := nb_le ((D.int (D.fld ((D.fld (nthD b.list k) 1)) 0)))
          have key : ∀ t : ByteArray, (match findS a.list ((D.str (D.fld ((D.fld (nthD b.list k) 1)) 1))) with | none => (ByteArray.mk #[]) | some s => bif (s.fld 2).bool then sL (valB ((D.fld ((D.fld (nthD b.list k) 1)) 2))) else (ByteArray.mk #[])) = t → keyW a.list (nthD b.list k) = sL (keyL (bys ((D.str (D.fld ((D.fld (nthD b.list k) 1)) 1)))) ++ [0, 1]) ++ sL (numL ((D.int (D.fld ((D.fld (nthD b.list k) 1)) 0)))) ++ t := fun t ht => by unfold keyW; rw [ht]
          have nx : ∀ X : ByteArray, keyW a.list (nthD b.list k) = X → ∃ (g : Nat), (↑k : Int) + 1 = (↑g : Int) ∧ putM DT.s (D.s X) (D.t []) (setK a.list b.list k) = setK a.list b.list g ∧ (g ≤ b.list.length ∧ ∀ (j : Nat), j < g → errW a.list (nthD b.list j) = 0) ∧ b.list.length - g < b.list.length - k := fun X hX => ⟨k + 1, by omega, by rw [← hX]; rfl, ⟨by omega, fun j hj => by
            rcases Nat.lt_or_ge j k with q | q
            · exact k2 j q
            · obtain rfl : j = k := by omega
              rw [he]; exact q'⟩, by omega⟩
          have s1 : (sL (keyL (bys ((D.str (D.fld ((D.fld (nthD b.list k) 1)) 1)))) ++ [0, 1])).size + (sL (numL ((D.int (D.fld ((D.fld (nthD b.list k) 1)) 0))))).size ≤ 1000 := by
            rw [sL_size, sL_size, List.length_append]; simp only [List.length_cons, List.length_nil]; omega
          refine ⟨by omega, o1, by omega, ?_⟩
          rw [hfd] at key
          cases hL : (s.fld 2).bool with
          | true =>
            have kt := key (sL (valB ((D.fld ((D.fld (nthD b.list k) 1)) 2)))) (by show (bif (s.fld 2).bool then _ else (ByteArray.mk #[])) = _; rw [hL]; rfl)
            have hv := valB_length (v := (D.fld ((D.fld (nthD b.list k) 1)) 2)) (mayV_size m3)
            simp only [cond_true, m3]
            refine ⟨o3, ?_, ⟨by omega, by omega⟩, nx _ kt⟩
            have hv2 : (sL (valB ((D.fld ((D.fld (nthD b.list k) 1)) 2)))).size ≤ 33554436 := by rw [sL_size]; exact hv
            rw [ByteArray.size_append]
            omega
          | false =>
            have kt := key (ByteArray.mk #[]) (by show (bif (s.fld 2).bool then _ else (ByteArray.mk #[])) = _; rw [hL]; rfl)
            simp only [cond_false]
            exact ⟨⟨by omega, by omega⟩, nx _ (by rw [kt]; exact app_em _)⟩
    · rw [decide_eq_false hm]
      have he : errW a.list (nthD b.list k) = mayT ((D.fld (nthD b.list k) 1)) := by unfold errW; rw [if_pos hm]
      rw [hbad (by rw [he]; exact hm), he]
      exact ⟨rfl, rfl, rfl⟩
  have hk : k = b.list.length := by have := of_decide_eq_false d; omega
  subst hk
  have hE : firstF b.list.length (fun i => !decide (errW a.list (nthD b.list i) = 0)) = b.list.length := firstF_none fun j hj => by rw [decide_eq_true (k2 j hj)]; rfl
  have hr : clm a.list b.list = [.l (srtD (ksM (setK a.list b.list b.list.length))), .i b.list.length, .i 0] := by unfold clm; rw [hF, if_neg (Nat.lt_irrefl _), if_neg c2', hE, if_neg (Nat.lt_irrefl _)]
  have hlen := setK_len a.list b.list b.list.length
  have hkey := setK_key a.list b.list b.list.length
  generalize setK a.list b.list b.list.length = m at hr hlen hkey ⊢
  refine ⟨(), ([], []), rfl, rfl, rfl, rfl, (by show ([] ++ (leftM m []).map fun e : Nat × D × D => e.2.1).Perm (ksM m); rw [left_nil]; exact List.Perm.refl _), ?_⟩
  rintro ⟨sn, xs⟩ hp
  replace hp : (xs ++ (leftM m sn).map fun e => e.2.1).Perm (ksM m) := hp
  have hxl : xs.length ≤ 256 := by
    have := hp.length_eq
    rw [List.length_append] at this
    have h2 : (ksM m).length = m.es.length := by simp [ksM]
    omega
  refine ⟨rfl, fun hl => ?_, fun u v e q1 q2 q3 q4 => ?_⟩
  · replace hl : leftM m sn = [] := hl
    rw [hl, List.map_nil, List.append_nil] at hp
    have e1 : List.take xs.length (srtD xs) = srtD (ksM m) := by rw [List.take_of_length_le (by rw [srtD_len]; exact Nat.le_refl _), srtD_perm hp]
    rw [hr]
    exact ⟨rfl, (by show xs.length < _; omega), (by show (0 : Int) ≤ (xs.length : Int); omega), Int.le_refl _, rfl, e1, rfl, rfl⟩
  · replace q1 : leftM m sn = u ++ e :: v := q1
    replace q2 : leftM m (sn ++ [e.1]) = u ++ v := q2
    replace q3 : entM m (sn ++ [e.1]) = e.2 := q3
    have hin : e ∈ m.es := by
      have : e ∈ leftM m sn := by rw [q1]; simp
      exact (List.mem_filter.1 this).1
    show _ ∧ _
    refine ⟨rfl, q4, (by show (xs.length + 1) * 16 ≤ _; omega), (by show xs.length + 1 ≤ _; omega), (sn ++ [e.1], xs ++ [D.s e.2.1.str]), by simp, rfl, rfl, (by show List.take xs.length xs ++ [D.s (entM m (sn ++ [e.1])).1.str] = xs ++ [D.s e.2.1.str]; rw [List.take_of_length_le (Nat.le_refl _), q3]), ?_, ?_⟩
    · show ((xs ++ [D.s e.2.1.str]) ++ (leftM m (sn ++ [e.1])).map fun e => e.2.1).Perm (ksM m)
      rw [q2, ← hkey e hin]
      rw [q1] at hp
      refine List.Perm.trans ?_ hp
      rw [List.append_assoc, List.map_append, List.map_append, List.map_cons, List.singleton_append]
      exact List.Perm.append_left _ List.perm_middle.symm
    · show (leftM m (sn ++ [e.1])).length < (leftM m sn).length
      rw [q2, q1]; simp
end Go.Proofs.YtnhfkdgambncfaaGreatDoor.XT
