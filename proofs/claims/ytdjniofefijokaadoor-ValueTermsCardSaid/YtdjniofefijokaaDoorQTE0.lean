/- The terms of a text: rows of texts. -/
import Derived.Test.YtdjniofefijokaaDoorQPV
import Derived.Test.YtdjniofefijokaaDoorQS27
import Derived.Test.YtdjniofefijokaaDoorQS24
import Derived.Test.YtdjniofefijokaaDoorProg
set_option linter.unusedVariables false
set_option linter.unusedSimpArgs false
set_option linter.unusedSectionVars false
namespace Go.Proofs.YtdjniofefijokaaDoor.XT
open Go Go.RowKit Go.Proofs.YtdjniofefijokaaDoor.Sv
theorem mo : Tryd.prog.follows .mixedOrders = true := by kernel_rfl
theorem gtS (x y : ByteArray) : (!(ltS x y || decide (x = y))) = ltS y x := by
  by_cases h : x = y
  · subst h; simp [ordS.irr]
  · rw [decide_eq_false h, Bool.or_false]
    cases h1 : ltS x y with
    | true =>
      cases h2 : ltS y x with
      | true => have := ordS.tr _ _ _ h1 h2; rw [ordS.irr] at this; cases this
      | false => rfl
    | false =>
      rcases ordS.tot x y h with k | k
      · rw [h1] at k; cases k
      · rw [k]; rfl
/-- each text put in its place -/
def risD (xs : List D) : List D := (risL ltS (xs.map D.str)).map D.s
/-- runs of equals become one -/
def ddD (xs : List D) : List D := (dd none (xs.map D.str)).map D.s
def tmD (s : ByteArray) : List D := (termsL s).map D.s
def rawP (s : ByteArray) (k : Nat) : List Int × List ByteArray := if k ≤ s.size then runT s k else ([], rawT s)
theorem str_map (l : List ByteArray) : (l.map D.s).map D.str = l := by rw [List.map_map]; exact (List.map_congr_left fun x _ => rfl).trans (List.map_id l)
theorem risD_at {xs : List D} {g : Nat} (c : g < xs.length) : risD (xs.take (g + 1)) = (insU ltS (nthD xs g).str (risL ltS ((xs.take g).map D.str))).map D.s := by
  have e : nthD xs g = xs[g] := nthD_get (List.getElem?_eq_getElem c)
  unfold risD
  rw [List.take_succ_eq_append_getElem c, List.map_append, List.map_singleton, ris_snoc, e]
theorem ris_len (xs : List ByteArray) : (risL ltS xs).length ≤ xs.length := by
  have key : ∀ (ys out : List ByteArray), (ys.foldl (fun out x => insU ltS x out) out).length ≤ out.length + ys.length := by
    intro ys
    induction ys with
    | nil => intro out; simp
    | cons y r ih =>
      intro out
      have h1 := ih (insU ltS y out)
      have h2 : ∀ o : List ByteArray, (insU ltS y o).length ≤ o.length + 1 := by
        intro o
        induction o with
        | nil => simp [insU]
        | cons z q ihq =>
          rw [insU]
          split
          · simp; omega
          · split <;> simp
      have h3 := h2 out
      rw [List.foldl_cons, List.length_cons]; omega
  have := key xs []
  unfold risL
  simpa using this
theorem risD_len (xs : List D) (g : Nat) : (risD (xs.take g)).length ≤ g := by
  have := ris_len ((xs.take g).map D.str)
  rw [List.length_map, List.length_take] at this
  unfold risD
  rw [List.length_map]; omega
theorem setD_mid {W : List D} {j : Nat} (h : j < W.length) (r : List D) (d : D) : setD (W.take (j + 1) ++ r) j d = W.take j ++ d :: r := by
  have h1 : (W.take j).length = j := by rw [List.length_take]; omega
  rw [setD_eq (by rw [List.length_append, List.length_take]; omega), List.take_succ_eq_append_getElem h, List.append_assoc, List.set_append_right _ _ (by omega), h1, Nat.sub_self]
  rfl
theorem nthD_takeL {W r : List D} {i j : Nat} (h : j < W.length) (hi : i ≤ j) : nthD (W.take (j + 1) ++ r) i = nthD W i := by
  refine nthD_get ?_
  rw [List.getElem?_append_left (by rw [List.length_take]; omega), List.getElem?_take, if_pos (by omega)]
  exact get_nthD (by omega)
theorem shift_rhs {W : List D} {j : Nat} (h : j + 1 < W.length) : W.take (j + 1) ++ (W.drop j).take (W.length - 1 - j) = W.take (j + 1) ++ nthD W j :: (W.drop (j + 1)).take (W.length - 1 - (j + 1)) := by
  have e : nthD W j = W[j] := nthD_get (List.getElem?_eq_getElem (by omega))
  rw [List.drop_eq_getElem_cons (show j < W.length by omega), show W.length - 1 - j = (W.length - 1 - (j + 1)) + 1 by omega, List.take_succ_cons, e]
theorem nthD_smap {B : List ByteArray} {j : Nat} (h : j < B.length) : nthD (B.map D.s) j = D.s B[j] := by
  refine nthD_get ?_
  rw [List.getElem?_map, List.getElem?_eq_getElem h]; rfl
theorem rawP_0 (s : ByteArray) : rawP s 0 = ([], []) := by unfold rawP; rw [if_pos (Nat.zero_le _)]; rfl
theorem rawP_le {s : ByteArray} {g : Nat} (h : g ≤ s.size) : rawP s g = runT s g := by unfold rawP; rw [if_pos h]
theorem rawP_end (s : ByteArray) : rawP s (s.size + 1) = ([], rawT s) := by unfold rawP; rw [if_neg (by omega)]
theorem endT_fst (st : List Int × List ByteArray) : (endT st).1 = [] := by
  unfold endT
  cases h : decide (0 < st.1.length) with
  | true => rw [cond_true]
  | false => rw [cond_false]; exact List.eq_nil_of_length_eq_zero (by have := of_decide_eq_false h; omega)
theorem rawP_lens {s : ByteArray} {g : Nat} (h : g ≤ s.size + 1) : (rawP s g).1.length ≤ s.size ∧ (rawP s g).2.length ≤ s.size + 1 := by
  rcases Nat.lt_or_ge g (s.size + 1) with k | k
  · rw [rawP_le (by omega)]
    have := runT_len s g (by omega)
    omega
  · have : g = s.size + 1 := by omega
    subst this
    rw [rawP_end]
    have g1 := (endT_len (runT s s.size)).2
    have g2 := (runT_len s s.size (Nat.le_refl _)).2
    refine ⟨Nat.zero_le _, ?_⟩
    show (rawT s).length ≤ _
    unfold rawT; omega
theorem end_64 {st : List Int × List ByteArray} (h : 0 < st.1.length) : (endT st).2 = st.2 ++ [sL (st.1.take 64)] := by unfold endT; rw [decide_eq_true h, cond_true]
theorem end_0 {st : List Int × List ByteArray} (h : ¬ 0 < st.1.length) : (endT st).2 = st.2 := by unfold endT; rw [decide_eq_false h, cond_false]
theorem str_take (l : List Int) (n : Nat) : strOfD (List.take n (dI l)) = sL (l.take n) := by rw [dI_take, strOfD_dI]
theorem up_tm {c : Int} (h : (decide (65 ≤ c) && decide (c ≤ 90)) = true) : IntKind.u8.wrap (c + 32) = c + 32 ∧ (decide (97 ≤ c + 32) && decide (c + 32 ≤ 122) || decide (48 ≤ c + 32) && decide (c + 32 ≤ 57) || decide (127 < c + 32)) = true := by
  rw [Bool.and_eq_true, decide_eq_true_iff, decide_eq_true_iff] at h
  refine ⟨?_, ?_⟩
  · rw [wrap8]; omega
  · rw [decide_eq_true (show 97 ≤ c + 32 by omega), decide_eq_true (show c + 32 ≤ 122 by omega)]; rfl
theorem tm_eq (c : Int) : (decide (97 ≤ c) && decide (c ≤ 122) || decide (48 ≤ c) && decide (c ≤ 57) || decide (127 < c)) = isTm c := by unfold isTm; rw [Bool.or_assoc]
theorem step_up {st : List Int × List ByteArray} {c : Int} (h : isUp c = true) : stepT st c = (st.1 ++ [c + 32], st.2) := by unfold stepT low; rw [h]; rfl
theorem step_tm {st : List Int × List ByteArray} {c : Int} (h : isUp c = false) (h2 : isTm c = true) : stepT st c = (st.1 ++ [c], st.2) := by unfold stepT low; rw [h, h2]; rfl
theorem step_no {st : List Int × List ByteArray} {c : Int} (h : isUp c = false) (h2 : isTm c = false) : stepT st c = endT st := by unfold stepT; rw [h, h2]; rfl
theorem setD_lenE : ∀ {xs : List D} {i : Nat} {d : D}, i < xs.length → (setD xs i d).length = xs.length
  | [], _, _, h => absurd h (Nat.not_lt_zero _)
  | _ :: _, 0, _, _ => rfl
  | _ :: r, i + 1, d, h => by simp only [setD, List.length_cons]; rw [setD_lenE (by simpa using h)]
theorem setD_dropE : ∀ {xs : List D} {i j : Nat} {d : D}, i < j → i < xs.length → (setD xs i d).drop j = xs.drop j
  | [], _, _, _, _, h => absurd h (Nat.not_lt_zero _)
  | _ :: _, 0, j + 1, _, _, _ => rfl
  | _ :: r, i + 1, j + 1, d, h, h' => by simp only [setD, List.drop_succ_cons]; exact setD_dropE (by omega) (by simpa using h')
theorem setD_takeE : ∀ {xs : List D} {i : Nat} {d : D}, i < xs.length → (setD xs i d).take (i + 1) = xs.take i ++ [d]
  | [], _, _, h => absurd h (Nat.not_lt_zero _)
  | _ :: _, 0, _, _ => rfl
  | _ :: r, i + 1, d, h => by simp only [setD, List.take_succ_cons, List.cons_append]; rw [setD_takeE (by simpa using h)]
theorem nthD_dropE : ∀ {xs ys : List D} {j : Nat}, xs.drop j = ys.drop j → nthD xs j = nthD ys j
  | [], [], _, _ => rfl
  | _ :: _, [], 0, h => by simp at h
  | [], _ :: _, 0, h => by simp at h
  | x :: r, y :: s, 0, h => by cases h; rfl
  | _ :: r, [], j + 1, h => by
    have h : r.drop j = ([] : List D).drop j := by simpa using h
    exact (nthD_dropE (xs := r) (ys := []) h).trans (by cases j <;> rfl)
  | [], _ :: s, j + 1, h => by
    have h : ([] : List D).drop j = s.drop j := by simpa using h
    exact (show nthD ([] : List D) (j + 1) = nthD [] j by cases j <;> rfl).trans (nthD_dropE (xs := []) (ys := s) h)
  | _ :: r, _ :: s, j + 1, h => nthD_dropE (xs := r) (ys := s) (by simpa using h)
end Go.Proofs.YtdjniofefijokaaDoor.XT
