/- Values sorted and put in their places: plain laws of lists of data. -/
import Derived.Test.YtcinjnkgopoclaaGreatDoorQOS
import Derived.Test.YtcinjnkgopoclaaGreatDoorQOK
set_option linter.unusedVariables false
set_option linter.unusedSimpArgs false
set_option linter.unusedSectionVars false
namespace Go.Proofs.YtcinjnkgopoclaaGreatDoor.XT
open Go Go.RowKit Go.Sort Go.Proofs.YtcinjnkgopoclaaGreatDoor.Sv
set_option maxRecDepth 100000
theorem mo : Tryz.prog.follows .mixedOrders = true := by kernel_rfl
noncomputable def cloneVC : Con := cloneC
theorem cloneVC_ok {Γ : Gl} : ConOK Tryz.prog Γ 15 cloneVC := cloneC_ok mo
abbrev ltV : V → V → Bool := ltOf cfV
/-- each value put in its place -/
def risV (xs : List D) : List D := (risL ltV (xs.map ofV)).map toV
/-- runs of equals become one -/
def ddV (xs : List D) : List D := (dd none (xs.map ofV)).map toV
theorem of_map (l : List V) : (l.map toV).map ofV = l := by rw [List.map_map]; exact (List.map_congr_left fun x _ => rfl).trans (List.map_id l)
theorem risV_at {xs : List D} {g : Nat} (c : g < xs.length) : risV (xs.take (g + 1)) = (insU ltV (ofV (nthD xs g)) (risL ltV ((xs.take g).map ofV))).map toV := by
  have e : nthD xs g = xs[g] := nthD_get (List.getElem?_eq_getElem c)
  unfold risV
  rw [List.take_succ_eq_append_getElem c, List.map_append, List.map_singleton, ris_snoc, e]
theorem ris_lenV (xs : List V) : (risL ltV xs).length ≤ xs.length := by
  have key : ∀ (ys out : List V), (ys.foldl (fun out x => insU ltV x out) out).length ≤ out.length + ys.length := by
    intro ys
    induction ys with
    | nil => intro out; simp
    | cons y r ih =>
      intro out
      have h1 := ih (insU ltV y out)
      have h2 : ∀ o : List V, (insU ltV y o).length ≤ o.length + 1 := by
        intro o
        induction o with
        | nil => simp [insU]
        | cons z q ihq =>
          rw [insU]
          split
          · simp; omega
          · split <;> simp
      have h3 := h2 out
      rw [List.foldl_cons, List.length_cons]; omega
  have := key xs []
  unfold risL
  simpa using this
theorem risV_len (xs : List D) (g : Nat) : (risV (xs.take g)).length ≤ g := by
  have := ris_lenV ((xs.take g).map ofV)
  rw [List.length_map, List.length_take] at this
  unfold risV
  rw [List.length_map]; omega
theorem setD_mid {W : List D} {j : Nat} (h : j < W.length) (r : List D) (d : D) : setD (W.take (j + 1) ++ r) j d = W.take j ++ d :: r := by
  have h1 : (W.take j).length = j := by rw [List.length_take]; omega
  rw [setD_eq (by rw [List.length_append, List.length_take]; omega), List.take_succ_eq_append_getElem h, List.append_assoc, List.set_append_right _ _ (by omega), h1, Nat.sub_self]
  rfl
theorem nthD_takeL {W r : List D} {i j : Nat} (h : j < W.length) (hi : i ≤ j) : nthD (W.take (j + 1) ++ r) i = nthD W i := by
  refine nthD_get ?_
  rw [List.getElem?_append_left (by rw [List.length_take]; omega), List.getElem?_take, if_pos (by omega)]
  exact get_nthD (by omega)
theorem shift_rhs {W : List D} {j : Nat} (h : j + 1 < W.length) : W.take (j + 1) ++ (W.drop j).take (W.length - 1 - j) = W.take (j + 1) ++ nthD W j :: (W.drop (j + 1)).take (W.length - 1 - (j + 1)) := by
  have e : nthD W j = W[j] := nthD_get (List.getElem?_eq_getElem (by omega))
  rw [List.drop_eq_getElem_cons (show j < W.length by omega), show W.length - 1 - j = (W.length - 1 - (j + 1)) + 1 by omega, List.take_succ_cons, e]
theorem nthD_smap {B : List V} {j : Nat} (h : j < B.length) : nthD (B.map toV) j = toV B[j] := by
  refine nthD_get ?_
  rw [List.getElem?_map, List.getElem?_eq_getElem h]; rfl
theorem setD_lenE : ∀ {xs : List D} {i : Nat} {d : D}, i < xs.length → (setD xs i d).length = xs.length
  | [], _, _, h => absurd h (Nat.not_lt_zero _)
  | _ :: _, 0, _, _ => rfl
  | _ :: r, i + 1, d, h => by simp only [setD, List.length_cons]; rw [setD_lenE (by simpa using h)]
theorem setD_dropE : ∀ {xs : List D} {i j : Nat} {d : D}, i < j → i < xs.length → (setD xs i d).drop j = xs.drop j
  | [], _, _, _, _, h => absurd h (Nat.not_lt_zero _)
  | _ :: _, 0, j + 1, _, _, _ => rfl
  | _ :: r, i + 1, j + 1, d, h, h' => by simp only [setD, List.drop_succ_cons]; exact setD_dropE (by omega) (by simpa using h')
theorem setD_takeE : ∀ {xs : List D} {i : Nat} {d : D}, i < xs.length → (setD xs i d).take (i + 1) = xs.take i ++ [d]
  | [], _, _, h => absurd h (Nat.not_lt_zero _)
  | _ :: _, 0, _, _ => rfl
  | _ :: r, i + 1, d, h => by simp only [setD, List.take_succ_cons, List.cons_append]; rw [setD_takeE (by simpa using h)]
theorem nthD_dropE : ∀ {xs ys : List D} {j : Nat}, xs.drop j = ys.drop j → nthD xs j = nthD ys j
  | [], [], _, _ => rfl
  | _ :: _, [], 0, h => by simp at h
  | [], _ :: _, 0, h => by simp at h
  | x :: r, y :: s, 0, h => by cases h; rfl
  | _ :: r, [], j + 1, h => by
    have h : r.drop j = ([] : List D).drop j := by simpa using h
    exact (nthD_dropE (xs := r) (ys := []) h).trans (by cases j <;> rfl)
  | [], _ :: s, j + 1, h => by
    have h : ([] : List D).drop j = s.drop j := by simpa using h
    exact (show nthD ([] : List D) (j + 1) = nthD [] j by cases j <;> rfl).trans (nthD_dropE (xs := []) (ys := s) h)
  | _ :: r, _ :: s, j + 1, h => nthD_dropE (xs := r) (ys := s) (by simpa using h)

theorem srt_ex : ∃ g : List D → List D, g = sortK ofV toV fun x y => !ltOf cfV y x := ⟨_, rfl⟩
noncomputable def srtV : List D → List D := Classical.choose srt_ex
theorem srtV_eq : srtV = sortK ofV toV fun x y => !ltOf cfV y x := Classical.choose_spec srt_ex
theorem srtV_len (xs : List D) : (srtV xs).length = xs.length := by rw [srtV_eq]; exact sortK_len _ _ _ xs
noncomputable def sortVC : Con := rowC 25 valT [11] (fun xs => xs.length < 4611686018427387904) srtV
theorem sortVC_ok {Γ : Gl} : RowOK Tryz.prog Γ 16 sortVC 25 valT [11] := by
  unfold sortVC
  rw [srtV_eq]
  exact sortV_ok
theorem srt_ris (xs : List D) : ddV (srtV xs) = risV xs := by
  rw [srtV_eq]
  unfold ddV sortK risV
  rw [of_map, goodV.sort_ris]
theorem srt_can (xs : List D) : ∀ j, j < (srtV xs).length → toV (ofV (nthD (srtV xs) j)) = nthD (srtV xs) j := by
  rw [srtV_eq]
  unfold sortK
  intro j h
  rw [List.length_map] at h
  rw [nthD_smap h]; rfl
/-- the last one of those that stand ahead -/
def lastO (p : Option V) (l : List V) : Option V := match l.getLast? with
  | some x => some x
  | none => p
theorem dd_snoc (x : V) : ∀ (l : List V) (p : Option V), dd p (l ++ [x]) = dd p l ++ (if lastO p l = some x then [] else [x])
  | [], p => by
    show dd p [x] = _
    rw [dd, dd]
    show (if p = some x then dd p [] else x :: dd (some x) []) = [] ++ (if p = some x then [] else [x])
    by_cases h : p = some x
    · rw [if_pos h, if_pos h]; rfl
    · rw [if_neg h, if_neg h]; rfl
  | y :: r, p => by
    have hl : lastO p (y :: r) = lastO (some y) r := by
      unfold lastO
      cases r with
      | nil => rfl
      | cons z q => rw [List.getLast?_cons_cons]; rfl
    have hl2 : p = some y → lastO p (y :: r) = lastO p r := by
      intro e; rw [hl, e]
    rw [List.cons_append, dd, dd]
    by_cases h : p = some y
    · rw [if_pos h, if_pos h, dd_snoc x r p, hl2 h]
    · rw [if_neg h, if_neg h, dd_snoc x r (some y), hl, List.cons_append]
/-- one more -/
theorem ddV_at {xs : List D} {j : Nat} (h : j < xs.length) : ddV (xs.take (j + 1)) = ddV (xs.take j) ++ (if 0 < j ∧ ofV (nthD xs (j - 1)) = ofV (nthD xs j) then [] else [toV (ofV (nthD xs j))]) := by
  have e : nthD xs j = xs[j] := nthD_get (List.getElem?_eq_getElem h)
  unfold ddV
  rw [List.take_succ_eq_append_getElem h, List.map_append, List.map_singleton, dd_snoc, List.map_append, e]
  congr 1
  have hl : lastO none ((xs.take j).map ofV) = if 0 < j then some (ofV (nthD xs (j - 1))) else none := by
    unfold lastO
    by_cases k : 0 < j
    · have h1 : (xs.take j).getLast? = some (nthD xs (j - 1)) := by
        rw [List.getLast?_eq_getElem?, List.length_take, List.getElem?_take, if_pos (by omega), show min j xs.length - 1 = j - 1 by omega]
        exact get_nthD (by omega)
      rw [List.getLast?_map, h1, if_pos k]; rfl
    · have : j = 0 := by omega
      subst this; rfl
  rw [hl]
  by_cases k : 0 < j
  · rw [if_pos k]
    by_cases q : ofV (nthD xs (j - 1)) = ofV xs[j]
    · rw [if_pos (by rw [q]), if_pos ⟨k, q⟩]; rfl
    · rw [if_neg (fun z => q (Option.some.inj z)), if_neg (fun z => q z.2)]; rfl
  · rw [if_neg k, if_neg (by simp), if_neg (fun z => k z.1)]; rfl
theorem ddV_len {xs : List D} : ∀ {j : Nat}, j ≤ xs.length → (ddV (xs.take j)).length ≤ j
  | 0, _ => Nat.le_refl _
  | j + 1, h => by
    have ih := ddV_len (xs := xs) (j := j) (by omega)
    rw [ddV_at (by omega), List.length_append]
    split
    · simp; omega
    · simp; omega
/-- none is the same as the one ahead -/
theorem ddV_none {xs : List D} (hc : ∀ j, j < xs.length → toV (ofV (nthD xs j)) = nthD xs j) : ∀ {k : Nat}, k ≤ xs.length → (∀ j, 0 < j → j < k → ofV (nthD xs j) ≠ ofV (nthD xs (j - 1))) → ddV (xs.take k) = xs.take k
  | 0, _, _ => rfl
  | k + 1, h, hn => by
    rw [ddV_at (by omega), ddV_none hc (k := k) (by omega) fun j h1 h2 => hn j h1 (by omega), if_neg (fun z => hn k z.1 (by omega) z.2.symm), hc k (by omega), List.take_succ_eq_append_getElem (show k < xs.length by omega)]
    congr 2
    exact nthD_get (List.getElem?_eq_getElem (by omega))
theorem ddV_lt {xs : List D} {k : Nat} (h0 : (ddV (xs.take (k + 1))).length = k) : ∀ {j : Nat}, k + (j + 1) ≤ xs.length → (ddV (xs.take (k + (j + 1)))).length < k + (j + 1)
  | 0, _ => by rw [h0]; omega
  | j + 1, h => by
    have ih := ddV_lt h0 (j := j) (by omega)
    rw [show k + (j + 1 + 1) = (k + (j + 1)) + 1 by omega, ddV_at (by omega), List.length_append]
    split
    · simp; omega
    · simp; omega
end Go.Proofs.YtcinjnkgopoclaaGreatDoor.XT
