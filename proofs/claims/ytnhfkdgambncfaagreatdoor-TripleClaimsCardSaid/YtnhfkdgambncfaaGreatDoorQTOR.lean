/- Rows of texts, each once, rising: plain. -/
import Derived.Test.YtnhfkdgambncfaaGreatDoorQTO2
import Derived.Test.YtnhfkdgambncfaaGreatDoorQPU
set_option linter.unusedVariables false
set_option linter.unusedSimpArgs false
set_option linter.unusedSectionVars false
namespace Go.Proofs.YtnhfkdgambncfaaGreatDoor.XT
open Go Go.RowKit Go.Proofs.YtnhfkdgambncfaaGreatDoor.Sv
set_option maxRecDepth 100000
theorem bl_lt : ∀ x y : List UInt8, Op.bytesLess x y = decide (x < y)
  | [], [] => by simp [Op.bytesLess]
  | [], b :: y => by simp [Op.bytesLess]
  | a :: x, [] => by simp [Op.bytesLess]
  | a :: x, b :: y => by
    have ih := bl_lt x y
    simp only [Op.bytesLess, ih, List.cons_lt_cons_iff]
    by_cases h1 : a < b
    · simp [h1]
    · by_cases h2 : a = b
      · subst h2; simp [h1]
      · have h3 : b < a := by
          have := UInt8.lt_iff_toNat_lt (a := a) (b := b)
          have h4 : ¬ a.toNat = b.toNat := fun e => h2 (UInt8.toNat_inj.1 e)
          exact UInt8.lt_iff_toNat_lt.2 (by have h5 : ¬ a.toNat < b.toNat := fun k => h1 (UInt8.lt_iff_toNat_lt.2 k); omega)
        simp [h1, h2, h3]
theorem ordS : Ord1 ltS where
  irr x := by rw [ltS, bl_lt]; simp
  tr x y z h1 h2 := by
    rw [ltS, bl_lt, decide_eq_true_iff] at *
    exact List.lt_trans h1 h2
  tot x y h := by
    rw [ltS, ltS, bl_lt, bl_lt, decide_eq_true_iff, decide_eq_true_iff]
    have hn : x.toList ≠ y.toList := fun e => h (toList_inj e)
    by_cases h1 : x.toList < y.toList
    · exact .inl h1
    · by_cases h2 : y.toList < x.toList
      · exact .inr h2
      · exact absurd (List.le_antisymm (List.not_lt.1 h2) (List.not_lt.1 h1)) hn
def risD (xs : List D) : List D := (risL ltS (xs.map D.str)).map D.s
theorem str_map (l : List ByteArray) : (l.map D.s).map D.str = l := by rw [List.map_map]; exact (List.map_congr_left fun x _ => rfl).trans (List.map_id l)
theorem risD_at {xs : List D} {g : Nat} (c : g < xs.length) : risD (xs.take (g + 1)) = (insU ltS (nthD xs g).str (risL ltS ((xs.take g).map D.str))).map D.s := by
  have e : nthD xs g = xs[g] := nthD_get (List.getElem?_eq_getElem c)
  unfold risD
  rw [List.take_succ_eq_append_getElem c, List.map_append, List.map_singleton, ris_snoc, e]
theorem ris_len (xs : List ByteArray) : (risL ltS xs).length ≤ xs.length := by
  have key : ∀ (ys out : List ByteArray), (ys.foldl (fun out x => insU ltS x out) out).length ≤ out.length + ys.length := by
    intro ys
    induction ys with
    | nil => intro out; simp
    | cons y r ih =>
      intro out
      have h1 := ih (insU ltS y out)
      have h2 : ∀ o : List ByteArray, (insU ltS y o).length ≤ o.length + 1 := by
        intro o
        induction o with
        | nil => simp [insU]
        | cons z q ihq =>
          rw [insU]
          split
          · simp; omega
          · split <;> simp
      have h3 := h2 out
      rw [List.foldl_cons, List.length_cons]; omega
  have := key xs []
  unfold risL
  simpa using this
theorem risD_len (xs : List D) (g : Nat) : (risD (xs.take g)).length ≤ g := by
  have := ris_len ((xs.take g).map D.str)
  rw [List.length_map, List.length_take] at this
  unfold risD
  rw [List.length_map]; omega
theorem setD_mid {W : List D} {j : Nat} (h : j < W.length) (r : List D) (d : D) : setD (W.take (j + 1) ++ r) j d = W.take j ++ d :: r := by
  have h1 : (W.take j).length = j := by rw [List.length_take]; omega
  rw [setD_eq (by rw [List.length_append, List.length_take]; omega), List.take_succ_eq_append_getElem h, List.append_assoc, List.set_append_right _ _ (by omega), h1, Nat.sub_self]
  rfl
theorem nthD_takeL {W r : List D} {i j : Nat} (h : j < W.length) (hi : i ≤ j) : nthD (W.take (j + 1) ++ r) i = nthD W i := by
  refine nthD_get ?_
  rw [List.getElem?_append_left (by rw [List.length_take]; omega), List.getElem?_take, if_pos (by omega)]
  exact get_nthD (by omega)
theorem shift_rhs {W : List D} {j : Nat} (h : j + 1 < W.length) : W.take (j + 1) ++ (W.drop j).take (W.length - 1 - j) = W.take (j + 1) ++ nthD W j :: (W.drop (j + 1)).take (W.length - 1 - (j + 1)) := by
  have e : nthD W j = W[j] := nthD_get (List.getElem?_eq_getElem (by omega))
  rw [List.drop_eq_getElem_cons (show j < W.length by omega), show W.length - 1 - j = (W.length - 1 - (j + 1)) + 1 by omega, List.take_succ_cons, e]
theorem nthD_smap {B : List ByteArray} {j : Nat} (h : j < B.length) : nthD (B.map D.s) j = D.s B[j] := by
  refine nthD_get ?_
  rw [List.getElem?_map, List.getElem?_eq_getElem h]; rfl
theorem putE_strs (k v : D) (n : Nat) : ∀ es : List (Nat × D × D), (k.str ∈ es.map (fun e => e.2.1.str) ∧ (putE .s k v n es).map (fun e => e.2.1.str) = es.map (fun e => e.2.1.str)) ∨ (k.str ∉ es.map (fun e => e.2.1.str) ∧ (putE .s k v n es).map (fun e => e.2.1.str) = es.map (fun e => e.2.1.str) ++ [k.str])
  | [] => .inr ⟨List.not_mem_nil, rfl⟩
  | e :: r => by
    simp only [putE, keyEq]
    by_cases h : k.str = e.2.1.str
    · rw [decide_eq_true h]
      refine .inl ⟨?_, ?_⟩
      · rw [List.map_cons, h]; exact List.mem_cons_self
      · simp only [cond_true, List.map_cons]; rw [h]
    · rw [decide_eq_false h]
      simp only [cond_false, List.map_cons]
      rcases putE_strs k v n r with ⟨h1, h2⟩ | ⟨h1, h2⟩
      · exact .inl ⟨List.mem_cons_of_mem _ h1, by rw [h2]⟩
      · refine .inr ⟨fun h3 => ?_, by rw [h2]; rfl⟩
        rcases List.mem_cons.1 h3 with h3 | h3
        · exact h h3
        · exact h1 h3
/-- a map of texts that were put in one after the other -/
def mapT (f : Nat → ByteArray) (g : D) : Nat → Mp
  | 0 => newM
  | k + 1 => putM .s (.s (f k)) g (mapT f g k)
def strsM (m : Mp) : List ByteArray := m.es.map fun e => e.2.1.str
theorem mapT_spec (f : Nat → ByteArray) (g : D) : ∀ k, (strsM (mapT f g k)).Nodup ∧ ∀ a, a ∈ strsM (mapT f g k) ↔ a ∈ (List.range k).map f
  | 0 => ⟨List.nodup_nil, fun a => by simp [strsM, mapT, newM]⟩
  | k + 1 => by
    obtain ⟨h1, h2⟩ := mapT_spec f g k
    rw [List.range_succ, List.map_append, List.map_singleton]
    rcases putE_strs (.s (f k)) g (mapT f g k).ck (mapT f g k).es with ⟨h, e⟩ | ⟨h, e⟩
    · have e : strsM (mapT f g (k + 1)) = strsM (mapT f g k) := e
      rw [e]
      refine ⟨h1, fun a => ?_⟩
      rw [h2 a, List.mem_append, List.mem_singleton]
      constructor
      · exact .inl
      · rintro (h3 | h3)
        · exact h3
        · rw [h3]; exact (h2 _).1 h
    · have e : strsM (mapT f g (k + 1)) = strsM (mapT f g k) ++ [f k] := e
      rw [e]
      refine ⟨List.nodup_append.2 ⟨h1, List.nodup_cons.2 ⟨List.not_mem_nil, List.nodup_nil⟩, fun x hx y hy hxy => ?_⟩, fun a => ?_⟩
      · rw [List.mem_singleton.1 hy] at hxy; rw [hxy] at hx; exact h hx
      · rw [List.mem_append, List.mem_append, h2 a]
theorem sort_ris {l m : List ByteArray} (hn : l.Nodup) (hm : ∀ a, a ∈ l ↔ a ∈ m) : srtD (l.map D.s) = (risL ltS m).map D.s := by
  have tr : ∀ x y z : List UInt8, decide (x ≤ y) = true → decide (y ≤ z) = true → decide (x ≤ z) = true := fun x y z h1 h2 => decide_eq_true (List.le_trans (of_decide_eq_true h1) (of_decide_eq_true h2))
  have tot : ∀ x y : List UInt8, (decide (x ≤ y) || decide (y ≤ x)) = true := fun x y => by
    rcases List.le_total x y with h | h
    · rw [decide_eq_true h]; rfl
    · rw [decide_eq_true h, Bool.or_true]
  rw [srtD_eq]
  unfold sortT
  rw [List.map_map]
  have e0 : ((fun x : D => x.str.toList) ∘ D.s) = fun x : ByteArray => x.toList := rfl
  rw [e0]
  have s1 := List.pairwise_mergeSort tr tot (l.map fun x => x.toList)
  have pp := List.mergeSort_perm (l.map fun x : ByteArray => x.toList) (fun x y => decide (x ≤ y))
  generalize (l.map fun x : ByteArray => x.toList).mergeSort (fun x y => decide (x ≤ y)) = S at s1 pp
  have e1 : S.map (fun l => D.s ⟨l.toArray⟩) = (S.map fun l => (⟨l.toArray⟩ : ByteArray)).map D.s := by rw [List.map_map]; rfl
  rw [e1]
  congr 1
  have inj : ∀ x : List UInt8, (⟨x.toArray⟩ : ByteArray).toList = x := fun x => by rw [ByteArray.toList_eq]
  have back : ∀ x : ByteArray, (⟨x.toList.toArray⟩ : ByteArray) = x := fun x => by rw [ByteArray.toList_eq]
  have hnd : S.Nodup := pp.nodup_iff.2 (List.Pairwise.map _ (fun a b hab h => hab (toList_inj h)) hn)
  refine strict_one ordS _ _ ?_ (ris_spec ordS m).1 fun a => ?_
  · rw [List.pairwise_map]
    refine List.Pairwise.imp₂ (fun x y h1 h2 => ?_) s1 hnd
    rw [ltS, bl_lt, decide_eq_true_iff, inj, inj]
    have h1 := of_decide_eq_true h1
    by_cases h3 : x < y
    · exact h3
    · exact absurd (List.le_antisymm h1 (List.not_lt.1 h3)) h2
  · rw [(ris_spec ordS m).2 a, ← hm a, List.mem_map]
    constructor
    · rintro ⟨x, hx, rfl⟩
      obtain ⟨y, hy, rfl⟩ := List.mem_map.1 (pp.mem_iff.1 hx)
      rw [back]; exact hy
    · intro ha
      exact ⟨a.toList, pp.mem_iff.2 (List.mem_map_of_mem ha), back a⟩
theorem ks_strs {m : Mp} (h : ∀ e ∈ m.es, e.2.1 = .s e.2.1.str) : ksM m = (strsM m).map D.s := by
  unfold ksM strsM
  rw [List.map_map]
  exact List.map_congr_left fun e he => h e he
theorem mapT_key (f : Nat → ByteArray) (g : D) : ∀ k, ∀ e ∈ (mapT f g k).es, e.2.1 = .s e.2.1.str
  | 0, _, h => by cases h
  | k + 1, e, h => putE_key rfl (mapT_key f g k) e h
/-- sorted keys -/
theorem keys_ris (f : Nat → ByteArray) (g : D) (n : Nat) : srtD (ksM (mapT f g n)) = (risL ltS ((List.range n).map f)).map D.s := by
  rw [ks_strs (mapT_key f g n)]
  exact sort_ris (mapT_spec f g n).1 (mapT_spec f g n).2
theorem mapT_len (f : Nat → ByteArray) (g : D) : ∀ k, (mapT f g k).es.length ≤ k
  | 0 => Nat.le_refl _
  | k + 1 => Nat.le_trans (putE_len _ _ _ _) (Nat.succ_le_succ (mapT_len f g k))
theorem setK_map (l w : List D) : ∀ k, setK l w k = mapT (fun j => keyW l (nthD w j)) (.t []) k
  | 0 => rfl
  | k + 1 => by rw [setK, mapT, setK_map l w k]
end Go.Proofs.YtnhfkdgambncfaaGreatDoor.XT
