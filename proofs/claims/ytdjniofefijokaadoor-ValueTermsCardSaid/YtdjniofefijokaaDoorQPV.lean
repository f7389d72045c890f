/- The terms of a text: plain. -/
import Derived.Test.YtdjniofefijokaaDoorQTL
import Derived.Test.YtdjniofefijokaaDoorQPU
set_option linter.unusedVariables false
set_option linter.unusedSimpArgs false
set_option linter.unusedSectionVars false
namespace Go.Proofs.YtdjniofefijokaaDoor.XT
open Go Go.RowKit Go.Proofs.YtdjniofefijokaaDoor.Sv
/-! ### The order of texts -/
abbrev ltS (x y : ByteArray) : Bool := Op.bytesLess x.toList y.toList
theorem bl_lt : ∀ x y : List UInt8, Op.bytesLess x y = decide (x < y)
  | [], [] => by simp [Op.bytesLess]
  | [], b :: y => by simp [Op.bytesLess]
  | a :: x, [] => by simp [Op.bytesLess]
  | a :: x, b :: y => by
    have ih := bl_lt x y
    simp only [Op.bytesLess, ih, List.cons_lt_cons_iff]
    by_cases h1 : a < b
    · simp [h1]
    · by_cases h2 : a = b
      · subst h2; simp [h1]
      · have h3 : b < a := by
          have := UInt8.lt_iff_toNat_lt (a := a) (b := b)
          have h4 : ¬ a.toNat = b.toNat := fun e => h2 (UInt8.toNat_inj.1 e)
          exact UInt8.lt_iff_toNat_lt.2 (by have h5 : ¬ a.toNat < b.toNat := fun k => h1 (UInt8.lt_iff_toNat_lt.2 k); omega)
        simp [h1, h2, h3]
theorem toList_inj {x y : ByteArray} (h : x.toList = y.toList) : x = y := by
  rw [ByteArray.toList_eq, ByteArray.toList_eq] at h
  exact ByteArray.ext (Array.ext' h)
theorem ordS : Ord1 ltS where
  irr x := by rw [ltS, bl_lt]; simp
  tr x y z h1 h2 := by
    rw [ltS, bl_lt, decide_eq_true_iff] at *
    exact List.lt_trans h1 h2
  tot x y h := by
    rw [ltS, ltS, bl_lt, bl_lt, decide_eq_true_iff, decide_eq_true_iff]
    have hn : x.toList ≠ y.toList := fun e => h (toList_inj e)
    by_cases h1 : x.toList < y.toList
    · exact .inl h1
    · by_cases h2 : y.toList < x.toList
      · exact .inr h2
      · exact absurd (List.le_antisymm (List.not_lt.1 h2) (List.not_lt.1 h1)) hn
def ofL (l : List UInt8) : ByteArray := ⟨l.toArray⟩
theorem ofL_toList (x : ByteArray) : ofL x.toList = x := by rw [ByteArray.toList_eq]; rfl
theorem toList_ofL (l : List UInt8) : (ofL l).toList = l := by rw [ByteArray.toList_eq]; rfl
def sortB (xs : List ByteArray) : List ByteArray := ((xs.map fun x => x.toList).mergeSort fun x y => decide (x ≤ y)).map ofL
theorem sortB_len (xs : List ByteArray) : (sortB xs).length = xs.length := by simp [sortB, List.length_mergeSort]
theorem sortB_mem (xs : List ByteArray) (a : ByteArray) : a ∈ sortB xs ↔ a ∈ xs := by
  unfold sortB
  rw [List.mem_map]
  constructor
  · rintro ⟨l, h, rfl⟩
    rw [List.mem_mergeSort] at h
    obtain ⟨x, hx, rfl⟩ := List.mem_map.1 h
    rw [ofL_toList]; exact hx
  · intro h
    exact ⟨a.toList, by rw [List.mem_mergeSort]; exact List.mem_map.2 ⟨a, h, rfl⟩, ofL_toList a⟩
theorem sortB_sorted (xs : List ByteArray) : (sortB xs).Pairwise fun x y => ltS y x = false := by
  unfold sortB
  rw [List.pairwise_map]
  have := List.pairwise_mergeSort (le := fun x y : List UInt8 => decide (x ≤ y)) (fun a b c h1 h2 => by simp only [decide_eq_true_eq] at *; exact List.le_trans h1 h2) (fun a b => by simp only [Bool.or_eq_true, decide_eq_true_eq]; exact List.le_total a b) (xs.map fun x => x.toList)
  refine this.imp fun {a b} h => ?_
  rw [ltS, bl_lt, toList_ofL, toList_ofL, decide_eq_false_iff_not]
  exact List.not_lt.2 (of_decide_eq_true h)
/-! ### Terms -/
def isUp (c : Int) : Bool := decide (65 ≤ c) && decide (c ≤ 90)
def isTm (c : Int) : Bool := decide (97 ≤ c) && decide (c ≤ 122) || (decide (48 ≤ c) && decide (c ≤ 57) || decide (127 < c))
def low (c : Int) : Int := bif isUp c then c + 32 else c
def endT (st : List Int × List ByteArray) : List Int × List ByteArray := bif decide (0 < st.1.length) then ([], st.2 ++ [sL (st.1.take 64)]) else st
def stepT (st : List Int × List ByteArray) (c : Int) : List Int × List ByteArray := bif isUp c || isTm c then (st.1 ++ [low c], st.2) else endT st
def runT (s : ByteArray) (k : Nat) : List Int × List ByteArray := ((bys s).take k).foldl stepT ([], [])
def rawT (s : ByteArray) : List ByteArray := (endT (runT s s.size)).2
def termsL (s : ByteArray) : List ByteArray := risL ltS (rawT s)
theorem bys_length (s : ByteArray) : (bys s).length = s.size := by rw [bys, List.length_map, Array.length_toList]; rfl
theorem bys_succ {s : ByteArray} {k : Nat} (h : k < s.size) : (bys s).take (k + 1) = (bys s).take k ++ [byteAt' s k] := by
  have hl : k < (bys s).length := by rw [bys_length]; exact h
  rw [List.take_add_one, List.getElem?_eq_getElem hl]
  have : (bys s)[k] = byteAt' s k := by
    have h' : k < s.data.size := h
    simp [bys, byteAt', Array.getD, h']
    rw [dif_pos h]
  rw [this]; rfl
theorem bys_in {s : ByteArray} {c : Int} (h : c ∈ bys s) : 0 ≤ c ∧ c < 256 := by
  unfold bys at h
  obtain ⟨b, _, rfl⟩ := List.mem_map.1 h
  have := b.toNat_lt
  constructor <;> omega
theorem runT_succ {s : ByteArray} {k : Nat} (h : k < s.size) : runT s (k + 1) = stepT (runT s k) (byteAt' s k) := by
  unfold runT
  rw [bys_succ h, List.foldl_append]; rfl
theorem endT_len (st : List Int × List ByteArray) : (endT st).1.length ≤ st.1.length ∧ (endT st).2.length ≤ st.2.length + 1 := by
  unfold endT
  cases decide (0 < st.1.length) with
  | true => rw [cond_true]; simp
  | false => rw [cond_false]; simp
theorem runT_len (s : ByteArray) : ∀ k, k ≤ s.size → (runT s k).1.length ≤ k ∧ (runT s k).2.length ≤ k
  | 0, _ => by simp [runT]
  | k + 1, h => by
    obtain ⟨h1, h2⟩ := runT_len s k (by omega)
    rw [runT_succ (by omega)]
    unfold stepT
    cases isUp (byteAt' s k) || isTm (byteAt' s k) with
    | true => rw [cond_true]; simp; omega
    | false =>
      rw [cond_false]
      obtain ⟨g1, g2⟩ := endT_len (runT s k)
      omega
/-- a term's characters -/
def okC (c : Int) : Prop := 0 ≤ c ∧ c < 256 ∧ isTm c = true ∧ isUp c = false
def OkT (t : ByteArray) : Prop := ∃ l : List Int, t = sL l ∧ 0 < l.length ∧ l.length ≤ 64 ∧ ∀ c ∈ l, okC c
theorem low_ok {c : Int} (h0 : 0 ≤ c ∧ c < 256) (h : (isUp c || isTm c) = true) : okC (low c) := by
  unfold low
  cases hu : isUp c with
  | true =>
    rw [cond_true]
    unfold isUp at hu
    rw [Bool.and_eq_true, decide_eq_true_iff, decide_eq_true_iff] at hu
    refine ⟨by omega, by omega, ?_, ?_⟩
    · unfold isTm; rw [decide_eq_true (show 97 ≤ c + 32 by omega), decide_eq_true (show c + 32 ≤ 122 by omega)]; rfl
    · unfold isUp; rw [decide_eq_false (show ¬ c + 32 ≤ 90 by omega), Bool.and_false]
  | false =>
    rw [hu, Bool.false_or] at h
    rw [cond_false]
    exact ⟨h0.1, h0.2, h, hu⟩
theorem endT_ok {st : List Int × List ByteArray} (h1 : ∀ c ∈ st.1, okC c) (h2 : ∀ t ∈ st.2, OkT t) : (∀ c ∈ (endT st).1, okC c) ∧ ∀ t ∈ (endT st).2, OkT t := by
  unfold endT
  cases hd : decide (0 < st.1.length) with
  | false => rw [cond_false]; exact ⟨h1, h2⟩
  | true =>
    rw [cond_true]
    refine ⟨fun c hc => absurd hc List.not_mem_nil, fun t ht => ?_⟩
    rcases List.mem_append.1 ht with ht | ht
    · exact h2 t ht
    · rw [List.mem_singleton] at ht
      have := of_decide_eq_true hd
      exact ⟨st.1.take 64, ht, by rw [List.length_take]; omega, by rw [List.length_take]; omega, fun c hc => h1 c (List.mem_of_mem_take hc)⟩
theorem fold_ok : ∀ (cs : List Int) (st : List Int × List ByteArray), (∀ c ∈ cs, 0 ≤ c ∧ c < 256) → (∀ c ∈ st.1, okC c) → (∀ t ∈ st.2, OkT t) → (∀ c ∈ (cs.foldl stepT st).1, okC c) ∧ ∀ t ∈ (cs.foldl stepT st).2, OkT t
  | [], st, _, h1, h2 => ⟨h1, h2⟩
  | c :: r, st, h0, h1, h2 => by
    rw [List.foldl_cons]
    have hr : ∀ c ∈ r, 0 ≤ c ∧ c < 256 := fun d hd => h0 d (List.mem_cons_of_mem _ hd)
    cases hc : isUp c || isTm c with
    | true =>
      have e : stepT st c = (st.1 ++ [low c], st.2) := by unfold stepT; rw [hc, cond_true]
      rw [e]
      refine fold_ok r _ hr (fun d hd => ?_) h2
      rcases List.mem_append.1 hd with hd | hd
      · exact h1 d hd
      · rw [List.mem_singleton] at hd; rw [hd]
        exact low_ok (h0 c List.mem_cons_self) hc
    | false =>
      have e : stepT st c = endT st := by unfold stepT; rw [hc, cond_false]
      rw [e]
      obtain ⟨g1, g2⟩ := endT_ok h1 h2
      exact fold_ok r _ hr g1 g2
theorem raw_ok (s : ByteArray) : ∀ t ∈ rawT s, OkT t := by
  have h := fold_ok ((bys s).take s.size) ([], []) (fun c hc => bys_in (List.mem_of_mem_take hc)) (fun c hc => absurd hc List.not_mem_nil) (fun t ht => absurd ht List.not_mem_nil)
  exact (endT_ok h.1 h.2).2
theorem fold_run : ∀ (l : List Int) (st : List Int × List ByteArray), (∀ c ∈ l, okC c) → l.foldl stepT st = (st.1 ++ l, st.2)
  | [], st, _ => by rw [List.append_nil]; rfl
  | c :: r, st, h => by
    obtain ⟨_, _, h1, h2⟩ := h c List.mem_cons_self
    have e : stepT st c = (st.1 ++ [c], st.2) := by
      unfold stepT low; rw [h1, h2]; rfl
    rw [List.foldl_cons, e, fold_run r _ fun d hd => h d (List.mem_cons_of_mem _ hd), List.append_assoc]; rfl
theorem bys_sL {l : List Int} (h : ∀ c ∈ l, 0 ≤ c ∧ c < 256) : bys (sL l) = l := by
  unfold bys sL strOfNums
  simp only [List.map_map]
  refine (List.map_congr_left fun c hc => ?_).trans (List.map_id l)
  have := h c hc
  simp
  omega
theorem raw_one {t : ByteArray} (h : OkT t) : rawT t = [t] := by
  obtain ⟨l, rfl, h1, h2, h3⟩ := h
  have hb : bys (sL l) = l := bys_sL fun c hc => ⟨(h3 c hc).1, (h3 c hc).2.1⟩
  have hr : runT (sL l) (sL l).size = (l, []) := by
    unfold runT
    rw [hb, sL_size, List.take_length, fold_run l _ h3]; rfl
  unfold rawT
  rw [hr]
  unfold endT
  rw [decide_eq_true h1, cond_true]
  show [] ++ [sL (l.take 64)] = [sL l]
  rw [List.take_of_length_le h2]; rfl
theorem terms_mem {s t : ByteArray} (h : t ∈ termsL s) : OkT t := raw_ok s t (((ris_spec ordS (rawT s)).2 t).1 h)
theorem terms_one {t : ByteArray} (h : OkT t) : termsL t = [t] := by unfold termsL; rw [raw_one h]; rfl
theorem ok_size {t : ByteArray} (h : OkT t) : t.size ≤ 64 := by
  obtain ⟨l, rfl, h1, h2, h3⟩ := h
  rw [sL_size]; exact h2
theorem terms_len (s : ByteArray) : (termsL s).length ≤ s.size + 1 := by
  have key : ∀ (ys out : List ByteArray), (ys.foldl (fun out x => insU ltS x out) out).length ≤ out.length + ys.length := by
    intro ys
    induction ys with
    | nil => intro out; simp
    | cons y r ih =>
      intro out
      have h1 := ih (insU ltS y out)
      have h2 : ∀ o : List ByteArray, (insU ltS y o).length ≤ o.length + 1 := by
        intro o
        induction o with
        | nil => simp [insU]
        | cons z q ihq =>
          rw [insU]
          split
          · simp; omega
          · split <;> simp
      have h3 := h2 out
      rw [List.foldl_cons, List.length_cons]; omega
  have h1 := key (rawT s) []
  have h2 : (rawT s).length ≤ s.size + 1 := by
    have g1 := (endT_len (runT s s.size)).2
    have g2 := (runT_len s s.size (Nat.le_refl _)).2
    unfold rawT; omega
  unfold termsL risL
  simp at h1 ⊢
  omega
end Go.Proofs.YtdjniofefijokaaDoor.XT
