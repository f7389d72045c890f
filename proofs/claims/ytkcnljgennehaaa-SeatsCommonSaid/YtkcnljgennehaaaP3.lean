/- What came in, as data. Program-agnostic. -/
import Derived.Test.YtkcnljgennehaaaW8
import Derived.SizedLaws
import Derived.ChangeArms
namespace Go.Proofs.Ytkcnljgennehaaa.W
open Go.RowKit

section
variable {H : Type} {enc : TypeId × Value → H} {P : Program} {α : Type} {R : Rep α} {g : α → Prop}
/-- Whatever reads at the type t reads as R's data, and these are good. -/
def Rd (enc : TypeId × Value → H) (P : Program) (t : TypeId) (R : Rep α) (g : α → Prop) : Prop :=
  ∀ (w : World) (fuel : Nat) (cs : List Value) (x : DataW H × List MemPlace), DataW.trod enc P w 0 (fun _ => true) true fuel t cs = some x → (∀ n ∈ DataW.weights P t x.1, n ≤ reachBytes) → ∃ d, R.rd [] w cs d ∧ g d
theorem Rd.int {t : TypeId} {k : IntKind} (ht : P.underlying t = some (.int k)) : Rd enc P t (intR k) (fun _ => True) := by
  intro w fuel cs x h _
  obtain ⟨n, rfl, rfl, hwf⟩ := DataW.trod_int ht h
  exact ⟨n, ⟨rfl, by simpa [Lit.wf, inK] using hwf⟩, trivial⟩
theorem Rd.bool {t : TypeId} (ht : P.underlying t = some .bool) : Rd enc P t boolR (fun _ => True) := by
  intro w fuel cs x h _
  obtain ⟨b, rfl, rfl⟩ := DataW.trod_bool ht h
  exact ⟨b, rfl, trivial⟩
theorem Rd.str {t : TypeId} (ht : P.underlying t = some .string) : Rd enc P t strR (fun s => s.size ≤ reachBytes) := by
  intro w fuel cs x h hw
  obtain ⟨s, rfl, rfl, hs⟩ := DataW.trod_string ht h
  refine ⟨s, ⟨rfl, hs⟩, hw _ ?_⟩
  simp [DataW.weights]
theorem list_of {n : Nat} {Q : Nat → α → Prop} (h : ∀ i, i < n → ∃ d, Q i d) : ∃ xs : List α, xs.length = n ∧ ∀ i x, xs[i]? = some x → Q i x := by
  induction n with
  | zero => exact ⟨[], rfl, by simp⟩
  | succ n ih =>
    obtain ⟨xs, hl, hx⟩ := ih fun i hi => h i (by omega)
    obtain ⟨d, hd⟩ := h n (Nat.lt_succ_self n)
    refine ⟨xs ++ [d], by simp [hl], fun i x hi => ?_⟩
    rw [List.getElem?_append] at hi
    split at hi
    · exact hx i x hi
    · rename_i hge
      have : i - xs.length = 0 := by
        rcases Nat.eq_zero_or_pos (i - xs.length) with h0 | h0
        · exact h0
        · rw [List.getElem?_eq_none (by simp; omega)] at hi; cases hi
      rw [this] at hi
      simp only [List.getElem?_cons_zero, Option.some.injEq] at hi
      subst hi
      obtain rfl : i = n := by omega
      exact hd
theorem weightsAll_mem {e : TypeId} : ∀ {l : List (DataW H)} {d : DataW H} {n : Nat}, d ∈ l → n ∈ DataW.weights P e d → n ∈ DataW.weightsAll P e l
  | x :: r, d, n, h, hn => by
    simp only [DataW.weightsAll, List.mem_append]
    rcases List.mem_cons.1 h with rfl | h
    · exact .inl hn
    · exact .inr (weightsAll_mem h hn)
theorem weightsEach_mem : ∀ {ts : List TypeId} {l : List (DataW H)} {i : Nat} {t : TypeId} {d : DataW H} {n : Nat}, ts[i]? = some t → l[i]? = some d → n ∈ DataW.weights P t d → n ∈ DataW.weightsEach P ts l
  | t :: ts, d :: r, 0, _, _, n, h1, h2, hn => by
    simp only [List.getElem?_cons_zero, Option.some.injEq] at h1 h2
    subst h1; subst h2
    simp only [DataW.weightsEach, List.mem_append]; exact .inl hn
  | t :: ts, d :: r, i + 1, _, _, n, h1, h2, hn => by
    simp only [DataW.weightsEach, List.mem_append]
    exact .inr (weightsEach_mem (by simpa using h1) (by simpa using h2) hn)
theorem spot_none {w : World} {a : Addr} {v : Value} (h : w.cell? a = some v) : a.spot = none := by
  unfold World.cell? at h
  split at h
  · split at h
    · cases h
    · rename_i hs; simpa using hs
  · cases h
theorem Rd.slice {t e : TypeId} {by' : Nat} (ht : P.underlying t = some (.slice e)) (hc : P.cellsOf e = R.sz) (hz : R.sz ≠ 0) (hb : P.bytesOf e = by') (he : Rd enc P e R g) :
    Rd enc P t (slR R hz) (fun (xs : List α) => xs.length * by' ≤ reachBytes ∧ ∀ (i : Nat) (x : α), xs[i]? = some x → g x) := by
  intro w fuel cs x h hw
  rcases DataW.trod_slice ht h with ⟨rfl, rfl⟩ | ⟨a, len, cap, elems, rest, n, _, rfl, rfl, _, hlc, hcm, hel, hat, hsp, _⟩
  · exact ⟨[], ⟨_, rfl, Sl.nil⟩, by simp, by simp⟩
  · simp only [DataW.weights, ht] at hw
    have key : ∀ i, i < len → ∃ d, g d ∧ ∃ cs, R.rd [] w cs d ∧ w.cells? 0 (a.add (i * R.sz)) R.sz = some cs := by
      intro i hi
      have h1 := hat i hi
      have hlt : i < elems.length := by omega
      rw [List.getElem?_eq_getElem hlt, hc] at h1
      cases hcs : w.cells? 0 (a.add (i * R.sz)) R.sz with
      | none => rw [hcs] at h1; cases h1
      | some cs =>
        rw [hcs] at h1
        obtain ⟨d, hd, hg⟩ := he w n cs _ h1 fun m hm => hw m (List.mem_cons_of_mem _ (List.mem_append.2 (.inl (weightsAll_mem (List.mem_map.2 ⟨_, List.getElem_mem hlt, rfl⟩) hm))))
        exact ⟨d, hg, cs, hd, rfl⟩
    obtain ⟨xs, hlen, hxs⟩ := list_of key
    have hbytes : len * by' ≤ reachBytes := by
      have := hw _ (List.mem_cons_self ..)
      rw [hb, List.length_map, List.length_map, hel, Nat.add_mul] at this
      omega
    refine ⟨xs, ⟨_, rfl, ?_⟩, by rw [hlen]; exact hbytes, fun i x hx => (hxs i x hx).1⟩
    by_cases hcap : cap = 0
    · have h0 : len = 0 := by omega
      have : xs = [] := List.eq_nil_of_length_eq_zero (by omega)
      subst this
      rw [hcap, h0]
      exact .inr (.inr ⟨a, rfl, rfl⟩)
    · have h0 : ∃ cs, w.cells? 0 (a.add (0 * R.sz)) R.sz = some cs := by
        rcases Nat.eq_zero_or_pos len with hl | hl
        · obtain ⟨h1, h2⟩ := hsp rfl
          have h3 := h2 0 (by omega)
          rw [hl, Nat.zero_add, hc, List.getElem?_eq_getElem (by omega : 0 < rest.length)] at h3
          cases hcs : w.cells? 0 (a.add (0 * R.sz)) R.sz with
          | none => rw [hcs] at h3; cases h3
          | some cs => exact ⟨cs, rfl⟩
        · obtain ⟨_, _, cs, _, h1⟩ := key 0 hl
          exact ⟨cs, h1⟩
      have hspot : a.spot = none := by
        obtain ⟨cs, h1⟩ := h0
        obtain ⟨_, h2, h3⟩ := World.cells?_some h1
        have h4 := h3 0 (by omega)
        rw [List.getElem?_eq_getElem (by omega : 0 < cs.length)] at h4
        have := spot_none h4
        simpa [Addr.add] using this
      obtain ⟨b, k, sp⟩ := a
      simp only at hspot
      subst hspot
      refine .inr (.inl ⟨b, k, cap, by rw [hlen], by omega, hcm, fun i x hx => ⟨by simp, ?_⟩⟩)
      obtain ⟨_, cs, hr, h1⟩ := hxs i x hx
      refine ⟨cs, hr, fun j v hj => ?_⟩
      obtain ⟨_, h2, h3⟩ := World.cells?_some h1
      have hj' : j < cs.length := by
        rcases Nat.lt_or_ge j cs.length with h | h
        · exact h
        · rw [List.getElem?_eq_none h] at hj; cases hj
      have h4 := h3 j (by omega)
      rw [addr_add, addr_add, hj] at h4
      exact h4
/-- a struct's fields of one cell -/
theorem rd_field {w : World} {fuel : Nat} {cs : List Value} {x : DataW H × List MemPlace} {t i ft off : Nat} (h : DataW.trod enc P w 0 (fun _ => true) true fuel t cs = some x) (hw : ∀ n ∈ DataW.weights P t x.1, n ≤ reachBytes)
    (hfl : FieldOf P t i ft off 1) (hc : P.cellsOf ft = 1) (hr : Rd enc P ft R g) : ∃ d, R.rd [] w ((cs.drop off).take 1) d ∧ g d := by
  obtain ⟨⟨fs, f, h1, h2, rfl, rfl⟩, _, _⟩ := hfl
  obtain ⟨xs, n, _, rfl, _, hlen, hf⟩ := DataW.trod_struct h1 h
  have hi : i < fs.size := (Array.getElem?_eq_some_iff.1 h2).1
  have h3 := hf i f h2
  rw [List.getElem?_eq_getElem (by omega : i < xs.length), hc] at h3
  refine hr w n _ _ h3 fun m hm => hw m ?_
  simp only [DataW.weights, h1]
  refine weightsEach_mem (i := i) (t := f.type) (d := (xs[i]'(by omega)).1) ?_ ?_ hm
  · rw [List.getElem?_map]
    have : fs.toList[i]? = some f := by simpa using h2
    rw [this]; rfl
  · rw [List.getElem?_map, List.getElem?_eq_getElem (by omega : i < xs.length)]; rfl
theorem rd_len {w : World} {fuel : Nat} {cs : List Value} {x : DataW H × List MemPlace} {t i ft off sz : Nat} (h : DataW.trod enc P w 0 (fun _ => true) true fuel t cs = some x) (hfl : FieldOf P t i ft off sz) : cs.length = P.cellsOf t := by
  obtain ⟨⟨fs, f, h1, _⟩, _⟩ := hfl
  obtain ⟨_, _, _, _, hl, _⟩ := DataW.trod_struct h1 h
  exact hl
theorem cells_one {v : Value} (h : v.oneCell' = true) : v.cells.toList = [v] := by cases v <;> first | rfl | (simp [Value.oneCell'] at h)
theorem weights_at {ts : List TypeId} {l : List (DataW H)} {t : TypeId} {d : DataW H} (h : (DataW.weightsEach P ts l).all (· ≤ reachBytes) = true) (i : Nat) (h1 : ts[i]? = some t) (h2 : l[i]? = some d) : ∀ n ∈ DataW.weights P t d, n ≤ reachBytes := by
  intro n hn
  simpa using List.all_eq_true.1 h n (weightsEach_mem h1 h2 hn)
end
end Go.Proofs.Ytkcnljgennehaaa.W
