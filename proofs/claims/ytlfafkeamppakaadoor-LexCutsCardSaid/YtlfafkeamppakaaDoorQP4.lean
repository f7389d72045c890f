/- What came in, as data, where its bulk is bounded. Program-agnostic but for the given text's bulk. -/
import Derived.Test.YtlfafkeamppakaaDoorRows
import Derived.Test.YtlfafkeamppakaaDoorQW5x
import Derived.ChangeArms
set_option linter.unusedVariables false
set_option linter.unusedSimpArgs false
namespace Go.Proofs.YtlfafkeamppakaaDoor.W
open Go.RowKit

theorem bulk_part {H : Type} {d : DataW H} {l : List (DataW H)} (h : d ∈ l) : Rows.uptoBulk d ≤ Rows.uptoBulkAll l := by
  induction l with
  | nil => cases h
  | cons x r ih =>
    simp only [Rows.uptoBulkAll]
    cases List.mem_cons.1 h with
    | inl e => subst e; omega
    | inr e => have := ih e; omega
theorem bulk_one {H : Type} (d : DataW H) : 1 ≤ Rows.uptoBulk d := by
  cases d with
  | lit l => cases l <;> simp [Rows.uptoBulk]
  | nil => simp [Rows.uptoBulk]
  | ptr d => simp [Rows.uptoBulk]
  | slice elems spare => simp [Rows.uptoBulk]
  | agg parts => simp [Rows.uptoBulk]
  | iface t d => simp [Rows.uptoBulk]
  | map entries => simp [Rows.uptoBulk]
  | held h => simp [Rows.uptoBulk]
theorem bulk_len {H : Type} (l : List (DataW H)) : l.length ≤ Rows.uptoBulkAll l := by
  induction l with
  | nil => simp [Rows.uptoBulkAll]
  | cons x r ih => have := bulk_one x; simp only [Rows.uptoBulkAll, List.length_cons]; omega
section
variable {H : Type} {enc : TypeId × Value → H} {P : Program} {α : Type} {R : Rep α} {g : α → Prop}
/-- Whatever reads at the type t and is of bounded bulk reads as R's data, and these are good. -/
def Ru (enc : TypeId × Value → H) (P : Program) (t : TypeId) (R : Rep α) (g : α → Prop) : Prop :=
  ∀ (w : World) (fuel : Nat) (cs : List Value) (x : DataW H × List MemPlace), DataW.trod enc P w 0 (fun _ => true) true fuel t cs = some x → Rows.uptoBulk x.1 ≤ 1048576 → ∃ d, R.rd [] w cs d ∧ g d
theorem Ru.int {t : TypeId} {k : IntKind} (ht : P.underlying t = some (.int k)) : Ru enc P t (intR k) (fun _ => True) := by
  intro w fuel cs x h _
  obtain ⟨n, rfl, rfl, hwf⟩ := DataW.trod_int ht h
  exact ⟨n, ⟨rfl, by simpa [Lit.wf, inK] using hwf⟩, trivial⟩
theorem Ru.bool {t : TypeId} (ht : P.underlying t = some .bool) : Ru enc P t boolR (fun _ => True) := by
  intro w fuel cs x h _
  obtain ⟨b, rfl, rfl⟩ := DataW.trod_bool ht h
  exact ⟨b, rfl, trivial⟩
theorem Ru.str {t : TypeId} (ht : P.underlying t = some .string) : Ru enc P t strR (fun s => s.size ≤ 1048576) := by
  intro w fuel cs x h hw
  obtain ⟨s, rfl, rfl, hs⟩ := DataW.trod_string ht h
  refine ⟨s, ⟨rfl, hs⟩, ?_⟩
  have h1 : s.data.toList.length = s.size := rfl
  simp only [Rows.uptoBulk] at hw
  omega
theorem ulist_of {n : Nat} {Q : Nat → α → Prop} (h : ∀ i, i < n → ∃ d, Q i d) : ∃ xs : List α, xs.length = n ∧ ∀ i x, xs[i]? = some x → Q i x := by
  induction n with
  | zero => exact ⟨[], rfl, by simp⟩
  | succ n ih =>
    obtain ⟨xs, hl, hx⟩ := ih fun i hi => h i (by omega)
    obtain ⟨d, hd⟩ := h n (Nat.lt_succ_self n)
    refine ⟨xs ++ [d], by simp [hl], fun i x hi => ?_⟩
    rw [List.getElem?_append] at hi
    split at hi
    · exact hx i x hi
    · rename_i hge
      have : i - xs.length = 0 := by
        rcases Nat.eq_zero_or_pos (i - xs.length) with h0 | h0
        · exact h0
        · rw [List.getElem?_eq_none (by simp; omega)] at hi; cases hi
      rw [this] at hi
      simp only [List.getElem?_cons_zero, Option.some.injEq] at hi
      subst hi
      obtain rfl : i = n := by omega
      exact hd
theorem uspot_none {w : World} {a : Addr} {v : Value} (h : w.cell? a = some v) : a.spot = none := by
  unfold World.cell? at h
  split at h
  · split at h
    · cases h
    · rename_i hs; simpa using hs
  · cases h
theorem Ru.slice {t e : TypeId} (ht : P.underlying t = some (.slice e)) (hc : P.cellsOf e = R.sz) (hz : R.sz ≠ 0) (he : Ru enc P e R g) :
    Ru enc P t (slR R hz) (fun (xs : List α) => xs.length ≤ 1048576 ∧ ∀ (i : Nat) (x : α), xs[i]? = some x → g x) := by
  intro w fuel cs x h hw
  rcases DataW.trod_slice ht h with ⟨rfl, rfl⟩ | ⟨a, len, cap, elems, rest, n, _, rfl, rfl, _, hlc, hcm, hel, hat, hsp, _⟩
  · exact ⟨[], ⟨_, rfl, Sl.nil⟩, Nat.zero_le _, by simp⟩
  · simp only [Rows.uptoBulk] at hw
    have key : ∀ i, i < len → ∃ d, g d ∧ ∃ cs, R.rd [] w cs d ∧ w.cells? 0 (a.add (i * R.sz)) R.sz = some cs := by
      intro i hi
      have h1 := hat i hi
      have hlt : i < elems.length := by omega
      rw [List.getElem?_eq_getElem hlt, hc] at h1
      cases hcs : w.cells? 0 (a.add (i * R.sz)) R.sz with
      | none => rw [hcs] at h1; cases h1
      | some cs =>
        rw [hcs] at h1
        obtain ⟨d, hd, hg⟩ := he w n cs _ h1 (by have := bulk_part (List.mem_map.2 ⟨_, List.getElem_mem hlt, rfl⟩ : (elems[i]'hlt).1 ∈ elems.map (·.1)); omega)
        exact ⟨d, hg, cs, hd, rfl⟩
    obtain ⟨xs, hlen, hxs⟩ := ulist_of key
    have hbytes : len ≤ 1048576 := by
      have := bulk_len (elems.map (·.1))
      rw [List.length_map, hel] at this
      omega
    refine ⟨xs, ⟨_, rfl, ?_⟩, by rw [hlen]; exact hbytes, fun i x hx => (hxs i x hx).1⟩
    by_cases hcap : cap = 0
    · have h0 : len = 0 := by omega
      have : xs = [] := List.eq_nil_of_length_eq_zero (by omega)
      subst this
      rw [hcap, h0]
      exact .inr (.inr ⟨a, rfl, rfl⟩)
    · have h0 : ∃ cs, w.cells? 0 (a.add (0 * R.sz)) R.sz = some cs := by
        rcases Nat.eq_zero_or_pos len with hl | hl
        · obtain ⟨h1, h2⟩ := hsp rfl
          have h3 := h2 0 (by omega)
          rw [hl, Nat.zero_add, hc, List.getElem?_eq_getElem (by omega : 0 < rest.length)] at h3
          cases hcs : w.cells? 0 (a.add (0 * R.sz)) R.sz with
          | none => rw [hcs] at h3; cases h3
          | some cs => exact ⟨cs, rfl⟩
        · obtain ⟨_, _, cs, _, h1⟩ := key 0 hl
          exact ⟨cs, h1⟩
      have hspot : a.spot = none := by
        obtain ⟨cs, h1⟩ := h0
        obtain ⟨_, h2, h3⟩ := World.cells?_some h1
        have h4 := h3 0 (by omega)
        rw [List.getElem?_eq_getElem (by omega : 0 < cs.length)] at h4
        have := uspot_none h4
        simpa [Addr.add] using this
      obtain ⟨b, k, sp⟩ := a
      simp only at hspot
      subst hspot
      refine .inr (.inl ⟨b, k, cap, by rw [hlen], by omega, hcm, fun i x hx => ⟨by simp, ?_⟩⟩)
      obtain ⟨_, cs, hr, h1⟩ := hxs i x hx
      refine ⟨cs, hr, fun j v hj => ?_⟩
      obtain ⟨_, h2, h3⟩ := World.cells?_some h1
      have hj' : j < cs.length := by
        rcases Nat.lt_or_ge j cs.length with h | h
        · exact h
        · rw [List.getElem?_eq_none h] at hj; cases hj
      have h4 := h3 j (by omega)
      rw [addr_add, addr_add, hj] at h4
      exact h4
/-- a struct's fields of one cell -/
theorem ru_field {w : World} {fuel : Nat} {cs : List Value} {x : DataW H × List MemPlace} {t i ft off : Nat} (h : DataW.trod enc P w 0 (fun _ => true) true fuel t cs = some x) (hw : Rows.uptoBulk x.1 ≤ 1048576)
    (hfl : FieldOf P t i ft off 1) (hc : P.cellsOf ft = 1) (hr : Ru enc P ft R g) : ∃ d, R.rd [] w ((cs.drop off).take 1) d ∧ g d := by
  obtain ⟨⟨fs, f, h1, h2, rfl, rfl⟩, _, _⟩ := hfl
  obtain ⟨xs, n, _, rfl, _, hlen, hf⟩ := DataW.trod_struct h1 h
  have hi : i < fs.size := (Array.getElem?_eq_some_iff.1 h2).1
  have h3 := hf i f h2
  rw [List.getElem?_eq_getElem (by omega : i < xs.length), hc] at h3
  simp only [Rows.uptoBulk] at hw
  exact hr w n _ _ h3 (by have := bulk_part (List.mem_map.2 ⟨_, List.getElem_mem (by omega : i < xs.length), rfl⟩ : (xs[i]'(by omega)).1 ∈ xs.map (·.1)); omega)
theorem ru_len {w : World} {fuel : Nat} {cs : List Value} {x : DataW H × List MemPlace} {t i ft off sz : Nat} (h : DataW.trod enc P w 0 (fun _ => true) true fuel t cs = some x) (hfl : FieldOf P t i ft off sz) : cs.length = P.cellsOf t := by
  obtain ⟨⟨fs, f, h1, _⟩, _⟩ := hfl
  obtain ⟨_, _, _, _, hl, _⟩ := DataW.trod_struct h1 h
  exact hl
theorem ucells_one {v : Value} (h : v.oneCell' = true) : v.cells.toList = [v] := by cases v <;> first | rfl | (simp [Value.oneCell'] at h)
end
end Go.Proofs.YtlfafkeamppakaaDoor.W
