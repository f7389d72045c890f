/- How cells read as data: representations; slices that read as lists; slices of the call's own. Program-agnostic. -/
import Derived.Test.YtbbjonjhaoeidaaDoorOW3
set_option linter.unusedVariables false
set_option linter.unusedSimpArgs false
namespace Go.Proofs.YtbbjonjhaoeidaaDoor.W
open Go.RowKit

theorem cell_lt {w : World} {a : Addr} {v : Value} (h : w.cell? a = some v) : a.block < w.heap.size := by
  unfold World.cell? at h
  by_cases hb : a.block < w.heap.size
  · exact hb
  · rw [Array.getElem?_eq_none (by omega)] at h; cases h
theorem cell_ext {X : List Nat} {w w' : World} {a : Addr} {v : Value} (h : w.cell? a = some v) (k : Ext X w w') (hx : a.block ∉ X) : w'.cell? a = some v := by
  have := k.block a.block (cell_lt h) hx
  unfold World.cell? at *
  rw [this]; exact h
theorem At.ext {X : List Nat} {w w' : World} {b i : Nat} {cs : List Value} (h : At w b i cs) (k : Ext X w w') (hx : b ∉ X) : At w' b i cs := fun j v hj => cell_ext (h j v hj) k hx
theorem At.cell {w : World} {b i : Nat} {cs : List Value} (h : At w b i cs) {j : Nat} {v : Value} (hj : cs[j]? = some v) : w.cell? ⟨b, i + j, none⟩ = some v := h j v hj
theorem At.lt {w : World} {b i : Nat} {cs : List Value} (h : At w b i cs) (hn : cs ≠ []) : b < w.heap.size := by
  cases cs with
  | nil => exact absurd rfl hn
  | cons v r => exact cell_lt (h 0 v rfl)

/-- A representation: which cells read as which datum, none of what they lead to lying in a block of X. -/
structure Rep (α : Type) where
  sz : Nat
  rd : List Nat → World → List Value → α → Prop
  len : ∀ {X w cs x}, rd X w cs x → cs.length = sz
  one : ∀ {X w cs x}, rd X w cs x → ∀ u ∈ cs, u.oneCell' = true
  ext : ∀ {X w w' cs x}, rd X w cs x → Ext X w w' → rd X w' cs x
  mono : ∀ {X Y w cs x}, rd Y w cs x → (∀ k ∈ X, k ∈ Y) → rd X w cs x
  new : ∀ {X w cs x b}, rd X w cs x → w.heap.size ≤ b → rd (b :: X) w cs x

/-- The slice v reads as the list xs. -/
def Sl {α : Type} (R : Rep α) (X : List Nat) (w : World) (v : Value) (xs : List α) : Prop :=
  (v = .slice none 0 0 ∧ xs = []) ∨
  (∃ b k c, v = .slice (some ⟨b, k, none⟩) xs.length c ∧ xs.length ≤ c ∧ c ≤ maxLen ∧ ∀ i x, xs[i]? = some x → b ∉ X ∧ ∃ cs, R.rd X w cs x ∧ At w b (k + i * R.sz) cs) ∨
  ∃ a, v = .slice (some a) 0 0 ∧ xs = []

section
variable {α : Type} {R : Rep α} {X Y : List Nat} {w w' : World} {v : Value} {xs : List α}
theorem Sl.ext (h : Sl R X w v xs) (k : Ext X w w') : Sl R X w' v xs := by
  rcases h with h | ⟨b, i, c, h1, h2, h3, h4⟩ | h
  rotate_left 2
  · exact .inr (.inr h)
  · exact .inl h
  · refine .inr (.inl ⟨b, i, c, h1, h2, h3, fun j x hj => ?_⟩)
    obtain ⟨hb, cs, hr, ha⟩ := h4 j x hj
    exact ⟨hb, cs, R.ext hr k, ha.ext k hb⟩
theorem Sl.mono (h : Sl R Y w v xs) (k : ∀ b ∈ X, b ∈ Y) : Sl R X w v xs := by
  rcases h with h | ⟨b, i, c, h1, h2, h3, h4⟩ | h
  rotate_left 2
  · exact .inr (.inr h)
  · exact .inl h
  · refine .inr (.inl ⟨b, i, c, h1, h2, h3, fun j x hj => ?_⟩)
    obtain ⟨hb, cs, hr, ha⟩ := h4 j x hj
    exact ⟨fun hx => hb (k b hx), cs, R.mono hr k, ha⟩
theorem Sl.new {b : Nat} (hz : R.sz ≠ 0) (h : Sl R X w v xs) (k : w.heap.size ≤ b) : Sl R (b :: X) w v xs := by
  rcases h with h | ⟨b', i, c, h1, h2, h3, h4⟩ | h
  rotate_left 2
  · exact .inr (.inr h)
  · exact .inl h
  · refine .inr (.inl ⟨b', i, c, h1, h2, h3, fun j x hj => ?_⟩)
    obtain ⟨hb, cs, hr, ha⟩ := h4 j x hj
    have hne : cs ≠ [] := fun e => hz (by have := R.len hr; rw [e] at this; simpa using this.symm)
    have hlt := ha.lt hne
    exact ⟨by simp only [List.mem_cons, not_or]; exact ⟨by omega, hb⟩, cs, R.new hr k, ha⟩
theorem Sl.le (h : Sl R X w v xs) : xs.length ≤ maxLen := by
  rcases h with ⟨_, rfl⟩ | ⟨b, i, c, h1, h2, h3, h4⟩ | ⟨_, _, rfl⟩
  · simp [maxLen]
  · omega
  · simp [maxLen]
theorem Sl.nil : Sl R X w (.slice none 0 0) [] := .inl ⟨rfl, rfl⟩
/-- its words -/
theorem Sl.shape (h : Sl R X w v xs) : ∃ a c, v = .slice a xs.length c := by
  rcases h with ⟨rfl, rfl⟩ | ⟨b, i, c, h1, _⟩ | ⟨a, rfl, rfl⟩
  · exact ⟨none, 0, rfl⟩
  · exact ⟨_, c, h1⟩
  · exact ⟨some a, 0, rfl⟩
/-- an element of it -/
theorem Sl.get (h : Sl R X w v xs) {i : Nat} {x : α} (hx : xs[i]? = some x) :
    ∃ b k c cs, v = .slice (some ⟨b, k, none⟩) xs.length c ∧ b ∉ X ∧ R.rd X w cs x ∧ At w b (k + i * R.sz) cs := by
  rcases h with ⟨_, rfl⟩ | ⟨b, k, c, h1, _, _, h4⟩ | ⟨_, _, rfl⟩
  · simp at hx
  · obtain ⟨hb, cs, hr, ha⟩ := h4 i x hx
    exact ⟨b, k, c, cs, h1, hb, hr, ha⟩
  · simp at hx
end

/-! ### The representations -/
def inK (k : IntKind) (n : Int) : Prop := k.min ≤ n ∧ n ≤ k.max
theorem inK_i64 {n : Int} (h : inK .i64 n) : -9223372036854775808 ≤ n ∧ n ≤ 9223372036854775807 := by simpa [inK, IntKind.min, IntKind.max, IntKind.signed, IntKind.bits] using h
theorem inK_u64 {n : Int} (h : inK .u64 n) : 0 ≤ n ∧ n ≤ 18446744073709551615 := by simpa [inK, IntKind.min, IntKind.max, IntKind.signed, IntKind.bits] using h
theorem inK_u8 {n : Int} (h : inK .u8 n) : 0 ≤ n ∧ n ≤ 255 := by simpa [inK, IntKind.min, IntKind.max, IntKind.signed, IntKind.bits] using h
theorem inK_i64' {n : Int} (h : -9223372036854775808 ≤ n ∧ n ≤ 9223372036854775807) : inK .i64 n := by simpa [inK, IntKind.min, IntKind.max, IntKind.signed, IntKind.bits] using h
theorem inK_u64' {n : Int} (h : 0 ≤ n ∧ n ≤ 18446744073709551615) : inK .u64 n := by simpa [inK, IntKind.min, IntKind.max, IntKind.signed, IntKind.bits] using h
theorem inK_u8' {n : Int} (h : 0 ≤ n ∧ n ≤ 255) : inK .u8 n := by simpa [inK, IntKind.min, IntKind.max, IntKind.signed, IntKind.bits] using h
theorem wrap_i64 {n : Int} (h1 : -9223372036854775808 ≤ n) (h2 : n ≤ 9223372036854775807) : IntKind.i64.wrap n = n := IntWalk.i64_in _ ⟨h1, h2⟩

def intR (k : IntKind) : Rep Int where
  sz := 1
  rd := fun _ _ cs n => cs = [.int k n] ∧ inK k n
  len := by rintro _ _ _ _ ⟨rfl, _⟩; rfl
  one := by rintro _ _ _ _ ⟨rfl, _⟩; simp [Value.oneCell']
  ext := fun h _ => h
  mono := fun h _ => h
  new := fun h _ => h
def boolR : Rep Bool where
  sz := 1
  rd := fun _ _ cs b => cs = [.bool b]
  len := by rintro _ _ _ _ rfl; rfl
  one := by rintro _ _ _ _ rfl; simp [Value.oneCell']
  ext := fun h _ => h
  mono := fun h _ => h
  new := fun h _ => h
def strR : Rep ByteArray where
  sz := 1
  rd := fun _ _ cs s => cs = [.string s] ∧ s.size ≤ maxLen
  len := by rintro _ _ _ _ ⟨rfl, _⟩; rfl
  one := by rintro _ _ _ _ ⟨rfl, _⟩; simp [Value.oneCell']
  ext := fun h _ => h
  mono := fun h _ => h
  new := fun h _ => h
theorem Sl.one {α : Type} {R : Rep α} {X : List Nat} {w : World} {v : Value} {xs : List α} (h : Sl R X w v xs) : v.oneCell' = true := by
  obtain ⟨a, c, rfl⟩ := h.shape; rfl
def slR {α : Type} (R : Rep α) (hz : R.sz ≠ 0) : Rep (List α) where
  sz := 1
  rd := fun X w cs xs => ∃ v, cs = [v] ∧ Sl R X w v xs
  len := by rintro _ _ _ _ ⟨v, rfl, _⟩; rfl
  one := by rintro _ _ _ _ ⟨v, rfl, h⟩; simpa using h.one
  ext := fun ⟨v, h1, h2⟩ k => ⟨v, h1, h2.ext k⟩
  mono := fun ⟨v, h1, h2⟩ k => ⟨v, h1, h2.mono k⟩
  new := fun ⟨v, h1, h2⟩ k => ⟨v, h1, Sl.new hz h2 k⟩

abbrev Ints := Sl (intR .i64)

/-! ### A slice of the call's own: nobody else writes or reads its row -/
def avoid (v : Value) (X : List Nat) : List Nat := match v.ownBlock with | some b => b :: X | none => X
def Owns {α : Type} (R : Rep α) (e : TypeId) (B : Nat) (X : List Nat) (w : World) (v : Value) (xs : List α) : Prop :=
  ∃ cells, w.ownsRow B e R.sz v xs.length cells ∧ (∀ i x, xs[i]? = some x → R.rd (avoid v X) w ((cells.drop (i * R.sz)).take R.sz) x) ∧ ∀ u ∈ cells, u.oneCell' = true

theorem Owns.nil {α : Type} {R : Rep α} {e : TypeId} {B : Nat} {X : List Nat} {w : World} : Owns R e B X w (.slice none 0 0) [] :=
  ⟨[], World.ownsRow_nil w B e R.sz, by simp, by simp⟩
theorem Owns.le {α : Type} {R : Rep α} {e : TypeId} {B : Nat} {X : List Nat} {w : World} {v : Value} {xs : List α} (h : Owns R e B X w v xs) : xs.length ≤ maxLen := by
  obtain ⟨cells, ⟨_, h1⟩, _⟩ := h
  rcases h1 with ⟨_, h2⟩ | ⟨g, cap, cur, _, _, _, h3, h4, _⟩
  · rw [h2]; simp [maxLen]
  · omega
theorem Owns.shape {α : Type} {R : Rep α} {e : TypeId} {B : Nat} {X : List Nat} {w : World} {v : Value} {xs : List α} (h : Owns R e B X w v xs) : ∃ a c, v = .slice a xs.length c := by
  obtain ⟨cells, ⟨_, h1⟩, _⟩ := h
  rcases h1 with ⟨h1, h2⟩ | ⟨g, cap, cur, h1, _⟩
  · exact ⟨none, 0, by rw [h1, h2]⟩
  · exact ⟨_, _, h1⟩
theorem Owns.sl {α : Type} {R : Rep α} {e : TypeId} {B : Nat} {X : List Nat} {w : World} {v : Value} {xs : List α} (h : Owns R e B X w v xs) (hX : ∀ x ∈ X, x < B) : Sl R X w v xs := by
  obtain ⟨cells, ⟨hlen, h1⟩, h2, _⟩ := h
  rcases h1 with ⟨rfl, h0⟩ | ⟨g, cap, cur, rfl, hB, hg, hc, hm, hs, ht⟩
  · exact .inl ⟨rfl, List.eq_nil_of_length_eq_zero h0⟩
  · refine .inr (.inl ⟨g, 0, cap, rfl, hc, hm, fun i x hx => ⟨fun hgx => by have := hX g hgx; omega, _, R.mono (h2 i x hx) (by intro k hk; simp [avoid, Value.ownBlock, hk]), ?_⟩⟩)
    intro j u hj
    have hi : i < xs.length := by
      rcases Nat.lt_or_ge i xs.length with h | h
      · exact h
      · rw [List.getElem?_eq_none h] at hx; cases hx
    have hjl : j < R.sz := by
      rcases Nat.lt_or_ge j R.sz with h | h
      · exact h
      · rw [List.getElem?_eq_none (by simp; omega)] at hj; cases hj
    rw [List.getElem?_take_of_lt hjl, List.getElem?_drop, ← ht, List.getElem?_take] at hj
    split at hj
    · simp only [World.cell?, hg]
      simpa using hj
    · cases hj
theorem Owns.mono {α : Type} {R : Rep α} {e : TypeId} {B : Nat} {X Y : List Nat} {w : World} {v : Value} {xs : List α} (h : Owns R e B Y w v xs) (k : ∀ b ∈ X, b ∈ Y) : Owns R e B X w v xs := by
  obtain ⟨cells, h1, h2, h3⟩ := h
  refine ⟨cells, h1, fun i x hx => R.mono (h2 i x hx) ?_, h3⟩
  intro b hb
  unfold avoid at hb ⊢
  cases ho : v.ownBlock with
  | none => rw [ho] at hb; exact k b hb
  | some g =>
    rw [ho] at hb
    simp only [List.mem_cons] at hb ⊢
    rcases hb with hb | hb
    · exact .inl hb
    · exact .inr (k b hb)
theorem Owns.low {α : Type} {R : Rep α} {e : TypeId} {B B' : Nat} {X : List Nat} {w : World} {v : Value} {xs : List α} (h : Owns R e B X w v xs) (k : B' ≤ B) : Owns R e B' X w v xs := by
  obtain ⟨cells, ⟨h0, h1⟩, h2, h3⟩ := h
  refine ⟨cells, ⟨h0, ?_⟩, h2, h3⟩
  rcases h1 with h1 | ⟨g, cap, cur, a, b, c⟩
  · exact .inl h1
  · exact .inr ⟨g, cap, cur, a, Nat.le_trans k b, c⟩
/-- whatever is written elsewhere -/
theorem Owns.ext {α : Type} {R : Rep α} {e : TypeId} {B : Nat} {X : List Nat} {w w' : World} {v : Value} {xs : List α} (h : Owns R e B X w v xs) (k : Ext X w w') (hX : ∀ x ∈ X, x < B) : Owns R e B X w' v xs := by
  obtain ⟨cells, ⟨h0, h1⟩, h2, h3⟩ := h
  refine ⟨cells, ⟨h0, ?_⟩, fun i x hx => R.ext (h2 i x hx) (k.mono ?_), h3⟩
  · rcases h1 with h1 | ⟨g, cap, cur, hv, hB, hg, hr⟩
    · exact .inl h1
    · refine .inr ⟨g, cap, cur, hv, hB, ?_, hr⟩
      rw [k.block g (Blk.lt hg) (fun hx => by have := hX g hx; omega)]; exact hg
  · intro b hb
    unfold avoid
    cases v.ownBlock with
    | none => exact hb
    | some g => simp [hb]
theorem avoid_mem {v : Value} {X : List Nat} {b : Nat} (h : b ∈ X) : b ∈ avoid v X := by
  unfold avoid
  cases v.ownBlock with
  | none => exact h
  | some g => simp [h]
end Go.Proofs.YtbbjonjhaoeidaaDoor.W
