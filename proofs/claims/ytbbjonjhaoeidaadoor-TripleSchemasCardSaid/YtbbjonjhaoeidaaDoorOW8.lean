/- Slices of the call's own: literals, append; slices cut; the rest. Program-agnostic. -/
import Derived.Test.YtbbjonjhaoeidaaDoorOW7
import Derived.WalkSpells
set_option linter.unusedVariables false
set_option linter.unusedSimpArgs false
namespace Go.Proofs.YtbbjonjhaoeidaaDoor.W
open Go.RowKit

/-- two texts are the same -/
def seqB (a b : ByteArray) : Bool := a.toList == b.toList
theorem b_true_eq (b : Bool) : (true = b) = (b = true) := by cases b <;> simp
theorem b_false_eq (b : Bool) : (false = b) = (b = false) := by cases b <;> simp
theorem castSl {α : Type} {R : Rep α} {X : List Nat} {w : World} {v : Value} {xs ys : List α} (e : xs = ys) (h : Sl R X w v xs) : Sl R X w v ys := e ▸ h
theorem Sl.base {α : Type} {R : Rep α} {O X : List Nat} {w : World} {v : Value} {xs : List α} (h : Sl R (O ++ X) w v xs) : Sl R X w v xs := h.mono fun _ hk => List.mem_append.2 (.inr hk)
theorem inMono {a b : World} {X : List Nat} (h : ∀ x ∈ X, x < a.heap.size) (k : a.heap.size ≤ b.heap.size) : ∀ x ∈ X, x < b.heap.size := fun x hx => Nat.lt_of_lt_of_le (h x hx) k

section
variable {α : Type} {R : Rep α} {e B : Nat} {X Y : List Nat} {w w' : World} {v : Value} {xs : List α}
theorem Owns.keep (h : Owns R e B X w v xs) (k : Ext Y w w') (hY : ∀ g, v.ownBlock = some g → g ∉ Y) (hYX : ∀ b ∈ Y, b ∈ X) : Owns R e B X w' v xs := by
  obtain ⟨cells, ⟨h0, h1⟩, h2, h3⟩ := h
  refine ⟨cells, ⟨h0, ?_⟩, fun i x hx => R.ext (h2 i x hx) (k.mono fun b hb => avoid_mem (hYX b hb)), h3⟩
  rcases h1 with h1 | ⟨g, cap, cur, hv, hB, hg, hr⟩
  · exact .inl h1
  · refine .inr ⟨g, cap, cur, hv, hB, ?_, hr⟩
    subst hv
    rw [k.block g (Blk.lt hg) (hY g rfl)]; exact hg
theorem Owns.new {b : Nat} (h : Owns R e B X w v xs) (k : w.heap.size ≤ b) : Owns R e B (b :: X) w v xs := by
  obtain ⟨cells, h1, h2, h3⟩ := h
  refine ⟨cells, h1, fun i x hx => R.mono (R.new (h2 i x hx) k) ?_, h3⟩
  intro c hc
  unfold avoid at *
  cases ho : v.ownBlock with
  | none => rw [ho] at hc; exact hc
  | some g =>
    rw [ho] at hc
    simp only [List.mem_cons] at hc ⊢
    rcases hc with h | h | h
    · exact .inr (.inl h)
    · exact .inl h
    · exact .inr (.inr h)
theorem Owns.lt (h : Owns R e B X w v xs) : ∀ g, v.ownBlock = some g → B ≤ g ∧ g < w.heap.size := by
  obtain ⟨cells, h1, _⟩ := h
  exact h1.lt
theorem Owns.castE {ys : List α} (e' : xs = ys) (h : Owns R e B X w v xs) : Owns R e B X w v ys := e' ▸ h
end

theorem At.cells {w : World} {b k : Nat} {cs : List Value} (h : At w b k cs) : ∀ j u, cs[j]? = some u → w.cell? ((⟨b, k, none⟩ : Addr).add j) = some u := fun j u hj => by rw [addr_add]; exact h j u hj

/-- all cells of a slice that reads as a list -/
theorem Sl.row {α : Type} {R : Rep α} {X : List Nat} {w : World} {b k c n : Nat} {xs : List α} (h : ∀ i x, xs[i]? = some x → b ∉ X ∧ ∃ cs, R.rd X w cs x ∧ At w b (k + i * R.sz) cs) (hn : xs.length = n) :
    ∃ cells : List Value, cells.length = n * R.sz ∧ At w b k cells ∧ (∀ u ∈ cells, u.oneCell' = true) ∧ ∀ i x, xs[i]? = some x → R.rd X w ((cells.drop (i * R.sz)).take R.sz) x := by
  subst hn
  induction xs generalizing k with
  | nil => exact ⟨[], by simp, fun j v hj => by simp at hj, by simp, fun i x hx => by simp at hx⟩
  | cons x r ih =>
    obtain ⟨_, cs, hr, ha⟩ := h 0 x rfl
    obtain ⟨cells, h1, h2, h3, h4⟩ := ih (k := k + R.sz) (fun i y hy => by
      obtain ⟨hb, cs', hr', ha'⟩ := h (i + 1) y (by simpa using hy)
      exact ⟨hb, cs', hr', by rw [show k + R.sz + i * R.sz = k + (i + 1) * R.sz from by rw [Nat.add_mul]; omega]; exact ha'⟩)
    have hl := R.len hr
    refine ⟨cs ++ cells, by rw [List.length_append, h1, hl, List.length_cons, Nat.add_mul]; omega, ?_, ?_, ?_⟩
    · intro j v hj
      rw [List.getElem?_append] at hj
      split at hj
      · have := ha j v hj; simpa using this
      · rename_i hge
        have := h2 (j - cs.length) v hj
        rw [show k + R.sz + (j - cs.length) = k + j from by omega] at this; exact this
    · intro u hu
      rcases List.mem_append.1 hu with hu | hu
      · exact R.one hr u hu
      · exact h3 u hu
    · intro i y hy
      cases i with
      | zero =>
        simp only [List.getElem?_cons_zero, Option.some.injEq] at hy
        subst hy
        simp only [Nat.zero_mul, List.drop_zero]
        rw [List.take_append_of_le_length (by omega), List.take_of_length_le (by omega)]
        exact hr
      | succ i =>
        have := h4 i y (by simpa using hy)
        rw [show (i + 1) * R.sz = cs.length + i * R.sz from by rw [Nat.add_mul, hl]; omega, List.drop_append, List.drop_of_length_le (by omega), List.nil_append, show cs.length + i * R.sz - cs.length = i * R.sz from by omega]
        exact this

theorem take_drop_append {cells news : List Value} {i sz n : Nat} (h : cells.length = n * sz) (hi : i < n) : ((cells ++ news).drop (i * sz)).take sz = (cells.drop (i * sz)).take sz := by
  have h1 : (i + 1) * sz ≤ n * sz := Nat.mul_le_mul_right sz hi
  rw [Nat.add_mul] at h1
  rw [List.drop_append_of_le_length (by omega), List.take_append_of_le_length (by rw [List.length_drop]; omega)]
theorem take_drop_append' {cells news : List Value} {i sz n : Nat} (h : cells.length = n * sz) : ((cells ++ news).drop ((n + i) * sz)).take sz = (news.drop (i * sz)).take sz := by
  rw [Nat.add_mul, ← h, List.drop_append, List.drop_of_length_le (by omega), List.nil_append, show cells.length + i * sz - cells.length = i * sz from by omega]

section
variable {P : Program} {n : Fsz} {ro : Option Nat} {Q : K} {E : Env} {w : World} {ops : Array Oper} {o : Oper} {rest : List Oper}
/-- append of a slice that reads as a list to one of the call's own -/
theorem WL.appendOwn {α : Type} {R : Rep α} {X : List Nat} {t e : TypeId} {z : Value} {by' B : Nat} {x y : Operand} {v s : Value} {xs ys : List α} (hs : Sure ops o E) (hd : dstOk n o.dst = true) (ho : o.op = .call ⟨.builtin .append, #[x, y], #[t, t]⟩)
    (ht : P.underlying t = some (.slice e)) (he : Elem P e z R.sz by') (hzs : z.cells.size = R.sz) (hsz : 0 < R.sz) (hx : ev E x = v) (hy : ev E y = s)
    (hown : Owns R e B X w v xs) (hsl : Sl R X w s ys) (hfar : ∀ g, v.ownBlock = some g → Sl R (g :: X) w s ys) (hB : B ≤ w.heap.size)
    (hbytes : (xs.length + ys.length) * by' ≤ 140737488355328) (hlen : xs.length + ys.length ≤ maxLen)
    (k : ∀ v' w', Owns R e B X w' v' (xs ++ ys) → w.grownBy w' v.ownBlock → (∀ g, v'.ownBlock = some g → v.ownBlock = some g ∨ w.heap.size ≤ g) → WLr ro P n ops Q rest (updO E o.dst v') w') : WLr ro P n ops Q (o :: rest) E w := by
  obtain ⟨cells, hrow, hel, h1⟩ := hown
  -- what is appended
  have hnews : ∃ (a : Option Addr) (c : Nat) (news : List Value), s = .slice a ys.length c ∧ news.length = ys.length * R.sz ∧ (∀ u ∈ news, u.oneCell' = true) ∧
      ((a = none ∧ c = 0 ∧ ys = []) ∨ ∃ a0 : Addr, a = some a0 ∧ ∀ j u, news[j]? = some u → w.cell? (a0.add j) = some u) ∧ ∀ X', Sl R X' w s ys → ∀ i q, ys[i]? = some q → R.rd X' w ((news.drop (i * R.sz)).take R.sz) q := by
    rcases hsl with ⟨rfl, rfl⟩ | ⟨b, k, c, rfl, hc, hm, hq⟩ | ⟨a, rfl, rfl⟩
    rotate_left 2
    · exact ⟨some a, 0, [], rfl, by simp, by simp, .inr ⟨a, rfl, by simp⟩, fun _ _ i q hq => by simp at hq⟩
    · exact ⟨none, 0, [], rfl, by simp, by simp, .inl ⟨rfl, rfl, rfl⟩, fun _ _ i q hq => by simp at hq⟩
    · obtain ⟨news, g1, g2, g3, g4⟩ := Sl.row (c := c) hq rfl
      refine ⟨_, c, news, rfl, g1, g3, .inr ⟨⟨b, k, none⟩, rfl, g2.cells⟩, ?_⟩
      intro X' hX' i q hiq
      rcases hX' with ⟨h0, _⟩ | ⟨b', k', c', h0, _, _, hq'⟩ | ⟨a', _, h0⟩
      rotate_left 2
      · subst h0; simp at hiq
      · cases h0
      · cases h0
        obtain ⟨_, cs, hr, ha⟩ := hq' i q hiq
        -- the same cells
        have hcs : cs = (news.drop (i * R.sz)).take R.sz := by
          apply List.ext_getElem?
          intro j
          have hi : i < ys.length := by
            rcases Nat.lt_or_ge i ys.length with h | h
            · exact h
            · rw [List.getElem?_eq_none h] at hiq; cases hiq
          have hle : (i + 1) * R.sz ≤ ys.length * R.sz := Nat.mul_le_mul_right _ hi
          rw [Nat.add_mul] at hle
          by_cases hj : j < R.sz
          · rw [List.getElem?_take_of_lt hj, List.getElem?_drop]
            have hj1 : j < cs.length := by rw [R.len hr]; exact hj
            have hj2 : i * R.sz + j < news.length := by rw [g1]; omega
            have e1 := ha j _ (List.getElem?_eq_getElem hj1)
            have e2 := g2 (i * R.sz + j) _ (List.getElem?_eq_getElem hj2)
            rw [show k + (i * R.sz + j) = k + i * R.sz + j from by omega] at e2
            rw [List.getElem?_eq_getElem hj1, List.getElem?_eq_getElem hj2]
            rw [e1] at e2; exact e2
          · rw [List.getElem?_eq_none (by rw [R.len hr]; omega), List.getElem?_eq_none (by rw [List.length_take]; omega)]
        rw [← hcs]; exact hr
  obtain ⟨a, c, news, rfl, hnl, hn1, hwhere, hread⟩ := hnews
  -- the new element facts
  have fin : ∀ v' w', w'.ownsRow B e R.sz v' (xs.length + ys.length) (cells ++ news) → w.grownBy w' v.ownBlock → (∀ g, v'.ownBlock = some g → v.ownBlock = some g ∨ w.heap.size ≤ g) → Owns R e B X w' v' (xs ++ ys) := by
    intro v' w' hr hg hfresh
    refine ⟨cells ++ news, by rw [List.length_append]; exact hr, ?_, ?_⟩
    · intro i q hiq
      have key : ∃ cs, (((cells ++ news).drop (i * R.sz)).take R.sz = cs) ∧ ((∀ g, v.ownBlock = some g → R.rd (g :: X) w cs q) ∧ R.rd X w cs q) := by
        rw [List.getElem?_append] at hiq
        split at hiq
        · rename_i hi
          refine ⟨_, take_drop_append hrow.1 hi, ?_, ?_⟩
          · intro g hg'; have := hel i q hiq; simpa [avoid, hg'] using this
          · exact R.mono (hel i q hiq) fun b hb => avoid_mem hb
        · rename_i hi
          obtain ⟨j, rfl⟩ : ∃ j, i = xs.length + j := ⟨i - xs.length, by omega⟩
          rw [show xs.length + j - xs.length = j from by omega] at hiq
          refine ⟨_, take_drop_append' hrow.1, ?_, ?_⟩
          · intro g hg'; exact hread _ (hfar g hg') j q hiq
          · exact hread _ hsl j q hiq
      obtain ⟨cs, rfl, hk1, hk2⟩ := key
      have hext : Ext (avoid v X) w w' := Ext.of_grown hg fun k hk => by simp [avoid, hk]
      cases hv' : v'.ownBlock with
      | none =>
        simp only [avoid, hv']
        cases hv : v.ownBlock with
        | none => simp only [avoid, hv] at hext; exact R.ext hk2 hext
        | some g =>
          simp only [avoid, hv] at hext
          exact R.mono (R.ext (hk1 g hv) hext) fun b hb => List.mem_cons_of_mem _ hb
      | some g' =>
        simp only [avoid, hv']
        rcases hfresh g' hv' with h | h
        · have := R.ext (hk1 g' h) (by simpa [avoid, h] using hext); exact this
        · cases hv : v.ownBlock with
          | none =>
            simp only [avoid, hv] at hext
            have hn := R.new hk2 h
            exact R.ext hn (hext.mono fun b hb => List.mem_cons_of_mem _ hb)
          | some g =>
            simp only [avoid, hv] at hext
            have hn := R.new (hk1 g hv) h
            refine R.mono (R.ext hn (hext.mono fun b hb => List.mem_cons_of_mem _ hb)) ?_
            intro b hb
            rcases List.mem_cons.1 hb with rfl | hb
            · simp
            · simp [hb]
    · intro u hu
      rcases List.mem_append.1 hu with hu | hu
      · exact h1 u hu
      · exact hn1 u hu
  obtain ⟨i, hi, hz0, hz1, hz2⟩ := info_parts he
  have step : ∀ v' w', (Builtin.append_ #[t, t] o.type #[v, .slice a ys.length c]).run P w = .ok v' w' → Owns R e B X w' v' (xs ++ ys) → w.grownBy w' v.ownBlock → (∀ g, v'.ownBlock = some g → v.ownBlock = some g ∨ w.heap.size ≤ g) → WLr ro P n ops Q (o :: rest) E w := by
    intro v' w' hr h2 h3 h4
    refine WL.x (u := v') (w' := w') hs hd (.inl ?_) (k v' w' h2 h3 h4)
    simp only [execOp, ho, resolve]
    have e' : #[x, y].map (ev E) = #[v, .slice a ys.length c] := by simp [hx, hy]
    rw [e']
    exact run_v hr
  rcases hwhere with ⟨rfl, rfl, rfl⟩ | ⟨a0, rfl, hcells⟩
  · -- nothing is appended
    have hr : (Builtin.append_ #[t, t] o.type #[v, .slice none 0 0]).run P w = .ok v w := by
      rcases hrow.2 with ⟨rfl, _⟩ | ⟨g, cap, cur, rfl, _, hg, hnc, _⟩
      · simp [Builtin.append_, run_underlying ht, sizeOf, typeInfo, hi, Builtin.lenOf, Builtin.firstCells]
      · simp [Builtin.append_, run_underlying ht, sizeOf, typeInfo, hi, Builtin.lenOf, Builtin.firstCells, hnc, storeCells]
    have hnil : news = [] := List.eq_nil_of_length_eq_zero (by simpa using hnl)
    exact step v w hr (by rw [List.append_nil]; exact ⟨cells, hrow, hel, h1⟩) ⟨rfl, rfl, rfl, Nat.le_refl _, fun _ _ _ => rfl⟩ (fun g hg => .inl hg)
  · obtain ⟨v', w', hr, ho', hg, _⟩ := run_append_own (P := P) w B t o.type e i z R.sz by' ht hi hz0 hz1 hz2 hzs hsz v xs.length cells hrow a0 ys.length c news hnl hcells hn1 hlen hbytes hB
    have hfresh : ∀ g, v'.ownBlock = some g → v.ownBlock = some g ∨ w.heap.size ≤ g := by
      intro g hg'
      rcases hrow.2 with ⟨hv, h0⟩ | ⟨g0, cap, cur, hv, _, hg0, hnc, hcm, hcs, htake⟩
      · -- nil: whatever comes is new
        subst hv
        have hc0 : cells = [] := List.eq_nil_of_length_eq_zero (by rw [hrow.1, h0]; simp)
        subst hc0
        obtain ⟨v2, w2, hr2, ho2, _, _⟩ := run_append_own (P := P) w w.heap.size t o.type e i z R.sz by' ht hi hz0 hz1 hz2 hzs hsz (.slice none 0 0) xs.length [] ⟨by rw [h0]; simp, .inl ⟨rfl, h0⟩⟩ a0 ys.length c news hnl hcells hn1 hlen hbytes (Nat.le_refl _)
        rw [hr] at hr2
        cases hr2
        exact .inr (ho2.lt g hg').1
      · subst hv
        by_cases hroom : xs.length + ys.length ≤ cap
        · have hfit : xs.length * i.size + news.length ≤ cur.size := by rw [hnl, hcs, hz1, ← Nat.add_mul]; exact Nat.mul_le_mul_right _ hroom
          have hr2 := run_append_room (P := P) w t o.type e i ht hi g0 xs.length cap cur hg0 a0 ys.length c news (by rw [hz1]; exact hnl) hcells hn1 hroom hfit
          rw [hr] at hr2
          cases hr2
          exact .inl hg'
        · have holds : ∀ j u, cells[j]? = some u → w.cell? ((⟨g0, 0, none⟩ : Addr).add j) = some u := hrow.cells (g := g0) rfl
          have hlen' : xs.length + ys.length ≤ 9223372036854775807 := by simpa [maxLen] using hlen
          have hr2 := run_append_grow (P := P) w t o.type e i z ht hi hz0 ⟨g0, 0, none⟩ xs.length cap cells (by rw [hz1]; exact hrow.1) holds a0 ys.length c news (by rw [hz1]; exact hnl) hcells (by omega) (by omega) (growslice_fits (by omega) (by rw [hz2]; exact hbytes))
          rw [hr] at hr2
          cases hr2
          simp only [Value.ownBlock, Option.some.injEq] at hg'
          exact .inr (by omega)
    exact step v' w' hr (fin v' w' ho' hg hfresh) hg hfresh
end

/-! ### Slice literals -/
theorem foldl_set (vs : List Value) : ∀ (off j : Nat) (a b c : List Value), a.length = off + j → b.length = vs.length →
    ((vs.zipIdx j).foldl (fun (cs : Array Value) (x : Value × Nat) => cs.setIfInBounds (off + x.2) x.1) (a ++ b ++ c).toArray) = (a ++ vs ++ c).toArray := by
  induction vs with
  | nil => intro off j a b c _ hb; have : b = [] := List.eq_nil_of_length_eq_zero hb; subst this; simp
  | cons v vs ih =>
    intro off j a b c ha hb
    cases b with
    | nil => simp at hb
    | cons b0 b =>
      simp only [List.zipIdx_cons, List.foldl_cons]
      have e : (a ++ (b0 :: b) ++ c).toArray.setIfInBounds (off + j) v = ((a ++ [v]) ++ b ++ c).toArray := by
        rw [← ha]
        simp [List.set_append]
      rw [e, ih off (j + 1) (a ++ [v]) b c (by simp; omega) (by simpa using hb)]
      simp
theorem fill_all (sz : Nat) : ∀ (vs : List Value) (i : Nat) (pre suf : List Value), pre.length = i * sz → suf.length = vs.length * sz → (∀ v ∈ vs, v.cells.size = sz) →
    Instr.fill (fun i => some (i * sz, sz)) (pre ++ suf).toArray ((vs.zipIdx i).map fun x => (x.2, x.1)) = some (pre ++ vs.flatMap (·.cells.toList)).toArray := by
  intro vs
  induction vs with
  | nil => intro i pre suf _ hs _; have : suf = [] := List.eq_nil_of_length_eq_zero (by simpa using hs); subst this; simp [Instr.fill]
  | cons v vs ih =>
    intro i pre suf hp hs hv
    have hvs : v.cells.size = sz := hv v (by simp)
    simp only [List.zipIdx_cons, List.map_cons, Instr.fill]
    have hsl : sz ≤ suf.length := by rw [hs, List.length_cons, Nat.add_mul]; omega
    have hno : ¬ ((v.cells.size != sz) || decide (i * sz + v.cells.size > (pre ++ suf).toArray.size)) = true := by
      simp [hvs, hp]; omega
    rw [if_neg (by simpa using hno)]
    have hz : v.cells.zipIdx.foldl (fun (cs : Array Value) (x : Value × Nat) => cs.setIfInBounds (i * sz + x.2) x.1) (pre ++ suf).toArray = (pre ++ v.cells.toList ++ suf.drop sz).toArray := by
      have := foldl_set v.cells.toList (i * sz) 0 pre (suf.take sz) (suf.drop sz) (by omega) (by rw [show v.cells.toList.length = sz from by rw [Array.length_toList]; exact hvs, List.length_take]; omega)
      rw [List.append_assoc, List.take_append_drop] at this
      rw [← this, ← Array.foldl_toList]
      simp
    have hz' : v.cells.zipIdx.foldl (fun cs (x : Value × Nat) => match x with | (c, j) => cs.setIfInBounds (i * sz + j) c) (pre ++ suf).toArray = (pre ++ v.cells.toList ++ suf.drop sz).toArray := hz
    rw [hz']
    have := ih (i + 1) (pre ++ v.cells.toList) (suf.drop sz) (by rw [List.length_append, hp, Array.length_toList, hvs, Nat.add_mul]; omega) (by rw [List.length_drop, hs, List.length_cons, Nat.add_mul]; omega) (fun u hu => hv u (by simp [hu]))
    rw [this]
    simp

theorem flat_seg {sz : Nat} : ∀ {vs : List Value} {i : Nat} {v : Value}, (∀ v ∈ vs, v.cells.size = sz) → vs[i]? = some v → ((vs.flatMap (·.cells.toList)).drop (i * sz)).take sz = v.cells.toList := by
  intro vs
  induction vs with
  | nil => intro i v _ h; simp at h
  | cons u vs ih =>
    intro i v hv h
    have hu : u.cells.toList.length = sz := by rw [Array.length_toList]; exact hv u (by simp)
    cases i with
    | zero =>
      simp only [List.getElem?_cons_zero, Option.some.injEq] at h
      subst h
      rw [List.flatMap_cons, Nat.zero_mul, List.drop_zero, ← hu, List.take_left]
    | succ i =>
      rw [List.flatMap_cons, show (i + 1) * sz = u.cells.toList.length + i * sz from by rw [Nat.add_mul, hu]; omega, List.drop_append, List.drop_of_length_le (by omega), List.nil_append, show u.cells.toList.length + i * sz - u.cells.toList.length = i * sz from by omega]
      exact ih (fun x hx => hv x (by simp [hx])) (by simpa using h)
theorem flat_len {sz : Nat} : ∀ {vs : List Value}, (∀ v ∈ vs, v.cells.size = sz) → (vs.flatMap (·.cells.toList)).length = vs.length * sz := by
  intro vs
  induction vs with
  | nil => intro _; simp
  | cons v vs ih =>
    intro hv
    rw [List.flatMap_cons, List.length_append, ih (fun u hu => hv u (by simp [hu])), Array.length_toList, hv v (by simp), List.length_cons, Nat.add_mul]; omega

section
variable {P : Program} {n : Fsz} {ro : Option Nat} {Q : K} {E : Env} {w : World} {ops : Array Oper} {o : Oper} {rest : List Oper}
/-- a slice literal, all of its elements written out -/
theorem WL.lit {α : Type} {R : Rep α} {X : List Nat} {t e : TypeId} {len by' : Nat} {z : Value} {ps : Array (Nat × Operand)} {vs : List Value} {xs : List α} (hs : Sure ops o E) (hd : dstOk n o.dst = true) (ho : o.op = .buildSlice t len ps) (ht : P.underlying t = some (.slice e))
    (he : Elem P e z R.sz by') (hsz : 0 < R.sz) (hsm : len * R.sz ≤ 1024) (hps : ps.toList.map (fun x => (x.1, ev E x.2)) = (vs.zipIdx 0).map fun x => (x.2, x.1)) (hlen : vs.length = len) (hxl : xs.length = len)
    (hrd : ∀ (i : Nat) (v : Value) (x : α), vs[i]? = some v → xs[i]? = some x → R.rd X w v.cells.toList x)
    (k : ∀ v w', Ext [] w w' → Owns R e w.heap.size X w' v xs → (∀ g, v.ownBlock = some g → g = w.heap.size) → WLr ro P n ops Q rest (updO E o.dst v) w') : WLr ro P n ops Q (o :: rest) E w := by
  have hat : ∀ i, i < len → ∃ v x, vs[i]? = some v ∧ xs[i]? = some x ∧ R.rd X w v.cells.toList x := by
    intro i hi
    have h1 : i < vs.length := by omega
    have h2 : i < xs.length := by omega
    exact ⟨_, _, List.getElem?_eq_getElem h1, List.getElem?_eq_getElem h2, hrd i _ _ (List.getElem?_eq_getElem h1) (List.getElem?_eq_getElem h2)⟩
  have hcs : ∀ v ∈ vs, v.cells.size = R.sz := by
    intro v hv
    obtain ⟨i, hi, rfl⟩ := List.mem_iff_getElem.1 hv
    obtain ⟨u, x, h1, h2, h3⟩ := hat i (by omega)
    rw [List.getElem?_eq_getElem hi] at h1
    cases h1
    have := R.len h3
    rw [Array.length_toList] at this; exact this
  have hfl : (vs.flatMap (·.cells.toList)).length = len * R.sz := by rw [flat_len hcs, hlen]
  refine WL.buildSlice (cs := vs.flatMap (·.cells.toList)) hs hd ho ht he hsm ?_ ?_
  · rw [Array.toList_map, hps]
    generalize hc : (Array.range (len * R.sz)).map ((if len * R.sz = 0 then #[] else z.cells)[· % (if len * R.sz = 0 then #[] else z.cells).size]!) = c0
    have h0 : c0.toList.length = vs.length * R.sz := by rw [← hc, hlen]; simp
    have := fill_all R.sz vs 0 [] c0.toList (by simp) h0 hcs
    simpa using this
  · intro w' hx hb
    refine k _ w' hx ⟨vs.flatMap (·.cells.toList), ⟨by rw [hxl]; exact hfl, .inr ⟨w.heap.size, len, _, by rw [hxl], Nat.le_refl _, hb, by omega, ?_, by simpa using hfl, ?_⟩⟩, ?_, ?_⟩ ?_
    · simp only [maxLen]
      have : len ≤ len * R.sz := Nat.le_mul_of_pos_right _ hsz
      omega
    · show (vs.flatMap (·.cells.toList)).take (xs.length * R.sz) = _
      rw [List.take_of_length_le (by rw [hfl, hxl]; exact Nat.le_refl _)]
    · intro i x hix
      have hi : i < len := by
        rcases Nat.lt_or_ge i xs.length with h | h
        · omega
        · rw [List.getElem?_eq_none h] at hix; cases hix
      obtain ⟨v, y, h1, h2, h3⟩ := hat i hi
      rw [h2] at hix; cases hix
      rw [flat_seg hcs h1]
      have hn := R.new h3 (Nat.le_refl w.heap.size)
      exact R.ext hn (hx.any)
    · intro u hu
      obtain ⟨v, hv, huv⟩ := List.mem_flatMap.1 hu
      obtain ⟨i, hi, rfl⟩ := List.mem_iff_getElem.1 hv
      obtain ⟨v, y, h1, h2, h3⟩ := hat i (by omega)
      rw [List.getElem?_eq_getElem hi] at h1
      cases h1
      exact R.one h3 u huv
    · intro g hg; simp only [Value.ownBlock, Option.some.injEq] at hg; exact hg.symm
end

/-! ### nil, and slices cut -/
def nilB : Value → Bool
  | .slice none _ _ => true
  | _ => false
theorem Sl.isNil {α : Type} {R : Rep α} {X : List Nat} {w : World} {v : Value} {xs : List α} (h : Sl R X w v xs) (hn : nilB v = true) : v = .slice none 0 0 ∧ xs = [] := by
  rcases h with h | ⟨b, k, c, rfl, _⟩ | ⟨a, rfl, _⟩
  · exact h
  · cases hn
  · cases hn
theorem V.eqNil {P : Program} {o : Oper} {E : Env} {w : World} {t u e : TypeId} {x y : Operand} {a : Option Addr} {l c : Nat} {v : Value} (ho : o.op = .binOp .eql t x y u) (ht : P.underlying t = some (.slice e)) (hx : ev E x = v) (hv : v = .slice a l c) (hy : ev E y = .slice none 0 0) :
    OpV P o E w (.bool (nilB v)) := by
  subst hv
  have h : (binOp .eql t (.slice a l c) (.slice none 0 0)).run P w = .ok (.bool (nilB (.slice a l c))) w := by
    rw [Lib.run_eql_slice_nil w t e a l c 0 0 ht]
    cases a <;> rfl
  have hg : (eqGuard .eql t x y (.slice a l c) (.slice none 0 0)).run P w = .ok () w := rfl
  simp only [OpV, execOp, ho, hx, hy, Sem.run_bind, hg, h, Result.andThen_ok, Sem.run_pure]
/-- s[:h:h] -/
theorem V.clip {P : Program} {o : Oper} {E : Env} {w : World} {α : Type} {R : Rep α} {X : List Nat} {t e : TypeId} {x y z : Operand} {v : Value} {xs : List α} (ho : o.op = .slice t x none (some y) (some z)) (ht : P.underlying t = some (.slice e)) (hs : Sized P e R.sz) (hx : ev E x = v) (hsl : Sl R X w v xs)
    (hy : ev E y = .int .i64 xs.length) (hz : ev E z = .int .i64 xs.length) : ∃ v', OpV P o E w v' ∧ Sl R X w v' xs := by
  rcases hsl with ⟨rfl, rfl⟩ | ⟨b, k, c, rfl, hc, hm, hq⟩ | ⟨a, rfl, rfl⟩
  rotate_left 2
  · refine ⟨.slice (some a) 0 0, ?_, .inr (.inr ⟨a, rfl, rfl⟩)⟩
    simp [OpV, execOp, ho, hx, hy, hz, go_sem, Instr.sliceAt, underlying, ht, Instr.slice, Instr.sliceBounds, Instr.sliceBound, asIntOf, size_of hs, Addr.add]
  · refine ⟨.slice none 0 0, ?_, .inl ⟨rfl, rfl⟩⟩
    simp [OpV, execOp, ho, hx, hy, hz, go_sem, Instr.sliceAt, underlying, ht, Instr.slice, Instr.sliceBounds, Instr.sliceBound, asIntOf, size_of hs]
  · refine ⟨.slice (some ⟨b, k, none⟩) xs.length xs.length, ?_, .inr (.inl ⟨b, k, xs.length, rfl, Nat.le_refl _, by omega, hq⟩)⟩
    simp [OpV, execOp, ho, hx, hy, hz, go_sem, Instr.sliceAt, underlying, ht, Instr.slice, Instr.sliceBounds, Instr.sliceBound, asIntOf, size_of hs, hc, addr_add]
/-- s[:h] -/
theorem V.upto {P : Program} {o : Oper} {E : Env} {w : World} {α : Type} {R : Rep α} {X : List Nat} {t e : TypeId} {x y : Operand} {v : Value} {xs : List α} {k : IntKind} {h : Nat} (ho : o.op = .slice t x none (some y) none) (ht : P.underlying t = some (.slice e)) (hs : Sized P e R.sz) (hx : ev E x = v) (hsl : Sl R X w v xs)
    (hy : ev E y = .int k h) (hh : h ≤ xs.length) : ∃ v', OpV P o E w v' ∧ Sl R X w v' (xs.take h) := by
  rcases hsl with ⟨rfl, rfl⟩ | ⟨b, kk, c, rfl, hc, hm, hq⟩ | ⟨a, rfl, rfl⟩
  rotate_left 2
  · have : h = 0 := by simpa using hh
    subst this
    refine ⟨.slice (some a) 0 0, ?_, .inr (.inr ⟨a, rfl, rfl⟩)⟩
    simp [OpV, execOp, ho, hx, hy, go_sem, Instr.sliceAt, underlying, ht, Instr.slice, Instr.sliceBounds, Instr.sliceBound, asIntOf, size_of hs, Addr.add]
  · have : h = 0 := by simpa using hh
    subst this
    refine ⟨.slice none 0 0, ?_, .inl ⟨rfl, rfl⟩⟩
    simp [OpV, execOp, ho, hx, hy, go_sem, Instr.sliceAt, underlying, ht, Instr.slice, Instr.sliceBounds, Instr.sliceBound, asIntOf, size_of hs]
  · have e1 : (h : Int) ≤ (c : Int) := by omega
    have e2 : h ≤ c := by omega
    refine ⟨.slice (some ⟨b, kk, none⟩) h c, ?_, .inr (.inl ⟨b, kk, c, by rw [List.length_take, Nat.min_eq_left hh], by rw [List.length_take]; omega, hm, ?_⟩)⟩
    · simp [OpV, execOp, ho, hx, hy, go_sem, Instr.sliceAt, underlying, ht, Instr.slice, Instr.sliceBounds, Instr.sliceBound, asIntOf, size_of hs, e2, addr_add]
    · intro i x hix
      rw [List.getElem?_take] at hix
      split at hix
      · exact hq i x hix
      · cases hix

/-- a representation whose cells lead nowhere -/
def Flat {α : Type} (R : Rep α) : Prop := ∀ X Y w cs x, R.rd X w cs x → R.rd Y w cs x
theorem flat_int (k : IntKind) : Flat (intR k) := fun _ _ _ _ _ h => h
theorem flat_bool : Flat boolR := fun _ _ _ _ _ h => h
theorem flat_str : Flat strR := fun _ _ _ _ _ h => h
theorem Owns.sl' {α : Type} {R : Rep α} {e B : Nat} {X : List Nat} {w : World} {v : Value} {xs : List α} (h : Owns R e B X w v xs) (hX : ∀ g, v.ownBlock = some g → g ∉ X) : Sl R X w v xs := by
  obtain ⟨cells, ⟨hlen, h1⟩, h2, _⟩ := h
  rcases h1 with ⟨rfl, h0⟩ | ⟨g, cap, cur, rfl, hB, hg, hc, hm, hs, ht⟩
  · exact .inl ⟨rfl, List.eq_nil_of_length_eq_zero h0⟩
  · refine .inr (.inl ⟨g, 0, cap, rfl, hc, hm, fun i x hx => ⟨hX g rfl, _, R.mono (h2 i x hx) (by intro k hk; simp [avoid, Value.ownBlock, hk]), ?_⟩⟩)
    intro j u hj
    have hi : i < xs.length := by
      rcases Nat.lt_or_ge i xs.length with h | h
      · exact h
      · rw [List.getElem?_eq_none h] at hx; cases hx
    have hjl : j < R.sz := by
      rcases Nat.lt_or_ge j R.sz with h | h
      · exact h
      · rw [List.getElem?_eq_none (by simp; omega)] at hj; cases hj
    rw [List.getElem?_take_of_lt hjl, List.getElem?_drop, ← ht, List.getElem?_take] at hj
    split at hj
    · simp only [World.cell?, hg]
      simpa using hj
    · cases hj
theorem Owns.flat {α : Type} {R : Rep α} {e B : Nat} {X Y : List Nat} {w : World} {v : Value} {xs : List α} (hR : Flat R) (h : Owns R e B X w v xs) : Owns R e B Y w v xs := by
  obtain ⟨cells, h1, h2, h3⟩ := h
  exact ⟨cells, h1, fun i x hx => hR _ _ _ _ _ (h2 i x hx), h3⟩
theorem Owns.nil' {α : Type} {R : Rep α} {e : TypeId} {B : Nat} {X : List Nat} {w : World} {v : Value} (hv : v = .slice none 0 0) : Owns R e B X w v [] := by
  subst hv; exact Owns.nil
theorem nil_block {v : Value} (hv : v = .slice none 0 0) {p : Nat → Prop} : ∀ g, v.ownBlock = some g → p g := by
  subst hv; intro g hg; cases hg
theorem Box.grown {w w' : World} {b : Nat} {t : TypeId} {cs : List Value} {v : Value} (h : Box w b t cs) (hg : w.grownBy w' v.ownBlock) (hne : ∀ g, v.ownBlock = some g → g ≠ b) : Box w' b t cs :=
  (hg.block b h.lt (fun e => hne b e.symm rfl)).trans h
theorem Ext.ownB {X : List Nat} {w0 w w' : World} {v : Value} {B : Nat} (h : Ext X w0 w) (hg : w.grownBy w' v.ownBlock) (hv : ∀ k, v.ownBlock = some k → B ≤ k) (hB : w0.heap.size ≤ B) : Ext X w0 w' := h.own hg fun k hk => Nat.le_trans hB (hv k hk)
/-- the row behind an append, and what it is not -/
theorem after_no {w : World} {v v' : Value} {X : List Nat} (hf : ∀ g, v'.ownBlock = some g → v.ownBlock = some g ∨ w.heap.size ≤ g) (hno : ∀ g, v.ownBlock = some g → g ∉ X) (hX : ∀ x ∈ X, x < w.heap.size) : ∀ g, v'.ownBlock = some g → g ∉ X := by
  intro g hg hx
  rcases hf g hg with h | h
  · exact hno g h hx
  · have := hX g hx; omega
end Go.Proofs.YtbbjonjhaoeidaaDoor.W
