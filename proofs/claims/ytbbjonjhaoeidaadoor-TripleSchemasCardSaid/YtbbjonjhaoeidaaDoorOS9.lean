/- The symbolic evaluator is right: operations that make or write memory. Program-agnostic. -/
import Derived.Test.YtbbjonjhaoeidaaDoorOS8
import Derived.Laws.IdiomStrings
set_option linter.unusedVariables false
set_option linter.unusedSimpArgs false
namespace Go.Proofs.YtbbjonjhaoeidaaDoor.Sv
open Go.RowKit Go.Proofs.YtbbjonjhaoeidaaDoor.W
variable {Γ : Gl}

def repV (z : List Value) : Nat → List Value
  | 0 => []
  | n + 1 => z ++ repV z n
theorem repV_len (z : List Value) (n : Nat) : (repV z n).length = n * z.length := by
  induction n with
  | zero => simp [repV]
  | succ n ih => rw [repV, List.length_append, ih, Nat.add_mul]; omega
theorem repV_get (z : List Value) : ∀ (n i : Nat), i < n * z.length → (repV z n)[i]? = z[i % z.length]?
  | 0, i, h => by simp at h
  | n + 1, i, h => by
    rw [repV]
    rcases Nat.lt_or_ge i z.length with h1 | h1
    · rw [List.getElem?_append_left h1, Nat.mod_eq_of_lt h1]
    · rw [List.getElem?_append_right h1, repV_get z n _ (by rw [Nat.add_mul] at h; omega), ← Nat.mod_eq_sub_mod h1]
theorem range_rep (z : Array Value) (n m : Nat) (hm : z.size = m) (h0 : 0 < m) : ((Array.range (n * m)).map (z[· % z.size]!)) = (repV z.toList n).toArray := by
  have hz : z.toList.length = m := by rw [Array.length_toList]; exact hm
  apply Array.ext
  · simp [repV_len, hm]
  · intro i h1 h2
    have hi : i < n * z.toList.length := by rw [hz]; simpa using h1
    have := repV_get z.toList n i hi
    rw [hz] at this
    have hlt : i % m < z.size := by rw [hm]; exact Nat.mod_lt _ h0
    simp only [Array.getElem_map, Array.getElem_range, hm]
    rw [getElem!_pos z (i % m) hlt]
    have h3 : (repV z.toList n)[i]? = some ((repV z.toList n)[i]'(by rw [repV_len]; exact hi)) := List.getElem?_eq_getElem _
    rw [h3] at this
    have h4 : z.toList[i % m]? = some z[i % m] := by simp [hlt]
    rw [h4] at this
    simpa using this.symm
theorem repV_mem {z : List Value} {u : Value} : ∀ {n : Nat}, u ∈ repV z n → u ∈ z
  | 0, h => by simp [repV] at h
  | n + 1, h => by
    rw [repV] at h
    rcases List.mem_append.1 h with h | h
    · exact h
    · exact repV_mem h
theorem zeroCells_mem {z : Array Value} {u : Value} {n : Nat} (h : u ∈ (Builtin.zeroCells z n).toList) : u ∈ z.toList := by
  rcases Nat.eq_zero_or_pos z.size with h0 | h0
  · unfold Builtin.zeroCells at h; rw [h0] at h; simp at h
  · have : Builtin.zeroCells z n = (repV z.toList n).toArray := range_rep z n z.size rfl h0
    rw [this] at h; exact repV_mem h
theorem splice_len {cs us : List Value} {k : Nat} (h : k + us.length ≤ cs.length) : (W.splice cs k us).length = cs.length := by
  simp [W.splice]; omega
section
variable {s : Sg} {w0 w : World} {st st' : Stt} {A : AE} {E : Env} {P : Program} {o : Oper}
/-- what an operation that makes or writes leaves -/
def Wrs (P : Program) (Γ : Gl) (o : Oper) (E : Env) (w w0 : World) (s : Sg) (a : AV) (st' : Stt) : Prop := ∃ v w' s', OpX P o E w v w' ∧ s.le s' ∧ Hold Γ s' w0 st' w' ∧ Rel s' a v
theorem repZ_ok {z : List AV} {zs : List Value} (h : RelL s z zs) (n : Nat) : RelL s (repZ z n) (repV zs n) := by
  induction n with
  | zero => exact RelL.nil
  | succ n ih => exact h.append ih
theorem zeroA_ok {t : TypeId} {z : List AV} (h : zeroA P t = some z) : ∃ i v, P.info? t = some i ∧ i.zero = some v ∧ ∀ s, RelL s z v.cells.toList := by
  unfold zeroA at h
  split at h
  · rename_i i hi
    split at h
    · rename_i v hv
      cases h
      exact ⟨i, v, hi, hv, fun s => Rel.cells (Rel.mkv v)⟩
    · cases h
  · cases h
theorem wr_new (hH : Hold Γ s w0 st w) {t : TypeId} {cs : List AV} {vs : List Value} (hr : RelL s cs vs) (o : Oper) (v : Value) (hv : v = .pointer (some ⟨w.heap.size, 0, none⟩)) (hx : OpX P o E w v (w.alloc (.cells vs.toArray t))) : Wrs P Γ o E w w0 s (.ptr st.nx 0) (newX st (.c t cs)) := by
  refine ⟨v, _, s.ins st.nx ⟨w.heap.size, 0, 0⟩, hx, hH.le_new _, hH.new (p := ⟨w.heap.size, 0, 0⟩) (Ext.alloc w _) (fun _ => Nat.le_refl _) ⟨vs, heap_alloc_new w _, RelL.mono (hH.le_new _) _ _ hr⟩, ?_⟩
  subst hv
  simp only [Rel]
  exact ⟨_, Sg.ins_same, rfl⟩
theorem X.run {v : Value} {w' : World} {x y : Operand} {t : TypeId} (ho : o.op = .call ⟨.builtin .append, #[x, y], #[t, t]⟩) {a b : Value} (hx : ev E x = a) (hy : ev E y = b) (h : (Builtin.append_ #[t, t] o.type #[a, b]).run P w = .ok v w') : OpX P o E w v w' := by
  left
  simp only [execOp, ho, resolve]
  have e : #[x, y].map (ev E) = #[a, b] := by simp [hx, hy]
  rw [e]
  exact run_v h
/-- what is appended: cells that read as data -/
def SrcIs (G : Fz) (t : DT) (w : World) (ys : List D) (v : Value) : Prop := ∃ us, Els G t ys us ∧ ((ys = [] ∧ ZV v) ∨ ∃ a c, v = .slice (some a) ys.length c ∧ ∀ j u, us[j]? = some u → w.cell? (a.add j) = some u)
theorem At.cells' {b k : Nat} {cs : List Value} (h : At w b k cs) : ∀ j u, cs[j]? = some u → w.cell? ((⟨b, k, none⟩ : Addr).add j) = some u := fun j u hj => by rw [addr_add]; exact h j u hj
theorem slc_src {G : Fz} {t : DT} {ys : List D} {v : Value} (h : Slc G t.sz (fun x us => Rd G t x us) ys v) (hG : ∀ b o, G b = some o → w.heap[b]? = some o) : SrcIs G t w ys v := by
  rcases h with ⟨rfl, hv⟩ | ⟨b, k, c, rfl, _, _, hq⟩
  · exact ⟨[], Els.nil, .inl ⟨rfl, hv⟩⟩
  · have key : ∀ (zs : List D) (i0 : Nat), (∀ i x, zs[i]? = some x → ∃ cs, cs.length = t.sz ∧ FAt G b (k + (i0 + i) * t.sz) cs ∧ Rd G t x cs) → ∃ us, Els G t zs us ∧ ∀ j u, us[j]? = some u → w.cell? ⟨b, k + i0 * t.sz + j, none⟩ = some u := by
      intro zs
      induction zs with
      | nil => intro i0 _; exact ⟨[], Els.nil, by simp⟩
      | cons z zs ih =>
        intro i0 hz
        obtain ⟨cs, h1, h2, h3⟩ := hz 0 z rfl
        obtain ⟨us, h4, h5⟩ := ih (i0 + 1) (fun i x hi => by
          obtain ⟨cs', g1, g2, g3⟩ := hz (i + 1) x (by simpa using hi)
          exact ⟨cs', g1, by rw [show i0 + 1 + i = i0 + (i + 1) from by omega]; exact g2, g3⟩)
        refine ⟨cs ++ us, Els.cons h3 h4, fun j u hj => ?_⟩
        rw [List.getElem?_append] at hj
        split at hj
        · have := h2.at hG j u hj; simpa using this
        · rename_i hge
          have := h5 _ u hj
          rw [show k + (i0 + 1) * t.sz + (j - cs.length) = k + i0 * t.sz + j from by rw [Nat.add_mul]; omega] at this
          exact this
    obtain ⟨us, h1, h2⟩ := key ys 0 (fun i x hi => by rw [Nat.zero_add]; exact hq i x hi)
    refine ⟨us, h1, .inr ⟨_, c, rfl, fun j u hj => ?_⟩⟩
    have := h2 j u hj
    rw [addr_add]; simpa using this
theorem row_src (hH : Hold Γ s w0 st w) {l n : Nat} {et : TypeId} {dt : DT} {xs : List D} {v : Value} (hl : st.h.get l = some (.q et dt xs)) (hr : Rel s (.ow l n) v) : SrcIs s.G dt w (xs.take n) v := by
  simp only [Rel] at hr
  obtain ⟨p, hp, hn, hmc, hv⟩ := hr
  obtain ⟨p', hp', g1, g2, g3, g4⟩ := hH.row hl
  rw [hp] at hp'; cases hp'
  have hlen : (xs.take n).length = n := by rw [List.length_take]; omega
  rcases hv with rfl | ⟨h0, hv⟩
  · by_cases hc0 : p.c = 0
    · have hn0 : n = 0 := by omega
      subst hn0
      rw [List.take_zero, hc0]
      exact ⟨[], Els.nil, .inl ⟨rfl, .inr ⟨_, rfl⟩⟩⟩
    · obtain ⟨cur, h1, h2, h3, h4⟩ := hH.els hl hp hc0
      refine ⟨_, h4.cut n (by omega), .inr ⟨_, _, by rw [hlen], fun j u hj => ?_⟩⟩
      rw [List.take_take, List.getElem?_take] at hj
      split at hj
      · have : cur[j]? = some u := by simpa using hj
        rw [addr_add]; simp [World.cell?, h1, this]
      · cases hj
  · have hn0 : n = 0 := by omega
    subst hn0
    rw [List.take_zero]
    exact ⟨[], Els.nil, .inl ⟨rfl, hv⟩⟩
theorem view_src (hH : Hold Γ s w0 st w) {l lo n : Nat} {et : TypeId} {dt : DT} {xs : List D} {v : Value} (hl : st.h.get l = some (.q et dt xs)) (hr : Rel s (.vw l lo n dt.sz) v) : SrcIs s.G dt w ((xs.drop lo).take n) v := by
  simp only [Rel] at hr
  obtain ⟨p, hp, hn, hmc, hv⟩ := hr
  obtain ⟨p', hp', g1, g2, g3, g4⟩ := hH.row hl
  rw [hp] at hp'; cases hp'
  rcases hv with ⟨hc0, cv, k1, k2, rfl⟩ | ⟨hn0, hv⟩
  · obtain ⟨cur, h1, h2, h3, h4⟩ := hH.els hl hp hc0
    have hlen : ((xs.drop lo).take n).length = n := by rw [List.length_take, List.length_drop]; omega
    refine ⟨(cur.toList.drop (lo * dt.sz)).take (n * dt.sz), ⟨?_, ?_, ?_⟩, .inr ⟨_, _, by rw [hlen], fun j u hj => ?_⟩⟩
    · rw [hlen, List.length_take, List.length_drop, Array.length_toList]
      have : (lo + n) * dt.sz ≤ p.c * dt.sz := Nat.mul_le_mul_right _ (by omega)
      rw [Nat.add_mul] at this
      omega
    · intro u hu
      exact h3 u (List.mem_of_mem_drop (List.mem_of_mem_take hu))
    · intro i x hi
      rw [List.getElem?_take] at hi
      split at hi
      · rename_i hlt
        rw [List.getElem?_drop] at hi
        have hx := h4.rd (lo + i) x hi
        have hle : (i + 1) * dt.sz ≤ n * dt.sz := Nat.mul_le_mul_right _ (by omega)
        have hll : lo + i < xs.length := (List.getElem?_eq_some_iff.1 hi).1
        have hle2 : (lo + i + 1) * dt.sz ≤ xs.length * dt.sz := Nat.mul_le_mul_right _ (by omega)
        rw [Nat.add_mul] at hle hle2
        rw [List.drop_take, List.take_take, Nat.min_eq_left (by omega)] at hx
        rw [List.drop_take, List.take_take, Nat.min_eq_left (by omega), List.drop_drop, ← Nat.add_mul]
        exact hx
      · cases hi
    · rw [List.getElem?_take] at hj
      split at hj
      · rw [List.getElem?_drop] at hj
        have : cur[lo * dt.sz + j]? = some u := by simpa using hj
        rw [addr_add]; simp [World.cell?, h1, this]
      · cases hj
  · subst hn0
    rw [List.take_zero]
    exact ⟨[], Els.nil, .inl ⟨rfl, hv⟩⟩
theorem src_ok (hH : Hold Γ s w0 st w) {dt : DT} {y : AV} {ys : List D} {v : Value} (h : srcD st dt y = some (ys, st')) (hr : Rel s y v) : ∃ s', s.le s' ∧ Hold Γ s' w0 st' w ∧ SrcIs s'.G dt w ys v := by
  unfold srcD at h
  split at h
  · cases h; exact ⟨s, Sg.le.refl s, hH, [], Els.nil, .inl ⟨rfl, .inl hr.v_of⟩⟩
  · cases h; simp only [Rel] at hr; exact ⟨s, Sg.le.refl s, hH, [], Els.nil, .inl ⟨rfl, hr⟩⟩
  · rename_i l n c
    split at h
    case h_2 => cases h
    rename_i et cs hl
    cases hc : Nat.beq cs.length (n * dt.sz) with
    | false => rw [hc] at h; cases h
    | true =>
    rw [hc] at h
    simp only [cond_true] at h
    split at h
    case h_2 => cases h
    rename_i ys' st1 hf
    split at h
    case h_2 => cases h
    rename_i ds hds
    cases h
    simp only [Rel] at hr
    obtain ⟨p, hp, rfl⟩ := hr
    obtain ⟨p', hp', ho⟩ := hH.obj l _ hl
    rw [hp] at hp'; cases hp'
    obtain ⟨vs, h1, h2⟩ := ho.cur
    obtain ⟨s1, k1, k2, k3⟩ := freezeL_ok hH hf h2
    obtain ⟨h4, h5⟩ := toDn_ok k2 (Sees.self _ w) dt n ys' vs ys hds k3
    refine ⟨s1, k1, k2, vs, h5, .inr ⟨⟨p.b, 0, none⟩, c, by rw [h4], fun j u hj => ?_⟩⟩
    rw [addr_add, Nat.zero_add]
    simp [World.cell?, h1, hj]
  · rename_i e xs
    cases hc : dt.beq e with
    | false => rw [hc] at h; cases h
    | true =>
    rw [hc] at h
    cases h
    have := DT.beq_ok hc
    subst this
    simp only [Rel, Sg.H, cond_true] at hr
    exact ⟨s, Sg.le.refl s, hH, slc_src hr (hH.H true)⟩
  · rename_i l n
    split at h
    case h_2 => cases h
    rename_i et e xs hl
    cases hc : dt.beq e with
    | false => rw [hc] at h; cases h
    | true =>
    rw [hc] at h
    cases h
    have := DT.beq_ok hc
    subst this
    exact ⟨s, Sg.le.refl s, hH, row_src hH hl hr⟩
  · rename_i l lo n sz
    split at h
    case h_2 => cases h
    rename_i et e xs hl
    cases hc : (dt.beq e && Nat.beq sz dt.sz) with
    | false => rw [hc] at h; cases h
    | true =>
    rw [hc] at h
    cases h
    simp only [Bool.and_eq_true] at hc
    have := DT.beq_ok hc.1
    subst this
    have hsz := beq_t hc.2
    subst hsz
    exact ⟨s, Sg.le.refl s, hH, view_src hH hl hr⟩
  · cases h
/-- a new row that an append makes -/
theorem fresh_row (hH : Hold Γ s w0 st w) {e : TypeId} {dt : DT} {z : Value} {cap : Nat} {zs : List D} {us : List Value} (hz : Els s.G dt zs us) (hzl : z.cells.size = dt.sz) (h1 : zs.length ≤ cap) (h2 : cap ≤ maxLen) (o2 : ∀ u ∈ z.cells.toList, u.oneCell' = true) {cells : Array Value} (hc : cells = us.toArray ++ Builtin.zeroCells z.cells (cap - zs.length)) :
    Hold Γ (s.ins st.nx ⟨w.heap.size, cap, zs.length⟩) w0 (newX st (.q e dt zs)) (w.drew.alloc (.cells cells e)) := by
  refine (hH.drew (w.drawn + 1)).new (p := ⟨w.heap.size, cap, zs.length⟩) (Ext.alloc w.drew _) (fun _ => Nat.le_refl _) ?_
  refine obj_row (us := us) (cur := cells) (hz.mono (Sub.refl _)) (heap_alloc_new w.drew _) ?_ ?_ ?_ rfl h1 h2
  · subst hc
    simp only [Array.size_append, List.size_toArray, size_zeroCells, hzl, hz.len]
    rw [← Nat.add_mul]; exact Nat.mul_le_mul_right _ (by omega)
  · subst hc
    intro u hu
    rw [Array.toList_append] at hu
    rcases List.mem_append.1 hu with hu | hu
    · exact hz.one u (by simpa using hu)
    · exact o2 u (zeroCells_mem hu)
  · subst hc; simp [List.take_left]
theorem ow_new (hH : Hold Γ s w0 st w) {b c m : Nat} (hm : m ≤ c) : Rel (s.ins st.nx ⟨b, c, m⟩) (.ow st.nx m) (.slice (some ⟨b, 0, none⟩) m c) := by
  simp only [Rel]; exact ⟨_, Sg.ins_same, Nat.le_refl _, hm, .inl rfl⟩
theorem run_append_zero (P : Program) (w : World) {t e ty : TypeId} {i : TypeInfo} {base : Option Addr} {n c : Nat} {y : Value} (ht : P.underlying t = some (.slice e)) (hi : P.info? e = some i) (hnc : n ≤ c) (hy : ZV y) : (Builtin.append_ #[t, t] ty #[.slice base n c, y]).run P w = .ok (.slice base n c) w := by
  have h1 : (Builtin.lenOf y).run P w = .ok 0 w := by rcases hy with rfl | ⟨a, rfl⟩ <;> rfl
  have h2 : (Builtin.firstCells i.size 0 y).run P w = .ok #[] w := by
    rcases hy with rfl | ⟨a, rfl⟩ <;> simp [Builtin.firstCells, loadCells, loadCellsFrom]
  cases base <;> simp [Builtin.append_, run_underlying ht, sizeOf, typeInfo, hi, h1, h2, hnc, storeCells]
theorem Hold.absent (hH : Hold Γ s w0 st w) {e : TypeId} {dt : DT} : Hold Γ (s.ins st.nx ⟨0, 0, 0⟩) w0 (newX st (.q e dt [])) w :=
  hH.new (p := ⟨0, 0, 0⟩) (Ext.refl [] w) (fun h => absurd rfl h) ⟨rfl, Nat.le_refl _, by simp [maxLen], fun h => absurd rfl h⟩
/-- an append to what has neither elements nor room -/
theorem append_zv (hH : Hold Γ s w0 st w) {t e : TypeId} {i : TypeInfo} {z : Value} {dt : DT} {x y : Operand} {ys : List D} {vx : Value} (ho : o.op = .call ⟨.builtin .append, #[x, y], #[t, t]⟩) (ht : P.underlying t = some (.slice e)) (hi : P.info? e = some i) (hzv : i.zero = some z) (hsz : i.size = dt.sz) (hzl : z.cells.size = dt.sz) (hz1 : ∀ u ∈ z.cells.toList, u.oneCell' = true)
    (hx : ev E x = vx) (hvx : ZV vx) (hs : SrcIs s.G dt w ys (ev E y)) (hb : ys.length * i.bytes ≤ 140737488355328) (hl : ys.length ≤ 9223372036854775807) : Wrs P Γ o E w w0 s (.ow st.nx ys.length) (newX st (.q e dt ys)) := by
  obtain ⟨us, he, hs⟩ := hs
  rcases hs with ⟨rfl, hy⟩ | ⟨a, c, hy, hcell⟩
  · have hres : OpX P o E w vx w := by
      rcases hvx with rfl | ⟨a, rfl⟩
      · exact X.run ho hx rfl (run_append_zero P w ht hi (Nat.le_refl _) hy)
      · exact X.run ho hx rfl (run_append_zero P w ht hi (Nat.le_refl _) hy)
    exact ⟨vx, w, _, hres, hH.le_new _, hH.absent, by simp only [Rel]; exact ⟨_, Sg.ins_same, Nat.le_refl _, Nat.le_refl _, .inr ⟨rfl, hvx⟩⟩⟩
  · by_cases h0 : ys.length = 0
    · have : ys = [] := List.eq_nil_of_length_eq_zero h0
      subst this
      have hres : OpX P o E w vx w := by
        have key : ∀ base, (Builtin.append_ #[t, t] o.type #[.slice base 0 0, .slice (some a) 0 c]).run P w = .ok (.slice base 0 0) w := fun base => by
          cases base <;> simp [Builtin.append_, run_underlying ht, sizeOf, typeInfo, hi, Builtin.lenOf, Builtin.firstCells, loadCells, loadCellsFrom, storeCells]
        rcases hvx with rfl | ⟨a', rfl⟩
        · exact X.run ho hx hy (key _)
        · exact X.run ho hx hy (key _)
      exact ⟨vx, w, _, hres, hH.le_new _, hH.absent, by simp only [Rel]; exact ⟨_, Sg.ins_same, Nat.le_refl _, Nat.le_refl _, .inr ⟨rfl, hvx⟩⟩⟩
    · have hlen : us.length = ys.length * i.size := by rw [hsz]; exact he.len
      rcases hvx with rfl | ⟨a', rfl⟩
      · have hr := run_append_nil (P := P) w t o.type e i z ht hi hzv a ys.length c us hlen hcell (by omega) (by omega) (by omega)
        have hcap := grownCap_ge w ys.length 0 e
        exact ⟨_, _, _, X.run ho hx hy hr, hH.le_new _, fresh_row hH he hzl hcap (grownCap_le_maxLen w ys.length 0 e (by simp only [maxLen]; omega)) hz1 rfl, ow_new hH hcap⟩
      · have hr := run_append_grow (P := P) w t o.type e i z ht hi hzv a' 0 0 [] (by simp) (by simp) a ys.length c us hlen hcell (by omega) (by omega) (by rw [Nat.zero_add]; exact growslice_fits (by omega) hb)
        simp only [Nat.zero_add] at hr
        have hcap := grownCap_ge w ys.length 0 e
        exact ⟨_, _, _, X.run ho hx hy hr, hH.le_new _, fresh_row hH he hzl hcap (grownCap_le_maxLen w ys.length 0 e (by simp only [maxLen]; omega)) hz1 (by simp), ow_new hH hcap⟩
/-- an append to a row of one's own, of which cv is the room that is told -/
theorem append_row (hH : Hold Γ s w0 st w) {t e : TypeId} {i : TypeInfo} {z : Value} {dt : DT} {x y : Operand} {ys xs : List D} {l n cv : Nat} {p : Loc} (ho : o.op = .call ⟨.builtin .append, #[x, y], #[t, t]⟩) (ht : P.underlying t = some (.slice e)) (hi : P.info? e = some i) (hzv : i.zero = some z) (hsz : i.size = dt.sz) (hzl : z.cells.size = dt.sz) (hz1 : ∀ u ∈ z.cells.toList, u.oneCell' = true)
    (hl : st.h.get l = some (.q e dt xs)) (hp : s.f l = some p) (hn : n ≤ p.m) (hcv : n ≤ cv ∧ cv ≤ p.c) (hx : ev E x = .slice (some ⟨p.b, 0, none⟩) n cv ∨ (p.c = 0 ∧ ZV (ev E x))) (hs : SrcIs s.G dt w ys (ev E y)) (hb : (n + ys.length) * i.bytes ≤ 140737488355328) (hle : n + ys.length ≤ 9223372036854775807) :
    Wrs P Γ o E w w0 s (.ow st.nx (n + ys.length)) (newX (delX st l) (.q e dt (xs.take n ++ ys))) := by
  obtain ⟨p', hp', g1, g2, g3, g4⟩ := hH.row hl
  rw [hp] at hp'; cases hp'
  have hlx : (xs.take n).length = n := by rw [List.length_take]; omega
  have hll : (xs.take n ++ ys).length = n + ys.length := by rw [List.length_append, hlx]
  by_cases hc0 : p.c = 0
  · have hn0 : n = 0 := by omega
    subst hn0
    have hzx : ZV (ev E x) := by
      rcases hx with hx | ⟨_, hx⟩
      · have : cv = 0 := by omega
        subst this; exact .inr ⟨_, hx⟩
      · exact hx
    have : Wrs P Γ o E w w0 s (.ow st.nx ys.length) (newX (delX st l) (.q e dt ys)) := append_zv (hH.del l) ho ht hi hzv hsz hzl hz1 rfl hzx hs (by simpa using hb) (by omega)
    simpa using this
  · have hx' : ev E x = .slice (some ⟨p.b, 0, none⟩) n cv := by
      rcases hx with hx | ⟨h, _⟩
      · exact hx
      · exact absurd h hc0
    obtain ⟨cur, h1, h2, h3, h4⟩ := hH.els hl hp hc0
    have h4' := h4.cut n (by omega)
    rw [List.take_take, Nat.min_eq_left (Nat.mul_le_mul_right _ (by omega))] at h4'
    obtain ⟨us, he, hs⟩ := hs
    have hall := h4'.append he
    have hlo : (cur.toList.take (n * dt.sz)).length = n * dt.sz := by rw [h4'.len, hlx]
    -- nothing is appended, or there is room
    have room : ∀ w', n + ys.length ≤ cv → (Builtin.append_ #[t, t] o.type #[.slice (some ⟨p.b, 0, none⟩) n cv, ev E y]).run P w = .ok (.slice (some ⟨p.b, 0, none⟩) (n + ys.length) cv) w' → (w' = w.setRow p.b (cur.toList.take (n * dt.sz) ++ us ++ cur.toList.drop (n * dt.sz + us.length)).toArray ∨ (w' = w ∧ us = [])) → Wrs P Γ o E w w0 s (.ow st.nx (n + ys.length)) (newX (delX st l) (.q e dt (xs.take n ++ ys))) := by
      intro w' hroom hr hw'
      have hcur' : ∃ cur', w'.heap[p.b]? = some (.cells cur' e (0, 0)) ∧ cur'.size = cur.size ∧ (∀ u ∈ cur'.toList, u.oneCell' = true) ∧ cur'.toList.take (cur.toList.take (n * dt.sz) ++ us).length = cur.toList.take (n * dt.sz) ++ us := by
        have hfit : n * dt.sz + us.length ≤ cur.size := by
          rw [he.len, ← Nat.add_mul]; exact Nat.le_trans (Nat.mul_le_mul_right _ (by omega)) h2
        rcases hw' with rfl | ⟨rfl, rfl⟩
        · refine ⟨_, setRow_heap w p.b cur _ e _ h1, ?_, ?_, ?_⟩
          · simp only [List.size_toArray, List.length_append, hlo, List.length_drop, Array.length_toList]; omega
          · intro u hu
            rw [List.toList_toArray] at hu
            rcases List.mem_append.1 hu with hu | hu
            · rcases List.mem_append.1 hu with hu | hu
              · exact h3 u (List.mem_of_mem_take hu)
              · exact he.one u hu
            · exact h3 u (List.mem_of_mem_drop hu)
          · simp only [List.take_left]
        · exact ⟨cur, h1, rfl, h3, by rw [List.append_nil, hlo]⟩
      obtain ⟨cur', k1, k2, k3, k4⟩ := hcur'
      have hx1 : Ext [p.b] w w' := by
        rcases hw' with rfl | ⟨rfl, _⟩
        · exact ⟨rfl, rfl, rfl, by simp, fun j _ hj => setRow_other w p.b j _ (by simpa using hj)⟩
        · exact Ext.refl _ _
      have hobj : ObjAt (s.ins st.nx ⟨p.b, cv, n + ys.length⟩) w' ⟨p.b, cv, n + ys.length⟩ (.q e dt (xs.take n ++ ys)) := obj_row (us := cur.toList.take (n * dt.sz) ++ us) (cur := cur') (hall.mono (Sub.refl _)) k1 (by rw [k2]; exact Nat.le_trans (Nat.mul_le_mul_right _ hcv.2) h2) k3 k4 hll hroom (Nat.le_trans hcv.2 g3)
      exact ⟨_, w', _, X.run ho hx' rfl hr, hH.le_new _, hH.rename (p' := ⟨p.b, cv, n + ys.length⟩) hl hp hc0 (fun h => by cases h) rfl hx1 hobj, ow_new hH hroom⟩
    rcases hs with ⟨rfl, hy⟩ | ⟨a, c, hy, hcell⟩
    · refine room w (by simpa using hcv.1) ?_ (.inr ⟨rfl, ?_⟩)
      · simpa using run_append_zero P w ht hi hcv.1 hy
      · exact List.eq_nil_of_length_eq_zero (by rw [he.len]; simp)
    · have hlen : us.length = ys.length * i.size := by rw [hsz]; exact he.len
      by_cases hroom : n + ys.length ≤ cv
      · have hfit : n * i.size + us.length ≤ cur.size := by
          rw [hsz, he.len, ← Nat.add_mul]; exact Nat.le_trans (Nat.mul_le_mul_right _ (by omega)) h2
        have hr := run_append_room (P := P) w t o.type e i ht hi p.b n cv cur h1 a ys.length c us hlen hcell he.one hroom hfit
        rw [hsz] at hr
        exact room _ hroom (by rw [hy]; exact hr) (.inl rfl)
      · have holds : ∀ j v, (cur.toList.take (n * dt.sz))[j]? = some v → w.cell? ((⟨p.b, 0, none⟩ : Addr).add j) = some v := fun j v hj => by
          rw [List.getElem?_take] at hj
          split at hj
          · have : cur[j]? = some v := by simpa using hj
            rw [addr_add]; simp [World.cell?, h1, this]
          · cases hj
        have hr := run_append_grow (P := P) w t o.type e i z ht hi hzv ⟨p.b, 0, none⟩ n cv (cur.toList.take (n * dt.sz)) (by rw [hlo, hsz]) holds a ys.length c us hlen hcell (by omega) (by omega) (growslice_fits (by omega) hb)
        have hcap := grownCap_ge w (n + ys.length) cv e
        have hH' := fresh_row (hH.del l) (e := e) hall hzl (cap := grownCap w (n + ys.length) cv e) (by rw [hll]; exact hcap) (grownCap_le_maxLen w (n + ys.length) cv e (by simp only [maxLen]; omega)) hz1 (cells := (cur.toList.take (n * dt.sz)).toArray ++ us.toArray ++ Builtin.zeroCells z.cells (grownCap w (n + ys.length) cv e - (n + ys.length))) (by rw [hll]; simp)
        rw [hll] at hH'
        exact ⟨_, _, _, X.run ho hx' hy hr, hH.le_new _, hH', ow_new hH hcap⟩
theorem Wrs.from {s1 : Sg} (hs : s.le s1) {a : AV} (h : Wrs P Γ o E w w0 s1 a st') : Wrs P Γ o E w w0 s a st' := by
  obtain ⟨v, w', s', h1, h2, h3, h4⟩ := h
  exact ⟨v, w', s', h1, hs.trans h2, h3, h4⟩
theorem SrcIs.rel {G G' : Fz} {t : DT} {ys : List D} {v : Value} (h : SrcIs G t w ys v) (k : Sub G G') : SrcIs G' t w ys v := by
  obtain ⟨us, h1, h2⟩ := h
  exact ⟨us, h1.mono k, h2⟩
theorem append_ok (hH : Hold Γ s w0 st w) {t : TypeId} {x y : Operand} {a b u : AV} {ps : Ps} (ho : o.op = .call ⟨.builtin .append, #[x, y], #[t, t]⟩) (hx : Rel s a (ev E x)) (hy : Rel s b (ev E y)) (h : evAppend P st t a b = some (ps, u, st')) (hp : ∀ p ∈ ps, p) : Wrs P Γ o E w w0 s u st' := by
  unfold evAppend at h
  split at h
  case h_2 => cases h
  rename_i e ht
  split at h
  case h_2 => cases h
  rename_i i z dt hi hz hdt
  obtain ⟨i', zv, hi', hzv, hzr⟩ := zeroA_ok hz
  rw [hi] at hi'; cases hi'
  cases hc : (Nat.ble 1 i.size && Nat.beq i.size dt.sz && Nat.beq z.length i.size && z.all oneCellA) with
  | false => rw [hc] at h; cases h
  | true =>
  rw [hc] at h
  simp only [cond_true] at h
  simp only [Bool.and_eq_true] at hc
  obtain ⟨⟨⟨c1, c2⟩, c3⟩, c4⟩ := hc
  have hsz := beq_t c2
  have hzl : zv.cells.size = dt.sz := by rw [← hsz, ← beq_t c3, (hzr s).len, Array.length_toList]
  have hz1 := (hzr s).one c4
  split at h
  case h_2 => cases h
  rename_i ys st1 hsrc
  obtain ⟨s1, k1, k2, k3⟩ := src_ok hH hsrc hy
  have hx1 := Rel.mono k1 _ _ hx
  split at h
  · cases h
    exact Wrs.from k1 (append_zv k2 ho ht hi hzv hsz hzl hz1 rfl (.inl hx.v_of) k3 (hp _ (by simp)) (hp _ (by simp)))
  · cases h
    simp only [Rel] at hx
    exact Wrs.from k1 (append_zv k2 ho ht hi hzv hsz hzl hz1 rfl hx k3 (hp _ (by simp)) (hp _ (by simp)))
  · rename_i l n
    split at h
    case h_2 => cases h
    rename_i e' dt' xs hl
    cases hc : (Nat.beq e e' && dt.beq dt') with
    | false => rw [hc] at h; cases h
    | true =>
    rw [hc] at h
    cases h
    simp only [Bool.and_eq_true] at hc
    have e1 := beq_t hc.1; have e2 := DT.beq_ok hc.2
    subst e1; subst e2
    simp only [Rel] at hx1
    obtain ⟨p, hp1, hn, hmc, hv⟩ := hx1
    exact Wrs.from k1 (append_row k2 ho ht hi hzv hsz hzl hz1 hl hp1 hn ⟨by omega, Nat.le_refl _⟩ hv k3 (hp _ (by simp)) (hp _ (by simp)))
  · rename_i l n
    split at h
    case h_2 => cases h
    rename_i e' dt' xs hl
    cases hc : (Nat.beq e e' && dt.beq dt') with
    | false => rw [hc] at h; cases h
    | true =>
    rw [hc] at h
    cases h
    simp only [Bool.and_eq_true] at hc
    have e1 := beq_t hc.1; have e2 := DT.beq_ok hc.2
    subst e1; subst e2
    simp only [Rel] at hx1
    obtain ⟨p, hp1, hn, hmc, hv⟩ := hx1
    exact Wrs.from k1 (append_row k2 ho ht hi hzv hsz hzl hz1 hl hp1 hn ⟨Nat.le_refl _, by omega⟩ hv k3 (hp _ (by simp)) (hp _ (by simp)))
  · cases h
theorem setD_eq : ∀ {xs : List D} {i : Nat} {d : D}, i < xs.length → setD xs i d = xs.set i d
  | [], _, _, h => by simp at h
  | _ :: _, 0, _, _ => rfl
  | _ :: r, i + 1, d, h => by simp only [setD, List.set_cons_succ]; rw [setD_eq (by simpa using h)]
theorem store_ok (hH : Hold Γ s w0 st w) {t : TypeId} {x y : Operand} {a b : AV} (ho : o.op = .store t x y) (hx : Rel s a (ev E x)) (hy : Rel s b (ev E y)) (h : evStore P st t a b = some st') : Wrs P Γ o E w w0 s (.v undef) st' := by
  have hyc := hy.cells
  have hrun : ∀ {bk k n et : Nat} {cur : Array Value} {us : List Value}, ev E x = .pointer (some ⟨bk, k, none⟩) → szOf P t = some n → us = (ev E y).cells.toList → us.length = n → (∀ u ∈ us, u.oneCell' = true) → w.heap[bk]? = some (.cells cur et (0, 0)) → k + n ≤ cur.size → OpX P o E w undef (w.setRow bk (W.splice cur.toList k us).toArray) := by
    intro bk k n et cur us hxv hsz hus hl h1 hb hfit
    have hst := run_storeCells_at P bk k et us 0 cur w hb (by simpa [hl] using hfit) h1
    simp only [Nat.add_zero] at hst
    have hst' : (storeCells ⟨bk, k, none⟩ us 0).run P w = .ok () (w.setRow bk (W.splice cur.toList k us).toArray) := by rw [hst]; simp [W.splice]
    refine .inr ⟨rfl, ?_⟩
    simp only [execOp, ho]
    refine run_u ?_
    rw [hus] at hst'
    have hno : ¬ ((ev E y).cells.size ≠ n) := by rw [← Array.length_toList, ← hus, hl]; simp
    have hv : (storeVar t ⟨bk, k, none⟩ (ev E y)).run P w = .ok () (w.setRow bk (W.splice cur.toList k us).toArray) := by
      unfold storeVar
      simp only [Sem.run_bind, size_of (szOf_sized hsz), Result.andThen_ok, Sem.run_ite, if_neg hno, Sem.run_pure]
      rw [hus]; exact hst'
    rw [hxv]
    unfold Instr.storeAt Instr.sureAddr
    simp only [Sem.run_bind, Sem.run_pure, Result.andThen_ok, hv]
  cases a with
  | ptr l k =>
    simp only [evStore] at h
    split at h
    case h_2 => cases h
    rename_i et cs sz hl hsz
    cases hc : (Nat.beq (cellsA b).length sz && Nat.ble (k + sz) cs.length && (cellsA b).all oneCellA) with
    | false => rw [hc] at h; cases h
    | true =>
    rw [hc] at h
    cases h
    simp only [Bool.and_eq_true] at hc
    have e1 := beq_t hc.1.1; have e2 := ble_t hc.1.2
    obtain ⟨p, hp, hob⟩ := hH.obj l _ hl
    obtain ⟨vs, h3, h4⟩ := hob.cur
    simp only [Rel] at hx
    obtain ⟨p', hp', hxv⟩ := hx
    rw [hp] at hp'; cases hp'
    have hlen : (ev E y).cells.toList.length = sz := by rw [← hyc.len]; exact e1
    have hX := hrun hxv hsz rfl hlen (hyc.one hc.2) h3 (by rw [h4.len] at e2; simpa using e2)
    have hset : (w.setRow p.b (W.splice vs.toArray.toList k (ev E y).cells.toList).toArray).heap[p.b]? = some (.cells (W.splice vs k (ev E y).cells.toList).toArray et (0, 0)) := setRow_heap w p.b _ _ et _ h3
    exact ⟨undef, _, s, hX, Sg.le.refl s, hH.turn hl hp trivial (fun _ => rfl) ⟨rfl, rfl, rfl, by simp, fun j _ hj => setRow_other w p.b j _ (by simpa using hj)⟩ ⟨_, hset, h4.splice hyc k⟩, Rel.mkv _⟩
  | pe l i sz off js dt =>
    simp only [evStore] at h
    split at h
    case h_2 => cases h
    rename_i ys st1 hf
    split at h
    case h_2 => cases h
    rename_i et rt xs n hl hsz
    cases hc : (Nat.beq n dt.sz && Nat.beq sz rt.sz && pathIs rt js off dt) with
    | false => rw [hc] at h; cases h
    | true =>
    rw [hc] at h
    simp only [cond_true] at h
    split at h
    case h_2 => cases h
    rename_i d hd
    cases h
    simp only [Bool.and_eq_true] at hc
    obtain ⟨⟨e1, e2⟩, e3⟩ := hc
    have e1 := beq_t e1; have e2 := beq_t e2; have e3 := pathIs_ok e3
    obtain ⟨s1, k1, k2, k3⟩ := freezeL_ok hH hf hyc
    obtain ⟨us, ws, hus, hrd, hws⟩ := toD_ok k2 (Sees.self _ w) dt ys _ d [] hd k3
    have := hws.unnil
    subst this
    rw [List.append_nil] at hus
    have hx1 := Rel.mono k1 _ _ hx
    simp only [Rel] at hx1
    obtain ⟨p, hp, hi, hmc, hxv⟩ := hx1
    obtain ⟨p', hp', g1, g2, g3, g4⟩ := k2.row hl
    rw [hp] at hp'; cases hp'
    have hc0 : p.c ≠ 0 := by omega
    obtain ⟨cur, g5, g6, g7, g8⟩ := g4 hc0
    have hix : i < xs.length := by omega
    have hrow := g8 i _ (get_nthD hix)
    obtain ⟨ps, vs, rs, hcs, hoff, hrdv, hput⟩ := path_ok js rt 0 off dt _ _ e3 hrow
    have hul : us.length = dt.sz := Rd.len _ _ _ hrd
    have hvl : vs.length = dt.sz := Rd.len _ _ _ hrdv
    have hnew := hput d us hrd
    have hrl := Rd.len _ _ _ hrow
    have hll : ((cur.toList.drop (i * rt.sz)).take rt.sz).length = ps.length + (dt.sz + rs.length) := by rw [hcs, List.length_append, List.length_append, hvl]
    have hi1 : (i + 1) * rt.sz ≤ p.c * rt.sz := Nat.mul_le_mul_right _ (by omega)
    rw [Nat.add_mul] at hi1
    have hfit : i * sz + off + dt.sz ≤ cur.size := by rw [e2, hoff]; omega
    have hX := hrun hxv hsz hus.symm (by rw [hul, e1]) (Rd.one _ _ _ hrd) g5 (by rw [e1]; exact hfit)
    have hsplen : (W.splice cur.toList (i * sz + off) us).length = cur.toList.length := splice_len (by rw [hul, Array.length_toList]; exact hfit)
    refine ⟨undef, _, s1, hX, k1, k2.turn hl hp hc0 (fun h => by cases h) ⟨rfl, rfl, rfl, by simp, fun j _ hj => setRow_other w p.b j _ (by simpa using hj)⟩ ?_, Rel.mkv _⟩
    rw [setD_eq hix]
    refine ⟨by rw [List.length_set]; exact g1, g2, g3, fun _ => ⟨_, setRow_heap w p.b cur _ et _ g5, by rw [List.size_toArray, hsplen, Array.length_toList]; exact g6, fun u hu => ?_, fun i' x' hi' => ?_⟩⟩
    · rw [List.toList_toArray] at hu
      unfold W.splice at hu
      rcases List.mem_append.1 hu with hu | hu
      · rcases List.mem_append.1 hu with hu | hu
        · exact g7 u (List.mem_of_mem_take hu)
        · exact Rd.one _ _ _ hrd u hu
      · exact g7 u (List.mem_of_mem_drop hu)
    · rw [List.toList_toArray]
      have hi'lt : i' < xs.length := by have := (List.getElem?_eq_some_iff.1 hi').1; rwa [List.length_set] at this
      -- the cells, one by one
      have cell : ∀ j, (W.splice cur.toList (i * sz + off) us)[j]? = if j < i * sz + off then cur.toList[j]? else if j < i * sz + off + dt.sz then us[j - (i * sz + off)]? else cur.toList[j]? := by
        intro j
        unfold W.splice
        have ht : (cur.toList.take (i * sz + off)).length = i * sz + off := by rw [List.length_take, Array.length_toList]; omega
        rw [List.append_assoc, List.getElem?_append, ht]
        split
        · rw [List.getElem?_take, if_pos (by assumption)]
        · rw [List.getElem?_append, hul]
          split
          · rw [if_pos (by omega)]
          · rw [if_neg (by omega), List.getElem?_drop]
            congr 1; omega
      by_cases hii : i' = i
      · subst hii
        rw [List.getElem?_set_self hi'lt] at hi'
        cases hi'
        have hseg : ((W.splice cur.toList (i' * sz + off) us).drop (i' * rt.sz)).take rt.sz = ps ++ (us ++ rs) := by
          apply List.ext_getElem?
          intro j
          rw [List.getElem?_take]
          split
          · rename_i hj
            rw [List.getElem?_drop, cell]
            have hold : cur.toList[i' * rt.sz + j]? = (ps ++ (vs ++ rs))[j]? := by
              rw [← hcs, List.getElem?_take, if_pos hj, List.getElem?_drop]
            rw [e2, hoff, Nat.zero_add]
            split
            · rw [hold, List.getElem?_append_left (by omega), List.getElem?_append_left (by omega)]
            · rw [List.getElem?_append_right (by omega : ps.length ≤ j)]
              split
              · rw [List.getElem?_append_left (by omega)]
                congr 1; omega
              · rw [hold, List.getElem?_append_right (by omega : ps.length ≤ j), List.getElem?_append_right (by omega), List.getElem?_append_right (by omega)]
                congr 1; omega
          · rename_i hj
            rw [List.getElem?_eq_none]
            rw [List.length_append, List.length_append, hul]; omega
        rw [hseg]; exact hnew
      · rw [List.getElem?_set_ne (fun e => hii e.symm)] at hi'
        have hseg : ((W.splice cur.toList (i * sz + off) us).drop (i' * rt.sz)).take rt.sz = (cur.toList.drop (i' * rt.sz)).take rt.sz := by
          apply List.ext_getElem?
          intro j
          rw [List.getElem?_take, List.getElem?_take]
          split
          · rename_i hj
            rw [List.getElem?_drop, List.getElem?_drop, cell]
            rcases Nat.lt_or_gt_of_ne hii with hlt | hgt
            · have : (i' + 1) * rt.sz ≤ i * rt.sz := Nat.mul_le_mul_right _ hlt
              rw [Nat.add_mul] at this
              rw [if_pos (by rw [e2]; omega)]
            · have : (i + 1) * rt.sz ≤ i' * rt.sz := Nat.mul_le_mul_right _ hgt
              rw [Nat.add_mul] at this
              rw [if_neg (by rw [e2, hoff]; omega), if_neg (by rw [e2, hoff]; omega)]
          · rfl
        rw [hseg]; exact g8 i' x' hi'
  | _ => simp [evStore] at h
theorem toDn_scal {st : Stt} (dt : DT) : ∀ (n : Nat) (z : List AV) (ds : List D), (!dt.isT) = true → dt.sz = 1 → toDn true ⟨[], 0⟩ dt n z = some ds → toDn true st dt n z = some ds
  | 0, [], ds, _, _, h => by simpa [toDn] using h
  | 0, _ :: _, ds, _, _, h => by simp [toDn] at h
  | n + 1, z, ds, h1, h2, h => by
    simp only [toDn] at h ⊢
    split at h
    case h_2 => cases h
    rename_i d r hd
    split at h
    case h_2 => cases h
    rename_i ds' hds
    cases h
    rw [toD_zero dt z d r hd]
    simp only
    rw [toDn_scal dt n r ds' h1 h2 hds]
theorem els_rep {G : Fz} {dt : DT} {d0 : D} {zs : List Value} (h : Rd G dt d0 zs) : ∀ n : Nat, Els G dt (List.replicate n d0) (repV zs n)
  | 0 => Els.nil
  | n + 1 => by rw [List.replicate_succ]; exact Els.cons h (els_rep h n)
theorem Hold.frzNew {w' : World} (hH : Hold Γ s w0 st w) {o : Obj} {b : Nat} (hx : Ext [] w w') (hb : w.heap.size ≤ b) (ho : w'.heap[b]? = some o) : s.le (s.frz b o) ∧ Hold Γ (s.frz b o) w0 st w' := by
  have hF : s.F b = none := hH.none_at hb
  have hG : s.G b = none := by
    cases hg : s.G b with
    | none => rfl
    | some x => rw [hH.gf _ _ hg] at hF; cases hF
  have hle : s.le (s.frz b o) := by
    refine ⟨fun _ _ h => h, fun k x hk => ?_, fun k x hk => ?_, rfl, rfl⟩
    · simp only [Sg.frz]; split
      · rename_i e; subst e; rw [hF] at hk; cases hk
      · exact hk
    · simp only [Sg.frz]; split
      · rename_i e; subst e; rw [hG] at hk; cases hk
      · exact hk
  have hH2 := hH.grow hx
  refine ⟨hle, hH2.ext, fun k x hk => ?_, fun k x hk => ?_, hH2.dom, fun k x hk => ?_, hH2.inj, fun k hk => ?_, hH2.glob⟩
  · simp only [Sg.frz] at hk
    split at hk
    · rename_i e; subst e; cases hk; exact ho
    · exact hH2.frz k x hk
  · simp only [Sg.frz] at hk ⊢
    split at hk
    · rename_i e; rw [if_pos e]; exact hk
    · rename_i e; rw [if_neg e]; exact hH2.gf k x hk
  · obtain ⟨q, g1, g2⟩ := hH.obj k x hk
    obtain ⟨q', g1', g2'⟩ := hH2.obj k x hk
    rw [g1] at g1'; cases g1'
    refine ⟨q, g1, fun ht => ?_, g2'.cur.step hle fun _ => rfl⟩
    obtain ⟨g3, g4⟩ := g2'.free ht
    refine ⟨?_, g4⟩
    simp only [Sg.frz]
    have := g2.cur.lt ht
    rw [if_neg (fun e => by omega)]
    exact g3
  · simp only [Sg.frz] at hk
    split at hk
    · rename_i e
      right
      have := hH.ext.size
      omega
    · exact hH2.gnew k hk
theorem bytesD_length (x : ByteArray) : (bytesD x).length = x.size := by
  rw [bytesD, List.length_map, Array.length_toList]; rfl
theorem bytes_ok (hH : Hold Γ s w0 st w) {sT dT e : TypeId} {a : Operand} {x : ByteArray} (ho : o.op = .convert sT dT a) (hv : ev E a = .string x) (h1 : P.underlying sT = some .string) (h2 : P.underlying dT = some (.slice e)) (h3 : P.underlying e = some (.int .u8)) (hb : x.size ≤ 140737488355328) :
    Wrs P Γ o E w w0 s (.dl true (.i .u8) (bytesD x)) st := by
  have hr := run_bytes_of_string (P := P) w sT dT e x h1 h2 h3
  have hcap := grownCap_ge w x.size 0 e
  have hmax := grownCap_le_maxLen w x.size 0 e (by simp only [maxLen]; omega)
  generalize grownCap w x.size 0 e = cap at hr hcap hmax
  have hX : OpX P o E w _ _ := .inl (by
    simp only [execOp, ho]
    rw [hv]
    exact run_v hr)
  have hx : Ext [] w (w.drew.alloc (.cells (bytesRow x cap) e ((bytesRow x cap).size, (bytesRow x cap).size + 1))) := (Ext.drew w (w.drawn + 1)).trans (Ext.alloc _ _)
  obtain ⟨hle, hH'⟩ := hH.frzNew (o := .cells (bytesRow x cap) e ((bytesRow x cap).size, (bytesRow x cap).size + 1)) (b := w.heap.size) hx (Nat.le_refl _) (heap_alloc_new w.drew _)
  refine ⟨_, _, _, hX, hle, hH', ?_⟩
  simp only [Rel, Sg.H, cond_true]
  refine .inr ⟨w.heap.size, 0, cap, by rw [bytesD_length], by rw [bytesD_length]; exact hcap, hmax, fun i d hi => ?_⟩
  have hlt : i < (bytesD x).length := (List.getElem?_eq_some_iff.1 hi).1
  rw [bytesD_length] at hlt
  have hlt' : i < x.data.size := hlt
  have hd : d = .i (x.data[i].toNat) := by
    simp only [bytesD, List.getElem?_map] at hi
    rw [Array.getElem?_toList, Array.getElem?_eq_getElem hlt'] at hi
    simpa using hi.symm
  refine ⟨[.int .u8 (x.data[i].toNat)], rfl, ⟨bytesRow x cap, e, ((bytesRow x cap).size, (bytesRow x cap).size + 1), by simp [Sg.frz], fun j u hj => ?_⟩, by rw [hd]; simp only [Rd, D.int]⟩
  have hj0 : j = 0 := by
    have := (List.getElem?_eq_some_iff.1 hj).1
    simp at this; exact this
  subst hj0
  simp only [List.getElem?_cons_zero, Option.some.injEq] at hj
  subst hj
  simp only [bytesRow, DT.sz, Nat.mul_one, Nat.zero_add, Nat.add_zero]
  rw [Array.getElem?_append_left (by simpa using hlt')]
  simp
  exact ⟨_, Array.getElem?_eq_getElem hlt', rfl⟩
theorem wr_ok (hH : Hold Γ s w0 st w) (hE : EnvOK s A E) {ps : Ps} {a : AV} (h : evWrS P st A o.op = some (ps, a, st')) (hp : ∀ p ∈ ps, p) : Wrs P Γ o E w w0 s a st' := by
  unfold evWrS at h
  split at h
  · rename_i t len qs ho
    split at h
    case h_2 => cases h
    rename_i L e hL ht
    split at h
    case h_2 => cases h
    rename_i sz z hsz hz
    cases hc : (Nat.ble (len * sz) 1024 && Nat.beq z.length sz && Nat.ble 1 sz) with
    | false => rw [hc] at h; cases h
    | true =>
    rw [hc] at h
    simp only [cond_true] at h
    split at h
    case h_2 => cases h
    rename_i cs hcs
    cases h
    simp only [Bool.and_eq_true] at hc
    obtain ⟨⟨c1, c2⟩, c3⟩ := hc
    have c1 := ble_t c1; have c2 := beq_t c2; have c3 := ble_t c3
    obtain ⟨i, zv, hi, hzv, hzr⟩ := zeroA_ok hz
    have hisz : i.size = sz := by unfold szOf at hsz; rw [hi] at hsz; simpa using hsz
    have hzl : zv.cells.size = sz := by rw [← c2, (hzr s).len, Array.length_toList]
    obtain ⟨hp1, hp2⟩ := parts_ok hL hE
    obtain ⟨us, hus, hrel⟩ := fill_ok _ L (qs.toList.map fun x => (x.1, ev E x.2)) _ cs _ (by rw [partsM.1]; exact hp1) (by rw [partsM.2]; exact hp2) (repZ_ok (hzr s) len) hcs
    have hf : Instr.fill (fun i => some (i * sz, sz)) ((Array.range (len * sz)).map ((if len * sz = 0 then #[] else zv.cells)[· % (if len * sz = 0 then #[] else zv.cells).size]!)) (qs.map fun x => (x.1, ev E x.2)).toList = some us.toArray := by
      have hq : (qs.map fun x => (x.1, ev E x.2)).toList = qs.toList.map fun x => (x.1, ev E x.2) := by simp
      rw [hq, ← hus]
      congr 1
      by_cases h0 : len * sz = 0
      · have : len = 0 := by
          rcases Nat.mul_eq_zero.1 h0 with h | h
          · exact h
          · omega
        subst this
        simp [repV]
      · rw [if_neg h0]
        exact range_rep zv.cells len sz hzl c3
    have hX : OpX P o E w (.slice (some ⟨w.heap.size, 0, none⟩) len len) (w.alloc (.cells us.toArray e)) := by
      left
      have hsize : (sizeOf e).run P w = .ok i.size w := by rw [hisz]; exact size_of (szOf_sized hsz)
      have hzero : (zeroValue e).run P w = .ok zv w := zero_of (by simp [W.Zero, hi, hzv])
      have hbig : ¬ (len * i.size > 2 ^ 24) := by rw [hisz]; omega
      have hrow : ∀ c : Array Value, (newRow e c).run P w = .ok ⟨w.heap.size, 0, none⟩ (w.alloc (.cells c e)) := fun c => by simp [newRow, go_sem]
      have key : (Instr.buildSlice t len (qs.map fun x => (x.1, ev E x.2))).run P w = .ok (.slice (some ⟨w.heap.size, 0, none⟩) len len) (w.alloc (.cells us.toArray e)) := by
        unfold Instr.buildSlice
        rw [← hisz] at hf
        by_cases h0 : len * i.size = 0
        · simp only [if_pos h0] at hf
          simp only [Sem.run_bind, underlying, run_program, ht, Result.andThen_ok, Sem.run_pure, hsize, Sem.run_ite, if_neg hbig, if_pos h0, hf, hrow]
        · simp only [if_neg h0] at hf
          simp only [Sem.run_bind, underlying, run_program, ht, Result.andThen_ok, Sem.run_pure, hsize, hzero, Sem.run_ite, if_neg hbig, if_neg h0, hf, hrow]
      simp only [execOp, ho]
      exact run_v key
    have plain : Wrs P Γ o E w w0 s (.sl st.nx 0 len len) (newX st (.c e cs)) := by
      refine ⟨_, _, s.ins st.nx ⟨w.heap.size, 0, 0⟩, hX, hH.le_new _, hH.new (p := ⟨w.heap.size, 0, 0⟩) (Ext.alloc w _) (fun _ => Nat.le_refl _) ⟨us, heap_alloc_new w _, RelL.mono (hH.le_new _) _ _ hrel⟩, ?_⟩
      simp only [Rel]
      exact ⟨_, Sg.ins_same, rfl⟩
    unfold newRowA
    split
    · rename_i dt hdt
      cases hdz : Nat.beq dt.sz sz with
      | false => exact plain
      | true =>
      have hdz := beq_t hdz
      simp only [cond_true]
      split
      · rename_i ds hds
        obtain ⟨h4, h5⟩ := toDn_ok hH (Sees.self _ w) dt len cs us ds hds hrel
        have hlz : len ≤ maxLen := by
          have : len * 1 ≤ len * sz := Nat.mul_le_mul_left _ c3
          simp only [maxLen]; omega
        have hle := hH.le_new (⟨w.heap.size, len, len⟩ : Loc)
        refine ⟨_, _, s.ins st.nx ⟨w.heap.size, len, len⟩, hX, hle, hH.new (p := ⟨w.heap.size, len, len⟩) (Ext.alloc w _) (fun _ => Nat.le_refl _) ?_, ow_new hH (Nat.le_refl _)⟩
        exact obj_row (us := us) (cur := us.toArray) (h5.mono (Sub.refl _)) (heap_alloc_new w _) (show len * dt.sz ≤ us.toArray.size from Nat.le_of_eq (by rw [← h4, ← h5.len]; exact (by simp))) (by simpa using h5.one) (by simp) h4 (Nat.le_refl _) hlz
      · exact plain
    · exact plain
  · rename_i t ho
    split at h
    case h_2 => cases h
    rename_i z hz
    cases h
    obtain ⟨i, zv, hi, hzv, hzr⟩ := zeroA_ok hz
    have hX : OpX P o E w (.pointer (some ⟨w.heap.size, 0, none⟩)) (w.alloc (.cells zv.cells.toList.toArray t)) := by
      left
      have hz0 : (zeroValue t).run P w = .ok zv w := zero_of (by simp [W.Zero, hi, hzv])
      simp [execOp, ho, go_sem, Instr.alloc, hz0, newVar, newRow]
    have plain : Wrs P Γ o E w w0 s (.ptr st.nx 0) (newX st (.c t z)) := wr_new hH (hzr s) o _ rfl hX
    unfold newArrA
    split
    · rename_i dt ds harr
      unfold arrA at harr
      split at harr
      case h_2 => cases harr
      rename_i n e hu
      split at harr
      case h_2 => cases harr
      rename_i dt' hdt
      cases hc : (!dt'.isT && Nat.beq dt'.sz 1 && Nat.ble 1 n && Nat.ble n 4096) with
      | false => rw [hc] at harr; cases harr
      | true =>
      rw [hc] at harr
      simp only [cond_true] at harr
      split at harr
      case h_2 => cases harr
      rename_i ds' hds
      cases harr
      simp only [Bool.and_eq_true] at hc
      have c3 := ble_t hc.1.2
      have c4 := ble_t hc.2
      have hds' : toDn true st dt n z = some ds := toDn_scal dt n z ds hc.1.1.1 (beq_t hc.1.1.2) hds
      obtain ⟨h4, h5⟩ := toDn_ok hH (Sees.self _ w) dt n z _ ds hds' (hzr s)
      have hle := hH.le_new (⟨w.heap.size, n, n⟩ : Loc)
      refine ⟨_, _, s.ins st.nx ⟨w.heap.size, n, n⟩, hX, hle, hH.new (p := ⟨w.heap.size, n, n⟩) (Ext.alloc w _) (fun _ => Nat.le_refl _) ?_, ?_⟩
      · exact obj_row (us := zv.cells.toList) (cur := zv.cells.toList.toArray) (h5.mono (Sub.refl _)) (heap_alloc_new w _) (show n * dt.sz ≤ zv.cells.toList.toArray.size from Nat.le_of_eq (by rw [← h4, ← h5.len]; simp)) (by simpa using h5.one) (by rw [List.toList_toArray]; exact List.take_length) h4 (Nat.le_refl _) (by show n ≤ maxLen; simp only [maxLen]; omega)
      · simp only [Rel]; exact ⟨_, Sg.ins_same, rfl⟩
    · exact plain
  · rename_i t x y ho
    split at h
    case h_2 => cases h
    rename_i k n k' n' e hx hy hu
    split at h
    case h_2 => cases h
    rename_i i z dt hi hz hdt
    cases hc : (Nat.ble 1 i.size && Nat.beq i.size dt.sz && Nat.beq z.length i.size && z.all oneCellA) with
    | false => rw [hc] at h; cases h
    | true =>
    rw [hc] at h
    simp only [cond_true] at h
    split at h
    case h_2 => cases h
    rename_i d0 hd0
    cases h
    simp only [Bool.and_eq_true] at hc
    obtain ⟨⟨⟨c1, c2⟩, c3⟩, c4⟩ := hc
    have c1 := ble_t c1; have c2 := beq_t c2; have c3 := beq_t c3
    have q1 : 0 ≤ n := hp _ (by simp)
    have q2 : n' = n := hp _ (by simp)
    have q3 : n * i.size ≤ 16777216 := hp _ (by simp)
    have q4 : n * i.bytes ≤ 281474976710656 := hp _ (by simp)
    have q5 : n ≤ 9223372036854775807 := hp _ (by simp)
    subst q2
    obtain ⟨i', zv, hi', hzv, hzr⟩ := zeroA_ok hz
    rw [hi] at hi'; cases hi'
    have hzl : zv.cells.size = i.size := by rw [← c3, (hzr s).len, Array.length_toList]
    have hz1 := (hzr s).one c4
    have q3' : n'.toNat * i.size ≤ 16777216 := by
      have : ((n'.toNat * i.size : Nat) : Int) = n' * i.size := by rw [Int.natCast_mul, Int.toNat_of_nonneg q1]
      omega
    have hr := run_makeSlice (P := P) w t e i zv hu hi hzv k k' n' n' q1 (Int.le_refl _) q3' (by rw [Int.mul_comm]; exact q4) q5
    have hX : OpX P o E w (.slice (some ⟨w.heap.size, 0, none⟩) n'.toNat n'.toNat) (w.alloc (.cells (madeCells zv.cells (n'.toNat * i.size)) e)) := by
      left
      simp only [execOp, ho]
      rw [opd_v hx hE, opd_v hy hE]
      exact run_v hr
    have hcells : madeCells zv.cells (n'.toNat * i.size) = (repV zv.cells.toList n'.toNat).toArray := range_rep zv.cells n'.toNat i.size hzl c1
    have hRd : Rd s.G dt d0 zv.cells.toList := by
      have hd0' : toD true st dt z = some (d0, []) := toD_zero dt z d0 [] hd0
      obtain ⟨us, ws, e1, e2, e3⟩ := toD_ok hH (Sees.self st w) dt z zv.cells.toList d0 [] hd0' (hzr s)
      rw [e3.unnil, List.append_nil] at e1
      rw [e1]; exact e2
    have hEls : Els s.G dt (List.replicate n'.toNat d0) (repV zv.cells.toList n'.toNat) := els_rep hRd n'.toNat
    have hlz : n'.toNat ≤ maxLen := by simp only [maxLen]; omega
    have hle := hH.le_new (⟨w.heap.size, n'.toNat, n'.toNat⟩ : Loc)
    rw [hcells] at hX
    refine ⟨_, _, s.ins st.nx ⟨w.heap.size, n'.toNat, n'.toNat⟩, hX, hle, hH.new (p := ⟨w.heap.size, n'.toNat, n'.toNat⟩) (Ext.alloc w _) (fun _ => Nat.le_refl _) ?_, ow_new hH (Nat.le_refl _)⟩
    exact obj_row (us := repV zv.cells.toList n'.toNat) (cur := (repV zv.cells.toList n'.toNat).toArray) (hEls.mono (Sub.refl _)) (heap_alloc_new w _) (show n'.toNat * dt.sz ≤ (repV zv.cells.toList n'.toNat).toArray.size from Nat.le_of_eq (by rw [List.size_toArray, hEls.len, List.length_replicate])) (by simpa using hEls.one) (by simp) (List.length_replicate ..) (Nat.le_refl _) hlz
  · rename_i t x ho
    split at h
    case h_2 => cases h
    rename_i a' hx
    cases h
    refine wr_new hH (opd_ok hx hE).cells o _ rfl ?_
    left
    simp [execOp, ho, go_sem, Instr.box, newVar, newRow]
  · rename_i t x y ho
    split at h
    case h_2 => cases h
    rename_i a' b' hx hy
    split at h
    case h_2 => cases h
    rename_i st1 hst
    cases h
    exact store_ok hH ho (opd_ok hx hE) (opd_ok hy hE) hst
  · rename_i xs ts ho
    split at h
    case h_2 => cases h
    rename_i x y t u hxs hts
    split at h
    case h_2 => cases h
    rename_i a' b' hx hy
    cases hc : Nat.beq t u with
    | false => rw [hc] at h; cases h
    | true =>
    rw [hc] at h
    have := beq_t hc
    subst this
    rw [toList2 hxs, toList2 hts] at ho
    exact append_ok hH ho (opd_ok hx hE) (opd_ok hy hE) h hp
  · rename_i sT dT x ho
    split at h
    case h_2 => cases h
    rename_i y e hx h1 h2
    split at h
    case h_2 => cases h
    rename_i h3
    cases h
    exact bytes_ok hH ho (opd_v hx hE) h1 h2 h3 (hp _ (by simp))
  · cases h
end
end Go.Proofs.YtbbjonjhaoeidaaDoor.Sv
