/- The symbolic evaluator is right: operations that make or write memory. Program-agnostic. -/
import Derived.Test.YtnhfkdgambncfaaGreatDoorQS5x
import Derived.Laws.IdiomStrings
import Derived.OrdersIn
set_option linter.unusedVariables false
set_option linter.unusedSimpArgs false
set_option linter.unusedSectionVars false
namespace Go.Proofs.YtnhfkdgambncfaaGreatDoor.Sv
open Go.RowKit Go.Proofs.YtnhfkdgambncfaaGreatDoor.W
variable {Γ : Gl}

def repV (z : List Value) : Nat → List Value
  | 0 => []
  | n + 1 => z ++ repV z n
theorem repV_len (z : List Value) (n : Nat) : (repV z n).length = n * z.length := by
  induction n with
  | zero => simp [repV]
  | succ n ih => rw [repV, List.length_append, ih, Nat.add_mul]; omega
theorem repV_get (z : List Value) : ∀ (n i : Nat), i < n * z.length → (repV z n)[i]? = z[i % z.length]?
  | 0, i, h => by simp at h
  | n + 1, i, h => by
    rw [repV]
    rcases Nat.lt_or_ge i z.length with h1 | h1
    · rw [List.getElem?_append_left h1, Nat.mod_eq_of_lt h1]
    · rw [List.getElem?_append_right h1, repV_get z n _ (by rw [Nat.add_mul] at h; omega), ← Nat.mod_eq_sub_mod h1]
theorem range_rep (z : Array Value) (n m : Nat) (hm : z.size = m) (h0 : 0 < m) : ((Array.range (n * m)).map (z[· % z.size]!)) = (repV z.toList n).toArray := by
  have hz : z.toList.length = m := by rw [Array.length_toList]; exact hm
  apply Array.ext
  · simp [repV_len, hm]
  · intro i h1 h2
    have hi : i < n * z.toList.length := by rw [hz]; simpa using h1
    have := repV_get z.toList n i hi
    rw [hz] at this
    have hlt : i % m < z.size := by rw [hm]; exact Nat.mod_lt _ h0
    simp only [Array.getElem_map, Array.getElem_range, hm]
    rw [getElem!_pos z (i % m) hlt]
    have h3 : (repV z.toList n)[i]? = some ((repV z.toList n)[i]'(by rw [repV_len]; exact hi)) := List.getElem?_eq_getElem _
    rw [h3] at this
    have h4 : z.toList[i % m]? = some z[i % m] := by simp [hlt]
    rw [h4] at this
    simpa using this.symm
theorem repV_mem {z : List Value} {u : Value} : ∀ {n : Nat}, u ∈ repV z n → u ∈ z
  | 0, h => by simp [repV] at h
  | n + 1, h => by
    rw [repV] at h
    rcases List.mem_append.1 h with h | h
    · exact h
    · exact repV_mem h
theorem zeroCells_mem {z : Array Value} {u : Value} {n : Nat} (h : u ∈ (Builtin.zeroCells z n).toList) : u ∈ z.toList := by
  rcases Nat.eq_zero_or_pos z.size with h0 | h0
  · unfold Builtin.zeroCells at h; rw [h0] at h; simp at h
  · have : Builtin.zeroCells z n = (repV z.toList n).toArray := range_rep z n z.size rfl h0
    rw [this] at h; exact repV_mem h
theorem splice_len {cs us : List Value} {k : Nat} (h : k + us.length ≤ cs.length) : (W.splice cs k us).length = cs.length := by
  simp [W.splice]; omega
section
variable {s : Sg} {w0 w : World} {st st' : Stt} {A : AE} {E : Env} {P : Program} {o : Oper}
/-- what an operation that makes or writes leaves -/
def Wrs (P : Program) (Γ : Gl) (o : Oper) (E : Env) (w w0 : World) (s : Sg) (a : AV) (st' : Stt) : Prop := ∃ v w' s', OpX P o E w v w' ∧ s.le s' ∧ Hold Γ s' w0 st' w' ∧ Rel s' a v
theorem repZ_ok {z : List AV} {zs : List Value} (h : RelL s z zs) (n : Nat) : RelL s (repZ z n) (repV zs n) := by
  induction n with
  | zero => exact RelL.nil
  | succ n ih => exact h.append ih
theorem zeroA_ok {t : TypeId} {z : List AV} (h : zeroA P t = some z) : ∃ i v, P.info? t = some i ∧ i.zero = some v ∧ ∀ s, RelL s z v.cells.toList := by
  unfold zeroA at h
  split at h
  · rename_i i hi
    split at h
    · rename_i v hv
      cases h
      exact ⟨i, v, hi, hv, fun s => Rel.cells (Rel.mkv v)⟩
    · cases h
  · cases h
theorem wr_new (hH : Hold Γ s w0 st w) {t : TypeId} {cs : List AV} {vs : List Value} (hr : RelL s cs vs) (o : Oper) (v : Value) (hv : v = .pointer (some ⟨w.heap.size, 0, none⟩)) (hx : OpX P o E w v (w.alloc (.cells vs.toArray t))) : Wrs P Γ o E w w0 s (.ptr st.nx 0) (newX st (.c t cs)) := by
  refine ⟨v, _, s.ins st.nx ⟨w.heap.size, 0, 0⟩, hx, hH.le_new _, hH.new (p := ⟨w.heap.size, 0, 0⟩) (Ext.alloc w _) (fun _ => Nat.le_refl _) ⟨vs, heap_alloc_new w _, RelL.mono (hH.le_new _) _ _ hr⟩, ?_⟩
  subst hv
  simp only [Rel]
  exact ⟨_, Sg.ins_same, rfl⟩
theorem X.run {v : Value} {w' : World} {x y : Operand} {t : TypeId} (ho : o.op = .call ⟨.builtin .append, #[x, y], #[t, t]⟩) {a b : Value} (hx : ev E x = a) (hy : ev E y = b) (h : (Builtin.append_ #[t, t] o.type #[a, b]).run P w = .ok v w') : OpX P o E w v w' := by
  left
  simp only [execOp, ho, resolve]
  have e : #[x, y].map (ev E) = #[a, b] := by simp [hx, hy]
  rw [e]
  exact run_v h
/-- what is appended: cells that read as data -/
def SrcIs (G : Fz) (t : DT) (w : World) (ys : List D) (v : Value) : Prop := ∃ us, Els G t ys us ∧ ((ys = [] ∧ ZV v) ∨ ∃ a c, v = .slice (some a) ys.length c ∧ ∀ j u, us[j]? = some u → w.cell? (a.add j) = some u)
theorem At.cells' {b k : Nat} {cs : List Value} (h : At w b k cs) : ∀ j u, cs[j]? = some u → w.cell? ((⟨b, k, none⟩ : Addr).add j) = some u := fun j u hj => by rw [addr_add]; exact h j u hj
theorem slc_src {G : Fz} {t : DT} {ys : List D} {v : Value} (h : Slc G t.sz (fun x us => Rd G t x us) ys v) (hG : ∀ b o, G b = some o → w.heap[b]? = some o) : SrcIs G t w ys v := by
  rcases h with ⟨rfl, hv⟩ | ⟨b, k, c, rfl, _, _, hq⟩
  · exact ⟨[], Els.nil, .inl ⟨rfl, hv⟩⟩
  · have key : ∀ (zs : List D) (i0 : Nat), (∀ i x, zs[i]? = some x → ∃ cs, cs.length = t.sz ∧ FAt G b (k + (i0 + i) * t.sz) cs ∧ Rd G t x cs) → ∃ us, Els G t zs us ∧ ∀ j u, us[j]? = some u → w.cell? ⟨b, k + i0 * t.sz + j, none⟩ = some u := by
      intro zs
      induction zs with
      | nil => intro i0 _; exact ⟨[], Els.nil, by simp⟩
      | cons z zs ih =>
        intro i0 hz
        obtain ⟨cs, h1, h2, h3⟩ := hz 0 z rfl
        obtain ⟨us, h4, h5⟩ := ih (i0 + 1) (fun i x hi => by
          obtain ⟨cs', g1, g2, g3⟩ := hz (i + 1) x (by simpa using hi)
          exact ⟨cs', g1, by rw [show i0 + 1 + i = i0 + (i + 1) from by omega]; exact g2, g3⟩)
        refine ⟨cs ++ us, Els.cons h3 h4, fun j u hj => ?_⟩
        rw [List.getElem?_append] at hj
        split at hj
        · have := h2.at hG j u hj; simpa using this
        · rename_i hge
          have := h5 _ u hj
          rw [show k + (i0 + 1) * t.sz + (j - cs.length) = k + i0 * t.sz + j from by rw [Nat.add_mul]; omega] at this
          exact this
    obtain ⟨us, h1, h2⟩ := key ys 0 (fun i x hi => by rw [Nat.zero_add]; exact hq i x hi)
    refine ⟨us, h1, .inr ⟨_, c, rfl, fun j u hj => ?_⟩⟩
    have := h2 j u hj
    rw [addr_add]; simpa using this
theorem row_src (hH : Hold Γ s w0 st w) {l n : Nat} {et : TypeId} {dt : DT} {xs : List D} {v : Value} (hl : st.h.get l = some (.q et dt xs)) (hr : Rel s (.ow l n) v) : SrcIs s.G dt w (xs.take n) v := by
  simp only [Rel] at hr
  obtain ⟨p, hp, hn, hmc, hv⟩ := hr
  obtain ⟨p', hp', g1, g2, g3, g4⟩ := hH.row hl
  rw [hp] at hp'; cases hp'
  have hlen : (xs.take n).length = n := by rw [List.length_take]; omega
  rcases hv with rfl | ⟨h0, hv⟩
  · by_cases hc0 : p.c = 0
    · have hn0 : n = 0 := by omega
      subst hn0
      rw [List.take_zero, hc0]
      exact ⟨[], Els.nil, .inl ⟨rfl, .inr ⟨_, rfl⟩⟩⟩
    · obtain ⟨cur, h1, h2, h3, h4⟩ := hH.els hl hp hc0
      refine ⟨_, h4.cut n (by omega), .inr ⟨_, _, by rw [hlen], fun j u hj => ?_⟩⟩
      rw [List.take_take, List.getElem?_take] at hj
      split at hj
      · have : cur[j]? = some u := by simpa using hj
        rw [addr_add]; simp [World.cell?, h1, this]
      · cases hj
  · have hn0 : n = 0 := by omega
    subst hn0
    rw [List.take_zero]
    exact ⟨[], Els.nil, .inl ⟨rfl, hv⟩⟩
theorem view_src (hH : Hold Γ s w0 st w) {l lo n : Nat} {et : TypeId} {dt : DT} {xs : List D} {v : Value} (hl : st.h.get l = some (.q et dt xs)) (hr : Rel s (.vw l lo n dt.sz) v) : SrcIs s.G dt w ((xs.drop lo).take n) v := by
  simp only [Rel] at hr
  obtain ⟨p, hp, hn, hmc, hv⟩ := hr
  obtain ⟨p', hp', g1, g2, g3, g4⟩ := hH.row hl
  rw [hp] at hp'; cases hp'
  rcases hv with ⟨hc0, cv, k1, k2, rfl⟩ | ⟨hn0, hv⟩
  · obtain ⟨cur, h1, h2, h3, h4⟩ := hH.els hl hp hc0
    have hlen : ((xs.drop lo).take n).length = n := by rw [List.length_take, List.length_drop]; omega
    refine ⟨(cur.toList.drop (lo * dt.sz)).take (n * dt.sz), ⟨?_, ?_, ?_⟩, .inr ⟨_, _, by rw [hlen], fun j u hj => ?_⟩⟩
    · rw [hlen, List.length_take, List.length_drop, Array.length_toList]
      have : (lo + n) * dt.sz ≤ p.c * dt.sz := Nat.mul_le_mul_right _ (by omega)
      rw [Nat.add_mul] at this
      omega
    · intro u hu
      exact h3 u (List.mem_of_mem_drop (List.mem_of_mem_take hu))
    · intro i x hi
      rw [List.getElem?_take] at hi
      split at hi
      · rename_i hlt
        rw [List.getElem?_drop] at hi
        have hx := h4.rd (lo + i) x hi
        have hle : (i + 1) * dt.sz ≤ n * dt.sz := Nat.mul_le_mul_right _ (by omega)
        have hll : lo + i < xs.length := (List.getElem?_eq_some_iff.1 hi).1
        have hle2 : (lo + i + 1) * dt.sz ≤ xs.length * dt.sz := Nat.mul_le_mul_right _ (by omega)
        rw [Nat.add_mul] at hle hle2
        rw [List.drop_take, List.take_take, Nat.min_eq_left (by omega)] at hx
        rw [List.drop_take, List.take_take, Nat.min_eq_left (by omega), List.drop_drop, ← Nat.add_mul]
        exact hx
      · cases hi
    · rw [List.getElem?_take] at hj
      split at hj
      · rw [List.getElem?_drop] at hj
        have : cur[lo * dt.sz + j]? = some u := by simpa using hj
        rw [addr_add]; simp [World.cell?, h1, this]
      · cases hj
  · subst hn0
    rw [List.take_zero]
    exact ⟨[], Els.nil, .inl ⟨rfl, hv⟩⟩
mutual
theorem Rd.flat {F G : Fz} : ∀ (t : DT) (d : D) (cs : List Value), t.flat = true → Rd F t d cs → Rd G t d cs
  | .i _, _, _, _, h => by simpa only [Rd] using h
  | .b, _, _, _, h => by simpa only [Rd] using h
  | .s, _, _, _, h => by simpa only [Rd] using h
  | .l _, _, _, hf, _ => by simp [DT.flat] at hf
  | .t fs, d, cs, hf, h => by simp only [Rd] at h ⊢; simp only [DT.flat] at hf; exact Rds.flat fs d.tup cs hf h
theorem Rds.flat {F G : Fz} : ∀ (ts : List DT) (ds : List D) (cs : List Value), DT.flats ts = true → Rds F ts ds cs → Rds G ts ds cs
  | [], _, _, _, h => by simpa only [Rds] using h
  | t :: r, ds, cs, hf, h => by
    simp only [DT.flats, Bool.and_eq_true] at hf
    simp only [Rds] at h ⊢
    obtain ⟨us, vs, h1, h2, h3⟩ := h
    exact ⟨us, vs, h1, Rd.flat t _ us hf.1 h2, Rds.flat r _ vs hf.2 h3⟩
end
theorem Els.flat {G G' : Fz} {t : DT} {zs : List D} {us : List Value} (h : Els G t zs us) (hf : t.flat = true) : Els G' t zs us := ⟨h.len, h.one, fun i x hi => Rd.flat t x _ hf (h.rd i x hi)⟩
theorem src_ok (hH : Hold Γ s w0 st w) {dt : DT} {y : AV} {ys : List D} {v : Value} (h : srcD st dt y = some (ys, st')) (hr : Rel s y v) : ∃ s', s.le s' ∧ Hold Γ s' w0 st' w ∧ SrcIs s'.G dt w ys v := by
  unfold srcD at h
  split at h
  · cases h; exact ⟨s, Sg.le.refl s, hH, [], Els.nil, .inl ⟨rfl, .inl hr.v_of⟩⟩
  · cases h; simp only [Rel] at hr; exact ⟨s, Sg.le.refl s, hH, [], Els.nil, .inl ⟨rfl, hr⟩⟩
  · rename_i l n c
    split at h
    case h_2 => cases h
    rename_i et cs hl
    cases hc : Nat.beq cs.length (n * dt.sz) with
    | false => rw [hc] at h; cases h
    | true =>
    rw [hc] at h
    simp only [cond_true] at h
    split at h
    case h_2 => cases h
    rename_i ys' st1 hf
    split at h
    case h_2 => cases h
    rename_i ds hds
    cases h
    simp only [Rel] at hr
    obtain ⟨p, hp, rfl⟩ := hr
    obtain ⟨p', hp', ho⟩ := hH.obj l _ hl
    rw [hp] at hp'; cases hp'
    obtain ⟨vs, h1, h2⟩ := ho.cur
    obtain ⟨s1, k1, k2, k3⟩ := freezeL_ok hH hf h2
    obtain ⟨h4, h5⟩ := toDn_ok k2 (Sees.self _ w) dt n ys' vs ys hds k3
    refine ⟨s1, k1, k2, vs, h5, .inr ⟨⟨p.b, 0, none⟩, c, by rw [h4], fun j u hj => ?_⟩⟩
    rw [addr_add, Nat.zero_add]
    simp [World.cell?, h1, hj]
  · rename_i m e xs
    cases hc : (dt.beq e && (m || dt.flat)) with
    | false => rw [hc] at h; cases h
    | true =>
    rw [hc] at h
    cases h
    simp only [Bool.and_eq_true, Bool.or_eq_true] at hc
    have := DT.beq_ok hc.1
    subst this
    simp only [Rel] at hr
    have hsrc := slc_src hr (hH.H m)
    refine ⟨s, Sg.le.refl s, hH, ?_⟩
    rcases hc.2 with rfl | hfl
    · simpa only [Sg.H, cond_true] using hsrc
    · obtain ⟨us, h1, h2⟩ := hsrc
      exact ⟨us, h1.flat hfl, h2⟩
  · rename_i l n
    split at h
    case h_2 => cases h
    rename_i et e xs hl
    cases hc : dt.beq e with
    | false => rw [hc] at h; cases h
    | true =>
    rw [hc] at h
    cases h
    have := DT.beq_ok hc
    subst this
    exact ⟨s, Sg.le.refl s, hH, row_src hH hl hr⟩
  · rename_i l lo n sz
    split at h
    case h_2 => cases h
    rename_i et e xs hl
    cases hc : (dt.beq e && Nat.beq sz dt.sz) with
    | false => rw [hc] at h; cases h
    | true =>
    rw [hc] at h
    cases h
    simp only [Bool.and_eq_true] at hc
    have := DT.beq_ok hc.1
    subst this
    have hsz := beq_t hc.2
    subst hsz
    exact ⟨s, Sg.le.refl s, hH, view_src hH hl hr⟩
  · cases h
/-- a new row that an append makes -/
theorem fresh_row (hH : Hold Γ s w0 st w) {e : TypeId} {dt : DT} {z : Value} {cap : Nat} {zs : List D} {us : List Value} (hz : Els s.G dt zs us) (hzl : z.cells.size = dt.sz) (h1 : zs.length ≤ cap) (h2 : cap ≤ maxLen) (o2 : ∀ u ∈ z.cells.toList, u.oneCell' = true) {cells : Array Value} (hc : cells = us.toArray ++ Builtin.zeroCells z.cells (cap - zs.length)) :
    Hold Γ (s.ins st.nx ⟨w.heap.size, cap, zs.length⟩) w0 (newX st (.q e dt zs)) (w.drew.alloc (.cells cells e)) := by
  refine (hH.drew (w.drawn + 1)).new (p := ⟨w.heap.size, cap, zs.length⟩) (Ext.alloc w.drew _) (fun _ => Nat.le_refl _) ?_
  refine obj_row (us := us) (cur := cells) (hz.mono (Sub.refl _)) (heap_alloc_new w.drew _) ?_ ?_ ?_ rfl h1 h2
  · subst hc
    simp only [Array.size_append, List.size_toArray, size_zeroCells, hzl, hz.len]
    rw [← Nat.add_mul]; exact Nat.mul_le_mul_right _ (by omega)
  · subst hc
    intro u hu
    rw [Array.toList_append] at hu
    rcases List.mem_append.1 hu with hu | hu
    · exact hz.one u (by simpa using hu)
    · exact o2 u (zeroCells_mem hu)
  · subst hc; simp [List.take_left]
theorem ow_new (hH : Hold Γ s w0 st w) {b c m : Nat} (hm : m ≤ c) : Rel (s.ins st.nx ⟨b, c, m⟩) (.ow st.nx m) (.slice (some ⟨b, 0, none⟩) m c) := by
  simp only [Rel]; exact ⟨_, Sg.ins_same, Nat.le_refl _, hm, .inl rfl⟩
theorem run_append_zero (P : Program) (w : World) {t e ty : TypeId} {i : TypeInfo} {base : Option Addr} {n c : Nat} {y : Value} (ht : P.underlying t = some (.slice e)) (hi : P.info? e = some i) (hnc : n ≤ c) (hy : ZV y) : (Builtin.append_ #[t, t] ty #[.slice base n c, y]).run P w = .ok (.slice base n c) w := by
  have h1 : (Builtin.lenOf y).run P w = .ok 0 w := by rcases hy with rfl | ⟨a, rfl⟩ <;> rfl
  have h2 : (Builtin.firstCells i.size 0 y).run P w = .ok #[] w := by
    rcases hy with rfl | ⟨a, rfl⟩ <;> simp [Builtin.firstCells, loadCells, loadCellsFrom]
  cases base <;> simp [Builtin.append_, run_underlying ht, sizeOf, typeInfo, hi, h1, h2, hnc, storeCells]
theorem Hold.absent (hH : Hold Γ s w0 st w) {e : TypeId} {dt : DT} : Hold Γ (s.ins st.nx ⟨0, 0, 0⟩) w0 (newX st (.q e dt [])) w :=
  hH.new (p := ⟨0, 0, 0⟩) (Ext.refl [] w) (fun h => absurd rfl h) ⟨rfl, Nat.le_refl _, by simp [maxLen], fun h => absurd rfl h⟩
/-- an append to what has neither elements nor room -/
theorem append_zv (hH : Hold Γ s w0 st w) {t e : TypeId} {i : TypeInfo} {z : Value} {dt : DT} {x y : Operand} {ys : List D} {vx : Value} (ho : o.op = .call ⟨.builtin .append, #[x, y], #[t, t]⟩) (ht : P.underlying t = some (.slice e)) (hi : P.info? e = some i) (hzv : i.zero = some z) (hsz : i.size = dt.sz) (hzl : z.cells.size = dt.sz) (hz1 : ∀ u ∈ z.cells.toList, u.oneCell' = true)
    (hx : ev E x = vx) (hvx : ZV vx) (hs : SrcIs s.G dt w ys (ev E y)) (hb : ys.length * i.bytes ≤ 140737488355328) (hl : ys.length ≤ 9223372036854775807) : Wrs P Γ o E w w0 s (.ow st.nx ys.length) (newX st (.q e dt ys)) := by
  obtain ⟨us, he, hs⟩ := hs
  rcases hs with ⟨rfl, hy⟩ | ⟨a, c, hy, hcell⟩
  · have hres : OpX P o E w vx w := by
      rcases hvx with rfl | ⟨a, rfl⟩
      · exact X.run ho hx rfl (run_append_zero P w ht hi (Nat.le_refl _) hy)
      · exact X.run ho hx rfl (run_append_zero P w ht hi (Nat.le_refl _) hy)
    exact ⟨vx, w, _, hres, hH.le_new _, hH.absent, by simp only [Rel]; exact ⟨_, Sg.ins_same, Nat.le_refl _, Nat.le_refl _, .inr ⟨rfl, hvx⟩⟩⟩
  · by_cases h0 : ys.length = 0
    · have : ys = [] := List.eq_nil_of_length_eq_zero h0
      subst this
      have hres : OpX P o E w vx w := by
        have key : ∀ base, (Builtin.append_ #[t, t] o.type #[.slice base 0 0, .slice (some a) 0 c]).run P w = .ok (.slice base 0 0) w := fun base => by
          cases base <;> simp [Builtin.append_, run_underlying ht, sizeOf, typeInfo, hi, Builtin.lenOf, Builtin.firstCells, loadCells, loadCellsFrom, storeCells]
        rcases hvx with rfl | ⟨a', rfl⟩
        · exact X.run ho hx hy (key _)
        · exact X.run ho hx hy (key _)
      exact ⟨vx, w, _, hres, hH.le_new _, hH.absent, by simp only [Rel]; exact ⟨_, Sg.ins_same, Nat.le_refl _, Nat.le_refl _, .inr ⟨rfl, hvx⟩⟩⟩
    · have hlen : us.length = ys.length * i.size := by rw [hsz]; exact he.len
      rcases hvx with rfl | ⟨a', rfl⟩
      · have hr := run_append_nil (P := P) w t o.type e i z ht hi hzv a ys.length c us hlen hcell (by omega) (by omega) (by omega)
        have hcap := grownCap_ge w ys.length 0 e
        exact ⟨_, _, _, X.run ho hx hy hr, hH.le_new _, fresh_row hH he hzl hcap (grownCap_le_maxLen w ys.length 0 e (by simp only [maxLen]; omega)) hz1 rfl, ow_new hH hcap⟩
      · have hr := run_append_grow (P := P) w t o.type e i z ht hi hzv a' 0 0 [] (by simp) (by simp) a ys.length c us hlen hcell (by omega) (by omega) (by rw [Nat.zero_add]; exact growslice_fits (by omega) hb)
        simp only [Nat.zero_add] at hr
        have hcap := grownCap_ge w ys.length 0 e
        exact ⟨_, _, _, X.run ho hx hy hr, hH.le_new _, fresh_row hH he hzl hcap (grownCap_le_maxLen w ys.length 0 e (by simp only [maxLen]; omega)) hz1 (by simp), ow_new hH hcap⟩
/-- an append to a row of one's own, of which cv is the room that is told -/
theorem append_row (hH : Hold Γ s w0 st w) {t e : TypeId} {i : TypeInfo} {z : Value} {dt : DT} {x y : Operand} {ys xs : List D} {l n cv : Nat} {p : Loc} (ho : o.op = .call ⟨.builtin .append, #[x, y], #[t, t]⟩) (ht : P.underlying t = some (.slice e)) (hi : P.info? e = some i) (hzv : i.zero = some z) (hsz : i.size = dt.sz) (hzl : z.cells.size = dt.sz) (hz1 : ∀ u ∈ z.cells.toList, u.oneCell' = true)
    (hl : st.h.get l = some (.q e dt xs)) (hp : s.f l = some p) (hn : n ≤ p.m) (hcv : n ≤ cv ∧ cv ≤ p.c) (hx : ev E x = .slice (some ⟨p.b, 0, none⟩) n cv ∨ (p.c = 0 ∧ ZV (ev E x))) (hs : SrcIs s.G dt w ys (ev E y)) (hb : (n + ys.length) * i.bytes ≤ 140737488355328) (hle : n + ys.length ≤ 9223372036854775807) :
    Wrs P Γ o E w w0 s (.ow st.nx (n + ys.length)) (newX (delX st l) (.q e dt (xs.take n ++ ys))) := by
  obtain ⟨p', hp', g1, g2, g3, g4⟩ := hH.row hl
  rw [hp] at hp'; cases hp'
  have hlx : (xs.take n).length = n := by rw [List.length_take]; omega
  have hll : (xs.take n ++ ys).length = n + ys.length := by rw [List.length_append, hlx]
  by_cases hc0 : p.c = 0
  · have hn0 : n = 0 := by omega
    subst hn0
    have hzx : ZV (ev E x) := by
      rcases hx with hx | ⟨_, hx⟩
      · have : cv = 0 := by omega
        subst this; exact .inr ⟨_, hx⟩
      · exact hx
    have : Wrs P Γ o E w w0 s (.ow st.nx ys.length) (newX (delX st l) (.q e dt ys)) := append_zv (hH.del l) ho ht hi hzv hsz hzl hz1 rfl hzx hs (by simpa using hb) (by omega)
    simpa using this
  · have hx' : ev E x = .slice (some ⟨p.b, 0, none⟩) n cv := by
      rcases hx with hx | ⟨h, _⟩
      · exact hx
      · exact absurd h hc0
    obtain ⟨cur, h1, h2, h3, h4⟩ := hH.els hl hp hc0
    have h4' := h4.cut n (by omega)
    rw [List.take_take, Nat.min_eq_left (Nat.mul_le_mul_right _ (by omega))] at h4'
    obtain ⟨us, he, hs⟩ := hs
    have hall := h4'.append he
    have hlo : (cur.toList.take (n * dt.sz)).length = n * dt.sz := by rw [h4'.len, hlx]
    -- nothing is appended, or there is room
    have room : ∀ w', n + ys.length ≤ cv → (Builtin.append_ #[t, t] o.type #[.slice (some ⟨p.b, 0, none⟩) n cv, ev E y]).run P w = .ok (.slice (some ⟨p.b, 0, none⟩) (n + ys.length) cv) w' → (w' = w.setRow p.b (cur.toList.take (n * dt.sz) ++ us ++ cur.toList.drop (n * dt.sz + us.length)).toArray ∨ (w' = w ∧ us = [])) → Wrs P Γ o E w w0 s (.ow st.nx (n + ys.length)) (newX (delX st l) (.q e dt (xs.take n ++ ys))) := by
      intro w' hroom hr hw'
      have hcur' : ∃ cur', w'.heap[p.b]? = some (.cells cur' e (0, 0)) ∧ cur'.size = cur.size ∧ (∀ u ∈ cur'.toList, u.oneCell' = true) ∧ cur'.toList.take (cur.toList.take (n * dt.sz) ++ us).length = cur.toList.take (n * dt.sz) ++ us := by
        have hfit : n * dt.sz + us.length ≤ cur.size := by
          rw [he.len, ← Nat.add_mul]; exact Nat.le_trans (Nat.mul_le_mul_right _ (by omega)) h2
        rcases hw' with rfl | ⟨rfl, rfl⟩
        · refine ⟨_, setRow_heap w p.b cur _ e _ h1, ?_, ?_, ?_⟩
          · simp only [List.size_toArray, List.length_append, hlo, List.length_drop, Array.length_toList]; omega
          · intro u hu
            rw [List.toList_toArray] at hu
            rcases List.mem_append.1 hu with hu | hu
            · rcases List.mem_append.1 hu with hu | hu
              · exact h3 u (List.mem_of_mem_take hu)
              · exact he.one u hu
            · exact h3 u (List.mem_of_mem_drop hu)
          · simp only [List.take_left]
        · exact ⟨cur, h1, rfl, h3, by rw [List.append_nil, hlo]⟩
      obtain ⟨cur', k1, k2, k3, k4⟩ := hcur'
      have hx1 : Ext [p.b] w w' := by
        rcases hw' with rfl | ⟨rfl, _⟩
        · exact ⟨rfl, rfl, rfl, by simp, fun j _ hj => setRow_other w p.b j _ (by simpa using hj)⟩
        · exact Ext.refl _ _
      have hobj : ObjAt (s.ins st.nx ⟨p.b, cv, n + ys.length⟩) w' ⟨p.b, cv, n + ys.length⟩ (.q e dt (xs.take n ++ ys)) := obj_row (us := cur.toList.take (n * dt.sz) ++ us) (cur := cur') (hall.mono (Sub.refl _)) k1 (by rw [k2]; exact Nat.le_trans (Nat.mul_le_mul_right _ hcv.2) h2) k3 k4 hll hroom (Nat.le_trans hcv.2 g3)
      exact ⟨_, w', _, X.run ho hx' rfl hr, hH.le_new _, hH.rename (p' := ⟨p.b, cv, n + ys.length⟩) hl hp hc0 (fun h => by cases h) rfl hx1 hobj, ow_new hH hroom⟩
    rcases hs with ⟨rfl, hy⟩ | ⟨a, c, hy, hcell⟩
    · refine room w (by simpa using hcv.1) ?_ (.inr ⟨rfl, ?_⟩)
      · simpa using run_append_zero P w ht hi hcv.1 hy
      · exact List.eq_nil_of_length_eq_zero (by rw [he.len]; simp)
    · have hlen : us.length = ys.length * i.size := by rw [hsz]; exact he.len
      by_cases hroom : n + ys.length ≤ cv
      · have hfit : n * i.size + us.length ≤ cur.size := by
          rw [hsz, he.len, ← Nat.add_mul]; exact Nat.le_trans (Nat.mul_le_mul_right _ (by omega)) h2
        have hr := run_append_room (P := P) w t o.type e i ht hi p.b n cv cur h1 a ys.length c us hlen hcell he.one hroom hfit
        rw [hsz] at hr
        exact room _ hroom (by rw [hy]; exact hr) (.inl rfl)
      · have holds : ∀ j v, (cur.toList.take (n * dt.sz))[j]? = some v → w.cell? ((⟨p.b, 0, none⟩ : Addr).add j) = some v := fun j v hj => by
          rw [List.getElem?_take] at hj
          split at hj
          · have : cur[j]? = some v := by simpa using hj
            rw [addr_add]; simp [World.cell?, h1, this]
          · cases hj
        have hr := run_append_grow (P := P) w t o.type e i z ht hi hzv ⟨p.b, 0, none⟩ n cv (cur.toList.take (n * dt.sz)) (by rw [hlo, hsz]) holds a ys.length c us hlen hcell (by omega) (by omega) (growslice_fits (by omega) hb)
        have hcap := grownCap_ge w (n + ys.length) cv e
        have hH' := fresh_row (hH.del l) (e := e) hall hzl (cap := grownCap w (n + ys.length) cv e) (by rw [hll]; exact hcap) (grownCap_le_maxLen w (n + ys.length) cv e (by simp only [maxLen]; omega)) hz1 (cells := (cur.toList.take (n * dt.sz)).toArray ++ us.toArray ++ Builtin.zeroCells z.cells (grownCap w (n + ys.length) cv e - (n + ys.length))) (by rw [hll]; simp)
        rw [hll] at hH'
        exact ⟨_, _, _, X.run ho hx' hy hr, hH.le_new _, hH', ow_new hH hcap⟩
theorem Wrs.from {s1 : Sg} (hs : s.le s1) {a : AV} (h : Wrs P Γ o E w w0 s1 a st') : Wrs P Γ o E w w0 s a st' := by
  obtain ⟨v, w', s', h1, h2, h3, h4⟩ := h
  exact ⟨v, w', s', h1, hs.trans h2, h3, h4⟩
theorem SrcIs.rel {G G' : Fz} {t : DT} {ys : List D} {v : Value} (h : SrcIs G t w ys v) (k : Sub G G') : SrcIs G' t w ys v := by
  obtain ⟨us, h1, h2⟩ := h
  exact ⟨us, h1.mono k, h2⟩
theorem append_ok (hH : Hold Γ s w0 st w) {t : TypeId} {x y : Operand} {a b u : AV} {ps : Ps} (ho : o.op = .call ⟨.builtin .append, #[x, y], #[t, t]⟩) (hx : Rel s a (ev E x)) (hy : Rel s b (ev E y)) (h : evAppend P st t a b = some (ps, u, st')) (hp : ∀ p ∈ ps, p) : Wrs P Γ o E w w0 s u st' := by
  unfold evAppend at h
  split at h
  case h_2 => cases h
  rename_i e ht
  split at h
  case h_2 => cases h
  rename_i i z dt hi hz hdt
  obtain ⟨i', zv, hi', hzv, hzr⟩ := zeroA_ok hz
  rw [hi] at hi'; cases hi'
  cases hc : (Nat.ble 1 i.size && Nat.beq i.size dt.sz && Nat.beq z.length i.size && z.all oneCellA) with
  | false => rw [hc] at h; cases h
  | true =>
  rw [hc] at h
  simp only [cond_true] at h
  simp only [Bool.and_eq_true] at hc
  obtain ⟨⟨⟨c1, c2⟩, c3⟩, c4⟩ := hc
  have hsz := beq_t c2
  have hzl : zv.cells.size = dt.sz := by rw [← hsz, ← beq_t c3, (hzr s).len, Array.length_toList]
  have hz1 := (hzr s).one c4
  split at h
  case h_2 => cases h
  rename_i ys st1 hsrc
  obtain ⟨s1, k1, k2, k3⟩ := src_ok hH hsrc hy
  have hx1 := Rel.mono k1 _ _ hx
  split at h
  · cases h
    exact Wrs.from k1 (append_zv k2 ho ht hi hzv hsz hzl hz1 rfl (.inl hx.v_of) k3 (hp _ (by simp)) (hp _ (by simp)))
  · cases h
    simp only [Rel] at hx
    exact Wrs.from k1 (append_zv k2 ho ht hi hzv hsz hzl hz1 rfl hx k3 (hp _ (by simp)) (hp _ (by simp)))
  · rename_i l n
    split at h
    case h_2 => cases h
    rename_i e' dt' xs hl
    cases hc : (Nat.beq e e' && dt.beq dt') with
    | false => rw [hc] at h; cases h
    | true =>
    rw [hc] at h
    cases h
    simp only [Bool.and_eq_true] at hc
    have e1 := beq_t hc.1; have e2 := DT.beq_ok hc.2
    subst e1; subst e2
    simp only [Rel] at hx1
    obtain ⟨p, hp1, hn, hmc, hv⟩ := hx1
    exact Wrs.from k1 (append_row k2 ho ht hi hzv hsz hzl hz1 hl hp1 hn ⟨by omega, Nat.le_refl _⟩ hv k3 (hp _ (by simp)) (hp _ (by simp)))
  · rename_i l n
    split at h
    case h_2 => cases h
    rename_i e' dt' xs hl
    cases hc : (Nat.beq e e' && dt.beq dt') with
    | false => rw [hc] at h; cases h
    | true =>
    rw [hc] at h
    cases h
    simp only [Bool.and_eq_true] at hc
    have e1 := beq_t hc.1; have e2 := DT.beq_ok hc.2
    subst e1; subst e2
    simp only [Rel] at hx1
    obtain ⟨p, hp1, hn, hmc, hv⟩ := hx1
    exact Wrs.from k1 (append_row k2 ho ht hi hzv hsz hzl hz1 hl hp1 hn ⟨Nat.le_refl _, by omega⟩ hv k3 (hp _ (by simp)) (hp _ (by simp)))
  · cases h
theorem setD_eq : ∀ {xs : List D} {i : Nat} {d : D}, i < xs.length → setD xs i d = xs.set i d
  | [], _, _, h => by simp at h
  | _ :: _, 0, _, _ => rfl
  | _ :: r, i + 1, d, h => by simp only [setD, List.set_cons_succ]; rw [setD_eq (by simpa using h)]
theorem store_ok (hH : Hold Γ s w0 st w) {t : TypeId} {x y : Operand} {a b : AV} (ho : o.op = .store t x y) (hx : Rel s a (ev E x)) (hy : Rel s b (ev E y)) (h : evStore P st t a b = some st') : Wrs P Γ o E w w0 s (.v undef) st' := by
  have hyc := hy.cells
  have hrun : ∀ {bk k n et : Nat} {cur : Array Value} {us : List Value}, ev E x = .pointer (some ⟨bk, k, none⟩) → szOf P t = some n → us = (ev E y).cells.toList → us.length = n → (∀ u ∈ us, u.oneCell' = true) → w.heap[bk]? = some (.cells cur et (0, 0)) → k + n ≤ cur.size → OpX P o E w undef (w.setRow bk (W.splice cur.toList k us).toArray) := by
    intro bk k n et cur us hxv hsz hus hl h1 hb hfit
    have hst := run_storeCells_at P bk k et us 0 cur w hb (by simpa [hl] using hfit) h1
    simp only [Nat.add_zero] at hst
    have hst' : (storeCells ⟨bk, k, none⟩ us 0).run P w = .ok () (w.setRow bk (W.splice cur.toList k us).toArray) := by rw [hst]; simp [W.splice]
    refine .inr ⟨rfl, ?_⟩
    simp only [execOp, ho]
    refine run_u ?_
    rw [hus] at hst'
    have hno : ¬ ((ev E y).cells.size ≠ n) := by rw [← Array.length_toList, ← hus, hl]; simp
    have hv : (storeVar t ⟨bk, k, none⟩ (ev E y)).run P w = .ok () (w.setRow bk (W.splice cur.toList k us).toArray) := by
      unfold storeVar
      simp only [Sem.run_bind, size_of (szOf_sized hsz), Result.andThen_ok, Sem.run_ite, if_neg hno, Sem.run_pure]
      rw [hus]; exact hst'
    rw [hxv]
    unfold Instr.storeAt Instr.sureAddr
    simp only [Sem.run_bind, Sem.run_pure, Result.andThen_ok, hv]
  cases a with
  | ptr l k =>
    simp only [evStore] at h
    split at h
    case h_2 => cases h
    rename_i et cs sz hl hsz
    cases hc : (Nat.beq (cellsA b).length sz && Nat.ble (k + sz) cs.length && (cellsA b).all oneCellA) with
    | false => rw [hc] at h; cases h
    | true =>
    rw [hc] at h
    cases h
    simp only [Bool.and_eq_true] at hc
    have e1 := beq_t hc.1.1; have e2 := ble_t hc.1.2
    obtain ⟨p, hp, hob⟩ := hH.obj l _ hl
    obtain ⟨vs, h3, h4⟩ := hob.cur
    simp only [Rel] at hx
    obtain ⟨p', hp', hxv⟩ := hx
    rw [hp] at hp'; cases hp'
    have hlen : (ev E y).cells.toList.length = sz := by rw [← hyc.len]; exact e1
    have hX := hrun hxv hsz rfl hlen (hyc.one hc.2) h3 (by rw [h4.len] at e2; simpa using e2)
    have hset : (w.setRow p.b (W.splice vs.toArray.toList k (ev E y).cells.toList).toArray).heap[p.b]? = some (.cells (W.splice vs k (ev E y).cells.toList).toArray et (0, 0)) := setRow_heap w p.b _ _ et _ h3
    exact ⟨undef, _, s, hX, Sg.le.refl s, hH.turn hl hp trivial (fun _ => rfl) ⟨rfl, rfl, rfl, by simp, fun j _ hj => setRow_other w p.b j _ (by simpa using hj)⟩ ⟨_, hset, h4.splice hyc k⟩, Rel.mkv _⟩
  | pe l i sz off js dt =>
    simp only [evStore] at h
    split at h
    case h_2 => cases h
    rename_i ys st1 hf
    split at h
    case h_2 => cases h
    rename_i et rt xs n hl hsz
    cases hc : (Nat.beq n dt.sz && Nat.beq sz rt.sz && pathIs rt js off dt) with
    | false => rw [hc] at h; cases h
    | true =>
    rw [hc] at h
    simp only [cond_true] at h
    split at h
    case h_2 => cases h
    rename_i d hd
    cases h
    simp only [Bool.and_eq_true] at hc
    obtain ⟨⟨e1, e2⟩, e3⟩ := hc
    have e1 := beq_t e1; have e2 := beq_t e2; have e3 := pathIs_ok e3
    obtain ⟨s1, k1, k2, k3⟩ := freezeL_ok hH hf hyc
    obtain ⟨us, ws, hus, hrd, hws⟩ := toD_ok k2 (Sees.self _ w) dt ys _ d [] hd k3
    have := hws.unnil
    subst this
    rw [List.append_nil] at hus
    have hx1 := Rel.mono k1 _ _ hx
    simp only [Rel] at hx1
    obtain ⟨p, hp, hi, hmc, hxv⟩ := hx1
    obtain ⟨p', hp', g1, g2, g3, g4⟩ := k2.row hl
    rw [hp] at hp'; cases hp'
    have hc0 : p.c ≠ 0 := by omega
    obtain ⟨cur, g5, g6, g7, g8⟩ := g4 hc0
    have hix : i < xs.length := by omega
    have hrow := g8 i _ (get_nthD hix)
    obtain ⟨ps, vs, rs, hcs, hoff, hrdv, hput⟩ := path_ok js rt 0 off dt _ _ e3 hrow
    have hul : us.length = dt.sz := Rd.len _ _ _ hrd
    have hvl : vs.length = dt.sz := Rd.len _ _ _ hrdv
    have hnew := hput d us hrd
    have hrl := Rd.len _ _ _ hrow
    have hll : ((cur.toList.drop (i * rt.sz)).take rt.sz).length = ps.length + (dt.sz + rs.length) := by rw [hcs, List.length_append, List.length_append, hvl]
    have hi1 : (i + 1) * rt.sz ≤ p.c * rt.sz := Nat.mul_le_mul_right _ (by omega)
    rw [Nat.add_mul] at hi1
    have hfit : i * sz + off + dt.sz ≤ cur.size := by rw [e2, hoff]; omega
    have hX := hrun hxv hsz hus.symm (by rw [hul, e1]) (Rd.one _ _ _ hrd) g5 (by rw [e1]; exact hfit)
    have hsplen : (W.splice cur.toList (i * sz + off) us).length = cur.toList.length := splice_len (by rw [hul, Array.length_toList]; exact hfit)
    refine ⟨undef, _, s1, hX, k1, k2.turn hl hp hc0 (fun h => by cases h) ⟨rfl, rfl, rfl, by simp, fun j _ hj => setRow_other w p.b j _ (by simpa using hj)⟩ ?_, Rel.mkv _⟩
    rw [setD_eq hix]
    refine ⟨by rw [List.length_set]; exact g1, g2, g3, fun _ => ⟨_, setRow_heap w p.b cur _ et _ g5, by rw [List.size_toArray, hsplen, Array.length_toList]; exact g6, fun u hu => ?_, fun i' x' hi' => ?_⟩⟩
    · rw [List.toList_toArray] at hu
      unfold W.splice at hu
      rcases List.mem_append.1 hu with hu | hu
      · rcases List.mem_append.1 hu with hu | hu
        · exact g7 u (List.mem_of_mem_take hu)
        · exact Rd.one _ _ _ hrd u hu
      · exact g7 u (List.mem_of_mem_drop hu)
    · rw [List.toList_toArray]
      have hi'lt : i' < xs.length := by have := (List.getElem?_eq_some_iff.1 hi').1; rwa [List.length_set] at this
      -- the cells, one by one
      have cell : ∀ j, (W.splice cur.toList (i * sz + off) us)[j]? = if j < i * sz + off then cur.toList[j]? else if j < i * sz + off + dt.sz then us[j - (i * sz + off)]? else cur.toList[j]? := by
        intro j
        unfold W.splice
        have ht : (cur.toList.take (i * sz + off)).length = i * sz + off := by rw [List.length_take, Array.length_toList]; omega
        rw [List.append_assoc, List.getElem?_append, ht]
        split
        · rw [List.getElem?_take, if_pos (by assumption)]
        · rw [List.getElem?_append, hul]
          split
          · rw [if_pos (by omega)]
          · rw [if_neg (by omega), List.getElem?_drop]
            congr 1; omega
      by_cases hii : i' = i
      · subst hii
        rw [List.getElem?_set_self hi'lt] at hi'
        cases hi'
        have hseg : ((W.splice cur.toList (i' * sz + off) us).drop (i' * rt.sz)).take rt.sz = ps ++ (us ++ rs) := by
          apply List.ext_getElem?
          intro j
          rw [List.getElem?_take]
          split
          · rename_i hj
            rw [List.getElem?_drop, cell]
            have hold : cur.toList[i' * rt.sz + j]? = (ps ++ (vs ++ rs))[j]? := by
              rw [← hcs, List.getElem?_take, if_pos hj, List.getElem?_drop]
            rw [e2, hoff, Nat.zero_add]
            split
            · rw [hold, List.getElem?_append_left (by omega), List.getElem?_append_left (by omega)]
            · rw [List.getElem?_append_right (by omega : ps.length ≤ j)]
              split
              · rw [List.getElem?_append_left (by omega)]
                congr 1; omega
              · rw [hold, List.getElem?_append_right (by omega : ps.length ≤ j), List.getElem?_append_right (by omega), List.getElem?_append_right (by omega)]
                congr 1; omega
          · rename_i hj
            rw [List.getElem?_eq_none]
            rw [List.length_append, List.length_append, hul]; omega
        rw [hseg]; exact hnew
      · rw [List.getElem?_set_ne (fun e => hii e.symm)] at hi'
        have hseg : ((W.splice cur.toList (i * sz + off) us).drop (i' * rt.sz)).take rt.sz = (cur.toList.drop (i' * rt.sz)).take rt.sz := by
          apply List.ext_getElem?
          intro j
          rw [List.getElem?_take, List.getElem?_take]
          split
          · rename_i hj
            rw [List.getElem?_drop, List.getElem?_drop, cell]
            rcases Nat.lt_or_gt_of_ne hii with hlt | hgt
            · have : (i' + 1) * rt.sz ≤ i * rt.sz := Nat.mul_le_mul_right _ hlt
              rw [Nat.add_mul] at this
              rw [if_pos (by rw [e2]; omega)]
            · have : (i + 1) * rt.sz ≤ i' * rt.sz := Nat.mul_le_mul_right _ hgt
              rw [Nat.add_mul] at this
              rw [if_neg (by rw [e2, hoff]; omega), if_neg (by rw [e2, hoff]; omega)]
          · rfl
        rw [hseg]; exact g8 i' x' hi'
  | _ => simp [evStore] at h
theorem toDn_scal {st : Stt} (dt : DT) : ∀ (n : Nat) (z : List AV) (ds : List D), (!dt.isT) = true → dt.sz = 1 → toDn true ⟨[], 0⟩ dt n z = some ds → toDn true st dt n z = some ds
  | 0, [], ds, _, _, h => by simpa [toDn] using h
  | 0, _ :: _, ds, _, _, h => by simp [toDn] at h
  | n + 1, z, ds, h1, h2, h => by
    simp only [toDn] at h ⊢
    split at h
    case h_2 => cases h
    rename_i d r hd
    split at h
    case h_2 => cases h
    rename_i ds' hds
    cases h
    rw [toD_zero dt z d r hd]
    simp only
    rw [toDn_scal dt n r ds' h1 h2 hds]
theorem els_rep {G : Fz} {dt : DT} {d0 : D} {zs : List Value} (h : Rd G dt d0 zs) : ∀ n : Nat, Els G dt (List.replicate n d0) (repV zs n)
  | 0 => Els.nil
  | n + 1 => by rw [List.replicate_succ]; exact Els.cons h (els_rep h n)
theorem Hold.frzNew {w' : World} (hH : Hold Γ s w0 st w) {o : Obj} {b : Nat} (hx : Ext [] w w') (hb : w.heap.size ≤ b) (ho : w'.heap[b]? = some o) : s.le (s.frz b o) ∧ Hold Γ (s.frz b o) w0 st w' := by
  have hF : s.F b = none := hH.none_at hb
  have hG : s.G b = none := by
    cases hg : s.G b with
    | none => rfl
    | some x => rw [hH.gf _ _ hg] at hF; cases hF
  have hle : s.le (s.frz b o) := by
    refine ⟨fun _ _ h => h, fun k x hk => ?_, fun k x hk => ?_, rfl, rfl⟩
    · simp only [Sg.frz]; split
      · rename_i e; subst e; rw [hF] at hk; cases hk
      · exact hk
    · simp only [Sg.frz]; split
      · rename_i e; subst e; rw [hG] at hk; cases hk
      · exact hk
  have hH2 := hH.grow hx
  refine ⟨hle, hH2.ext, fun k x hk => ?_, fun k x hk => ?_, hH2.dom, fun k x hk => ?_, hH2.inj, fun k hk => ?_, hH2.glob⟩
  · simp only [Sg.frz] at hk
    split at hk
    · rename_i e; subst e; cases hk; exact ho
    · exact hH2.frz k x hk
  · simp only [Sg.frz] at hk ⊢
    split at hk
    · rename_i e; rw [if_pos e]; exact hk
    · rename_i e; rw [if_neg e]; exact hH2.gf k x hk
  · obtain ⟨q, g1, g2⟩ := hH.obj k x hk
    obtain ⟨q', g1', g2'⟩ := hH2.obj k x hk
    rw [g1] at g1'; cases g1'
    refine ⟨q, g1, fun ht => ?_, g2'.cur.step hle fun _ => rfl⟩
    obtain ⟨g3, g4⟩ := g2'.free ht
    refine ⟨?_, g4⟩
    simp only [Sg.frz]
    have := g2.cur.lt ht
    rw [if_neg (fun e => by omega)]
    exact g3
  · simp only [Sg.frz] at hk
    split at hk
    · rename_i e
      right
      have := hH.ext.size
      omega
    · exact hH2.gnew k hk
theorem bytesD_length (x : ByteArray) : (bytesD x).length = x.size := by
  rw [bytesD, List.length_map, Array.length_toList]; rfl
theorem bytes_ok (hH : Hold Γ s w0 st w) {sT dT e : TypeId} {a : Operand} {x : ByteArray} (ho : o.op = .convert sT dT a) (hv : ev E a = .string x) (h1 : P.underlying sT = some .string) (h2 : P.underlying dT = some (.slice e)) (h3 : P.underlying e = some (.int .u8)) (hb : x.size ≤ 140737488355328) :
    Wrs P Γ o E w w0 s (.dl true (.i .u8) (bytesD x)) st := by
  have hr := run_bytes_of_string (P := P) w sT dT e x h1 h2 h3
  have hcap := grownCap_ge w x.size 0 e
  have hmax := grownCap_le_maxLen w x.size 0 e (by simp only [maxLen]; omega)
  generalize grownCap w x.size 0 e = cap at hr hcap hmax
  have hX : OpX P o E w _ _ := .inl (by
    simp only [execOp, ho]
    rw [hv]
    exact run_v hr)
  have hx : Ext [] w (w.drew.alloc (.cells (bytesRow x cap) e ((bytesRow x cap).size, (bytesRow x cap).size + 1))) := (Ext.drew w (w.drawn + 1)).trans (Ext.alloc _ _)
  obtain ⟨hle, hH'⟩ := hH.frzNew (o := .cells (bytesRow x cap) e ((bytesRow x cap).size, (bytesRow x cap).size + 1)) (b := w.heap.size) hx (Nat.le_refl _) (heap_alloc_new w.drew _)
  refine ⟨_, _, _, hX, hle, hH', ?_⟩
  simp only [Rel, Sg.H, cond_true]
  refine .inr ⟨w.heap.size, 0, cap, by rw [bytesD_length], by rw [bytesD_length]; exact hcap, hmax, fun i d hi => ?_⟩
  have hlt : i < (bytesD x).length := (List.getElem?_eq_some_iff.1 hi).1
  rw [bytesD_length] at hlt
  have hlt' : i < x.data.size := hlt
  have hd : d = .i (x.data[i].toNat) := by
    simp only [bytesD, List.getElem?_map] at hi
    rw [Array.getElem?_toList, Array.getElem?_eq_getElem hlt'] at hi
    simpa using hi.symm
  refine ⟨[.int .u8 (x.data[i].toNat)], rfl, ⟨bytesRow x cap, e, ((bytesRow x cap).size, (bytesRow x cap).size + 1), by simp [Sg.frz], fun j u hj => ?_⟩, by rw [hd]; simp only [Rd, D.int]⟩
  have hj0 : j = 0 := by
    have := (List.getElem?_eq_some_iff.1 hj).1
    simp at this; exact this
  subst hj0
  simp only [List.getElem?_cons_zero, Option.some.injEq] at hj
  subst hj
  simp only [bytesRow, DT.sz, Nat.mul_one, Nat.zero_add, Nat.add_zero]
  rw [Array.getElem?_append_left (by simpa using hlt')]
  simp
  exact ⟨_, Array.getElem?_eq_getElem hlt', rfl⟩
theorem Hold.same (h : Hold Γ s w0 st w) {l : Nat} {o : AX} (hl : st.h.get l = some o) : Hold Γ s w0 (setX st l o) w := by
  have key : ∀ k x, (setX st l o).h.get k = some x → st.h.get k = some x := fun k x hk => by
    rcases setX_key hk with ⟨rfl, rfl⟩ | ⟨_, _, hk⟩
    · exact hl
    · exact hk
  exact ⟨h.ext, h.frz, h.gf, h.dom, fun k x hk => h.obj k x (key k x hk), fun k k' x x' p p' hk hk' => h.inj k k' x x' p p' (key k x hk) (key k' x' hk'), h.gnew, h.glob⟩
theorem splice_at {cs us : List Value} {k : Nat} (h : k + us.length ≤ cs.length) (j : Nat) : (W.splice cs k us)[j]? = if j < k then cs[j]? else if j < k + us.length then us[j - k]? else cs[j]? := by
  unfold W.splice
  have ht : (cs.take k).length = k := by rw [List.length_take]; omega
  rw [List.append_assoc, List.getElem?_append, ht]
  split
  · rw [List.getElem?_take, if_pos (by assumption)]
  · rw [List.getElem?_append]
    split
    · rw [if_pos (by omega)]
    · rw [if_neg (by omega), List.getElem?_drop]
      congr 1; omega
theorem map1' {α β : Type} (x : α) (f : α → β) : #[x].map f = #[f x] := by simp
theorem clear_ok (hH : Hold Γ s w0 st w) {t e : TypeId} {x : Operand} {l lo n sz : Nat} {et : TypeId} {dt : DT} {xs : List D} {z : List AV} {d0 : D} (ho : o.op = .call ⟨.builtin .clear, #[x], #[t]⟩) (hx : Rel s (.vw l lo n sz) (ev E x)) (ht : P.underlying t = some (.slice e)) (hl : st.h.get l = some (.q et dt xs)) (hsz : sz = dt.sz) (h1s : 1 ≤ sz) (hz : zeroA P e = some z) (hzl : z.length = sz) (hz1 : z.all oneCellA = true) (hd0 : toD true ⟨[], 0⟩ dt z = some (d0, [])) :
    Wrs P Γ o E w w0 s (.v (.tuple #[])) (setX st l (.q et dt (xs.take lo ++ (List.replicate n d0 ++ xs.drop (lo + n))))) := by
  obtain ⟨i, zv, hi, hzv, hzr⟩ := zeroA_ok hz
  have hzsz : zv.cells.toList.length = sz := by rw [← (hzr s).len]; exact hzl
  simp only [Rel] at hx
  obtain ⟨p, hp, hmn, hmc, hv⟩ := hx
  have zero : n = 0 → (Builtin.clear_ #[t] o.type #[ev E x]).run P w = .ok (.tuple #[]) w → Wrs P Γ o E w w0 s (.v (.tuple #[])) (setX st l (.q et dt (xs.take lo ++ (List.replicate n d0 ++ xs.drop (lo + n))))) := by
    rintro rfl hr
    have he : xs.take lo ++ (List.replicate 0 d0 ++ xs.drop (lo + 0)) = xs := by simp
    rw [he]
    refine ⟨_, w, s, .inl ?_, Sg.le.refl s, hH.same hl, Rel.mkv _⟩
    simp only [execOp, ho, resolve]
    rw [map1' x (ev E)]
    exact run_v hr
  rcases hv with ⟨hc0, cv, hcv, hlc, hv⟩ | ⟨hn, hv⟩
  · cases n with
    | zero => exact zero rfl (by rw [hv]; simp [Builtin.clear_, underlying, ht])
    | succ n =>
      obtain ⟨p', hp', g1, g2, g3, g4⟩ := hH.row hl
      rw [hp] at hp'; cases hp'
      obtain ⟨cur, g5, g6, g7, g8⟩ := g4 hc0
      have hzero : ∀ w, (zeroValue e).run P w = .ok zv w := fun w => zero_of (by simp [W.Zero, hi, hzv])
      have hzc : (Builtin.zeroCells zv.cells (n + 1)).toList = repV zv.cells.toList (n + 1) := by
        have hq : zv.cells.size = sz := by rw [← Array.length_toList]; exact hzsz
        have : Builtin.zeroCells zv.cells (n + 1) = (repV zv.cells.toList (n + 1)).toArray := by
          rw [← range_rep zv.cells (n + 1) sz hq h1s]; unfold Builtin.zeroCells; rw [hq]
        rw [this]
      have hone : ∀ u ∈ repV zv.cells.toList (n + 1), u.oneCell' = true := fun u hu => (hzr s).one hz1 u (repV_mem hu)
      have hul : (repV zv.cells.toList (n + 1)).length = (n + 1) * sz := by rw [repV_len, hzsz]
      have hfit : lo * sz + (repV zv.cells.toList (n + 1)).length ≤ cur.toList.length := by
        rw [hul, ← Nat.add_mul, Array.length_toList, hsz]
        exact Nat.le_trans (Nat.mul_le_mul_right _ (by omega)) g6
      have hst := run_storeCells_at P p.b (lo * sz) et (repV zv.cells.toList (n + 1)) 0 cur w g5 (by simpa using hfit) hone
      simp only [Nat.add_zero] at hst
      have hst' : (storeCells ⟨p.b, lo * sz, none⟩ (repV zv.cells.toList (n + 1)) 0).run P w = .ok () (w.setRow p.b (W.splice cur.toList (lo * sz) (repV zv.cells.toList (n + 1))).toArray) := by rw [hst]; simp [W.splice]
      have hX : OpX P o E w (.tuple #[]) (w.setRow p.b (W.splice cur.toList (lo * sz) (repV zv.cells.toList (n + 1))).toArray) := by
        left
        simp only [execOp, ho, resolve]
        rw [map1' x (ev E), hv]
        refine run_v ?_
        simp [Builtin.clear_, underlying, ht, hzero, hzc, hst']
      have hRd : Rd s.G dt d0 zv.cells.toList := by
        have hd0' : toD true st dt z = some (d0, []) := toD_zero dt z d0 [] hd0
        obtain ⟨us, ws, e1, e2, e3⟩ := toD_ok hH (Sees.self st w) dt z zv.cells.toList d0 [] hd0' (hzr s)
        rw [e3.unnil, List.append_nil] at e1
        rw [e1]; exact e2
      have hsplen := splice_len (k := lo * sz) hfit
      have hlen : (xs.take lo ++ (List.replicate (n + 1) d0 ++ xs.drop (lo + (n + 1)))).length = xs.length := by
        rw [List.length_append, List.length_append, List.length_take, List.length_replicate, List.length_drop]; omega
      refine ⟨_, _, s, hX, Sg.le.refl s, hH.turn hl hp hc0 (fun h => by cases h) ⟨rfl, rfl, rfl, by simp, fun j _ hj => setRow_other w p.b j _ (by simpa using hj)⟩ ?_, Rel.mkv _⟩
      refine ⟨by rw [hlen]; exact g1, g2, g3, fun _ => ⟨_, setRow_heap w p.b cur _ et _ g5, by rw [List.size_toArray, hsplen, Array.length_toList]; exact g6, fun u hu => ?_, fun i' x' hi' => ?_⟩⟩
      · rw [List.toList_toArray] at hu
        unfold W.splice at hu
        rcases List.mem_append.1 hu with hu | hu
        · rcases List.mem_append.1 hu with hu | hu
          · exact g7 u (List.mem_of_mem_take hu)
          · exact hone u hu
        · exact g7 u (List.mem_of_mem_drop hu)
      · rw [List.toList_toArray]
        have hi'lt : i' < xs.length := by have := (List.getElem?_eq_some_iff.1 hi').1; rwa [hlen] at this
        have htl : (xs.take lo).length = lo := by rw [List.length_take]; omega
        have same : (i' < lo ∨ lo + (n + 1) ≤ i') → ((W.splice cur.toList (lo * sz) (repV zv.cells.toList (n + 1))).drop (i' * dt.sz)).take dt.sz = (cur.toList.drop (i' * dt.sz)).take dt.sz := by
          intro h
          apply List.ext_getElem?
          intro j
          rw [List.getElem?_take, List.getElem?_take]
          split
          · rename_i hj
            rw [List.getElem?_drop, List.getElem?_drop, splice_at hfit, hul]
            rcases h with h | h
            · have : (i' + 1) * dt.sz ≤ lo * dt.sz := Nat.mul_le_mul_right _ h
              rw [Nat.add_mul] at this
              rw [if_pos (by rw [hsz]; omega)]
            · have : (lo + (n + 1)) * dt.sz ≤ i' * dt.sz := Nat.mul_le_mul_right _ h
              rw [Nat.add_mul] at this
              rw [if_neg (by rw [hsz]; omega), if_neg (by rw [hsz]; omega)]
          · rfl
        rw [List.getElem?_append, htl] at hi'
        by_cases h1 : i' < lo
        · rw [if_pos h1, List.getElem?_take, if_pos h1] at hi'
          rw [same (.inl h1)]; exact g8 i' x' hi'
        · rw [if_neg h1, List.getElem?_append, List.length_replicate] at hi'
          by_cases h2 : i' - lo < n + 1
          · rw [if_pos h2, List.getElem?_replicate, if_pos h2] at hi'
            cases hi'
            have hseg : ((W.splice cur.toList (lo * sz) (repV zv.cells.toList (n + 1))).drop (i' * dt.sz)).take dt.sz = zv.cells.toList := by
              apply List.ext_getElem?
              intro j
              rw [List.getElem?_take]
              split
              · rename_i hj
                have e1 : (i' - lo + 1) * dt.sz ≤ (n + 1) * dt.sz := Nat.mul_le_mul_right _ h2
                have e2 : i' * dt.sz = lo * dt.sz + (i' - lo) * dt.sz := by rw [← Nat.add_mul]; congr 1; omega
                rw [Nat.add_mul] at e1
                rw [List.getElem?_drop, splice_at hfit, hul, if_neg (by rw [hsz]; omega), if_pos (by rw [hsz]; omega), repV_get _ _ _ (by rw [hzsz, hsz]; omega), hzsz, hsz]
                have e3 : i' * dt.sz + j - lo * dt.sz = j + dt.sz * (i' - lo) := by rw [e2, Nat.mul_comm dt.sz]; omega
                rw [e3, Nat.add_mul_mod_self_left, Nat.mod_eq_of_lt hj]
              · rename_i hj
                rw [List.getElem?_eq_none (by rw [hzsz, hsz]; omega)]
            rw [hseg]; exact hRd
          · rw [if_neg h2, List.getElem?_drop, show lo + (n + 1) + (i' - lo - (n + 1)) = i' from by omega] at hi'
            rw [same (.inr (by omega))]; exact g8 i' x' hi'
  · refine zero hn ?_
    subst hn
    rcases hv with hv | ⟨b, hv⟩ <;> rw [hv] <;> simp [Builtin.clear_, underlying, ht]
theorem wr_ok (hH : Hold Γ s w0 st w) (hE : EnvOK s A E) {ps : Ps} {a : AV} (h : evWrS P st A o.op = some (ps, a, st')) (hp : ∀ p ∈ ps, p) : Wrs P Γ o E w w0 s a st' := by
  unfold evWrS at h
  split at h
  · rename_i t len qs ho
    split at h
    case h_2 => cases h
    rename_i L e hL ht
    split at h
    case h_2 => cases h
    rename_i sz z hsz hz
    cases hc : (Nat.ble (len * sz) 1024 && Nat.beq z.length sz && Nat.ble 1 sz) with
    | false => rw [hc] at h; cases h
    | true =>
    rw [hc] at h
    simp only [cond_true] at h
    split at h
    case h_2 => cases h
    rename_i cs hcs
    cases h
    simp only [Bool.and_eq_true] at hc
    obtain ⟨⟨c1, c2⟩, c3⟩ := hc
    have c1 := ble_t c1; have c2 := beq_t c2; have c3 := ble_t c3
    obtain ⟨i, zv, hi, hzv, hzr⟩ := zeroA_ok hz
    have hisz : i.size = sz := by unfold szOf at hsz; rw [hi] at hsz; simpa using hsz
    have hzl : zv.cells.size = sz := by rw [← c2, (hzr s).len, Array.length_toList]
    obtain ⟨hp1, hp2⟩ := parts_ok hL hE
    obtain ⟨us, hus, hrel⟩ := fill_ok _ L (qs.toList.map fun x => (x.1, ev E x.2)) _ cs _ (by rw [partsM.1]; exact hp1) (by rw [partsM.2]; exact hp2) (repZ_ok (hzr s) len) hcs
    have hf : Instr.fill (fun i => some (i * sz, sz)) ((Array.range (len * sz)).map ((if len * sz = 0 then #[] else zv.cells)[· % (if len * sz = 0 then #[] else zv.cells).size]!)) (qs.map fun x => (x.1, ev E x.2)).toList = some us.toArray := by
      have hq : (qs.map fun x => (x.1, ev E x.2)).toList = qs.toList.map fun x => (x.1, ev E x.2) := by simp
      rw [hq, ← hus]
      congr 1
      by_cases h0 : len * sz = 0
      · have : len = 0 := by
          rcases Nat.mul_eq_zero.1 h0 with h | h
          · exact h
          · omega
        subst this
        simp [repV]
      · rw [if_neg h0]
        exact range_rep zv.cells len sz hzl c3
    have hX : OpX P o E w (.slice (some ⟨w.heap.size, 0, none⟩) len len) (w.alloc (.cells us.toArray e)) := by
      left
      have hsize : (sizeOf e).run P w = .ok i.size w := by rw [hisz]; exact size_of (szOf_sized hsz)
      have hzero : (zeroValue e).run P w = .ok zv w := zero_of (by simp [W.Zero, hi, hzv])
      have hbig : ¬ (len * i.size > 2 ^ 24) := by rw [hisz]; omega
      have hrow : ∀ c : Array Value, (newRow e c).run P w = .ok ⟨w.heap.size, 0, none⟩ (w.alloc (.cells c e)) := fun c => by simp [newRow, go_sem]
      have key : (Instr.buildSlice t len (qs.map fun x => (x.1, ev E x.2))).run P w = .ok (.slice (some ⟨w.heap.size, 0, none⟩) len len) (w.alloc (.cells us.toArray e)) := by
        unfold Instr.buildSlice
        rw [← hisz] at hf
        by_cases h0 : len * i.size = 0
        · simp only [if_pos h0] at hf
          simp only [Sem.run_bind, underlying, run_program, ht, Result.andThen_ok, Sem.run_pure, hsize, Sem.run_ite, if_neg hbig, if_pos h0, hf, hrow]
        · simp only [if_neg h0] at hf
          simp only [Sem.run_bind, underlying, run_program, ht, Result.andThen_ok, Sem.run_pure, hsize, hzero, Sem.run_ite, if_neg hbig, if_neg h0, hf, hrow]
      simp only [execOp, ho]
      exact run_v key
    have plain : Wrs P Γ o E w w0 s (.sl st.nx 0 len len) (newX st (.c e cs)) := by
      refine ⟨_, _, s.ins st.nx ⟨w.heap.size, 0, 0⟩, hX, hH.le_new _, hH.new (p := ⟨w.heap.size, 0, 0⟩) (Ext.alloc w _) (fun _ => Nat.le_refl _) ⟨us, heap_alloc_new w _, RelL.mono (hH.le_new _) _ _ hrel⟩, ?_⟩
      simp only [Rel]
      exact ⟨_, Sg.ins_same, rfl⟩
    unfold newRowA
    split
    · rename_i dt hdt
      cases hdz : Nat.beq dt.sz sz with
      | false => exact plain
      | true =>
      have hdz := beq_t hdz
      simp only [cond_true]
      split
      · rename_i ds hds
        obtain ⟨h4, h5⟩ := toDn_ok hH (Sees.self _ w) dt len cs us ds hds hrel
        have hlz : len ≤ maxLen := by
          have : len * 1 ≤ len * sz := Nat.mul_le_mul_left _ c3
          simp only [maxLen]; omega
        have hle := hH.le_new (⟨w.heap.size, len, len⟩ : Loc)
        refine ⟨_, _, s.ins st.nx ⟨w.heap.size, len, len⟩, hX, hle, hH.new (p := ⟨w.heap.size, len, len⟩) (Ext.alloc w _) (fun _ => Nat.le_refl _) ?_, ow_new hH (Nat.le_refl _)⟩
        exact obj_row (us := us) (cur := us.toArray) (h5.mono (Sub.refl _)) (heap_alloc_new w _) (show len * dt.sz ≤ us.toArray.size from Nat.le_of_eq (by rw [← h4, ← h5.len]; exact (by simp))) (by simpa using h5.one) (by simp) h4 (Nat.le_refl _) hlz
      · exact plain
    · exact plain
  · rename_i t ho
    split at h
    case h_2 => cases h
    rename_i z hz
    cases h
    obtain ⟨i, zv, hi, hzv, hzr⟩ := zeroA_ok hz
    have hX : OpX P o E w (.pointer (some ⟨w.heap.size, 0, none⟩)) (w.alloc (.cells zv.cells.toList.toArray t)) := by
      left
      have hz0 : (zeroValue t).run P w = .ok zv w := zero_of (by simp [W.Zero, hi, hzv])
      simp [execOp, ho, go_sem, Instr.alloc, hz0, newVar, newRow]
    have plain : Wrs P Γ o E w w0 s (.ptr st.nx 0) (newX st (.c t z)) := wr_new hH (hzr s) o _ rfl hX
    unfold newArrA
    split
    · rename_i dt ds harr
      unfold arrA at harr
      split at harr
      case h_2 => cases harr
      rename_i n e hu
      split at harr
      case h_2 => cases harr
      rename_i dt' hdt
      cases hc : (!dt'.isT && Nat.beq dt'.sz 1 && Nat.ble 1 n && Nat.ble n 4096) with
      | false => rw [hc] at harr; cases harr
      | true =>
      rw [hc] at harr
      simp only [cond_true] at harr
      split at harr
      case h_2 => cases harr
      rename_i ds' hds
      cases harr
      simp only [Bool.and_eq_true] at hc
      have c3 := ble_t hc.1.2
      have c4 := ble_t hc.2
      have hds' : toDn true st dt n z = some ds := toDn_scal dt n z ds hc.1.1.1 (beq_t hc.1.1.2) hds
      obtain ⟨h4, h5⟩ := toDn_ok hH (Sees.self _ w) dt n z _ ds hds' (hzr s)
      have hle := hH.le_new (⟨w.heap.size, n, n⟩ : Loc)
      refine ⟨_, _, s.ins st.nx ⟨w.heap.size, n, n⟩, hX, hle, hH.new (p := ⟨w.heap.size, n, n⟩) (Ext.alloc w _) (fun _ => Nat.le_refl _) ?_, ?_⟩
      · exact obj_row (us := zv.cells.toList) (cur := zv.cells.toList.toArray) (h5.mono (Sub.refl _)) (heap_alloc_new w _) (show n * dt.sz ≤ zv.cells.toList.toArray.size from Nat.le_of_eq (by rw [← h4, ← h5.len]; simp)) (by simpa using h5.one) (by rw [List.toList_toArray]; exact List.take_length) h4 (Nat.le_refl _) (by show n ≤ maxLen; simp only [maxLen]; omega)
      · simp only [Rel]; exact ⟨_, Sg.ins_same, rfl⟩
    · exact plain
  · rename_i t x y ho
    split at h
    case h_2 => cases h
    rename_i k n k' n' e hx hy hu
    split at h
    case h_2 => cases h
    rename_i i z dt hi hz hdt
    cases hc : (Nat.ble 1 i.size && Nat.beq i.size dt.sz && Nat.beq z.length i.size && z.all oneCellA) with
    | false => rw [hc] at h; cases h
    | true =>
    rw [hc] at h
    simp only [cond_true] at h
    split at h
    case h_2 => cases h
    rename_i d0 hd0
    cases h
    simp only [Bool.and_eq_true] at hc
    obtain ⟨⟨⟨c1, c2⟩, c3⟩, c4⟩ := hc
    have c1 := ble_t c1; have c2 := beq_t c2; have c3 := beq_t c3
    have q1 : 0 ≤ n := hp _ (by simp)
    have q2 : n' = n := hp _ (by simp)
    have q3 : n * i.size ≤ 16777216 := hp _ (by simp)
    have q4 : n * i.bytes ≤ 281474976710656 := hp _ (by simp)
    have q5 : n ≤ 9223372036854775807 := hp _ (by simp)
    subst q2
    obtain ⟨i', zv, hi', hzv, hzr⟩ := zeroA_ok hz
    rw [hi] at hi'; cases hi'
    have hzl : zv.cells.size = i.size := by rw [← c3, (hzr s).len, Array.length_toList]
    have hz1 := (hzr s).one c4
    have q3' : n'.toNat * i.size ≤ 16777216 := by
      have : ((n'.toNat * i.size : Nat) : Int) = n' * i.size := by rw [Int.natCast_mul, Int.toNat_of_nonneg q1]
      omega
    have hr := run_makeSlice (P := P) w t e i zv hu hi hzv k k' n' n' q1 (Int.le_refl _) q3' (by rw [Int.mul_comm]; exact q4) q5
    have hX : OpX P o E w (.slice (some ⟨w.heap.size, 0, none⟩) n'.toNat n'.toNat) (w.alloc (.cells (madeCells zv.cells (n'.toNat * i.size)) e)) := by
      left
      simp only [execOp, ho]
      rw [opd_v hx hE, opd_v hy hE]
      exact run_v hr
    have hcells : madeCells zv.cells (n'.toNat * i.size) = (repV zv.cells.toList n'.toNat).toArray := range_rep zv.cells n'.toNat i.size hzl c1
    have hRd : Rd s.G dt d0 zv.cells.toList := by
      have hd0' : toD true st dt z = some (d0, []) := toD_zero dt z d0 [] hd0
      obtain ⟨us, ws, e1, e2, e3⟩ := toD_ok hH (Sees.self st w) dt z zv.cells.toList d0 [] hd0' (hzr s)
      rw [e3.unnil, List.append_nil] at e1
      rw [e1]; exact e2
    have hEls : Els s.G dt (List.replicate n'.toNat d0) (repV zv.cells.toList n'.toNat) := els_rep hRd n'.toNat
    have hlz : n'.toNat ≤ maxLen := by simp only [maxLen]; omega
    have hle := hH.le_new (⟨w.heap.size, n'.toNat, n'.toNat⟩ : Loc)
    rw [hcells] at hX
    refine ⟨_, _, s.ins st.nx ⟨w.heap.size, n'.toNat, n'.toNat⟩, hX, hle, hH.new (p := ⟨w.heap.size, n'.toNat, n'.toNat⟩) (Ext.alloc w _) (fun _ => Nat.le_refl _) ?_, ow_new hH (Nat.le_refl _)⟩
    exact obj_row (us := repV zv.cells.toList n'.toNat) (cur := (repV zv.cells.toList n'.toNat).toArray) (hEls.mono (Sub.refl _)) (heap_alloc_new w _) (show n'.toNat * dt.sz ≤ (repV zv.cells.toList n'.toNat).toArray.size from Nat.le_of_eq (by rw [List.size_toArray, hEls.len, List.length_replicate])) (by simpa using hEls.one) (by simp) (List.length_replicate ..) (Nat.le_refl _) hlz
  · rename_i t x ho
    split at h
    case h_2 => cases h
    rename_i a' hx
    cases h
    refine wr_new hH (opd_ok hx hE).cells o _ rfl ?_
    left
    simp [execOp, ho, go_sem, Instr.box, newVar, newRow]
  · rename_i t x y ho
    split at h
    case h_2 => cases h
    rename_i a' b' hx hy
    split at h
    case h_2 => cases h
    rename_i st1 hst
    cases h
    exact store_ok hH ho (opd_ok hx hE) (opd_ok hy hE) hst
  · rename_i xs ts ho
    split at h
    case h_2 => cases h
    rename_i x y t u hxs hts
    split at h
    case h_2 => cases h
    rename_i a' b' hx hy
    cases hc : Nat.beq t u with
    | false => rw [hc] at h; cases h
    | true =>
    rw [hc] at h
    have := beq_t hc
    subst this
    rw [toList2 hxs, toList2 hts] at ho
    exact append_ok hH ho (opd_ok hx hE) (opd_ok hy hE) h hp
  · rename_i xs ts ho
    split at h
    case h_2 => cases h
    rename_i x t hxs hts
    split at h
    case h_2 => cases h
    rename_i l lo n sz e hx ht
    split at h
    case h_2 => cases h
    rename_i et dt ys z hl hz
    cases hc : (Nat.beq sz dt.sz && Nat.beq z.length sz && Nat.ble 1 sz && z.all oneCellA) with
    | false => rw [hc] at h; cases h
    | true =>
    rw [hc] at h
    simp only [cond_true] at h
    simp only [Bool.and_eq_true] at hc
    obtain ⟨⟨⟨c1, c2⟩, c3⟩, c4⟩ := hc
    split at h
    case h_2 => cases h
    rename_i d0 hd0
    cases h
    rw [toList1 hxs, toList1 hts] at ho
    exact clear_ok hH ho (opd_ok hx hE) ht hl (beq_t c1) (ble_t c3) hz (beq_t c2) c4 hd0
  · rename_i sT dT x ho
    split at h
    case h_2 => cases h
    rename_i y e hx h1 h2
    split at h
    case h_2 => cases h
    rename_i h3
    cases h
    exact bytes_ok hH ho (opd_v hx hE) h1 h2 h3 (hp _ (by simp))
  · rename_i t ho
    split at h
    case h_2 => cases h
    rename_i tk te hu
    split at h
    case h_2 => cases h
    rename_i kt vt hkt hvt
    cases hc : keyT P tk kt with
    | false => rw [hc] at h; cases h
    | true =>
    rw [hc] at h
    cases h
    have hX : OpX P o E w (.map (some w.heap.size)) (w.alloc (.map #[] 0)) := by
      left
      simp [execOp, ho, go_sem, Instr.makeMap]
    refine ⟨_, _, s.ins st.nx ⟨w.heap.size, 0, 0⟩, hX, hH.le_new _, hH.new (p := ⟨w.heap.size, 0, 0⟩) (Ext.alloc w _) (fun _ => Nat.le_refl _) ⟨#[], heap_alloc_new w _, rfl, ⟨fun _ h => absurd h List.not_mem_nil, List.nodup_nil⟩⟩, ?_⟩
    simp only [Rel]
    exact ⟨_, Sg.ins_same, rfl⟩
  · rename_i t m k x ho
    split at h
    case h_2 => cases h
    rename_i l ka xa tk te hm hk hx hu
    split at h
    case h_2 => cases h
    rename_i xa' st1 hfr
    split at h
    case h_2 => cases h
    rename_i kt vt mm hl
    split at h
    case h_2 => cases h
    rename_i kd xd hkd hxd
    cases hc : keyT P tk kt with
    | false => rw [hc] at h; cases h
    | true =>
    rw [hc] at h
    cases h
    obtain ⟨s1, hle, hH1, hxr, _⟩ := freeze_ok hH hfr (opd_ok hx hE)
    have hr := opd_ok hm hE
    simp only [Rel] at hr
    obtain ⟨p, hp1, hv⟩ := hr
    have hkv := keyD_ok hkd (opd_ok hk hE)
    have hp2 := hle.f _ _ hp1
    obtain ⟨p', hp', hob⟩ := hH1.obj l _ hl
    rw [hp2] at hp'; cases hp'
    obtain ⟨w', r1, r2, r3⟩ := run_mapSet (k0 := kd) hu hc hob.cur (toD1_ok hH1 (Sees.self st1 w) hxd hxr)
    have hX : OpX P o E w undef w' := by
      right
      simp only [execOp, ho]
      rw [hv, hkv]
      exact ⟨trivial, run_u r1⟩
    exact ⟨_, w', s1, hX, hle, hH1.turn hl hp2 trivial (fun h => by cases h) r2 r3, Rel.mkv _⟩
  · rename_i xs ts ho
    split at h
    case h_2 => cases h
    rename_i x y t tr hxs hts
    split at h
    case h_2 => cases h
    rename_i l ka tk te hx hy hu
    split at h
    case h_2 => cases h
    rename_i kt vt mm hl
    split at h
    case h_2 => cases h
    rename_i kd hkd
    cases hc : keyT P tk kt with
    | false => rw [hc] at h; cases h
    | true =>
    rw [hc] at h
    cases h
    rw [toList2 hxs] at ho
    have hr := opd_ok hx hE
    simp only [Rel] at hr
    obtain ⟨p, hp1, hv⟩ := hr
    have hkv := keyD_ok hkd (opd_ok hy hE)
    obtain ⟨p', hp', hob⟩ := hH.obj l _ hl
    rw [hp1] at hp'; cases hp'
    have ht0 : ts[0]? = some t := by obtain ⟨l⟩ := ts; simp only at hts; subst hts; rfl
    obtain ⟨w', r1, r2, r3⟩ := run_mapDel (ts := ts) (ty := o.type) (as := #[.map (some p.b), keyV kt kd]) hu ht0 rfl rfl hc hob.cur
    have hX : OpX P o E w (.tuple #[]) w' := by
      left
      simp only [execOp, ho, resolve]
      have : (#[x, y] : Array Operand).map (ev E) = #[.map (some p.b), keyV kt kd] := by simp [hv, hkv]
      rw [this]
      exact run_v r1
    exact ⟨_, w', s, hX, Sg.le.refl s, hH.turn hl hp1 trivial (fun h => by cases h) r2 r3, Rel.mkv _⟩
  · rename_i t x ho
    split at h
    case h_2 => cases h
    rename_i l tk te hx hu
    split at h
    case h_2 => cases h
    rename_i kt vt mm hl
    cases h
    have hr := opd_ok hx hE
    simp only [Rel] at hr
    obtain ⟨p, hp1, hv⟩ := hr
    obtain ⟨p', hp', hob⟩ := hH.obj l _ hl
    rw [hp1] at hp'; cases hp'
    obtain ⟨arr, hb, _, _⟩ := hob.cur
    have hX : OpX P o E w (.pointer (some ⟨w.heap.size, 0, none⟩)) (w.alloc (.mapIter (some p.b) mm.ck #[] mm.ck)) := by
      left
      simp only [execOp, ho]
      refine run_v ?_
      rw [hv]
      simp [Instr.range, run_underlying hu, MapKept.run_getObj_map hb, go_sem, Result.andThen]
    refine ⟨_, _, s.ins st.nx ⟨w.heap.size, 0, 0⟩, hX, hH.le_new _, hH.new (p := ⟨w.heap.size, 0, 0⟩) (Ext.alloc w _) (fun _ => Nat.le_refl _) ⟨p, (hH.le_new _).f _ _ hp1, heap_alloc_new w _⟩, ?_⟩
    simp only [Rel]
    exact ⟨_, Sg.ins_same, rfl⟩
  · cases h
end
end Go.Proofs.YtnhfkdgambncfaaGreatDoor.Sv
namespace Go.Proofs.YtnhfkdgambncfaaGreatDoor.Sv
open Go.RowKit Go.Proofs.YtnhfkdgambncfaaGreatDoor.W
variable {Γ : Gl}

/-- a value that has these cells -/
theorem Val.cells {g : Bool} {cs : List Value} {v : Value} (h : Val g cs v) (h1 : ∀ u ∈ cs, u.oneCell' = true) : v.cells.toList = cs := by
  cases g with
  | true => simp only [Val, cond_true] at h; subst h; simp [Value.cells]
  | false => simp only [Val, cond_false] at h; subst h; rw [cells_one (h1 v (by simp))]
def ArgsRd (F G : Fz) (w : World) : List AK → List D → List Value → List Nat → Prop
  | [], _, vs, bs => vs = [] ∧ bs = []
  | .d wf t :: r, ds, vs, bs => ∃ v vs', vs = v :: vs' ∧ (∃ cs, Rd (bif wf then G else F) t (nthD ds 0) cs ∧ Val t.isT cs v) ∧ ArgsRd F G w r (tailD ds) vs' bs
  | .box et ts :: r, ds, vs, bs => ∃ v vs' b bs', vs = v :: vs' ∧ bs = b :: bs' ∧ v = .pointer (some ⟨b, 0, none⟩) ∧ (∃ cs, w.heap[b]? = some (.cells cs.toArray et (0, 0)) ∧ Rds G ts (nthD ds 0).tup cs) ∧ ArgsRd F G w r (tailD ds) vs' bs'
  | .o _ _ _ :: _, _, _, _ => False
  | .p t :: r, ds, vs, bs => ∃ v vs', vs = v :: vs' ∧ (∃ b k cs, v = .pointer (some ⟨b, k, none⟩) ∧ FAt F b k cs ∧ Rd F t (nthD ds 0) cs) ∧ ArgsRd F G w r (tailD ds) vs' bs
/-- a row that was made, and stands at its block alone -/
def OwnRd (G : Fz) (w : World) (et : TypeId) (t : DT) (xs : List D) (v : Value) (os : List Nat) : Prop :=
  (ZV v ∧ xs = [] ∧ os = []) ∨ ∃ p : Loc, v = .slice (some ⟨p.b, 0, none⟩) xs.length p.c ∧ p.c ≠ 0 ∧ os = [p.b] ∧ ObjAt ⟨fun _ => none, G, G, [], G⟩ w p (.q et t xs)
mutual
def RkRd (G : Fz) (w : World) : RK → D → List Value → List Nat → Prop
  | .d t, d, cs, os => os = [] ∧ Rd G t d cs
  | .own et t, d, cs, os => ∃ v, cs = [v] ∧ OwnRd G w et t d.list v os
  | .agg ks, d, cs, os => RkRds G w ks d.tup cs os
  | .any, _, cs, os => os = [] ∧ ∃ v, cs = [v] ∧ v.oneCell' = true
  | .er, d, cs, os => os = [] ∧ ∃ v, cs = [v] ∧ ((d.bool = false ∧ v = .nilIface) ∨ (d.bool = true ∧ ∃ u p, v = .iface u p))
def RkRds (G : Fz) (w : World) : List RK → List D → List Value → List Nat → Prop
  | [], _, cs, os => cs = [] ∧ os = []
  | k :: ks, ds, cs, os => ∃ c1 c2 o1 o2, cs = c1 ++ c2 ∧ os = o1 ++ o2 ∧ RkRd G w k (nthD ds 0) c1 o1 ∧ RkRds G w ks (tailD ds) c2 o2
end
def OutsRd (G : Fz) (w : World) : List RK → List D → List Value → List Nat → Prop
  | [], _, vs, os => vs = [] ∧ os = []
  | k :: ks, ds, vs, os => ∃ v vs' cs o1 o2, vs = v :: vs' ∧ os = o1 ++ o2 ∧ Val k.isAgg cs v ∧ RkRd G w k (nthD ds 0) cs o1 ∧ OutsRd G w ks (tailD ds) vs' o2
def BoxesRd (G : Fz) (w : World) : List AK → List D → List Nat → Prop
  | [], _, _ => True
  | .d _ _ :: r, es, bs => BoxesRd G w r es bs
  | .p _ :: r, es, bs => BoxesRd G w r es bs
  | .o _ _ _ :: _, _, _ => False
  | .box et ts :: r, es, bs => ∃ b bs', bs = b :: bs' ∧ (∃ cs, w.heap[b]? = some (.cells cs.toArray et (0, 0)) ∧ Rds G ts (nthD es 0).tup cs) ∧ BoxesRd G w r (tailD es) bs'
def tupV : List Value → Value
  | [v] => v
  | vs => .tuple vs.toArray
/-- what a contract says of a function -/
def ConOK (P : Program) (Γ : Gl) (f : FuncId) (c : Con) : Prop := ∀ (F G : Fz) (w : World) (vs : List Value) (ds : List D) (bs : List Nat), Γ.ok w → (∀ b ∈ bs, Γ.n ≤ b) → (∀ b o, F b = some o → w.heap[b]? = some o) → Sub G F → bs.Nodup → (∀ b ∈ bs, F b = none) → ArgsRd F G w c.args ds vs bs → ds.length = c.args.length → (∀ p ∈ c.pre ds, p) →
  Fnc P f vs.toArray w fun v w' => ∃ G' os rs, Ext bs w w' ∧ Sub G G' ∧ (∀ b o, G' b = some o → w'.heap[b]? = some o) ∧ (∀ b, G b = none → G' b ≠ none → w.heap.size ≤ b) ∧ os.Nodup ∧ (∀ b ∈ os, w.heap.size ≤ b ∧ G' b = none) ∧ OutsRd G' w' c.res (c.out ds) rs os ∧ v = tupV rs ∧ BoxesRd G' w' c.args (c.boxes ds) bs
def fnV (f : FuncId) : Value := .func (.func f) #[] #[]
def rowV (res : List RK) (b n : Nat) : Value := match res with
  | [] => .tuple #[]
  | _ => .slice (some ⟨b, 0, none⟩) n n
def rowZ (res : List RK) (v : Value) : Prop := match res with
  | [] => v = .tuple #[]
  | _ => ZV v
/-- what a contract says of a function that turns a row -/
def RowOK (P : Program) (Γ : Gl) (f : FuncId) (c : Con) (et : TypeId) (t : DT) (fs : List FuncId) : Prop :=
  (∀ (G : Fz) (w : World) (p : Loc) (xs : List D), Γ.ok w → Γ.n ≤ p.b → (∀ b o, G b = some o → w.heap[b]? = some o) → G p.b = none → p.c ≠ 0 → ObjAt ⟨fun _ => none, G, G, [], G⟩ w p (.q et t xs) → (∀ q ∈ c.pre [.l xs], q) →
    Fnc P f (.slice (some ⟨p.b, 0, none⟩) xs.length p.c :: fs.map fnV).toArray w fun v w' => v = rowV c.res p.b xs.length ∧ Ext [p.b] w w' ∧ ObjAt ⟨fun _ => none, G, G, [], G⟩ w' p (.q et t (nthD (c.boxes [.l xs]) 0).list)) ∧
  ∀ (w : World) (z : Value), Γ.ok w → ZV z → (∀ q ∈ c.pre [.l []], q) → (nthD (c.boxes [.l []]) 0).list = [] ∧ Fnc P f (z :: fs.map fnV).toArray w fun v w' => rowZ c.res v ∧ Ext [] w w'
def ConAny (P : Program) (Γ : Gl) (f : FuncId) (c : Con) : Prop := match rowOf c.args with
  | some (et, t, fs) => RowOK P Γ f c et t fs
  | none => ConOK P Γ f c
def SumsOK (P : Program) (Γ : Gl) (S : Sums) : Prop := ∀ f c, S f = some c → ConAny P Γ f c

section
variable {s : Sg} {w0 w : World} {st st' : Stt} {A : AE} {E : Env} {P : Program} {o : Oper}
/-- the blocks of the variables that are handed over -/
def LocsOf (s : Sg) (st : Stt) : List Nat → List Nat → Prop
  | [], bs => bs = []
  | l :: ls, bs => ∃ b bs', bs = b :: bs' ∧ (∃ p et cs, s.f l = some p ∧ p.b = b ∧ st.h.get l = some (.c et cs)) ∧ LocsOf s st ls bs'
def nBox : List AK → Nat
  | [] => 0
  | .d _ _ :: r => nBox r
  | .box _ _ :: r => nBox r + 1
  | .p _ :: r => nBox r
  | .o _ _ _ :: _ => 0
theorem matchArgs_ids : ∀ (ks : List AK) (as' : List AV) (ds : List D) (ls : List Nat), matchArgs st ks as' = some (ds, ls) → ls.length = nBox ks ∧ ∀ l ∈ ls, ∃ et cs, st.h.get l = some (.c et cs)
  | [], [], ds, ls, h => by
    simp only [matchArgs, Option.some.injEq, Prod.mk.injEq] at h
    obtain ⟨rfl, rfl⟩ := h
    exact ⟨rfl, by simp⟩
  | [], _ :: _, _, _, h => by simp [matchArgs] at h
  | .d wf t :: r, [], _, _, h => by simp [matchArgs] at h
  | .box et ts :: r, [], _, _, h => by simp [matchArgs] at h
  | .p t :: r, [], _, _, h => by simp [matchArgs] at h
  | .o _ _ _ :: r, as', _, _, h => by simp [matchArgs] at h
  | .p t :: r, a :: as', ds, ls, h => by
    cases a with
    | ptr l k =>
      cases k with
      | succ k => simp [matchArgs] at h
      | zero =>
      simp only [matchArgs] at h
      split at h
      case h_2 => cases h
      split at h
      case h_2 => cases h
      split at h
      case h_2 => cases h
      rename_i ds' ls' hds
      cases h
      exact matchArgs_ids r as' ds' _ hds
    | pd m t' d =>
      simp only [matchArgs] at h
      cases hg : t.beq t' with
      | false => rw [hg] at h; cases h
      | true =>
      rw [hg] at h
      simp only [cond_true] at h
      split at h
      case h_2 => cases h
      rename_i ds' ls' hds
      cases h
      exact matchArgs_ids r as' ds' _ hds
    | _ => simp [matchArgs] at h
  | .d wf t :: r, a :: as', ds, ls, h => by
    simp only [matchArgs] at h
    split at h
    case h_2 => cases h
    split at h
    case h_2 => cases h
    rename_i ds' ls' hds
    cases h
    exact matchArgs_ids r as' ds' _ hds
  | .box et ts :: r, a :: as', ds, ls, h => by
    cases a with
    | ptr l k =>
      cases k with
      | succ k => simp [matchArgs] at h
      | zero =>
      simp only [matchArgs] at h
      split at h
      case h_2 => cases h
      rename_i et' cs hl
      cases hg : Nat.beq et et' with
      | false => rw [hg] at h; cases h
      | true =>
      rw [hg] at h
      simp only [cond_true] at h
      split at h
      case h_2 => cases h
      split at h
      case h_2 => cases h
      rename_i ds' ls' hds
      cases h
      obtain ⟨h1, h2⟩ := matchArgs_ids r as' ds' _ hds
      refine ⟨by simp [h1, nBox], fun l' hl' => ?_⟩
      rcases List.mem_cons.1 hl' with rfl | hl'
      · exact ⟨et', cs, hl⟩
      · exact h2 l' hl'
    | _ => simp [matchArgs] at h
theorem matchArgs_ok (hH : Hold Γ s w0 st w) {F : Fz} (hS : Sees s st w false F) : ∀ (ks : List AK) (as' : List AV) (vs : List Value) (ds : List D) (ls : List Nat), (noP ks = true ∨ ∀ b, F b = w.heap[b]?) → matchArgs st ks as' = some (ds, ls) → RelL s as' vs → ds.length = ks.length ∧ ∃ bs, ArgsRd F s.G w ks ds vs bs ∧ LocsOf s st ls bs
  | [], [], vs, ds, ls, _, h, hr => by
    simp only [matchArgs, Option.some.injEq, Prod.mk.injEq] at h
    obtain ⟨rfl, rfl⟩ := h
    exact ⟨rfl, [], ⟨hr.unnil, rfl⟩, rfl⟩
  | [], _ :: _, _, _, _, _, h, _ => by simp [matchArgs] at h
  | .d wf t :: r, [], _, _, _, _, h, _ => by simp [matchArgs] at h
  | .box et ts :: r, [], _, _, _, _, h, _ => by simp [matchArgs] at h
  | .p t :: r, [], _, _, _, _, h, _ => by simp [matchArgs] at h
  | .o _ _ _ :: r, as', _, _, _, _, h, _ => by simp [matchArgs] at h
  | .p t :: r, a :: as', vs, ds, ls, hW, h, hr => by
    obtain ⟨v, vs', h1, h2, rfl⟩ := hr.uncons
    have hW' : ∀ b, F b = w.heap[b]? := by
      rcases hW with hW | hW
      · simp [noP, AK.isP] at hW
      · exact hW
    cases a with
    | ptr l k =>
      cases k with
      | succ k => simp [matchArgs] at h
      | zero =>
      simp only [matchArgs] at h
      split at h
      case h_2 => cases h
      rename_i et' cs hl
      split at h
      case h_2 => cases h
      rename_i d hd
      split at h
      case h_2 => cases h
      rename_i ds' ls' hds
      cases h
      obtain ⟨h3, bs, h4, h5⟩ := matchArgs_ok hH hS r as' vs' ds' _ (.inr hW') hds h2
      simp only [Rel] at h1
      obtain ⟨p, hp, rfl⟩ := h1
      obtain ⟨p', hp', hob⟩ := hH.obj l _ hl
      rw [hp] at hp'; cases hp'
      obtain ⟨us, h6, h7⟩ := hob.cur
      obtain ⟨us1, ws, h8, h9, h10⟩ := toD_ok hH hS t cs us d [] hd h7
      have := h10.unnil
      subst this
      rw [List.append_nil] at h8
      subst h8
      refine ⟨by simp [h3], bs, ⟨_, vs', rfl, ⟨p.b, 0, us, rfl, ⟨us.toArray, et', (0, 0), by rw [hW']; exact h6, fun j x hj => by simpa using hj⟩, h9⟩, h4⟩, h5⟩
    | pd m t' d =>
      simp only [matchArgs] at h
      cases hg : t.beq t' with
      | false => rw [hg] at h; cases h
      | true =>
      rw [hg] at h
      simp only [cond_true] at h
      split at h
      case h_2 => cases h
      rename_i ds' ls' hds
      cases h
      have := DT.beq_ok hg
      subst this
      obtain ⟨h3, bs, h4, h5⟩ := matchArgs_ok hH hS r as' vs' ds' _ (.inr hW') hds h2
      simp only [Rel] at h1
      obtain ⟨b, k, cs, rfl, h6, h7⟩ := h1
      have hsub : Sub (s.H m) F := by
        cases m with
        | true => exact hS.G
        | false => exact hS.F rfl
      exact ⟨by simp [h3], bs, ⟨_, vs', rfl, ⟨b, k, cs, rfl, h6.mono hsub, Rd.mono hsub t d cs h7⟩, h4⟩, h5⟩
    | _ => simp [matchArgs] at h
  | .d wf t :: r, a :: as', vs, ds, ls, hW, h, hr => by
    obtain ⟨v, vs', h1, h2, rfl⟩ := hr.uncons
    simp only [matchArgs] at h
    split at h
    case h_2 => cases h
    rename_i d hd
    split at h
    case h_2 => cases h
    rename_i ds' ls' hds
    cases h
    obtain ⟨h3, bs, h4, h5⟩ := matchArgs_ok hH hS r as' vs' ds' _ (hW.imp (fun h => by simpa [noP, AK.isP] using h) id) hds h2
    refine ⟨by simp [h3], bs, ⟨v, vs', rfl, ?_, h4⟩, h5⟩
    cases wf with
    | true => exact toD1_ok hH (Sees.self st w) hd h1
    | false => exact toD1_ok hH hS hd h1
  | .box et ts :: r, a :: as', vs, ds, ls, hW, h, hr => by
    obtain ⟨v, vs', h1, h2, rfl⟩ := hr.uncons
    cases a with
    | ptr l k =>
      cases k with
      | succ k => simp [matchArgs] at h
      | zero =>
      simp only [matchArgs] at h
      split at h
      case h_2 => cases h
      rename_i et' cs hl
      cases hg : Nat.beq et et' with
      | false => rw [hg] at h; cases h
      | true =>
      rw [hg] at h
      simp only [cond_true] at h
      split at h
      case h_2 => cases h
      rename_i ds0 hds0
      split at h
      case h_2 => cases h
      rename_i ds' ls' hds
      cases h
      have := beq_t hg
      subst this
      obtain ⟨h3, bs, h4, h5⟩ := matchArgs_ok hH hS r as' vs' ds' _ (hW.imp (fun h => by simpa [noP, AK.isP] using h) id) hds h2
      simp only [Rel] at h1
      obtain ⟨p, hp, rfl⟩ := h1
      obtain ⟨p', hp', hob⟩ := hH.obj l _ hl
      rw [hp] at hp'; cases hp'
      obtain ⟨us, h6, h7⟩ := hob.cur
      obtain ⟨us1, ws, h8, h9, h10⟩ := toDs_ok hH (Sees.self st w) ts cs us ds0 [] hds0 h7
      have := h10.unnil
      subst this
      rw [List.append_nil] at h8
      subst h8
      exact ⟨by simp [h3], p.b :: bs, ⟨_, vs', p.b, bs, rfl, rfl, rfl, ⟨us, h6, h9⟩, h4⟩, ⟨p.b, bs, rfl, ⟨p, et, cs, hp, rfl, hl⟩, h5⟩⟩
    | _ => simp [matchArgs] at h
end
end Go.Proofs.YtnhfkdgambncfaaGreatDoor.Sv
namespace Go.Proofs.YtnhfkdgambncfaaGreatDoor.Sv
open Go.RowKit Go.Proofs.YtnhfkdgambncfaaGreatDoor.W
variable {Γ : Gl}

section
variable {s : Sg} {w0 w w' : World} {st st' : Stt} {A : AE} {E : Env} {P : Program} {o : Oper}
theorem noDup_ok : ∀ {l : List Nat}, noDup l = true → l.Nodup
  | [], _ => List.nodup_nil
  | x :: r, h => by
    simp only [noDup, Bool.and_eq_true, Bool.not_eq_true'] at h
    exact List.nodup_cons.2 ⟨by simpa using h.1, noDup_ok h.2⟩
theorem LocsOf.blocks : ∀ {ls bs : List Nat}, LocsOf s st ls bs → bs = ls.filterMap fun l => (s.f l).map Loc.b
  | [], bs, h => by simpa [LocsOf] using h
  | l :: ls, bs, h => by
    obtain ⟨b, bs', rfl, ⟨p, et, cs, h1, rfl, _⟩, h2⟩ := h
    simp only [List.filterMap_cons, h1, Option.map_some]
    rw [LocsOf.blocks h2]
theorem LocsOf.mem : ∀ {ls bs : List Nat}, LocsOf s st ls bs → ∀ {b : Nat}, b ∈ bs → ∃ l p et cs, l ∈ ls ∧ s.f l = some p ∧ p.b = b ∧ st.h.get l = some (.c et cs)
  | [], bs, h, b, hb => by simp only [LocsOf] at h; subst h; simp at hb
  | l :: ls, bs, h, b, hb => by
    obtain ⟨b', bs', rfl, ⟨p, et, cs, h1, h3, h4⟩, h2⟩ := h
    rcases List.mem_cons.1 hb with rfl | hb
    · exact ⟨l, p, et, cs, by simp, h1, h3, h4⟩
    · obtain ⟨l', p', et', cs', k1, k2⟩ := LocsOf.mem h2 hb
      exact ⟨l', p', et', cs', List.mem_cons_of_mem _ k1, k2⟩
theorem LocsOf.mem' : ∀ {ls bs : List Nat}, LocsOf s st ls bs → ∀ {l : Nat}, l ∈ ls → ∃ p et cs, s.f l = some p ∧ p.b ∈ bs ∧ st.h.get l = some (.c et cs)
  | [], bs, h, l, hl => by simp at hl
  | l0 :: ls, bs, h, l, hl => by
    obtain ⟨b', bs', rfl, ⟨p, et, cs, h1, h3, h4⟩, h2⟩ := h
    rcases List.mem_cons.1 hl with rfl | hl
    · exact ⟨p, et, cs, h1, by simp [h3], h4⟩
    · obtain ⟨p', et', cs', k1, k2, k3⟩ := LocsOf.mem' h2 hl
      exact ⟨p', et', cs', k1, List.mem_cons_of_mem _ k2, k3⟩
theorem LocsOf.nodup (hH : Hold Γ s w0 st w) : ∀ {ls bs : List Nat}, LocsOf s st ls bs → ls.Nodup → bs.Nodup
  | [], bs, h, _ => by simp only [LocsOf] at h; subst h; exact List.nodup_nil
  | l :: ls, bs, h, hn => by
    obtain ⟨b, bs', rfl, ⟨p, et, cs, h1, rfl, h4⟩, h2⟩ := h
    obtain ⟨n1, n2⟩ := List.nodup_cons.1 hn
    refine List.nodup_cons.2 ⟨fun hb => ?_, LocsOf.nodup hH h2 n2⟩
    obtain ⟨l', p', et', cs', k1, k2, k3, k4⟩ := LocsOf.mem h2 hb
    have := hH.inj l l' _ _ p p' h4 k4 h1 k2 trivial trivial k3.symm
    subst this
    exact n1 k1
theorem setBoxes_nx : ∀ (ks : List AK) (ls : List Nat) (es : List D) (st1 : Stt), (setBoxes st1 ks ls es).nx = st1.nx
  | [], _, _, _ => by simp [setBoxes]
  | .d _ _ :: r, ls, es, st1 => by simp only [setBoxes]; exact setBoxes_nx r ls es st1
  | .p _ :: r, ls, es, st1 => by simp only [setBoxes]; exact setBoxes_nx r ls es st1
  | .o _ _ _ :: r, ls, es, st1 => by simp [setBoxes]
  | .box et ts :: r, [], es, st1 => by simp [setBoxes]
  | .box et ts :: r, l :: ls, es, st1 => by simp only [setBoxes]; rw [setBoxes_nx r ls]; rfl
theorem boxes_get {G' : Fz} {s1 : Sg} (hG : s1.G = G') (hf : s1.f = s.f) : ∀ (ks : List AK) (ls bs : List Nat) (es : List D) (st1 : Stt) (k : Nat) (x : AX), LocsOf s st ls bs → ls.length = nBox ks → BoxesRd G' w' ks es bs → (setBoxes st1 ks ls es).h.get k = some x →
    (k ∈ ls ∧ ∃ p et cs, s.f k = some p ∧ ObjAt s1 w' p x ∧ x = .c et cs) ∨ (k ∉ ls ∧ st1.h.get k = some x)
  | [], ls, bs, es, st1, k, x, hL, hn, hB, h => by
    have : ls = [] := List.eq_nil_of_length_eq_zero hn
    subst this
    exact .inr ⟨by simp, by simpa [setBoxes] using h⟩
  | .d _ _ :: r, ls, bs, es, st1, k, x, hL, hn, hB, h => by
    simp only [setBoxes] at h
    exact boxes_get hG hf r ls bs es st1 k x hL hn hB h
  | .p _ :: r, ls, bs, es, st1, k, x, hL, hn, hB, h => by
    simp only [setBoxes] at h
    exact boxes_get hG hf r ls bs es st1 k x hL hn hB h
  | .o _ _ _ :: r, ls, bs, es, st1, k, x, hL, hn, hB, h => hB.elim
  | .box et ts :: r, [], bs, es, st1, k, x, hL, hn, hB, h => by simp [nBox] at hn
  | .box et ts :: r, l :: ls, bs, es, st1, k, x, hL, hn, hB, h => by
    obtain ⟨b, bs', rfl, ⟨p, et', cs', h1, rfl, h4⟩, h2⟩ := hL
    obtain ⟨b2, bs2, he, ⟨cs, h5, h6⟩, h7⟩ := hB
    simp only [List.cons.injEq] at he
    obtain ⟨rfl, rfl⟩ := he
    simp only [setBoxes] at h
    rcases boxes_get hG hf r ls bs' _ _ k x h2 (by simpa [nBox] using hn) h7 h with ⟨k1, k2⟩ | ⟨k1, k2⟩
    · exact .inl ⟨List.mem_cons_of_mem _ k1, k2⟩
    · rcases setX_key k2 with ⟨rfl, rfl⟩ | ⟨hne, _, k3⟩
      · refine .inl ⟨by simp, p, et, _, h1, ⟨cs, h5, cellsDs_ok (F := G') (by simp [Sg.H, hG]) ts _ 0 _ cs (fun i => by rw [Nat.zero_add]; rfl) h6⟩, rfl⟩
      · exact .inr ⟨by simp [hne, k1], k3⟩
theorem oneD_cells (m : Bool) (t : DT) (d : D) : cellsA (oneD m t d) = cellsD m t d := by
  cases t <;> simp [oneD, cellsD, cellsA]
theorem oneD_agg (m : Bool) (t : DT) (d : D) : (t.isT = true → ∃ l, oneD m t d = .agg l) ∧ (t.isT = false → cellsA (oneD m t d) = [oneD m t d]) := by
  cases t <;> simp [oneD, cellsD, cellsA, DT.isT]
theorem val_rel {a : AV} {v : Value} {cs : List Value} {g : Bool} (h1 : g = true → ∃ l, a = .agg l) (h2 : g = false → cellsA a = [a]) (hr : RelL s (cellsA a) cs) (hv : Val g cs v) : Rel s a v := by
  cases g with
  | true =>
    obtain ⟨l, rfl⟩ := h1 rfl
    simp only [Val, cond_true] at hv
    subst hv
    simp only [Rel]
    exact ⟨cs, hr, rfl⟩
  | false =>
    rw [h2 rfl] at hr
    simp only [Val, cond_false] at hv
    subst hv
    obtain ⟨u, us, k1, k2, k3⟩ := hr.uncons
    cases k3
    exact k1
/-- the live blocks are elder than N, or known -/
def Inv (s : Sg) (st : Stt) (N : Nat) (used : List Nat) : Prop := ∀ l o p, st.h.get l = some o → s.f l = some p → there o p → p.b < N ∨ p.b ∈ used
theorem add_own (hH : Hold Γ s w0 st w) {o : AX} {p : Loc} {N : Nat} {used : List Nat} (hI : Inv s st N used) (hN : w0.heap.size ≤ N) (hp : there o p → N ≤ p.b ∧ s.F p.b = none ∧ p.b ∉ used) (ho : ObjAt (s.ins st.nx p) w p o) : Hold Γ (s.ins st.nx p) w0 (newX st o) w ∧ Inv (s.ins st.nx p) (newX st o) N (p.b :: used) := by
  refine ⟨hH.upd (hH.le_new p) rfl rfl (fun k x hk => newX_key hk) Sg.ins_same ?_ hH.ext (fun _ _ _ _ _ _ _ _ => rfl) hH.frz ⟨fun ht => ⟨(hp ht).2.1, .inl (Nat.le_trans hN (hp ht).1)⟩, ho⟩ ?_, ?_⟩
  · intro k hk
    have hk' : st.nx + 1 ≤ k := hk
    simp only [Sg.ins]
    rw [if_neg (by omega)]
    exact hH.dom k (by omega)
  · intro k x q _ _ hk hq ht hto e
    obtain ⟨h1, _, h3⟩ := hp hto
    rcases hI k x q hk hq ht with h | h
    · omega
    · rw [e] at h; exact h3 h
  · intro l x q hl hq ht
    rcases newX_key hl with ⟨rfl, rfl⟩ | ⟨hne, _, hx⟩
    · rw [Sg.ins_same] at hq; cases hq
      exact .inr (by simp)
    · simp only [Sg.ins, if_neg hne] at hq
      rcases hI l x q hx hq ht with h | h
      · exact .inl h
      · exact .inr (List.mem_cons_of_mem _ h)
theorem Inv.more {N : Nat} {used used' : List Nat} (h : Inv s st N used) (k : ∀ b ∈ used, b ∈ used') : Inv s st N used' := fun l o p h1 h2 h3 => (h l o p h1 h2 h3).imp id (k _)
mutual
theorem mkRes_ok {G' : Fz} {N : Nat} (hN : w0.heap.size ≤ N) : ∀ (k : RK) (d : D) (cs : List Value) (os used : List Nat) (s : Sg) (st st' : Stt) (a : AV), Hold Γ s w0 st w → s.G = G' → (∀ b ∈ os, N ≤ b ∧ s.F b = none ∧ b ∉ used) → os.Nodup → Inv s st N used → RkRd G' w k d cs os → mkRes st k d = (a, st') →
    ∃ s', s.le s' ∧ s'.F = s.F ∧ s'.G = s.G ∧ Hold Γ s' w0 st' w ∧ RelL s' (cellsA a) cs ∧ (k.isAgg = true → ∃ l, a = .agg l) ∧ (k.isAgg = false → cellsA a = [a]) ∧ Inv s' st' N (os ++ used)
  | .d t, d, cs, os, used, s, st, st', a, hH, hG, hos, hnd, hI, hr, h => by
    simp only [mkRes, Prod.mk.injEq] at h
    obtain ⟨rfl, rfl⟩ := h
    simp only [RkRd] at hr
    obtain ⟨rfl, hr⟩ := hr
    exact ⟨s, Sg.le.refl s, rfl, rfl, hH, by rw [oneD_cells]; exact cellsD_ok (by simp [Sg.H, hG]) t d cs hr, (oneD_agg true t d).1, (oneD_agg true t d).2, hI⟩
  | .own et t, d, cs, os, used, s, st, st', a, hH, hG, hos, hnd, hI, hr, h => by
    simp only [mkRes, Prod.mk.injEq] at h
    obtain ⟨rfl, rfl⟩ := h
    simp only [RkRd] at hr
    obtain ⟨v, rfl, hr⟩ := hr
    rcases hr with ⟨hv, hx, rfl⟩ | ⟨p, rfl, hc0, rfl, hob⟩
    · have hab := add_own hH (o := .q et t d.list) (p := ⟨0, 0, 0⟩) hI hN (fun h => absurd rfl h) ⟨by rw [hx]; rfl, Nat.le_refl _, by simp [maxLen], fun h => absurd rfl h⟩
      refine ⟨_, hH.le_new _, rfl, rfl, hab.1, ?_, (fun h => by cases h), fun _ => rfl, ?_⟩
      · refine RelL.cons ?_ RelL.nil
        simp only [Rel]
        exact ⟨_, Sg.ins_same, by rw [hx]; exact Nat.le_refl _, Nat.le_refl _, .inr ⟨rfl, hv⟩⟩
      · intro l x q hl hq ht
        rcases newX_key hl with ⟨rfl, rfl⟩ | ⟨hne, _, hx'⟩
        · rw [Sg.ins_same] at hq; cases hq
          exact absurd rfl ht
        · simp only [Sg.ins, if_neg hne] at hq
          exact hI l x q hx' hq ht
    · obtain ⟨g1, g2, g3, g4⟩ := hob
      have hp := hos p.b (by simp)
      have hob' : ObjAt (s.ins st.nx p) w p (.q et t d.list) := ⟨g1, g2, g3, fun hc => by
        obtain ⟨cur, h1, h2, h3, h4⟩ := g4 hc
        exact ⟨cur, h1, h2, h3, fun i x hi => by show Rd s.G t x _; rw [hG]; exact h4 i x hi⟩⟩
      have hab := add_own hH (o := .q et t d.list) (p := p) hI hN (fun _ => hp) hob'
      refine ⟨_, hH.le_new _, rfl, rfl, hab.1, ?_, (fun h => by cases h), fun _ => rfl, hab.2⟩
      refine RelL.cons ?_ RelL.nil
      simp only [Rel]
      exact ⟨_, Sg.ins_same, by rw [g1]; exact Nat.le_refl _, g2, .inl (by rw [g1])⟩
  | .agg ks, d, cs, os, used, s, st, st', a, hH, hG, hos, hnd, hI, hr, h => by
    simp only [mkRes] at h
    generalize hm : mkRess st ks d.tup = qq at h
    obtain ⟨cs', st1⟩ := qq
    cases h
    simp only [RkRd] at hr
    obtain ⟨s', h1, h2, h3, h4, h5, h6⟩ := mkRess_ok hN ks d.tup cs os used s st _ cs' hH hG hos hnd hI hr hm
    exact ⟨s', h1, h2, h3, h4, h5, fun _ => ⟨_, rfl⟩, (fun h => by cases h), h6⟩
  | .any, d, cs, os, used, s, st, st', a, hH, hG, hos, hnd, hI, hr, h => by
    simp only [mkRes, Prod.mk.injEq] at h
    obtain ⟨rfl, rfl⟩ := h
    simp only [RkRd] at hr
    obtain ⟨rfl, v, rfl, hv⟩ := hr
    exact ⟨s, Sg.le.refl s, rfl, rfl, hH, RelL.cons (by simpa only [Rel] using hv) RelL.nil, (fun h => by cases h), fun _ => rfl, hI⟩
  | .er, d, cs, os, used, s, st, st', a, hH, hG, hos, hnd, hI, hr, h => by
    simp only [mkRes, Prod.mk.injEq] at h
    obtain ⟨rfl, rfl⟩ := h
    simp only [RkRd] at hr
    obtain ⟨rfl, v, rfl, hv⟩ := hr
    exact ⟨s, Sg.le.refl s, rfl, rfl, hH, RelL.cons (by simpa only [Rel] using hv) RelL.nil, (fun h => by cases h), fun _ => rfl, hI⟩
theorem mkRess_ok {G' : Fz} {N : Nat} (hN : w0.heap.size ≤ N) : ∀ (ks : List RK) (ds : List D) (cs : List Value) (os used : List Nat) (s : Sg) (st st' : Stt) (as' : List AV), Hold Γ s w0 st w → s.G = G' → (∀ b ∈ os, N ≤ b ∧ s.F b = none ∧ b ∉ used) → os.Nodup → Inv s st N used → RkRds G' w ks ds cs os → mkRess st ks ds = (as', st') →
    ∃ s', s.le s' ∧ s'.F = s.F ∧ s'.G = s.G ∧ Hold Γ s' w0 st' w ∧ RelL s' as' cs ∧ Inv s' st' N (os ++ used)
  | [], ds, cs, os, used, s, st, st', as', hH, hG, hos, hnd, hI, hr, h => by
    simp only [mkRess, Prod.mk.injEq] at h
    obtain ⟨rfl, rfl⟩ := h
    simp only [RkRds] at hr
    obtain ⟨rfl, rfl⟩ := hr
    exact ⟨s, Sg.le.refl s, rfl, rfl, hH, RelL.nil, hI⟩
  | k :: ks, ds, cs, os, used, s, st, st', as', hH, hG, hos, hnd, hI, hr, h => by
    simp only [mkRess] at h
    generalize h1 : mkRes st k (nthD ds 0) = qq at h
    obtain ⟨a, st1⟩ := qq
    generalize h2 : mkRess st1 ks (tailD ds) = qq at h
    obtain ⟨r, st2⟩ := qq
    cases h
    simp only [RkRds] at hr
    obtain ⟨c1, c2, o1, o2, rfl, rfl, hr1, hr2⟩ := hr
    obtain ⟨n1, n2, n3⟩ := List.nodup_append.1 hnd
    obtain ⟨s1, k1, k2, k3, k4, k5, _, _, k6⟩ := mkRes_ok hN k _ c1 o1 used s st st1 a hH hG (fun b hb => hos b (List.mem_append_left _ hb)) n1 hI hr1 h1
    obtain ⟨s2, m1, m2, m3, m4, m5, m6⟩ := mkRess_ok hN ks _ c2 o2 (o1 ++ used) s1 st1 _ r k4 (k3.trans hG) (fun b hb => by
      obtain ⟨g1, g2, g3⟩ := hos b (List.mem_append_right _ hb)
      refine ⟨g1, by rw [k2]; exact g2, fun hm => ?_⟩
      rcases List.mem_append.1 hm with hm | hm
      · exact n3 b hm b hb rfl
      · exact g3 hm) n2 k6 hr2 h2
    exact ⟨s2, k1.trans m1, m2.trans k2, m3.trans k3, m4, (RelL.mono m1 _ _ k5).append m5, m6.more (fun b hb => by simp only [List.mem_append] at hb ⊢; rcases hb with h | h | h <;> simp [h])⟩
end
theorem mkOuts_ok {G' : Fz} {N : Nat} (hN : w0.heap.size ≤ N) : ∀ (ks : List RK) (ds : List D) (vs : List Value) (os used : List Nat) (s : Sg) (st st' : Stt) (as' : List AV), Hold Γ s w0 st w → s.G = G' → (∀ b ∈ os, N ≤ b ∧ s.F b = none ∧ b ∉ used) → os.Nodup → Inv s st N used → OutsRd G' w ks ds vs os → mkOuts st ks ds = (as', st') →
    ∃ s', s.le s' ∧ Hold Γ s' w0 st' w ∧ RelL s' as' vs
  | [], ds, vs, os, used, s, st, st', as', hH, hG, hos, hnd, hI, hr, h => by
    simp only [mkOuts, Prod.mk.injEq] at h
    obtain ⟨rfl, rfl⟩ := h
    simp only [OutsRd] at hr
    obtain ⟨rfl, rfl⟩ := hr
    exact ⟨s, Sg.le.refl s, hH, RelL.nil⟩
  | k :: ks, ds, vs, os, used, s, st, st', as', hH, hG, hos, hnd, hI, hr, h => by
    simp only [mkOuts] at h
    generalize h1 : mkRes st k (nthD ds 0) = qq at h
    obtain ⟨a, st1⟩ := qq
    generalize h2 : mkOuts st1 ks (tailD ds) = qq at h
    obtain ⟨r, st2⟩ := qq
    cases h
    simp only [OutsRd] at hr
    obtain ⟨v, vs', cs, o1, o2, rfl, rfl, hv, hr1, hr2⟩ := hr
    obtain ⟨n1, n2, n3⟩ := List.nodup_append.1 hnd
    obtain ⟨s1, k1, k2, k3, k4, k5, k7, k8, k6⟩ := mkRes_ok hN k _ cs o1 used s st st1 a hH hG (fun b hb => hos b (List.mem_append_left _ hb)) n1 hI hr1 h1
    obtain ⟨s2, m1, m2, m3⟩ := mkOuts_ok hN ks _ vs' o2 (o1 ++ used) s1 st1 _ r k4 (k3.trans hG) (fun b hb => by
      obtain ⟨g1, g2, g3⟩ := hos b (List.mem_append_right _ hb)
      refine ⟨g1, by rw [k2]; exact g2, fun hm => ?_⟩
      rcases List.mem_append.1 hm with hm | hm
      · exact n3 b hm b hb rfl
      · exact g3 hm) n2 k6 hr2 h2
    exact ⟨s2, k1.trans m1, m2, RelL.cons (Rel.mono m1 _ _ (val_rel k7 k8 k5 hv)) m3⟩
theorem tup1_rel {as' : List AV} {vs : List Value} (h : RelL s as' vs) : Rel s (tup1 as') (tupV vs) := by
  cases as' with
  | nil => rw [h.unnil]; simp only [tup1, tupV, Rel]; exact ⟨[], RelL.nil, rfl⟩
  | cons a r =>
    obtain ⟨v, vs', h1, h2, rfl⟩ := h.uncons
    cases r with
    | nil => rw [h2.unnil]; exact h1
    | cons b r =>
      obtain ⟨u, us, h3, h4, rfl⟩ := h2.uncons
      simp only [tup1, tupV, Rel]
      exact ⟨_, RelL.cons h1 (RelL.cons h3 h4), rfl⟩
theorem isFns_ok {fs : List FuncId} {as' : List AV} {vs : List Value} (h : isFns fs as' = true) (hr : RelL s as' vs) : vs = fs.map fnV := by
  induction fs generalizing as' vs with
  | nil =>
    cases as' with
    | nil => exact hr.unnil
    | cons a r => cases h
  | cons f fs ih =>
    cases as' with
    | nil => cases h
    | cons a r =>
      simp only [isFns, Bool.and_eq_true] at h
      obtain ⟨v, vs', h1, h2, rfl⟩ := hr.uncons
      rw [ih h.2 h2, List.map_cons]
      congr 1
      obtain ⟨h, _⟩ := h
      unfold isFn at h
      split at h
      · rename_i g fs' cs
        simp only [Bool.and_eq_true] at h
        have e1 := beq_t h.1.1
        have e2 : fs' = #[] := Array.eq_empty_of_size_eq_zero (beq_t h.1.2)
        have e3 : cs = #[] := Array.eq_empty_of_size_eq_zero (beq_t h.2)
        simp only [Rel] at h1
        rw [h1, e2, e3, ← e1]; rfl
      · rename_i g
        have e1 := beq_t h
        simp only [Rel] at h1
        obtain ⟨us, h3, rfl⟩ := h1
        rw [h3.unnil, ← e1]; rfl
      · cases h
theorem row_ok {f : FuncId} {c : Con} {et : TypeId} {t : DT} {fs : List FuncId} (hc : RowOK P Γ f c et t fs) (hH : Hold Γ s w0 st w) {as' : List AV} {vs : List Value} {ps : Ps} {a : AV} {q : Bool} (h : rowStep c et t fs as' st = some (ps, a, st', q)) (hp : ∀ p ∈ ps, p) (hr : RelL s as' vs) :
    Fnc P f vs.toArray w fun v w' => ∃ s', s.le s' ∧ Hold Γ s' w0 st' w' ∧ Rel s' a v := by
  unfold rowStep at h
  split at h
  case h_2 => cases h
  rename_i l n r
  split at h
  case h_2 => cases h
  rename_i et' t' xs hl
  cases hg : (isFns fs r && Nat.beq et et' && t.beq t') with
  | false => rw [hg] at h; cases h
  | true =>
  rw [hg] at h
  simp only [cond_true, Option.some.injEq, Prod.mk.injEq] at h
  obtain ⟨rfl, rfl, rfl, rfl⟩ := h
  simp only [Bool.and_eq_true] at hg
  obtain ⟨⟨g1, g2⟩, g3⟩ := hg
  have := beq_t g2
  subst this
  have := DT.beq_ok g3
  subst this
  obtain ⟨v, vs', h1, h2, rfl⟩ := hr.uncons
  rw [isFns_ok g1 h2]
  have hn : n = xs.length := hp _ (by simp)
  have hpre : ∀ q ∈ c.pre [.l xs], q := fun q hq => hp q (by simp [hq])
  obtain ⟨p, hp1, hob⟩ := hH.obj l _ hl
  simp only [Rel] at h1
  obtain ⟨p', hp', h3, h4, h5⟩ := h1
  rw [hp1] at hp'; cases hp'
  have hcur := hob.cur
  obtain ⟨c1, c2, c3, c4⟩ := hcur
  by_cases h0 : p.c = 0
  · have hx0 : xs = [] := List.eq_nil_of_length_eq_zero (by omega)
    subst hx0
    have hz : ZV v := by
      rcases h5 with h5 | ⟨_, h5⟩
      · rw [h5, hn, h0]; exact .inr ⟨_, rfl⟩
      · exact h5
    obtain ⟨e1, e2⟩ := hc.2 w v hH.gl hz hpre
    refine Fnc.mono e2 ?_
    rintro u w' ⟨hu, hx⟩
    refine ⟨s, Sg.le.refl s, ?_, ?_⟩
    · rw [e1]
      exact (hH.grow hx).same (by simpa using hl)
    · generalize c.res = res at hu
      cases res with
      | nil => have hu : u = .tuple #[] := hu; subst hu; show Rel s (.v (.tuple #[])) _; simp only [Rel]
      | cons k ks => show Rel s (.oc l n) u; simp only [Rel]; exact ⟨p, hp1, h3, h4, .inr ⟨h0, hu⟩⟩
  · have hv : v = .slice (some ⟨p.b, 0, none⟩) xs.length p.c := by
      rcases h5 with h5 | ⟨h5, _⟩
      · rw [h5, hn]
      · exact absurd h5 h0
    subst hv
    have hfr := hob.free h0
    have hb0 : w0.heap.size ≤ p.b := by
      rcases hfr.2 with h | ⟨_, h⟩
      · exact h
      · cases h
    have hgn : s.G p.b = none := by
      cases hg2 : s.G p.b with
      | none => rfl
      | some o => have := hH.gf _ _ hg2; rw [hfr.1] at this; cases this
    refine Fnc.mono (hc.1 s.G w p xs hH.gl (Nat.le_trans (Γ.low _ hH.glob.1) hb0) (fun b o hb => hH.frz b o (hH.gf b o hb)) hgn h0 hob.cur hpre) ?_
    rintro u w' ⟨rfl, hx, hnew⟩
    have hlt : p.b < w.heap.size := hob.cur.lt h0
    refine ⟨s, Sg.le.refl s, ?_, by
      generalize c.res = res
      cases res with
      | nil => show Rel s (.v (.tuple #[])) (.tuple #[]); simp only [Rel]
      | cons k ks => show Rel s (.oc l n) (.slice (some ⟨p.b, 0, none⟩) xs.length xs.length); simp only [Rel]; exact ⟨p, hp1, h3, h4, .inl (by rw [hn])⟩⟩
    refine hH.upd (dead := fun _ => False) (p := p) (Sg.le.refl s) rfl rfl (fun k x hk => by
      rcases setX_key hk with ⟨rfl, rfl⟩ | ⟨hne, hd, hx⟩
      · exact .inl ⟨rfl, rfl⟩
      · exact .inr ⟨hne, hd, hx⟩) hp1 (fun k hk => hH.dom k hk) ?_ (fun k x q hne _ hk hq ht => ?_) (fun b o hb => ?_) ⟨fun _ => ⟨hfr.1, .inl hb0⟩, by
      obtain ⟨n1, n2, n3, n4⟩ := hnew
      exact ⟨n1, n2, n3, n4⟩⟩ (fun k x q hne _ hk hq ht _ e => ?_)
    · refine ⟨hx.os.trans hH.ext.os, hx.tape.trans hH.ext.tape, hx.output.trans hH.ext.output, Nat.le_trans hH.ext.size hx.size, fun k hk hX => (hx.block k (Nat.lt_of_lt_of_le hk hH.ext.size) fun hm => ?_).trans (hH.ext.block k hk hX)⟩
      rw [List.mem_singleton] at hm
      omega
    · obtain ⟨q', e1, e2⟩ := hH.obj k x hk
      rw [hq] at e1; cases e1
      refine hx.block _ (e2.cur.lt ht) fun hm => ?_
      rw [List.mem_singleton] at hm
      exact hne (hH.inj k l x _ q p hk hl hq hp1 ht h0 hm)
    · refine Ext.keepB hx (hH.frz b o hb) fun hm => ?_
      rw [List.mem_singleton] at hm
      rw [hm, hfr.1] at hb; cases hb
    · exact hne (hH.inj k l x _ q p hk hl hq hp1 ht h0 e)
theorem con_ok {f : FuncId} {c : Con} (hc : ConAny P Γ f c) (hH : Hold Γ s w0 st w) {as' : List AV} {vs : List Value} {ps : Ps} {a : AV} {q : Bool} (h : conStep c as' st = some (ps, a, st', q)) (hp : ∀ p ∈ ps, p) (hr : RelL s as' vs) :
    Fnc P f vs.toArray w fun v w' => ∃ s', s.le s' ∧ Hold Γ s' w0 st' w' ∧ Rel s' a v := by
  unfold conStep at h
  unfold ConAny at hc
  split at h
  · rename_i et t fs he
    rw [he] at hc
    exact row_ok hc hH h hp hr
  rename_i he
  rw [he] at hc
  have hc : ConOK P Γ f c := hc
  split at h
  case h_2 => cases h
  rename_i ds ls hm
  cases hnd0 : (noDup ls && (noP c.args || ls.isEmpty)) with
  | false => rw [hnd0] at h; cases h
  | true =>
  rw [hnd0] at h
  simp only [cond_true] at h
  generalize hmk : mkOuts (setBoxes st c.args ls (c.boxes ds)) c.res (c.out ds) = qq at h
  obtain ⟨r, st1⟩ := qq
  cases h
  simp only [Bool.and_eq_true, Bool.or_eq_true] at hnd0
  obtain ⟨hnd, hPl⟩ := hnd0
  have hpre : ∀ p ∈ c.pre ds, p := hp
  obtain ⟨hln, hids⟩ := matchArgs_ids _ _ _ _ hm
  have hls := noDup_ok hnd
  -- the memory that the callee may read
  let B : List Nat := ls.filterMap fun l => (s.f l).map Loc.b
  let F : Fz := fun b => if b ∈ B then none else w.heap[b]?
  have hBm : ∀ b, b ∈ B → ∃ l p et cs, l ∈ ls ∧ s.f l = some p ∧ p.b = b ∧ st.h.get l = some (.c et cs) := by
    intro b hb
    obtain ⟨l, hl, hlb⟩ := List.mem_filterMap.1 hb
    obtain ⟨et, cs, hg⟩ := hids l hl
    obtain ⟨p, hp1, _⟩ := hH.obj l _ hg
    rw [hp1] at hlb
    simp only [Option.map_some, Option.some.injEq] at hlb
    exact ⟨l, p, et, cs, hl, hp1, hlb, hg⟩
  have hBF : ∀ b, b ∈ B → s.F b = none ∧ b < w.heap.size := by
    intro b hb
    obtain ⟨l, p, et, cs, _, h2, h3, h4⟩ := hBm b hb
    obtain ⟨p', h5, h6⟩ := hH.obj l _ h4
    rw [h2] at h5; cases h5
    rw [← h3]
    exact ⟨(h6.free trivial).1, h6.cur.lt trivial⟩
  have hFsub : Sub s.F F := by
    intro b o hb
    have hnb : b ∉ B := fun hm => by rw [(hBF b hm).1] at hb; cases hb
    show (if b ∈ B then none else w.heap[b]?) = some o
    rw [if_neg hnb]; exact hH.frz b o hb
  have hS : Sees s st w false F := ⟨hH.gf.trans hFsub, fun _ => hFsub, fun _ l et t xs p hl hp1 hc0 => by
    show (if p.b ∈ B then none else w.heap[p.b]?) = _
    rw [if_neg]
    intro hm
    obtain ⟨l', p', et', cs', k1, k2, k3, k4⟩ := hBm p.b hm
    have := hH.inj l' l _ _ p' p k4 hl k2 hp1 trivial hc0 k3
    subst this
    rw [hl] at k4; cases k4⟩
  obtain ⟨hdl, bs, hargs, hL⟩ := matchArgs_ok hH hS _ _ _ _ _ (hPl.imp id fun he => fun b => by
    have hle : ls = [] := by simpa using he
    have hBe : B = [] := by show ls.filterMap _ = []; rw [hle]; rfl
    show (if b ∈ B then none else w.heap[b]?) = _
    rw [if_neg (by rw [hBe]; simp)]) hm hr
  have hbs : bs = B := hL.blocks
  refine Fnc.mono (hc F s.G w vs ds bs hH.gl (fun b hb => ?_) (fun b o hb => ?_) (hH.gf.trans hFsub) (hL.nodup hH hls) (fun b hb => ?_) hargs hdl hpre) ?_
  · obtain ⟨l, p, et, cs, _, h2, h3, h4⟩ := hBm b (hbs ▸ hb)
    obtain ⟨p', h5, h6⟩ := hH.obj l _ h4
    rw [h2] at h5; cases h5
    rw [← h3]
    exact hH.glb ((h6.free trivial).2.imp id fun h => h.1)
  · have hb' : (if b ∈ B then none else w.heap[b]?) = some o := hb
    split at hb'
    · cases hb'
    · exact hb'
  · show (if b ∈ B then none else w.heap[b]?) = none
    rw [if_pos (hbs ▸ hb)]
  rintro v w' ⟨G', os, rs, hx, hGG, hGw, hnew, hosn, hos, hout, rfl, hbox⟩
  have hG0 : ∀ b, b < w.heap.size → s.F b = none → G' b = none := by
    intro b hb hF
    cases hg : G' b with
    | none => rfl
    | some o =>
      have hgn : s.G b = none := by
        cases hg2 : s.G b with
        | none => rfl
        | some o' => rw [hH.gf _ _ hg2] at hF; cases hF
      have := hnew b hgn (by rw [hg]; simp)
      omega
  have hBsz : ∀ b, b ∈ bs → b < w.heap.size := fun b hb => (hBF b (hbs ▸ hb)).2
  let s1 : Sg := { s with F := fun b => match G' b with | some o => some o | none => s.F b, G := G' }
  have hF1 : ∀ b o, s.F b = some o → w'.heap[b]? = some o := fun b o hb => by
    refine Ext.keepB hx (hH.frz b o hb) fun hm => ?_
    rw [(hBF b (hbs ▸ hm)).1] at hb; cases hb
  have hle1 : s.le s1 := by
    refine ⟨fun _ _ h => h, fun b o hb => ?_, hGG, rfl, rfl⟩
    show (match G' b with | some o => some o | none => s.F b) = some o
    cases hg : G' b with
    | none => exact hb
    | some o' =>
      have h1 := hGw b o' hg
      rw [hF1 b o hb] at h1
      cases h1
      rfl
  have hF0 : ∀ b, b < w.heap.size → s.F b = none → s1.F b = none := by
    intro b hb hF
    show (match G' b with | some o => some o | none => s.F b) = none
    rw [hG0 b hb hF]; exact hF
  have hext : Ext s.X w0 w' := by
    refine ⟨hx.os.trans hH.ext.os, hx.tape.trans hH.ext.tape, hx.output.trans hH.ext.output, Nat.le_trans hH.ext.size hx.size, fun k hk hX => (hx.block k (Nat.lt_of_lt_of_le hk hH.ext.size) fun hm => ?_).trans (hH.ext.block k hk hX)⟩
    obtain ⟨l, p, et, cs, _, k2, k3, k4⟩ := LocsOf.mem hL hm
    obtain ⟨p', h5, h6⟩ := hH.obj l _ k4
    rw [k2] at h5; cases h5
    subst k3
    rcases (h6.free trivial).2 with h | h
    · omega
    · exact hX h.1
  have hget : ∀ k x, (setBoxes st c.args ls (c.boxes ds)).h.get k = some x → (k ∈ ls ∧ ∃ p et cs, s.f k = some p ∧ ObjAt s1 w' p x ∧ x = .c et cs) ∨ (k ∉ ls ∧ st.h.get k = some x) :=
    fun k x hk => boxes_get (s := s) (G' := G') (s1 := s1) rfl rfl _ ls bs _ st k x hL hln hbox hk
  have hold : ∀ k x, (setBoxes st c.args ls (c.boxes ds)).h.get k = some x → ∃ x0 p, st.h.get k = some x0 ∧ s.f k = some p ∧ (there x p → there x0 p) := by
    intro k x hk
    rcases hget k x hk with ⟨k1, p, et, cs, k2, _, _⟩ | ⟨_, k2⟩
    · obtain ⟨p', et', cs', m1, _, m3⟩ := LocsOf.mem' hL k1
      exact ⟨_, p', m3, m1, fun _ => trivial⟩
    · obtain ⟨p, m1, _⟩ := hH.obj k x k2
      exact ⟨x, p, k2, m1, id⟩
  have hfar : ∀ k x p, k ∉ ls → st.h.get k = some x → s.f k = some p → there x p → p.b ∉ bs := by
    intro k x p hk hx hp1 ht hm
    obtain ⟨l, q, et, cs, k1, k2, k3, k4⟩ := LocsOf.mem hL hm
    have := hH.inj k l _ _ p q hx k4 hp1 k2 ht trivial k3.symm
    subst this
    exact hk k1
  have hH1 : Hold Γ s1 w0 (setBoxes st c.args ls (c.boxes ds)) w' := by
    refine ⟨hext, fun b o hb => ?_, fun b o hb => ?_, fun l hl => hH.dom l (by rw [setBoxes_nx] at hl; exact hl), fun k x hk => ?_, fun k k' x x' p p' hk hk' hp1 hp2 ht ht' e => ?_, fun b hb => ?_, hH.glob⟩
    · have hb' : (match G' b with | some o => some o | none => s.F b) = some o := hb
      cases hg : G' b with
      | none => rw [hg] at hb'; exact hF1 b o hb'
      | some o' => rw [hg] at hb'; cases hb'; exact hGw b o hg
    · show (match G' b with | some o => some o | none => s.F b) = some o
      rw [show G' b = some o from hb]
    · rcases hget k x hk with ⟨k1, p, et, cs, k2, k3, rfl⟩ | ⟨k1, k2⟩
      · obtain ⟨p', et', cs', m1, m2, m3⟩ := LocsOf.mem' hL k1
        rw [k2] at m1; cases m1
        obtain ⟨p', h5, h6⟩ := hH.obj k _ m3
        rw [k2] at h5; cases h5
        exact ⟨p, k2, fun _ => ⟨hF0 _ (h6.cur.lt trivial) (h6.free trivial).1, (h6.free trivial).2⟩, k3⟩
      · obtain ⟨p, m1, m2⟩ := hH.obj k x k2
        refine ⟨p, m1, fun ht => ⟨hF0 _ (m2.cur.lt ht) (m2.free ht).1, (m2.free ht).2⟩, m2.cur.step hle1 fun ht => hx.block p.b (m2.cur.lt ht) (hfar k x p k1 k2 m1 ht)⟩
    · obtain ⟨x0, q, m1, m2, m3⟩ := hold k x hk
      obtain ⟨x0', q', m1', m2', m3'⟩ := hold k' x' hk'
      have e1 : q = p := by have : s.f k = some p := hp1; rw [this] at m2; cases m2; rfl
      have e2 : q' = p' := by have : s.f k' = some p' := hp2; rw [this] at m2'; cases m2'; rfl
      subst e1; subst e2
      exact hH.inj k k' x0 x0' q q' m1 m1' m2 m2' (m3 ht) (m3' ht') e
    · cases hg : s.G b with
      | none => exact .inr (Nat.le_trans hH.ext.size (hnew b hg hb))
      | some o => exact hH.gnew b (by rw [hg]; simp)
  have hI : Inv s1 (setBoxes st c.args ls (c.boxes ds)) w.heap.size [] := by
    intro l x p hl hp1 ht
    obtain ⟨x0, q, m1, m2, m3⟩ := hold l x hl
    have e1 : q = p := by have : s.f l = some p := hp1; rw [this] at m2; cases m2; rfl
    subst e1
    obtain ⟨q', h5, h6⟩ := hH.obj l x0 m1
    rw [m2] at h5; cases h5
    exact .inl (h6.cur.lt (m3 ht))
  obtain ⟨s2, k1, k2, k3⟩ := mkOuts_ok (G' := G') (N := w.heap.size) hH.ext.size _ _ rs os [] s1 _ _ r hH1 rfl (fun b hb => by
    obtain ⟨h1, h2⟩ := hos b hb
    refine ⟨h1, ?_, by simp⟩
    show (match G' b with | some o => some o | none => s.F b) = none
    rw [h2]; exact hH.none_at h1) hosn hI hout hmk
  exact ⟨s2, hle1.trans k1, k2, tup1_rel k3⟩
end
end Go.Proofs.YtnhfkdgambncfaaGreatDoor.Sv
namespace Go.Proofs.YtnhfkdgambncfaaGreatDoor.Sv
open Go.RowKit Go.Proofs.YtnhfkdgambncfaaGreatDoor.W
variable {Γ : Gl}

section
variable {s : Sg} {w0 w w' : World} {st st' : Stt} {A : AE} {E : Env} {P : Program} {o : Oper}
/-! ### Operations -/
/-- the operation, or the function that it calls, yields v and leaves all as it was -/
def Quiet1 (P : Program) (o : Oper) (E : Env) (w : World) (v : Value) : Prop :=
  (∀ w', Ext [] w w' → OpV P o E w' v) ∨ ∃ f args, (∀ w', Ext [] w w' → OpC P o E w' f args) ∧ ∀ w', Ext [] w w' → Fnc P f args w' fun u w'' => u = v ∧ Ext [] w' w''
/-- the operation, or the function that it calls, leaves this -/
def Made (P : Program) (o : Oper) (E : Env) (w : World) (R : Value → World → Prop) : Prop :=
  (∃ v w', OpX P o E w v w' ∧ R v w') ∨ ∃ f args, OpC P o E w f args ∧ Fnc P f args w R
def scalV : RK → D → Value
  | .d (.i k), d => .int k d.int
  | .d .b, d => .bool d.bool
  | .d .s, d => .string d.str
  | _, _ => undef
def scalVs : List RK → List D → List Value
  | [], _ => []
  | k :: ks, ds => scalV k (nthD ds 0) :: scalVs ks (tailD ds)
theorem outs_scalar {G : Fz} : ∀ (ks : List RK) (ds : List D) (vs : List Value) (os : List Nat), ks.all scalar = true → OutsRd G w ks ds vs os → vs = scalVs ks ds
  | [], ds, vs, os, _, h => h.1
  | k :: ks, ds, vs, os, hs, h => by
    simp only [List.all_cons, Bool.and_eq_true] at hs
    obtain ⟨v, vs', cs, o1, o2, rfl, rfl, hv, h1, h2⟩ := h
    rw [outs_scalar ks _ _ _ hs.2 h2]
    have h3 := hs.1
    congr 1
    cases k with
    | d t =>
      simp only [RkRd] at h1
      obtain ⟨_, h1⟩ := h1
      cases t <;> simp only [scalar] at h3 <;> try (cases h3; done)
      all_goals
        simp only [Rd] at h1
        subst h1
        simpa [Val, RK.isAgg, DT.isT, scalV] using hv.symm
    | own => simp [scalar] at h3
    | agg => simp [scalar] at h3
    | any => simp [scalar] at h3
    | er => simp [scalar] at h3
theorem mkOuts_scalar : ∀ (ks : List RK) (ds : List D) (st : Stt), ks.all scalar = true → (mkOuts st ks ds).1 = (scalVs ks ds).map .v
  | [], ds, st, _ => rfl
  | k :: ks, ds, st, hs => by
    simp only [List.all_cons, Bool.and_eq_true] at hs
    have h3 := hs.1
    simp only [mkOuts, scalVs, List.map_cons]
    rw [mkOuts_scalar ks _ _ hs.2]
    congr 1
    cases k with
    | d t => cases t <;> simp only [scalar] at h3 <;> first | rfl | (cases h3; done)
    | own => simp [scalar] at h3
    | agg => simp [scalar] at h3
    | any => simp [scalar] at h3
    | er => simp [scalar] at h3
theorem callable_of {f : FuncId} (h : callableB P f = true) : Callable P f := by
  unfold callableB at h
  split at h
  · rename_i fn hf
    simp only [Bool.and_eq_true, Bool.not_eq_true'] at h
    refine ⟨fn, hf, h.1, ?_⟩
    cases hb : fn.body with
    | none => rw [hb] at h; simp at h
    | some c => rfl
  · cases h
theorem ne_not {a b : Bool} (h : a ≠ b) : a = !b := by cases a <;> cases b <;> simp_all
theorem run_callable {f : FuncId} (h : callableB P f = true) (args : Array Value) (w : World) : (callFunc f args).run P w = .ok (.enter f args) w := by
  obtain ⟨fn, hfn, hname, hb⟩ := callable_of h
  have hn' : ¬ fn.name = "runtime.NumGoroutine" := by simpa using hname
  have hb' : ¬ fn.body = none := by intro e; rw [e] at hb; cases hb
  simp [go_sem, callFunc, hfn, hn', hb']
theorem call_op {f : FuncId} {l : List AV} (hE : EnvOK s A E) (h : evCallS P A o.op = some (f, l)) : ∃ vs, RelL s l vs ∧ ∀ w, OpC P o E w f vs.toArray := by
  have key : ∀ {g : Operand} {xs : Array Operand} {ts : Array TypeId} {cs : Array Value}, o.op = .call ⟨.value g, xs, ts⟩ → ev E g = .func (.func f) #[] cs → callableB P f = true → ∀ w, OpC P o E w f (xs.map (ev E) ++ cs) := by
    intro g xs ts cs ho hg hcb w
    have hrun := fun args => run_callable hcb args w
    unfold OpC
    cases g with
    | func f' =>
      simp only [ev] at hg
      cases hg
      simp [execOp, ho, go_sem, ev, hrun]
    | tmp t => simp [execOp, ho, go_sem, hg, hrun]
    | const v => simp [execOp, ho, go_sem, hg, hrun]
    | global gg => simp [ev] at hg
  unfold evCallS at h
  split at h
  case h_2 => cases h
  rename_i g xs ts ho
  split at h
  · rename_i f' fs cs l' hg hl
    cases hc : (Nat.beq fs.size 0 && callableB P f') with
    | false => rw [hc] at h; cases h
    | true =>
    rw [hc] at h
    cases h
    simp only [Bool.and_eq_true] at hc
    have hfs : fs = #[] := Array.eq_empty_of_size_eq_zero (beq_t hc.1)
    subst hfs
    refine ⟨(xs.toList.map (ev E)) ++ cs.toList, (opds_ok hl hE).append (RelL.vs _), fun w => ?_⟩
    have := key ho (opd_v hg hE) hc.2 w
    rw [show ((xs.toList.map (ev E)) ++ cs.toList).toArray = xs.map (ev E) ++ cs from Array.ext' (by simp)]
    exact this
  · rename_i f' cs l' hg hl
    cases hc : callableB P f' with
    | false => rw [hc] at h; cases h
    | true =>
    rw [hc] at h
    cases h
    have hr := opd_ok hg hE
    simp only [Rel] at hr
    obtain ⟨vs, hr, he⟩ := hr
    refine ⟨(xs.toList.map (ev E)) ++ vs, (opds_ok hl hE).append hr, fun w => ?_⟩
    have := key ho he hc w
    rw [show ((xs.toList.map (ev E)) ++ vs).toArray = xs.map (ev E) ++ vs.toArray from Array.ext' (by simp)]
    exact this
  · cases h
theorem con_quiet {f : FuncId} {c : Con} (hc : ConAny P Γ f c) (hH : Hold Γ s w0 st w) {as' : List AV} {vs : List Value} {ps : Ps} {a : AV} (h : conStep c as' st = some (ps, a, st', true)) (hp : ∀ p ∈ ps, p) (hr : RelL s as' vs) :
    ∃ v, Rel s a v ∧ ∀ w', Ext [] w w' → Fnc P f vs.toArray w' fun u w'' => u = v ∧ Ext [] w' w'' := by
  unfold conStep at h
  unfold ConAny at hc
  split at h
  · rename_i et t fs he
    unfold rowStep at h
    split at h
    case h_2 => cases h
    split at h
    case h_2 => cases h
    revert h
    cases (isFns _ _ && Nat.beq _ _ && DT.beq _ _) with
    | false => intro h; cases h
    | true => intro h; cases h
  rename_i he
  rw [he] at hc
  have hc : ConOK P Γ f c := hc
  split at h
  case h_2 => cases h
  rename_i ds ls hm
  cases hnd : (noDup ls && (noP c.args || ls.isEmpty)) with
  | false => rw [hnd] at h; cases h
  | true =>
  rw [hnd] at h
  simp only [cond_true] at h
  generalize hmk : mkOuts (setBoxes st c.args ls (c.boxes ds)) c.res (c.out ds) = qq at h
  obtain ⟨r, st1⟩ := qq
  simp only [Option.some.injEq, Prod.mk.injEq, Bool.and_eq_true] at h
  obtain ⟨rfl, rfl, _, hemp, hsc⟩ := h
  have hls : ls = [] := by simpa using hemp
  subst hls
  have hpre : ∀ p ∈ c.pre ds, p := hp
  have hr1 : r = (scalVs c.res (c.out ds)).map .v := by
    have := mkOuts_scalar c.res (c.out ds) (setBoxes st c.args [] (c.boxes ds)) hsc
    rw [hmk] at this; exact this
  refine ⟨tupV (scalVs c.res (c.out ds)), by rw [hr1]; exact tup1_rel (RelL.vs _), fun w' hw => ?_⟩
  have hH' := hH.grow hw
  have hFsub : Sub s.F (fun b => w'.heap[b]?) := fun b o hb => hH'.frz b o hb
  obtain ⟨hdl, bs, hargs, hL⟩ := matchArgs_ok (F := fun b => w'.heap[b]?) hH' ⟨hH'.gf.trans hFsub, fun _ => hFsub, fun _ _ _ _ _ _ _ _ _ => rfl⟩ _ _ _ _ _ (.inr fun _ => rfl) hm hr
  have hbs : bs = [] := by simpa [LocsOf] using hL
  subst hbs
  refine Fnc.mono (hc _ s.G w' vs ds [] hH'.gl (by simp) (fun b o hb => hb) (hH'.gf.trans hFsub) List.nodup_nil (by simp) hargs hdl hpre) ?_
  rintro v w'' ⟨G', os, rs, hx, _, _, _, _, _, hout, rfl, _⟩
  exact ⟨by rw [outs_scalar _ _ _ _ hsc hout], hx⟩
theorem evOp_rd {S : Sums} (hS : SumsOK P Γ S) (hH : Hold Γ s w0 st w) (hE : EnvOK s A E) {ps : Ps} {a : AV} (h : evOp P S st A o = some (.rd ps a)) (hp : ∀ p ∈ ps, p) : ∃ v, Rel s a v ∧ Quiet1 P o E w v := by
  unfold evOp at h
  split at h
  · rename_i ps' a' hr
    cases h
    obtain ⟨v, h1, h2⟩ := rd_ok hH hE hr hp
    exact ⟨v, h1, .inl h2⟩
  · split at h
    · cases h
    · split at h
      · rename_i f l hc
        split at h
        case h_2 => cases h
        rename_i c hf
        split at h
        case h_2 => cases h
        rename_i ps' a' st1 q hcon
        cases q with
        | false => cases h
        | true =>
          cases h
          obtain ⟨vs, h1, h2⟩ := call_op hE hc
          obtain ⟨v, h3, h4⟩ := con_quiet (hS f c hf) hH hcon hp h1
          exact ⟨v, h3, .inr ⟨f, vs.toArray, fun w' _ => h2 w', h4⟩⟩
      · split at h
        · rename_i a' hpure
          cases h
          obtain ⟨v, h1, h2⟩ := pure_ok (w := w) hE hpure
          exact ⟨v, h1, .inl h2⟩
        · cases h
theorem evOp_wr {S : Sums} (hS : SumsOK P Γ S) (hH : Hold Γ s w0 st w) (hE : EnvOK s A E) {ps : Ps} {a : AV} (h : evOp P S st A o = some (.wr ps a st')) (hp : ∀ p ∈ ps, p) : Made P o E w fun v w' => ∃ s', s.le s' ∧ Hold Γ s' w0 st' w' ∧ Rel s' a v := by
  unfold evOp at h
  split at h
  · cases h
  · split at h
    · rename_i ps' a' st1 hw
      cases h
      obtain ⟨v, w', s', h1, h2⟩ := wr_ok hH hE hw hp
      exact .inl ⟨v, w', h1, s', h2⟩
    · split at h
      · rename_i f l hc
        split at h
        case h_2 => cases h
        rename_i c hf
        split at h
        case h_2 => cases h
        rename_i ps' a' st1 q hcon
        cases q with
        | true => cases h
        | false =>
          cases h
          obtain ⟨vs, h1, h2⟩ := call_op hE hc
          exact .inr ⟨f, vs.toArray, h2 w, con_ok (hS f c hf) hH hcon hp h1⟩
      · split at h
        · cases h
        · cases h

/-! ### Blocks -/
/-- what is needed of a logic of lists of operations, of which none makes or writes -/
structure QRules (P : Program) (n : Fsz) (ops : Array Oper) (w : World) (WX : List Oper → Env → Prop) : Prop where
  q : ∀ {o : Oper} {E : Env} {v : Value} {rest : List Oper}, Sure ops o E → dstOk n o.dst = true → Quiet1 P o E w v → WX rest (updO E o.dst v) → WX (o :: rest) E
  s : ∀ {o : Oper} {E : Env} {rest : List Oper}, Shut ops o E → dstOk n o.dst = true → WX rest (updO E o.dst undef) → WX (o :: rest) E
theorem cxIs_ok {a b : Cx} (h : cxIs a b = true) : a = b := by
  cases a <;> cases b <;> simp only [cxIs] at h <;> try (cases h; done)
  · rfl
  · rename_i x y
    obtain ⟨i, p⟩ := x; obtain ⟨j, q⟩ := y
    simp only [Bool.and_eq_true] at h
    rw [beq_t h.1, eq_of_beq h.2]
def CxH (ops : Array Oper) (E : Env) (ds : List Nat) : Cx → Prop
  | none => True
  | some (j, w) => ∃ d, (ops[j]?).bind (·.dst) = some d ∧ d ∉ ds ∧ E d = .bool w
def CxS (ops : Array Oper) (E : Env) (ds : List Nat) (j : Nat) (w : Bool) : Prop := ∃ d, (ops[j]?).bind (·.dst) = some d ∧ d ∉ ds ∧ (E d = .bool (!w) ∨ E d = undef)
theorem updO_out {E : Env} {d : Option Nat} {v : Value} {t : Nat} (h : ∀ x, d = some x → t ≠ x) : updO E d v t = E t := by
  cases d with
  | none => rfl
  | some x => exact upd_ne _ _ _ _ (h x rfl)
theorem dsts_cons (o : Oper) (r : List Oper) : dsts (o :: r) = dsts [o] ++ dsts r := by
  cases h : o.dst <;> simp [dsts, List.filterMap_cons, h]
theorem dsts_append (l r : List Oper) : dsts (l ++ r) = dsts l ++ dsts r := by simp [dsts]
theorem mem_dsts1 {o : Oper} {t : Nat} : t ∈ dsts [o] ↔ o.dst = some t := by
  cases h : o.dst <;> simp [dsts, h, eq_comm]
theorem ahead_behind (cx : Cx) : ∀ l : List Oper, l = ahead cx l ++ behind cx l
  | [] => rfl
  | o :: r => by
    simp only [ahead, behind]
    cases cxIs o.guard cx with
    | true => rfl
    | false => simp only [cond_false, List.cons_append]; rw [← ahead_behind cx r]
theorem behind_head {cx : Cx} : ∀ {l : List Oper} {p : Oper} {r : List Oper}, behind cx l = p :: r → cxIs p.guard cx = true
  | [], _, _, h => by simp [behind] at h
  | o :: l, p, r, h => by
    simp only [behind] at h
    cases hc : cxIs o.guard cx with
    | true => rw [hc] at h; cases h; exact hc
    | false => rw [hc] at h; exact behind_head h
theorem gslot_ok {ops : Array Oper} {g : Nat × Bool} {d : Nat} {b : Bool} (h : gslot ops A g = some (d, b)) : (ops[g.1]?).bind (·.dst) = some d ∧ A.get d = some (.v (.bool b)) := by
  unfold gslot at h
  split at h
  · rename_i q hq
    split at h
    · rename_i d' hd
      split at h
      · rename_i b' hb; cases h; exact ⟨by rw [hq]; exact hd, hb⟩
      · cases h
    · cases h
  · cases h
theorem guardP_ok {b w : Bool} {ps qs : Ps} (h : ∀ p ∈ guardP b w ps qs, p) : (b = w → ∀ p ∈ ps, p) ∧ ∀ q ∈ qs, q := by
  cases ps with
  | nil => exact ⟨fun _ => by simp, h⟩
  | cons p r =>
    simp only [guardP] at h
    refine ⟨fun e => conj_ok (h _ (List.mem_cons_self ..) e), fun q hq => h q (List.mem_cons_of_mem _ hq)⟩
theorem killA_env {ds : List Nat} {E' : Env} (hE : EnvOK s A E) (h : ∀ t, t ∉ ds → E' t = E t) : EnvOK s (killA A ds) E' := fun t a ht => by
  obtain ⟨h1, h2⟩ := killA_get ds A t a ht
  rw [h t h1]; exact hE t a h2
theorem pick_ok {Ak A1 : AE} {d : Nat} {b g : Bool} {a : AV} (h : evPick Ak A1 d b g o.op = some a) (hd : E d = .bool b) (hk : EnvOK s Ak E) (h1 : b = g → EnvOK s A1 E) : ∃ v, Rel s a v ∧ ∀ w, OpV P o E w v := by
  unfold evPick at h
  split at h
  case h_2 => cases h
  rename_i d' x y ho
  cases hq : Nat.beq d d' with
  | false => rw [hq] at h; cases h
  | true =>
  rw [hq] at h
  have := beq_t hq
  subst this
  simp only [cond_true] at h
  have hop : ∀ w, OpV P o E w (bif b then ev E x else ev E y) := fun w => V.pick ho hd rfl
  cases g with
  | true =>
    simp only [cond_true] at h
    split at h
    · rename_i p q hx hy
      split at h
      · rename_i hc
        cases h
        refine ⟨_, ?_, hop⟩
        cases b with
        | true => simp only [cond_true, Bool.true_and]; rw [opd_v hx (h1 rfl)]; exact Rel.mkv _
        | false => simp only [cond_false, Bool.false_and]; rw [constB_ok hc]; exact Rel.mkv _
      · exact ⟨_, pickA_ok h (fun e => opd_ok hx (h1 e)) (fun _ => opd_ok hy hk), hop⟩
    · rename_i p q _ hx hy
      exact ⟨_, pickA_ok h (fun e => opd_ok hx (h1 e)) (fun _ => opd_ok hy hk), hop⟩
    · cases h
  | false =>
    simp only [cond_false] at h
    split at h
    · rename_i p q hx hy
      split at h
      · rename_i hc
        cases h
        refine ⟨_, ?_, hop⟩
        cases b with
        | true => simp only [cond_true, Bool.true_or]; rw [constB_ok hc]; exact Rel.mkv _
        | false => simp only [cond_false, Bool.false_or]; rw [opd_v hy (h1 rfl)]; exact Rel.mkv _
      · exact ⟨_, pickA_ok h (fun _ => opd_ok hx hk) (fun e => opd_ok hy (h1 e)), hop⟩
    · rename_i p q _ hx hy
      exact ⟨_, pickA_ok h (fun _ => opd_ok hx hk) (fun e => opd_ok hy (h1 e)), hop⟩
    · cases h
theorem dst_of {N : Nat} {D : List Deferred} {d : Option Nat} (h : dstB N d = true) : dstOk ⟨N, D⟩ d = true := by
  cases d with
  | none => rfl
  | some d => exact h
/-- a block that is passed over -/
theorem blk_skip {S : Sums} {N : Nat} {DD : List Deferred} {ops : Array Oper} {WX : List Oper → Env → Prop} (R : QRules P ⟨N, DD⟩ ops w WX) : ∀ (n : Nat) (j : Nat) (g : Bool) (dl : List Nat) (l : List Oper) (A : AE) (ps : Ps) (A' : AE) (E : Env) (rest : List Oper),
    evBlk P S N ops st n (some (j, g)) dl l A = some (ps, A') → CxS ops E (dsts l) j g → (∀ x ∈ dl, E x = undef) → (∀ E', (∀ t, t ∈ dsts l → E' t = undef) → (∀ t, t ∉ dsts l → E' t = E t) → WX rest E') → WX (l ++ rest) E
  | 0, _, _, _, _, _, _, _, _, _, h, _, _, _ => by simp [evBlk] at h
  | n + 1, j, g, dl, [], A, ps, A', E, rest, h, _, _, k => k E (by simp [dsts]) (fun _ _ => rfl)
  | n + 1, j, g, dl, o :: r, A, ps, A', E, rest, h, hcx, hdl, k => by
    simp only [evBlk] at h
    obtain ⟨d, hd1, hd2, hd3⟩ := hcx
    rw [dsts_cons] at hd2
    simp only [List.mem_append, not_or] at hd2
    have hdo : ∀ x, o.dst = some x → d ≠ x := fun x hx e => hd2.1 (by subst e; exact mem_dsts1.2 hx)
    cases hc : cxIs o.guard (some (j, g)) with
    | true =>
      rw [hc] at h
      simp only [cond_true] at h
      cases hdst : dstB N o.dst with
      | false => rw [hdst] at h; cases h
      | true =>
      rw [hdst] at h
      simp only [cond_true] at h
      split at h
      case h_2 => cases h
      split at h
      case h_2 => cases h
      rename_i ps1 a1 _ qs A2 hrest
      have hg := cxIs_ok hc
      have hshut : Shut ops o E := by
        rcases hd3 with hd3 | hd3
        · exact Shut.no hg hd1 hd3 (by cases g <;> rfl)
        · exact Shut.undef hg hd1 hd3
      refine R.s hshut (dst_of hdst) ?_
      refine blk_skip R n j g _ r _ _ _ _ rest hrest ⟨d, hd1, hd2.2, by rw [updO_out hdo]; exact hd3⟩ (fun x hx => ?_) (fun E' h1 h2 => k E' (fun t ht => ?_) (fun t ht => ?_))
      · rcases List.mem_append.1 hx with hx | hx
        · rw [mem_dsts1.1 hx, updO, upd_same]
        · by_cases e : o.dst = some x
          · rw [e, updO, upd_same]
          · rw [updO_out (fun y hy e' => e (by rw [hy, e']))]; exact hdl x hx
      · rw [dsts_cons] at ht
        by_cases e : t ∈ dsts r
        · exact h1 t e
        · rw [h2 t e]
          rcases List.mem_append.1 ht with ht | ht
          · rw [mem_dsts1.1 ht, updO, upd_same]
          · exact absurd ht e
      · rw [dsts_cons] at ht
        simp only [List.mem_append, not_or] at ht
        rw [h2 t ht.2, updO_out (fun y hy e' => ht.1 (by subst e'; exact mem_dsts1.2 hy))]
    | false =>
      rw [hc] at h
      simp only [cond_false] at h
      split at h
      · cases h
      · rename_i g2 hg2
        split at h
        case h_2 => cases h
        rename_i d2 b2 p r' hgs hbe
        cases hck : ((cxTop (some (j, g)) || dl.contains d2) && !(dsts (ahead (some (j, g)) (o :: r))).contains d2 && dstB N p.dst) with
        | false => rw [hck] at h; cases h
        | true =>
        rw [hck] at h
        simp only [cond_true] at h
        simp only [Bool.and_eq_true, Bool.not_eq_true'] at hck
        obtain ⟨⟨c1, c2⟩, c3⟩ := hck
        split at h
        case h_2 => cases h
        rename_i ps1 A1 hB
        split at h
        case h_2 => cases h
        split at h
        case h_2 => cases h
        rename_i a _ qs A2 hR
        obtain ⟨hs1, hs2⟩ := gslot_ok hgs
        have hsplit := ahead_behind (some (j, g)) (o :: r)
        rw [hbe] at hsplit
        generalize hBl : ahead (some (j, g)) (o :: r) = B at *
        have hd2' : d ∉ dsts B ∧ d ∉ dsts [p] ∧ d ∉ dsts r' := by
          have : d ∉ dsts (o :: r) := by rw [dsts_cons]; simp only [List.mem_append, not_or]; exact hd2
          rw [hsplit, dsts_append, dsts_cons p r'] at this
          simpa [List.mem_append, not_or] using this
        have hdu : E d2 = undef := hdl d2 (by simpa [cxTop] using c1)
        rw [hsplit, List.append_assoc]
        refine blk_skip R n g2.1 g2.2 [] B _ _ _ E (p :: r' ++ rest) hB ⟨d2, hs1, by simpa using c2, .inr hdu⟩ (by simp) (fun E1 h1 h2 => ?_)
        have hpg := cxIs_ok (behind_head hbe)
        have hE1d : E1 d = E d := h2 d hd2'.1
        have hpd : ∀ x, p.dst = some x → d ≠ x := fun x hx e => hd2'.2.1 (by subst e; exact mem_dsts1.2 hx)
        have hshut : Shut ops p E1 := by
          rcases hd3 with hd3 | hd3
          · exact Shut.no hpg hd1 (hE1d.trans hd3) (by cases g <;> rfl)
          · exact Shut.undef hpg hd1 (hE1d.trans hd3)
        rw [List.cons_append]
        refine R.s hshut (dst_of c3) ?_
        refine blk_skip R n j g _ r' _ _ _ _ rest hR ⟨d, hd1, hd2'.2.2, by rw [updO_out hpd, hE1d]; exact hd3⟩ (fun x hx => ?_) (fun E' k1 k2 => k E' (fun t ht => ?_) (fun t ht => ?_))
        · by_cases e : p.dst = some x
          · rw [e, updO, upd_same]
          · rw [updO_out (fun y hy e' => e (by rw [hy, e']))]
            by_cases e2 : x ∈ dsts B
            · exact h1 x e2
            · rw [h2 x e2]
              rcases List.mem_append.1 hx with hx | hx
              · rcases List.mem_append.1 hx with hx | hx
                · exact absurd hx e2
                · exact absurd (mem_dsts1.1 hx) e
              · exact hdl x hx
        · rw [hsplit, dsts_append, dsts_cons p r'] at ht
          by_cases e : t ∈ dsts r'
          · exact k1 t e
          · rw [k2 t e]
            by_cases e1 : p.dst = some t
            · rw [e1, updO, upd_same]
            · rw [updO_out (fun y hy e' => e1 (by rw [hy, e']))]
              rcases List.mem_append.1 ht with ht | ht
              · exact h1 t ht
              · rcases List.mem_append.1 ht with ht | ht
                · exact absurd (mem_dsts1.1 ht) e1
                · exact absurd ht e
        · rw [hsplit, dsts_append, dsts_cons p r'] at ht
          simp only [List.mem_append, not_or] at ht
          rw [k2 t ht.2.2, updO_out (fun y hy e' => ht.2.1 (by subst e'; exact mem_dsts1.2 hy)), h2 t ht.1]
/-- a block that runs -/
theorem blk_ok {S : Sums} (hS : SumsOK P Γ S) (hH : Hold Γ s w0 st w) {N : Nat} {DD : List Deferred} {ops : Array Oper} {WX : List Oper → Env → Prop} (R : QRules P ⟨N, DD⟩ ops w WX) : ∀ (n : Nat) (cx : Cx) (dl : List Nat) (l : List Oper) (A : AE) (ps : Ps) (A' : AE) (E : Env) (rest : List Oper),
    evBlk P S N ops st n cx dl l A = some (ps, A') → (∀ p ∈ ps, p) → CxH ops E (dsts l) cx → EnvOK s A E → (∀ E', EnvOK s A' E' → (∀ t, t ∉ dsts l → E' t = E t) → WX rest E') → WX (l ++ rest) E
  | 0, _, _, _, _, _, _, _, _, h, _, _, _, _ => by simp [evBlk] at h
  | n + 1, cx, dl, [], A, ps, A', E, rest, h, hp, _, hE, k => by
    simp only [evBlk, Option.some.injEq, Prod.mk.injEq] at h
    obtain ⟨rfl, rfl⟩ := h
    exact k E hE (fun _ _ => rfl)
  | n + 1, cx, dl, o :: r, A, ps, A', E, rest, h, hp, hcx, hE, k => by
    simp only [evBlk] at h
    have hsure : ∀ {q : Oper} {E1 : Env}, cxIs q.guard cx = true → (∀ d, d ∉ dsts (o :: r) → E1 d = E d) → Sure ops q E1 := by
      intro q E1 hc hag
      have hg := cxIs_ok hc
      cases cx with
      | none => exact Sure.none hg
      | some jw =>
        obtain ⟨j, gw⟩ := jw
        obtain ⟨d, hd1, hd2, hd3⟩ := hcx
        exact Sure.yes hg hd1 ((hag d hd2).trans hd3)
    have hcx' : ∀ {E1 : Env} {ds : List Nat}, (∀ d, d ∉ dsts (o :: r) → E1 d = E d) → (∀ d, d ∈ ds → d ∈ dsts (o :: r)) → CxH ops E1 ds cx := by
      intro E1 ds hag hsub
      cases cx with
      | none => trivial
      | some jw =>
        obtain ⟨j, gw⟩ := jw
        obtain ⟨d, hd1, hd2, hd3⟩ := hcx
        exact ⟨d, hd1, fun hm => hd2 (hsub d hm), (hag d hd2).trans hd3⟩
    cases hc : cxIs o.guard cx with
    | true =>
      rw [hc] at h
      simp only [cond_true] at h
      cases hdst : dstB N o.dst with
      | false => rw [hdst] at h; cases h
      | true =>
      rw [hdst] at h
      simp only [cond_true] at h
      split at h
      case h_2 => cases h
      rename_i ps1 a1 hop
      split at h
      case h_2 => cases h
      rename_i qs A2 hrest
      cases h
      obtain ⟨v, hrel, hq⟩ := evOp_rd hS hH hE hop (fun p hpp => hp p (List.mem_append_left _ hpp))
      refine R.q (hsure hc (fun _ _ => rfl)) (dst_of hdst) hq ?_
      have hag : ∀ d, d ∉ dsts (o :: r) → updO E o.dst v d = E d := fun d hd => updO_out (fun x hx e => hd (by subst e; rw [dsts_cons]; exact List.mem_append_left _ (mem_dsts1.2 hx)))
      refine blk_ok hS hH R n cx _ r _ _ _ _ rest hrest (fun p hpp => hp p (List.mem_append_right _ hpp)) (hcx' hag (fun d hd => by rw [dsts_cons]; exact List.mem_append_right _ hd)) (hE.put hrel) (fun E' h1 h2 => k E' h1 (fun t ht => ?_))
      have ht' := ht
      rw [dsts_cons] at ht
      simp only [List.mem_append, not_or] at ht
      rw [h2 t ht.2, hag t ht']
    | false =>
      rw [hc] at h
      simp only [cond_false] at h
      split at h
      · cases h
      · rename_i g2 hg2
        split at h
        case h_2 => cases h
        rename_i d2 b2 p r' hgs hbe
        cases hck : ((cxTop cx || dl.contains d2) && !(dsts (ahead cx (o :: r))).contains d2 && dstB N p.dst) with
        | false => rw [hck] at h; cases h
        | true =>
        rw [hck] at h
        simp only [cond_true] at h
        simp only [Bool.and_eq_true, Bool.not_eq_true'] at hck
        obtain ⟨⟨c1, c2⟩, c3⟩ := hck
        split at h
        case h_2 => cases h
        rename_i ps1 A1 hB
        split at h
        case h_2 => cases h
        rename_i a hpk
        split at h
        case h_2 => cases h
        rename_i qs A2 hR
        cases h
        obtain ⟨hs1, hs2⟩ := gslot_ok hgs
        have hsplit := ahead_behind cx (o :: r)
        rw [hbe] at hsplit
        obtain ⟨hp1, hp2⟩ := guardP_ok hp
        have hEd : E d2 = .bool b2 := (hE d2 _ hs2).v_of
        generalize hBl : ahead cx (o :: r) = B at *
        have c2' : d2 ∉ dsts B := by simpa using c2
        have hall : dsts (o :: r) = dsts B ++ (dsts [p] ++ dsts r') := by rw [hsplit, dsts_append, dsts_cons p r']
        -- behind the block
        have fin : ∀ E1, (∀ t, t ∉ dsts B → E1 t = E t) → (b2 = g2.2 → EnvOK s A1 E1) → WX (p :: r' ++ rest) E1 := by
          intro E1 hag h1
          have hk1 : EnvOK s (killA A (dsts B)) E1 := killA_env hE hag
          obtain ⟨v, hrel, hpo⟩ := pick_ok (P := P) hpk ((hag d2 c2').trans hEd) hk1 h1
          rw [List.cons_append]
          have hag1 : ∀ d, d ∉ dsts (o :: r) → E1 d = E d := fun d hd => hag d (fun hm => hd (by rw [hall]; exact List.mem_append_left _ hm))
          refine R.q (hsure (behind_head hbe) hag1) (dst_of c3) (.inl fun w' _ => hpo w') ?_
          have hag2 : ∀ d, d ∉ dsts (o :: r) → updO E1 p.dst v d = E d := fun d hd => by
            rw [updO_out (fun x hx e => hd (by subst e; rw [hall]; exact List.mem_append_right _ (List.mem_append_left _ (mem_dsts1.2 hx))))]
            exact hag1 d hd
          refine blk_ok hS hH R n cx _ r' _ _ _ _ rest hR hp2 (hcx' hag2 (fun d hd => by rw [hall]; exact List.mem_append_right _ (List.mem_append_right _ hd))) (hk1.put hrel) (fun E' k1 k2 => k E' k1 (fun t ht => ?_))
          rw [k2 t (fun hm => ht (by rw [hall]; exact List.mem_append_right _ (List.mem_append_right _ hm))), hag2 t ht]
        rw [hsplit, List.append_assoc]
        by_cases hb : b2 = g2.2
        · refine blk_ok hS hH R n (some g2) [] B _ _ _ E (p :: r' ++ rest) hB (hp1 hb) ⟨d2, hs1, c2', by rw [hEd, hb]⟩ hE (fun E1 h1 h2 => fin E1 h2 (fun _ => h1))
        · refine blk_skip R n g2.1 g2.2 [] B _ _ _ E (p :: r' ++ rest) hB ⟨d2, hs1, c2', .inl (by rw [hEd, ne_not hb])⟩ (by simp) (fun E1 h1 h2 => fin E1 h2 (fun e => absurd e hb))
end
end Go.Proofs.YtnhfkdgambncfaaGreatDoor.Sv
namespace Go.Proofs.YtnhfkdgambncfaaGreatDoor.Sv
open Go.RowKit Go.Proofs.YtnhfkdgambncfaaGreatDoor.W
variable {Γ : Gl}

/-- A region that draws its order, by what holds of (what is listed, the activation, the world). -/
theorem wpAny_gen {P : Program} {n : Fsz} {ro : Option Nat} {l : List Oper} {N R : Env → World → Prop} {X : Nat → Env → World → Prop} (V : Array Bool → Act → World → Prop)
    (hsize : ∀ listed a w, V listed a w → listed.size = l.length)
    (hfin : ∀ listed a w, V listed a w → Region.ready .any l.toArray listed = [] → lift n ⟨N, X, R⟩ .normal a w)
    (hstep : ∀ listed a w i o, V listed a w → l[i]? = some o → listed.getD i true = false → (∀ e ∈ o.after.toList, Region.binds .any e = true → listed.getD e.on false = true) →
      (Shut l.toArray o (envOf a) ∧ V (listed.setIfInBounds i true) (a.put o.dst undef) w) ∨ (Sure l.toArray o (envOf a) ∧
        ((∃ v w', OpX P o (envOf a) w v w' ∧ V (listed.setIfInBounds i true) (a.put o.dst v) w') ∨ (∃ f args, OpC P o (envOf a) w f args ∧ Fnc P f args w fun v w' => V (listed.setIfInBounds i true) (a.put o.dst v) w') ∨
          (∃ b f tmps asg body, (execOp (ev (envOf a)) o).run P w = .ok (.round b f tmps asg body) w ∧ RoundIn (Fr ro) 0 P b f tmps asg body w fun e w' => ∃ v, e = .returned v ∧ V (listed.setIfInBounds i true) (a.put o.dst v) w')))) :
    ∀ (fuel : Nat) (listed : Array Bool) (a : Act) (w : World), V listed a w → (unl l.length listed).length ≤ fuel → wpAnyIn (Fr ro) 1 P .any l.toArray (lift n ⟨N, X, R⟩) fuel listed a w := by
  intro fuel
  induction fuel with
  | zero =>
    intro listed a w hV hu
    have hnil : Region.ready .any l.toArray listed = [] := by
      rw [List.eq_nil_iff_forall_not_mem]
      intro i hi
      obtain ⟨h1, h2, _⟩ := W.mem_ready.1 hi
      have : i ∈ unl l.length listed := by simp only [unl, List.mem_filter, List.mem_range, h2]; exact ⟨by simpa using h1, rfl⟩
      rw [List.eq_nil_of_length_eq_zero (by omega : (unl l.length listed).length = 0)] at this
      cases this
    exact ⟨hnil, hfin _ _ _ hV hnil⟩
  | succ fuel ih =>
    intro listed a w hV hu
    refine ⟨hfin _ _ _ hV, fun i hi => ?_⟩
    obtain ⟨h1, h2, o, ho, h3⟩ := W.mem_ready.1 hi
    have h1' : i < l.length := by simpa using h1
    have ho' : l[i]? = some o := by simpa using ho
    have hcount : (unl l.length (listed.setIfInBounds i true)).length ≤ fuel := by
      have := unl_set (listed := listed) (hsize _ _ _ hV) h1' h2; omega
    unfold wpOpIn
    simp only [ho]
    rcases hstep listed a w i o hV ho' h2 h3 with ⟨hs, hF⟩ | ⟨hs, hx | ⟨f, args, hc, hf⟩ | ⟨b, f, tmps, asg, body, hx, hrd⟩⟩
    · rw [if_neg (by rw [hs a.tmps rfl]; simp)]
      exact ⟨fun _ _ => trivial, ih _ _ _ hF hcount⟩
    · rw [if_pos (hs a.tmps rfl)]
      obtain ⟨v, w', hx, hV'⟩ := hx
      refine ⟨fun _ _ => trivial, ?_⟩
      rw [eval_envOf]
      rcases hx with hx | ⟨rfl, hx⟩
      · rw [semAt_of hx (by simp)]; exact ih _ _ _ hV' hcount
      · rw [semAt_of hx (by simp)]; exact ih _ _ _ hV' hcount
    · rw [if_pos (hs a.tmps rfl)]
      refine ⟨fun _ _ => trivial, ?_⟩
      rw [eval_envOf, semAt_of hc (by simp)]
      refine ⟨fun _ => Nat.le_refl 1, ?_⟩
      have hc' : CallsIn (Fr ro) (1 - 1) P f args w (fun e w' => ∃ v, e = .returned v ∧ V (listed.setIfInBounds i true) (a.put o.dst v) w') := by
        have := (callsIn_wide (n := 1 - 1)).2 hf
        exact this
      refine CallsIn.mono hc' ?_
      rintro e w' ⟨v, rfl, hV'⟩
      exact ih _ _ _ hV' hcount
    · rw [if_pos (hs a.tmps rfl)]
      refine ⟨fun _ _ => trivial, ?_⟩
      rw [eval_envOf, semAt_of hx (by simp)]
      refine ⟨fun _ => Nat.le_refl 1, RoundIn.mono hrd ?_⟩
      rintro e w' ⟨v, rfl, hV'⟩
      exact ih _ _ _ hV' hcount
theorem WP.anyGen {P : Program} {n : Fsz} {ro : Option Nat} {id : Nat} {l : List Oper} {E : Env} {w : World} {N R : Env → World → Prop} {X : Nat → Env → World → Prop} (hm : P.follows .mixedOrders = true) (V : Array Bool → Act → World → Prop)
    (hsize : ∀ listed a w, V listed a w → listed.size = l.length)
    (hfin : ∀ listed a w, V listed a w → Region.ready .any l.toArray listed = [] → lift n ⟨N, X, R⟩ .normal a w)
    (hstep : ∀ listed a w i o, V listed a w → l[i]? = some o → listed.getD i true = false → (∀ e ∈ o.after.toList, Region.binds .any e = true → listed.getD e.on false = true) →
      (Shut l.toArray o (envOf a) ∧ V (listed.setIfInBounds i true) (a.put o.dst undef) w) ∨ (Sure l.toArray o (envOf a) ∧
        ((∃ v w', OpX P o (envOf a) w v w' ∧ V (listed.setIfInBounds i true) (a.put o.dst v) w') ∨ (∃ f args, OpC P o (envOf a) w f args ∧ Fnc P f args w fun v w' => V (listed.setIfInBounds i true) (a.put o.dst v) w') ∨
          (∃ b f tmps asg body, (execOp (ev (envOf a)) o).run P w = .ok (.round b f tmps asg body) w ∧ RoundIn (Fr ro) 0 P b f tmps asg body w fun e w' => ∃ v, e = .returned v ∧ V (listed.setIfInBounds i true) (a.put o.dst v) w'))))
    (h0 : ∀ a d, Ok n a → envOf a = E → V (Array.replicate l.length false) a { w with drawn := d }) : WPr ro P n (.region id l.toArray true) ⟨N, X, R⟩ E w := by
  intro a ha he
  refine wpIn_region_any hm ?_
  have hsz : l.toArray.size = l.length := by simp
  rw [hsz]
  refine wpAny_gen V hsize hfin hstep _ _ _ _ (h0 a _ ha he) ?_
  have := List.length_filter_le (fun i => !(Array.replicate l.length false).getD i true) (List.range l.length)
  simpa [unl] using this


/-- a region that draws its order, by what holds of (what is listed, the activation, the world) -/
def AnyWP (P : Program) (ro : Option Nat) (n : Fsz) (l : List Oper) (Q : K) (E : Env) (w : World) : Prop := ∃ V : Array Bool → Act → World → Prop,
    (∀ listed a w, V listed a w → listed.size = l.length) ∧
    (∀ listed a w, V listed a w → Region.ready .any l.toArray listed = [] → lift n Q .normal a w) ∧
    (∀ listed a w i o, V listed a w → l[i]? = some o → listed.getD i true = false → (∀ e ∈ o.after.toList, Region.binds .any e = true → listed.getD e.on false = true) →
      (Shut l.toArray o (envOf a) ∧ V (listed.setIfInBounds i true) (a.put o.dst undef) w) ∨ (Sure l.toArray o (envOf a) ∧
        ((∃ v w', OpX P o (envOf a) w v w' ∧ V (listed.setIfInBounds i true) (a.put o.dst v) w') ∨ (∃ f args, OpC P o (envOf a) w f args ∧ Fnc P f args w fun v w' => V (listed.setIfInBounds i true) (a.put o.dst v) w') ∨
          (∃ b f tmps asg body, (execOp (ev (envOf a)) o).run P w = .ok (.round b f tmps asg body) w ∧ RoundIn (Fr ro) 0 P b f tmps asg body w fun e w' => ∃ v, e = .returned v ∧ V (listed.setIfInBounds i true) (a.put o.dst v) w')))) ∧
    (∀ a d, Ok n a → envOf a = E → V (Array.replicate l.length false) a { w with drawn := d })
/-- the same, and what the slots of listed operations hold -/
def AnyWPf (P : Program) (ro : Option Nat) (n : Fsz) (l : List Oper) (F : Nat → Value → Prop) (Q : K) (E : Env) (w : World) : Prop := ∃ V : Array Bool → Act → World → Prop,
    (∀ listed a w, V listed a w → listed.size = l.length) ∧
    (∀ listed a w, V listed a w → Region.ready .any l.toArray listed = [] → lift n Q .normal a w) ∧
    (∀ listed a w i o, V listed a w → l[i]? = some o → listed.getD i true = false → (∀ e ∈ o.after.toList, Region.binds .any e = true → listed.getD e.on false = true) →
      (Shut l.toArray o (envOf a) ∧ V (listed.setIfInBounds i true) (a.put o.dst undef) w) ∨ (Sure l.toArray o (envOf a) ∧
        ((∃ v w', OpX P o (envOf a) w v w' ∧ V (listed.setIfInBounds i true) (a.put o.dst v) w') ∨ (∃ f args, OpC P o (envOf a) w f args ∧ Fnc P f args w fun v w' => V (listed.setIfInBounds i true) (a.put o.dst v) w') ∨
          (∃ b f tmps asg body, (execOp (ev (envOf a)) o).run P w = .ok (.round b f tmps asg body) w ∧ RoundIn (Fr ro) 0 P b f tmps asg body w fun e w' => ∃ v, e = .returned v ∧ V (listed.setIfInBounds i true) (a.put o.dst v) w')))) ∧
    (∀ a d, Ok n a → envOf a = E → V (Array.replicate l.length false) a { w with drawn := d }) ∧
    (∀ listed a w, V listed a w → ∀ j o d, l[j]? = some o → o.dst = some d → listed.getD j false = true → F j (envOf a d))
theorem AnyWPf.any {P : Program} {ro : Option Nat} {n : Fsz} {l : List Oper} {F : Nat → Value → Prop} {Q : K} {E : Env} {w : World} (h : AnyWPf P ro n l F Q E w) : AnyWP P ro n l Q E w := by
  obtain ⟨V, h1, h2, h3, h4, _⟩ := h
  exact ⟨V, h1, h2, h3, h4⟩
theorem AnyWP.wp {P : Program} {n : Fsz} {ro : Option Nat} {id : Nat} {l : List Oper} {E : Env} {w : World} {N R : Env → World → Prop} {X : Nat → Env → World → Prop} (hm : P.follows .mixedOrders = true) (h : AnyWP P ro n l ⟨N, X, R⟩ E w) : WPr ro P n (.region id l.toArray true) ⟨N, X, R⟩ E w := by
  obtain ⟨V, h1, h2, h3, h4⟩ := h
  exact WP.anyGen hm V h1 h2 h3 h4
theorem all_listed' {l : List Oper} {listed : Array Bool} (hsize : listed.size = l.length) (hback : ∀ i o, l[i]? = some o → ∀ p ∈ preds o, p < i) (h : Region.ready .any l.toArray listed = []) : ∀ k, k < l.length → listed.getD k true = true := by
  intro k
  induction k using Nat.strongRecOn with
  | _ k ih =>
    intro hk
    cases hl : listed.getD k true with
    | true => rfl
    | false =>
      have ho : l[k]? = some l[k] := List.getElem?_eq_getElem hk
      have : k ∈ Region.ready .any l.toArray listed := W.mem_ready.2 ⟨by simpa using hk, hl, l[k], by simp [ho], fun e he hb => by
        have hlt := hback k _ ho e.on (List.mem_map.2 ⟨e, List.mem_filter.2 ⟨he, hb⟩, rfl⟩)
        have := ih e.on hlt (by omega)
        have hsz : e.on < listed.size := by omega
        rw [Array.getD_eq_getD_getElem?, Array.getElem?_eq_getElem hsz] at this ⊢
        exact this⟩
      rw [h] at this; cases this
theorem noDupD : ∀ (l : List Oper), noDup (l.filterMap (·.dst)) = true → ∀ (i j : Nat) (oi oj : Oper) (d : Nat), l[i]? = some oi → l[j]? = some oj → oi.dst = some d → oj.dst = some d → i = j
  | [], _, i, _, _, _, _, hi, _, _, _ => by simp at hi
  | a :: r, h, i, j, oi, oj, d, hi, hj, di, dj => by
    have tail : noDup (r.filterMap (·.dst)) = true := by
      cases ha : a.dst with
      | none => simpa [List.filterMap_cons, ha] using h
      | some d' => simp only [List.filterMap_cons, ha, noDup, Bool.and_eq_true] at h; exact h.2
    have head : ∀ d', a.dst = some d' → d' ∉ r.filterMap (·.dst) := by
      intro d' ha
      simp only [List.filterMap_cons, ha, noDup, Bool.and_eq_true, Bool.not_eq_true'] at h
      simpa using h.1
    cases i with
    | zero =>
      simp only [List.getElem?_cons_zero, Option.some.injEq] at hi
      subst hi
      cases j with
      | zero => rfl
      | succ j =>
        simp only [List.getElem?_cons_succ] at hj
        exact absurd (List.mem_filterMap.2 ⟨oj, List.mem_of_getElem? hj, dj⟩) (head d di)
    | succ i =>
      simp only [List.getElem?_cons_succ] at hi
      cases j with
      | zero =>
        simp only [List.getElem?_cons_zero, Option.some.injEq] at hj
        subst hj
        exact absurd (List.mem_filterMap.2 ⟨oi, List.mem_of_getElem? hi, di⟩) (head d dj)
      | succ j =>
        simp only [List.getElem?_cons_succ] at hj
        rw [noDupD r tail i j oi oj d hi hj di dj]
theorem backOk_ok : ∀ (l : List Oper) (i : Nat), backOk l i = true → ∀ j o, l[j]? = some o → ∀ p ∈ preds o, p < i + j
  | [], _, _, j, o, hj, _, _ => by simp at hj
  | a :: r, i, h, j, o, hj, p, hp => by
    simp only [backOk, Bool.and_eq_true] at h
    cases j with
    | zero =>
      simp only [List.getElem?_cons_zero, Option.some.injEq] at hj
      subst hj
      exact blt_t (List.all_eq_true.1 h.1 p hp)
    | succ j => have := backOk_ok r (i + 1) h.2 j o (by simpa using hj) p hp; omega

/-! ### A region that draws its order, of which nothing makes or writes: the text's order serves -/
theorem wrt_some {l : List Oper} {t j : Nat} (h : wrt l t = some j) : ∃ o, l[j]? = some o ∧ o.dst = some t := by
  obtain ⟨hj, h1, _⟩ := List.findIdx?_eq_some_iff_getElem.1 h
  refine ⟨l[j], List.getElem?_eq_getElem hj, ?_⟩
  revert h1
  cases hd : l[j].dst with
  | none => intro h1; simp at h1
  | some d =>
    intro h1
    have h2 : Nat.beq d t = true := h1
    rw [beq_t h2]
theorem wrt_none {l : List Oper} {t : Nat} (h : wrt l t = none) : ∀ o ∈ l, o.dst ≠ some t := by
  intro o ho hd
  have := List.findIdx?_eq_none_iff.1 h o ho
  rw [hd] at this
  simp [beq_self] at this
theorem wrt_of {l : List Oper} (hn : ∀ (i j : Nat) (o q : Oper) (d : Nat), l[i]? = some o → l[j]? = some q → o.dst = some d → q.dst = some d → i = j) {t j : Nat} {o : Oper} (ho : l[j]? = some o) (hd : o.dst = some t) : wrt l t = some j := by
  cases h : wrt l t with
  | none => exact absurd hd (wrt_none h o (List.mem_of_getElem? ho))
  | some k =>
    obtain ⟨q, hq, hqd⟩ := wrt_some h
    rw [hn j k o q t ho hq hd hqd]
theorem regAll_ok {l : List Oper} : ∀ (r : List Oper) (i : Nat), regAll l r i = true → ∀ j o, r[j]? = some o → regOp l (i + j) o = true
  | [], _, _, _, _, h => by simp at h
  | o :: r, i, h, j, q, hq => by
    simp only [regAll, Bool.and_eq_true] at h
    cases j with
    | zero => simp at hq; subst hq; exact h.1
    | succ j => rw [show i + (j + 1) = i + 1 + j by omega]; exact regAll_ok r (i + 1) h.2 j q (by simpa using hq)
/-- a walk of the text's order -/
inductive LexT (P : Program) (n : Fsz) (ops : Array Oper) (w : World) (F : Env → Prop) : List Oper → Env → Prop
  | nil {E : Env} : F E → LexT P n ops w F [] E
  | q {o : Oper} {E : Env} {v : Value} {rest : List Oper} : Sure ops o E → dstOk n o.dst = true → Quiet1 P o E w v → LexT P n ops w F rest (updO E o.dst v) → LexT P n ops w F (o :: rest) E
  | s {o : Oper} {E : Env} {rest : List Oper} : Shut ops o E → dstOk n o.dst = true → LexT P n ops w F rest (updO E o.dst undef) → LexT P n ops w F (o :: rest) E
def envs (E : Env) : List Oper → List Value → Env
  | o :: l, v :: vs => envs (updO E o.dst v) l vs
  | _, _ => E
theorem LexT.run {P : Program} {n : Fsz} {ops : Array Oper} {w : World} {F : Env → Prop} {l : List Oper} {E : Env} (h : LexT P n ops w F l E) : ∃ vs : List Value, vs.length = l.length ∧ F (envs E l vs) ∧ ∀ i o v, l[i]? = some o → vs[i]? = some v → dstOk n o.dst = true ∧ ((Sure ops o (envs E (l.take i) (vs.take i)) ∧ Quiet1 P o (envs E (l.take i) (vs.take i)) w v) ∨ (Shut ops o (envs E (l.take i) (vs.take i)) ∧ v = undef)) := by
  induction h with
  | nil h => exact ⟨[], rfl, h, by simp⟩
  | @q o E v rest h1 h2 h3 _ ih =>
    obtain ⟨vs, k1, k2, k3⟩ := ih
    refine ⟨v :: vs, by simp [k1], k2, fun i o' v' ho hv => ?_⟩
    cases i with
    | zero => simp at ho hv; subst ho; subst hv; exact ⟨h2, .inl ⟨h1, h3⟩⟩
    | succ i => exact k3 i o' v' (by simpa using ho) (by simpa using hv)
  | @s o E rest h1 h2 _ ih =>
    obtain ⟨vs, k1, k2, k3⟩ := ih
    refine ⟨undef :: vs, by simp [k1], k2, fun i o' v' ho hv => ?_⟩
    cases i with
    | zero => simp at ho hv; subst ho; subst hv; exact ⟨h2, .inr ⟨h1, rfl⟩⟩
    | succ i => exact k3 i o' v' (by simpa using ho) (by simpa using hv)
theorem envs_none : ∀ (l : List Oper) (vs : List Value) (E : Env) (t : Nat), (∀ o ∈ l, o.dst ≠ some t) → envs E l vs t = E t
  | [], _, _, _, _ => by simp [envs]
  | o :: l, [], _, _, _ => by simp [envs]
  | o :: l, v :: vs, E, t, h => by
    rw [envs, envs_none l vs _ t fun q hq => h q (List.mem_cons_of_mem _ hq)]
    have := h o (List.mem_cons_self ..)
    cases hd : o.dst with
    | none => rfl
    | some d => exact upd_ne _ _ _ _ (fun e => this (by rw [hd, e]))
theorem envs_some : ∀ (l : List Oper) (vs : List Value) (E : Env) (j t : Nat) (o : Oper) (v : Value), l[j]? = some o → o.dst = some t → vs[j]? = some v → (∀ k q, l[k]? = some q → q.dst = some t → k = j) → envs E l vs t = v
  | [], _, _, j, _, _, _, h, _, _, _ => by simp at h
  | _ :: _, [], _, j, _, _, _, _, _, h, _ => by simp at h
  | o :: l, v :: vs, E, 0, t, q, u, h1, h2, h3, h4 => by
    simp at h1 h3; subst h1; subst h3
    rw [envs, envs_none l vs _ t fun q hq hd => ?_]
    · rw [h2]; exact upd_same _ _ _
    · obtain ⟨k, hk⟩ := List.mem_iff_getElem?.1 hq
      have := h4 (k + 1) q (by simpa using hk) hd
      omega
  | o :: l, v :: vs, E, j + 1, t, q, u, h1, h2, h3, h4 => by
    rw [envs]
    exact envs_some l vs _ j t q u (by simpa using h1) h2 (by simpa using h3) fun k x hk hx => by have := h4 (k + 1) x (by simpa using hk) hx; omega
theorem yielded_env (ops : Array Oper) (tmps tmps' : Array Value) (j : Nat) (h : ∀ t, (ops[j]?).bind (·.dst) = some t → tmps.getD t undef = tmps'.getD t undef) : yielded ops tmps j = yielded ops tmps' j := by
  have key : ∀ T : Array Value, yielded ops T j = match (ops[j]?).bind (·.dst) with | some t => (match T.getD t undef with | .bool b => some b | _ => none) | none => none := by
    intro T
    unfold yielded
    cases hd : (ops[j]?).bind (·.dst) with
    | none => rfl
    | some t =>
      simp only [Option.bind_some, Array.getD_eq_getD_getElem?]
      cases hT : T[t]? with
      | none => rfl
      | some v => cases v <;> rfl
  rw [key, key]
  cases hd : (ops[j]?).bind (·.dst) with
  | none => rfl
  | some t => simp only [h t hd]
theorem wanted_env (ops : Array Oper) (o : Oper) (tmps tmps' : Array Value) (h : ∀ j b t, o.guard = some (j, b) → (ops[j]?).bind (·.dst) = some t → tmps.getD t undef = tmps'.getD t undef) : Region.wanted o (yielded ops tmps) = Region.wanted o (yielded ops tmps') := by
  cases hg : o.guard with
  | none => simp [Region.wanted, hg]
  | some g =>
    obtain ⟨j, b⟩ := g
    have := yielded_env ops tmps tmps' j fun t ht => h j b t hg ht
    simp [Region.wanted, hg, this]
/-- frames that stand for what the text's order leads to -/
theorem envs_act {n : Fsz} : ∀ (l : List Oper) (vs : List Value) (a : Act), Ok n a → (∀ o ∈ l, dstOk n o.dst = true) → ∃ b, Ok n b ∧ envOf b = envs (envOf a) l vs
  | [], _, a, h, _ => ⟨a, h, by simp [envs]⟩
  | o :: l, [], a, h, _ => ⟨a, h, by simp [envs]⟩
  | o :: l, v :: vs, a, h, hd => by
    obtain ⟨b, h1, h2⟩ := envs_act l vs (a.put o.dst v) (h.put _ _) fun q hq => hd q (List.mem_cons_of_mem _ hq)
    exact ⟨b, h1, by rw [h2, envOf_put h _ (hd o (List.mem_cons_self ..))]; rfl⟩
theorem quiet_anyV {P : Program} {ro : Option Nat} {n : Fsz} {l : List Oper} {E : Env} {w : World} {Nn R : Env → World → Prop} {X : Nat → Env → World → Prop} (hB : regOk l.toArray = true)
    (h : LexT P n l.toArray w (fun E' => ∀ w', Ext [] w w' → Nn E' w') l E) : AnyWP P ro n l ⟨Nn, X, R⟩ E w := by
  unfold regOk at hB
  simp only [Bool.and_eq_true] at hB
  obtain ⟨⟨⟨c1, c2⟩, c3⟩, c4⟩ := hB
  have hap := noDupD l c2
  have hback : ∀ i o, l[i]? = some o → ∀ p ∈ preds o, p < i := fun i o ho p hp => by have := backOk_ok l 0 c3 i o ho p hp; omega
  have huniq : ∀ (i j : Nat) (o q : Oper) (d : Nat), l[i]? = some o → l[j]? = some q → o.dst = some d → q.dst = some d → i = j := fun i j o q d h1 h2 h3 h4 => hap i j o q d h1 h2 h3 h4
  obtain ⟨vs, hvl, hF, hrun⟩ := h.run
  have hval : ∀ j, j < l.length → ∃ v, vs[j]? = some v := fun j hj => ⟨_, List.getElem?_eq_getElem (by omega)⟩
  have hdst : ∀ o ∈ l, dstOk n o.dst = true := fun o ho => by
    obtain ⟨i, hi⟩ := List.mem_iff_getElem?.1 ho
    obtain ⟨v, hv⟩ := hval i (List.getElem?_eq_some_iff.1 hi).1
    exact (hrun i o v hi hv).1
  -- a slot ahead of operation i, in the text's order
  have hlex : ∀ i, i ≤ l.length → ∀ t, envs E (l.take i) (vs.take i) t = match wrt l t with | some j => (bif Nat.blt j i then vs.getD j undef else E t) | none => E t := by
    intro i hi t
    cases hw : wrt l t with
    | none => exact envs_none _ _ _ _ fun o ho => wrt_none hw o (List.mem_of_mem_take ho)
    | some j =>
      obtain ⟨o, ho, hd⟩ := wrt_some hw
      obtain ⟨v, hv⟩ := hval j (List.getElem?_eq_some_iff.1 ho).1
      simp only
      cases hb : Nat.blt j i with
      | true =>
        have hb := blt_t hb
        rw [cond_true, List.getD_eq_getElem?_getD, hv]
        exact envs_some _ _ _ j t o v (by rw [List.getElem?_take, if_pos hb]; exact ho) hd (by rw [List.getElem?_take, if_pos hb]; exact hv) fun k q hk hq => by
          rw [List.getElem?_take] at hk
          split at hk
          · exact huniq k j q o t hk ho hq hd
          · cases hk
      | false =>
        have hb : ¬ j < i := fun h => by
          have : Nat.blt j i = true := Nat.ble_eq_true_of_le h
          rw [this] at hb; cases hb
        rw [cond_false]
        refine envs_none _ _ _ _ fun q hq hqd => ?_
        obtain ⟨k, hk⟩ := List.mem_iff_getElem?.1 hq
        rw [List.getElem?_take] at hk
        split at hk
        · have := huniq k j q o t hk ho hqd hd
          omega
        · cases hk
  refine ⟨(fun listed a w' => listed.size = l.length ∧ Ok n a ∧ Ext [] w w' ∧ (∀ t, envOf a t = match wrt l t with | some j => (bif listed.getD j false then vs.getD j undef else E t) | none => E t) ∧ ∀ i o, l[i]? = some o → listed.getD i false = true → ∀ p ∈ preds o, listed.getD p false = true), (fun _ _ _ hV => hV.1), ?_, ?_, ?_⟩
  · rintro listed a w' ⟨hsz, hok, hx, henv, hcl⟩ hr
    have hall := all_listed' hsz hback hr
    refine ⟨hok, ?_⟩
    have he : envOf a = envs E l vs := by
      funext t
      have h1 := hlex l.length (Nat.le_refl _) t
      rw [List.take_of_length_le (Nat.le_refl _), List.take_of_length_le (by omega)] at h1
      rw [henv t, h1]
      cases hw : wrt l t with
      | none => rfl
      | some j =>
        obtain ⟨o, ho, _⟩ := wrt_some hw
        have hj : j < l.length := (List.getElem?_eq_some_iff.1 ho).1
        have h2 := hall j hj
        have h3 : listed.getD j false = true := by
          have hs : j < listed.size := by omega
          rw [Array.getD_eq_getD_getElem?, Array.getElem?_eq_getElem hs] at h2 ⊢
          exact h2
        have h4 : Nat.blt j l.length = true := Nat.ble_eq_true_of_le hj
        simp only [h3, h4, cond_true]
    show Nn (envOf a) w'
    rw [he]; exact hF w' hx
  · rintro listed a w' i o ⟨hsz, hok, hx, henv, hcl⟩ ho hun hpre
    have hi : i < l.length := (List.getElem?_eq_some_iff.1 ho).1
    have hsi : i < listed.size := by omega
    have hun' : listed.getD i false = false := by
      rw [Array.getD_eq_getD_getElem?, Array.getElem?_eq_getElem hsi] at hun ⊢
      exact hun
    have hpre' : ∀ p ∈ preds o, listed.getD p false = true := by
      intro p hp
      obtain ⟨e, he, rfl⟩ := List.mem_map.1 hp
      obtain ⟨h1, h2⟩ := List.mem_filter.1 he
      exact hpre e h1 h2
    obtain ⟨v, hv⟩ := hval i hi
    have hreg := regAll_ok l 0 c4 i o ho
    rw [Nat.zero_add] at hreg
    simp only [regOp, Bool.and_eq_true, Bool.not_eq_true'] at hreg
    obtain ⟨⟨r1, r2⟩, r3⟩ := hreg
    have hslot : ∀ t, tmpOk l i o t = true → envOf a t = envs E (l.take i) (vs.take i) t := by
      intro t ht
      rw [henv t, hlex i (Nat.le_of_lt hi) t]
      unfold tmpOk at ht
      cases hw : wrt l t with
      | none => rfl
      | some j =>
        rw [hw] at ht
        simp only at ht ⊢
        cases hb : Nat.blt j i with
        | true =>
          rw [hb] at ht
          simp only [cond_true] at ht ⊢
          rw [hpre' j (by simpa using ht)]; rfl
        | false =>
          rw [hb] at ht
          simp only [cond_false] at ht ⊢
          cases he : Nat.beq j i with
          | true => rw [beq_t he, hun']; rfl
          | false =>
            rw [he] at ht
            simp only [cond_false] at ht
            obtain ⟨q, hq, _⟩ := wrt_some hw
            rw [hq] at ht
            simp only at ht
            cases hlj : listed.getD j false with
            | false => rfl
            | true => rw [hcl j q hq hlj i (by simpa using ht)] at hun'; cases hun'
    have hopd : ∀ x ∈ o.op.operands, ev (envOf a) x = ev (envs E (l.take i) (vs.take i)) x := by
      intro x hxm
      have := List.all_eq_true.1 r2 x (by simpa using hxm)
      cases x with
      | tmp t => exact hslot t this
      | const c => rfl
      | func f => rfl
      | global g => rfl
    have hexec : execOp (ev (envOf a)) o = execOp (ev (envs E (l.take i) (vs.take i))) o := execOp_congr o (fun cs b e => by rw [e] at r1; cases r1) hopd
    -- frames that stand for the text's order
    have hgd : ∀ tmps tmps' : Array Value, (fun t => tmps.getD t undef) = envOf a → (fun t => tmps'.getD t undef) = envs E (l.take i) (vs.take i) → Region.wanted o (yielded l.toArray tmps) = Region.wanted o (yielded l.toArray tmps') := by
      intro tmps tmps' h1 h2
      refine wanted_env _ _ _ _ fun j b t hg ht => ?_
      have h3 : tmps.getD t undef = envOf a t := congrFun h1 t
      have h4 : tmps'.getD t undef = envs E (l.take i) (vs.take i) t := congrFun h2 t
      rw [h3, h4]
      refine hslot t ?_
      unfold gdOk at r3
      rw [hg] at r3
      have ht' : (l[j]?).bind (·.dst) = some t := by simpa using ht
      simp only [ht'] at r3
      exact r3
    have hE0 : ∃ a0, Ok n a0 ∧ envOf a0 = E := by
      -- the frame at the beginning, out of the present one
      have : ∀ m, m ≤ l.length → ∃ b, Ok n b ∧ ∀ t, envOf b t = match wrt l t with | some j => (bif Nat.blt j m then E t else envOf a t) | none => E t := by
        intro m
        induction m with
        | zero =>
          intro _
          refine ⟨a, hok, fun t => ?_⟩
          cases hw : wrt l t with
          | none => rw [henv t, hw]
          | some j => simp only; rw [show Nat.blt j 0 = false from rfl]; rfl
        | succ m ih =>
          intro hm'
          obtain ⟨b, b1, b2⟩ := ih (by omega)
          have hq : l[m]? = some l[m] := List.getElem?_eq_getElem (by omega)
          cases hd : l[m].dst with
          | none =>
            refine ⟨b, b1, fun t => ?_⟩
            rw [b2 t]
            cases hw : wrt l t with
            | none => rfl
            | some j =>
              have hjm : j ≠ m := fun e => by
                obtain ⟨q, hq', hqd⟩ := wrt_some hw
                subst e
                rw [hq] at hq'; cases hq'
                rw [hd] at hqd; cases hqd
              have : Nat.blt j (m + 1) = Nat.blt j m := by
                cases h1 : Nat.blt j m with
                | true => exact Nat.ble_eq_true_of_le (by have := blt_t h1; omega)
                | false =>
                  cases h2 : Nat.blt j (m + 1) with
                  | false => rfl
                  | true =>
                    have h2 := blt_t h2
                    have : Nat.blt j m = true := Nat.ble_eq_true_of_le (by omega)
                    rw [this] at h1; cases h1
              simp only [this]
          | some d =>
            refine ⟨b.put (some d) (E d), b1.put _ _, fun t => ?_⟩
            have hdo := hdst _ (List.mem_of_getElem? hq)
            rw [hd] at hdo
            rw [envOf_put b1 _ hdo, updO]
            have hwd := wrt_of huniq hq hd
            by_cases e : t = d
            · subst e
              rw [upd_same, hwd]
              simp only
              rw [show Nat.blt m (m + 1) = true from Nat.ble_eq_true_of_le (Nat.le_refl _)]; rfl
            · rw [upd_ne _ _ _ _ e, b2 t]
              cases hw : wrt l t with
              | none => rfl
              | some j =>
                have hjm : j ≠ m := fun e' => by
                  obtain ⟨q, hq', hqd⟩ := wrt_some hw
                  subst e'
                  rw [hq] at hq'; cases hq'
                  rw [hd] at hqd; cases hqd; exact e rfl
                have : Nat.blt j (m + 1) = Nat.blt j m := by
                  cases h1 : Nat.blt j m with
                  | true => exact Nat.ble_eq_true_of_le (by have := blt_t h1; omega)
                  | false =>
                    cases h2 : Nat.blt j (m + 1) with
                    | false => rfl
                    | true =>
                      have h2 := blt_t h2
                      have : Nat.blt j m = true := Nat.ble_eq_true_of_le (by omega)
                      rw [this] at h1; cases h1
                simp only [this]
      obtain ⟨b, b1, b2⟩ := this l.length (Nat.le_refl _)
      refine ⟨b, b1, funext fun t => ?_⟩
      rw [b2 t]
      cases hw : wrt l t with
      | none => rfl
      | some j =>
        obtain ⟨q, hq', _⟩ := wrt_some hw
        have hj : j < l.length := (List.getElem?_eq_some_iff.1 hq').1
        simp only
        rw [show Nat.blt j l.length = true from Nat.ble_eq_true_of_le hj]; rfl
    obtain ⟨a0, ha0, he0⟩ := hE0
    obtain ⟨ai, hai, hei⟩ := envs_act (n := n) (l.take i) (vs.take i) a0 ha0 fun q hq => hdst q (List.mem_of_mem_take hq)
    rw [he0] at hei
    -- what stands behind it
    have next : ∀ (u : Value) (w2 : World), u = v → Ext [] w' w2 → (listed.setIfInBounds i true).size = l.length ∧ Ok n (a.put o.dst u) ∧ Ext [] w w2 ∧ (∀ t, envOf (a.put o.dst u) t = match wrt l t with | some j => (bif (listed.setIfInBounds i true).getD j false then vs.getD j undef else E t) | none => E t) ∧ ∀ k q, l[k]? = some q → (listed.setIfInBounds i true).getD k false = true → ∀ p ∈ preds q, (listed.setIfInBounds i true).getD p false = true := by
      rintro u w2 rfl hx2
      refine ⟨by simpa using hsz, hok.put _ _, hx.trans hx2, fun t => ?_, fun k q hq hk p hp => ?_⟩
      · rw [envOf_put hok _ (hdst o (List.mem_of_getElem? ho))]
        cases hd : o.dst with
        | none =>
          show envOf a t = _
          rw [henv t]
          cases hw : wrt l t with
          | none => rfl
          | some j =>
            have hji : i ≠ j := fun e => by
              obtain ⟨q, hq', hqd⟩ := wrt_some hw
              subst e
              rw [ho] at hq'; cases hq'
              rw [hd] at hqd; cases hqd
            simp only
            rw [W.getD_set, if_neg (fun h => hji h.1)]
        | some d =>
          have hwd := wrt_of huniq ho hd
          rw [updO]
          by_cases e : t = d
          · subst e
            rw [upd_same, hwd]
            simp only
            rw [W.getD_set, if_pos ⟨rfl, hsi⟩, cond_true, List.getD_eq_getElem?_getD, hv]; rfl
          · rw [upd_ne _ _ _ _ e, henv t]
            cases hw : wrt l t with
            | none => rfl
            | some j =>
              have hji : i ≠ j := fun e' => by
                obtain ⟨q, hq', hqd⟩ := wrt_some hw
                subst e'
                rw [ho] at hq'; cases hq'
                rw [hd] at hqd; cases hqd; exact e rfl
              simp only
              rw [W.getD_set, if_neg (fun h => hji h.1)]
      · rw [W.getD_set] at hk ⊢
        by_cases e : i = k
        · subst e
          rw [ho] at hq; cases hq
          split
          · rfl
          · exact hpre' p hp
        · rw [if_neg (fun h => e h.1)] at hk
          split
          · rfl
          · exact hcl k q hq hk p hp
    rcases (hrun i o v ho hv).2 with ⟨hs, hq⟩ | ⟨hs, rfl⟩
    · refine .inr ⟨fun tmps ht => (hgd tmps ai.tmps ht hei).trans (hs ai.tmps hei), ?_⟩
      rcases hq with hq | ⟨f, args, h1, h2⟩
      · have hov : OpV P o (envOf a) w' v := by
          have := hq w' hx
          unfold OpV at this ⊢
          rw [hexec]; exact this
        exact .inl ⟨v, w', hov.x, next v w' rfl (Ext.refl _ _)⟩
      · have hoc : OpC P o (envOf a) w' f args := by
          have := h1 w' hx
          unfold OpC at this ⊢
          rw [hexec]; exact this
        refine .inr (.inl ⟨f, args, hoc, Fnc.mono (h2 w' hx) ?_⟩)
        rintro u w2 ⟨hu, hx2⟩
        exact next u w2 hu hx2
    · exact .inl ⟨fun tmps ht => (hgd tmps ai.tmps ht hei).trans (hs ai.tmps hei), next undef w' rfl (Ext.refl _ _)⟩
  · intro a d hok he
    have no : ∀ i, (Array.replicate l.length false).getD i false = false := by
      intro i; rw [Array.getD_eq_getD_getElem?]
      by_cases hi : i < l.length <;> simp [hi]
    refine ⟨by simp, hok, Ext.drew w d, fun t => ?_, fun i o _ hi => by rw [no i] at hi; cases hi⟩
    rw [he]
    cases hw : wrt l t with
    | none => rfl
    | some j => simp only [no j, cond_false]

theorem quiet_any {P : Program} {ro : Option Nat} {n : Fsz} {id : Nat} {l : List Oper} {E : Env} {w : World} {Nn R : Env → World → Prop} {X : Nat → Env → World → Prop} (hm : P.follows .mixedOrders = true) (hB : regOk l.toArray = true)
    (h : LexT P n l.toArray w (fun E' => ∀ w', Ext [] w w' → Nn E' w') l E) : WPr ro P n (.region id l.toArray true) ⟨Nn, X, R⟩ E w := AnyWP.wp hm (quiet_anyV hB h)
section
variable {ro : Option Nat} {s : Sg} {w0 w w' : World} {st st' : Stt} {A : AE} {E : Env} {P : Program} {o : Oper}
theorem wl_rules {N : Nat} {DD : List Deferred} {ops : Array Oper} {Q : K} : QRules P ⟨N, DD⟩ ops w (fun l E => ∀ w', Ext [] w w' → WLr ro P ⟨N, DD⟩ ops Q l E w') where
  q := by
    intro o E v rest hs hd hq k w' hw
    rcases hq with hq | ⟨f, args, h1, h2⟩
    · exact WL.v hs hd (hq w' hw) (k w' hw)
    · refine WL.c hs hd (h1 w' hw) (Fnc.mono (h2 w' hw) ?_)
      rintro u w'' ⟨rfl, hx⟩
      exact k w'' (hw.trans hx)
  s := by
    intro o E rest hs hd k w' hw
    exact WL.s hs hd (k w' hw)
theorem lt_rules {N : Nat} {DD : List Deferred} {ops : Array Oper} {F : Env → Prop} : QRules P ⟨N, DD⟩ ops w (fun l E => LexT P ⟨N, DD⟩ ops w F l E) where
  q := fun hs hd hq k => LexT.q hs hd hq k
  s := fun hs hd k => LexT.s hs hd k
/-- a region of which nothing makes or writes -/
theorem quiet_okV {S : Sums} (hS : SumsOK P Γ S) {N : Nat} {DD : List Deferred} {l : List Oper} {Nn R : Env → World → Prop} {X : Nat → Env → World → Prop} {ps : Ps} {A' : AE} (h : evBlk P S N l.toArray st 400 none [] l A = some (ps, A')) (hp : ∀ p ∈ ps, p) (hd : regOk l.toArray = true) (hH : Hold Γ s w0 st w) (hE : EnvOK s A E)
    (hk : ∀ E' w', Ext [] w w' → EnvOK s A' E' → Nn E' w') : AnyWP P ro ⟨N, DD⟩ l ⟨Nn, X, R⟩ E w := by
  refine quiet_anyV hd ?_
  have := blk_ok hS hH (lt_rules (P := P) (w := w) (N := N) (DD := DD) (ops := l.toArray) (F := fun E' => ∀ w', Ext [] w w' → Nn E' w')) 400 none [] l A ps A' E [] h hp trivial hE (fun E' h1 _ => LexT.nil fun w' hw => hk E' w' hw h1)
  simpa using this
theorem quiet_ok (hm : P.follows .mixedOrders = true) {S : Sums} (hS : SumsOK P Γ S) {N id : Nat} {DD : List Deferred} {ops : Array Oper} {d : Bool} {Nn R : Env → World → Prop} {X : Nat → Env → World → Prop} {ps : Ps} {A' : AE} (h : evBlk P S N ops st 400 none [] ops.toList A = some (ps, A')) (hp : ∀ p ∈ ps, p) (hd : d = true → regOk ops = true) (hH : Hold Γ s w0 st w) (hE : EnvOK s A E)
    (hk : ∀ E' w', Ext [] w w' → EnvOK s A' E' → Nn E' w') : WPr ro P ⟨N, DD⟩ (.region id ops d) ⟨Nn, X, R⟩ E w := by
  obtain ⟨l⟩ := ops
  simp only [List.toList_toArray] at h
  cases d with
  | false =>
    refine WP.region ?_
    have := blk_ok hS hH (wl_rules (ro := ro) (P := P) (w := w) (N := N) (DD := DD) (ops := l.toArray) (Q := ⟨Nn, X, R⟩)) 400 none [] l A ps A' E [] h hp trivial hE (fun E' h1 _ w' hw => WL.nil (hk E' w' hw h1)) w (Ext.refl _ _)
    simpa using this
  | true =>
    refine quiet_any hm (hd rfl) ?_
    have := blk_ok hS hH (lt_rules (P := P) (w := w) (N := N) (DD := DD) (ops := l.toArray) (F := fun E' => ∀ w', Ext [] w w' → Nn E' w')) 400 none [] l A ps A' E [] h hp trivial hE (fun E' h1 _ => LexT.nil fun w' hw => hk E' w' hw h1)
    simpa using this
end
end Go.Proofs.YtnhfkdgambncfaaGreatDoor.Sv
