/- The evaluator is right: operations that read. Program-agnostic. -/
import Derived.Test.YtkcnljgennehaaaE3
namespace Go.Proofs.Ytkcnljgennehaaa.Ev
open Go.RowKit Go.Proofs.Ytkcnljgennehaaa.W

section
variable {ω : Nat → Value} {s : Sg} {w0 w : World} {st : Stt} {A : AE} {E : Env} {P : Program} {o : Oper}
theorem opd_ok {x : Operand} {a : AV} (h : opd A x = some a) (hE : EnvOK ω s A E) : Rel ω s a (ev E x) := by
  cases x with
  | tmp t => exact hE t a h
  | const v => simp only [opd, Option.some.injEq] at h; subst h; exact Rel.mkv v
  | global g => simp [opd] at h
  | func f => simp only [opd, Option.some.injEq] at h; subst h; exact Rel.mkv _
theorem opds_ok {l : List Operand} {as' : List AV} (h : opds A l = some as') (hE : EnvOK ω s A E) : RelL ω s as' (l.map (ev E)) := by
  induction l generalizing as' with
  | nil => simp only [opds, Option.some.injEq] at h; subst h; exact RelL.nil
  | cons x r ih =>
    simp only [opds] at h
    split at h
    · rename_i a ha
      split at h
      · rename_i l' hl; cases h; exact RelL.cons (opd_ok ha hE) (ih hl)
      · cases h
    · cases h
theorem parts_ok {l : List (Nat × Operand)} {L : List (Nat × AV)} (h : partsA A l = some L) (hE : EnvOK ω s A E) : L.map (·.1) = l.map (·.1) ∧ RelL ω s (L.map (·.2)) (l.map fun x => ev E x.2) := by
  induction l generalizing L with
  | nil => simp only [partsA, Option.some.injEq] at h; subst h; exact ⟨rfl, RelL.nil⟩
  | cons x r ih =>
    obtain ⟨i, x⟩ := x
    simp only [partsA] at h
    split at h
    · rename_i a ha
      split at h
      · rename_i l' hl; cases h; obtain ⟨h1, h2⟩ := ih hl; exact ⟨by simp [h1], RelL.cons (opd_ok ha hE) h2⟩
      · cases h
    · cases h
theorem szOf_sized {t n : Nat} (h : szOf P t = some n) : Sized P t n := by
  unfold szOf at h
  unfold Sized
  cases hi : P.info? t with
  | none => rw [hi] at h; cases h
  | some i => rw [hi] at h; simpa using h
theorem plain_of {t : Nat} {d : TypeDesc} (hu : P.underlying t = some d) (h : isAggD d = false) : Plain P t := by
  refine ⟨d, hu, ?_, ?_⟩
  · rintro fs rfl; simp [isAggD] at h
  · rintro n e rfl; simp [isAggD] at h
theorem aggr_of {t n : Nat} {d : TypeDesc} (hu : P.underlying t = some d) (h : isAggD d = true) (hs : Sized P t n) : Aggr P t n := by
  refine ⟨⟨d, hu, ?_⟩, hs⟩
  cases d <;> simp [isAggD] at h
  · exact .inr ⟨_, _, rfl⟩
  · exact .inl ⟨_, rfl⟩
/-- a part of a value that is cells -/
theorem part_ok {t off : Nat} {cs : List AV} {vs : List Value} {a : AV} (h : partA P t cs off = some a) (hr : RelL ω s cs vs) :
    (∃ v, Plain P t ∧ vs[off]? = some v ∧ Rel ω s a v) ∨ (∃ sz us, Aggr P t sz ∧ off + sz ≤ vs.length ∧ (vs.drop off).take sz = us ∧ us.length = sz ∧ Rel ω s a (.agg us.toArray)) := by
  unfold partA at h
  split at h
  · rename_i d sz hu hs
    cases hd : isAggD d with
    | true =>
      simp only [hd, cond_true] at h
      cases hb : Nat.ble (off + sz) cs.length with
      | false => simp [hb] at h
      | true =>
        simp only [hb, cond_true, Option.some.injEq] at h
        subst h
        have hle := ble_t hb
        rw [hr.len] at hle
        exact .inr ⟨sz, _, aggr_of hu hd (szOf_sized hs), hle, rfl, by rw [List.length_take, List.length_drop]; omega, Rel.mkAgg ((hr.drop off).take sz)⟩
    | false =>
      simp only [hd, cond_false] at h
      obtain ⟨v, h1, h2⟩ := hr.get h
      exact .inl ⟨v, plain_of hu hd, h1, h2⟩
  · cases h
theorem Hold.cells (h : Hold ω s w0 st w) {l : Nat} {b : AO} (hl : st.h.get l = some (.c b)) : ∃ bk c vs, s l = some (bk, c) ∧ RelL ω s b.cs vs ∧ At w bk 0 vs := by
  obtain ⟨bk, c, h1, h2⟩ := h.obj l (.c b) hl
  obtain ⟨cur, vs, h3, h4, h5, _⟩ := h2.cur
  refine ⟨bk, c, vs, h1, h4, fun j v hj => ?_⟩
  have hlt : j < vs.length := by
    rcases Nat.lt_or_ge j vs.length with hx | hx
    · exact hx
    · rw [List.getElem?_eq_none hx] at hj; cases hj
  have : cur[j]? = some v := by
    rw [← h5, List.getElem?_take, if_pos hlt] at hj
    simpa using hj
  simp [World.cell?, h3, this]
theorem At.part {b : Nat} {vs us : List Value} {off sz : Nat} (h : At w b 0 vs) (hu : (vs.drop off).take sz = us) : At w b off us := by
  intro j v hj
  subst hu
  rw [List.getElem?_take] at hj
  split at hj
  · rw [List.getElem?_drop] at hj
    have := h (off + j) v hj
    rwa [Nat.zero_add] at this
  · cases hj
theorem toList1 {α : Type} {xs : Array α} {x : α} (h : xs.toList = [x]) : xs = #[x] := by
  obtain ⟨l⟩ := xs; simp at h; subst h; rfl
theorem toList2 {α : Type} {xs : Array α} {x y : α} (h : xs.toList = [x, y]) : xs = #[x, y] := by
  obtain ⟨l⟩ := xs; simp at h; subst h; rfl
theorem natOf_ok {a : AV} {n : Nat} {v : Value} (h : natOf a = some n) (hr : Rel ω s a v) : ∃ k, v = .int k (n : Int) := by
  unfold natOf at h
  split at h
  · cases h; exact ⟨_, hr.v_of⟩
  · cases h
theorem bnd_ok {x : Option Operand} {d n : Nat} (h : bnd A x d = some n) (hE : EnvOK ω s A E) : (x = none → n = d) ∧ ∀ y, x = some y → ∃ k, ev E y = .int k (n : Int) := by
  cases x with
  | none => simp only [bnd, Option.some.injEq] at h; exact ⟨fun _ => h.symm, fun y hy => by cases hy⟩
  | some y =>
    refine ⟨fun e => (by cases e), fun y' hy' => ?_⟩
    cases hy'
    simp only [bnd] at h
    split at h
    · rename_i a ha; exact natOf_ok h (opd_ok ha hE)
    · cases h
/-- fills -/
theorem fill_ok (hω : OneW ω) (place : Nat → Option (Nat × Nat)) : ∀ (L : List (Nat × AV)) (M : List (Nat × Value)) (cs cs' : List AV) (vs : List Value), L.map (·.1) = M.map (·.1) → RelL ω s (L.map (·.2)) (M.map (·.2)) → RelL ω s cs vs → fillA place cs L = some cs' →
    ∃ us, Instr.fill place vs.toArray M = some us.toArray ∧ RelL ω s cs' us
  | [], [], cs, cs', vs, _, _, hc, h => by simp only [fillA, Option.some.injEq] at h; subst h; exact ⟨vs, by simp [Instr.fill], hc⟩
  | [], _ :: _, _, _, _, h1, _, _, _ => by simp at h1
  | _ :: _, [], _, _, _, h1, _, _, _ => by simp at h1
  | (i, a) :: L, (j, v) :: M, cs, cs', vs, h1, h2, hc, h => by
    simp only [List.map_cons, List.cons.injEq] at h1
    obtain ⟨e1, h1⟩ := h1
    subst e1
    obtain ⟨v', vs', hv, hvs, e2⟩ := h2.uncons
    simp only [List.map_cons, List.cons.injEq] at e2
    obtain ⟨e2, e3⟩ := e2
    subst e2
    simp only [fillA] at h
    split at h
    · cases h
    · rename_i off sz hp
      have hcl := hv.cells hω
      have hlen := hcl.len
      cases hb : (Nat.beq (cellsA a).length sz && Nat.ble (off + sz) cs.length) with
      | false => rw [hb] at h; cases h
      | true =>
        rw [hb] at h
        simp only [Bool.and_eq_true] at hb
        have hsz := beq_t hb.1
        have hle := ble_t hb.2
        rw [hc.len] at hle
        have hvl : v.cells.toList.length = sz := by rw [← hlen]; exact hsz
        have hvc : v.cells.size = sz := by rw [← hsz, hlen, Array.length_toList]
        obtain ⟨us, h3, h4⟩ := fill_ok hω place L M (spliceA cs off (cellsA a)) cs' (W.splice vs off v.cells.toList) h1 (e3 ▸ hvs) (hc.splice hcl off) h
        refine ⟨us, ?_, h4⟩
        simp only [Instr.fill, hp]
        have hno : ¬ (v.cells.size ≠ sz ∨ off + v.cells.size > vs.toArray.size) := by simp; omega
        rw [if_neg (by simpa using hno)]
        have hz : v.cells.zipIdx.foldl (fun (cs : Array Value) (x : Value × Nat) => cs.setIfInBounds (off + x.2) x.1) vs.toArray = (W.splice vs off v.cells.toList).toArray := by
          have := foldl_set v.cells.toList off 0 (vs.take off) ((vs.drop off).take sz) (vs.drop (off + sz)) (by rw [List.length_take]; omega) (by rw [hvl, List.length_take, List.length_drop]; omega)
          rw [show vs.take off ++ (vs.drop off).take sz ++ vs.drop (off + sz) = vs from by
            rw [List.append_assoc, ← List.drop_drop, List.take_append_drop, List.take_append_drop]] at this
          unfold W.splice
          rw [hvl, ← this, ← Array.foldl_toList]
          simp
        exact (congrArg (fun z => Instr.fill place z M) hz).trans h3
theorem partsM {l : List (Nat × Operand)} : (l.map fun x => (x.1, ev E x.2)).map (·.1) = l.map (·.1) ∧ (l.map fun x => (x.1, ev E x.2)).map (·.2) = l.map fun x => ev E x.2 := by
  constructor <;> simp [List.map_map, Function.comp_def]
/-- slices of slices, within three bounds -/
theorem V.slice3 {t : TypeId} {x y z : Operand} {lo : Option Operand} {e sz b k n c l h m : Nat} (ho : o.op = .slice t x lo (some y) (some z)) (ht : P.underlying t = some (.slice e)) (hs : Sized P e sz) (hx : ev E x = .slice (some ⟨b, k, none⟩) n c)
    (hlo : match lo with | none => l = 0 | some y => ∃ ik, ev E y = .int ik (l : Int)) (hhi : ∃ ik, ev E y = .int ik (h : Int)) (hm : ∃ ik, ev E z = .int ik (m : Int)) (h1 : l ≤ h) (h2 : h ≤ m) (h3 : m ≤ c) :
    OpV P o E w (.slice (some ⟨b, k + (if m = l then 0 else l * sz), none⟩) (h - l) (m - l)) := by
  have e1 : (l : Int) ≤ (h : Int) := by omega
  have e2 : (h : Int) ≤ (m : Int) := by omega
  have e3 : (m : Int) ≤ (c : Int) := by omega
  obtain ⟨ik, hi'⟩ := hhi
  obtain ⟨im, hm'⟩ := hm
  cases lo <;> simp only at hlo
  · subst hlo; simp [OpV, execOp, ho, hx, go_sem, Instr.sliceAt, underlying, ht, Instr.slice, Instr.sliceBounds, Instr.sliceBound, asIntOf, hi', hm', e2, e3, h1, h2, h3, size_of hs, addr_add]
  · obtain ⟨il, hl'⟩ := hlo; simp [OpV, execOp, ho, hx, go_sem, Instr.sliceAt, underlying, ht, Instr.slice, Instr.sliceBounds, Instr.sliceBound, asIntOf, hl', hi', hm', e1, e2, e3, h1, h2, h3, size_of hs, addr_add]
    split <;> rfl
/-- an element of an array, by its address -/
theorem V.indexArr {t : TypeId} {x i : Operand} {e sz b k len : Nat} {ik : IntKind} {m : Nat} (ho : o.op = .indexAddr t x i) (ht : P.underlying t = some (.array len e)) (hs : Sized P e sz)
    (hx : ev E x = .pointer (some ⟨b, k, none⟩)) (hi : ev E i = .int ik (m : Int)) (hm : m < len) : OpV P o E w (.pointer (some ⟨b, k + m * sz, none⟩)) := by
  simp [OpV, execOp, ho, hx, hi, go_sem, Instr.indexAt, underlying, ht, asIntOf, Instr.sureAddr, size_of hs, addr_add, hm]
/-- a slice of an array, by its address -/
theorem V.sliceArr {t : TypeId} {x : Operand} {lo hi mx : Option Operand} {e sz b k len l h m : Nat} (ho : o.op = .slice t x lo hi mx) (ht : P.underlying t = some (.array len e)) (hs : Sized P e sz) (hx : ev E x = .pointer (some ⟨b, k, none⟩))
    (hlo : match lo with | none => l = 0 | some y => ∃ ik, ev E y = .int ik (l : Int)) (hhi : match hi with | none => h = len | some y => ∃ ik, ev E y = .int ik (h : Int)) (hmx : match mx with | none => m = len | some y => ∃ ik, ev E y = .int ik (m : Int))
    (hq : mx.isSome = true → hi.isSome = true) (h1 : l ≤ h) (h2 : h ≤ m) (h3 : m ≤ len) :
    OpV P o E w (.slice (some ⟨b, k + (if m = l then 0 else l * sz), none⟩) (h - l) (m - l)) := by
  have e1 : (l : Int) ≤ (h : Int) := by omega
  have e2 : (h : Int) ≤ (m : Int) := by omega
  have e3 : (m : Int) ≤ (len : Int) := by omega
  have e4 : h ≤ len := by omega
  have e5 : (h : Int) ≤ (len : Int) := by omega
  have fin : ∀ (q : Nat), (if m = l then (⟨b, k, none⟩ : Addr) else ⟨b, k + l * sz, none⟩) = ⟨b, k + (if m = l then 0 else l * sz), none⟩ := by intro _; split <;> simp
  cases mx with
  | none =>
    simp only at hmx
    subst hmx
    cases lo <;> cases hi <;> simp only at hlo hhi
    · subst hlo; subst hhi; simp [OpV, execOp, ho, hx, go_sem, Instr.sliceAt, underlying, ht, Instr.sliceBounds, Instr.sureAddr, size_of hs, addr_add]
    · obtain ⟨ik, hi'⟩ := hhi; subst hlo; simp [OpV, execOp, ho, hx, go_sem, Instr.sliceAt, underlying, ht, Instr.sliceBounds, Instr.sliceBound, asIntOf, hi', Instr.sureAddr, size_of hs, addr_add, e2, h2]
    · obtain ⟨ik, hl'⟩ := hlo; subst hhi; simp [OpV, execOp, ho, hx, go_sem, Instr.sliceAt, underlying, ht, Instr.sliceBounds, Instr.sliceBound, asIntOf, hl', Instr.sureAddr, size_of hs, addr_add, e1, h1]
      exact fin 0
    · obtain ⟨ik, hl'⟩ := hlo; obtain ⟨ik', hi'⟩ := hhi
      simp [OpV, execOp, ho, hx, go_sem, Instr.sliceAt, underlying, ht, Instr.sliceBounds, Instr.sliceBound, asIntOf, hi', hl', Instr.sureAddr, size_of hs, addr_add, e1, e2, h1, h2]
      exact fin 0
  | some z =>
    obtain ⟨im, hm'⟩ := hmx
    cases hi with
    | none => simp at hq
    | some y =>
      obtain ⟨ik, hi'⟩ := hhi
      cases lo <;> simp only at hlo
      · subst hlo; simp [OpV, execOp, ho, hx, go_sem, Instr.sliceAt, underlying, ht, Instr.sliceBounds, Instr.sliceBound, asIntOf, hi', hm', Instr.sureAddr, size_of hs, addr_add, e2, e3, h2, h3]
      · obtain ⟨il, hl'⟩ := hlo; simp [OpV, execOp, ho, hx, go_sem, Instr.sliceAt, underlying, ht, Instr.sliceBounds, Instr.sliceBound, asIntOf, hl', hi', hm', Instr.sureAddr, size_of hs, addr_add, e1, e2, e3, h1, h2, h3]
        exact fin 0
theorem fits_ok (hH : Hold ω s w0 st w) {sz l c n : Nat} {ex : Bool} (h : fitsA st sz l c n ex = true) {b cp : Nat} (hb : s l = some (b, cp)) : n ≤ (bif ex then c else cp - c) := by
  cases ex with
  | true => simpa [fitsA] using h
  | false =>
    simp only [fitsA, cond_false] at h ⊢
    split at h
    · rename_i o hl
      simp only [Bool.and_eq_true] at h
      obtain ⟨⟨⟨h1, h2⟩, h3⟩, h4⟩ := h
      obtain ⟨b', c', h5, h6⟩ := hH.obj l (.c o) hl
      rw [hb] at h5; cases h5
      obtain ⟨cur, vs, _, hr, _, _, h7⟩ := h6.cur
      obtain ⟨nn, h8, h9, _⟩ := h7 h1
      have e := beq_t h3; have e4 := ble_t h4; have e2 := ble_t h2
      rw [hr.len, h8, e] at e4
      have : c + n ≤ nn := Nat.le_of_mul_le_mul_right e4 e2
      omega
    · cases h
end
end Go.Proofs.Ytkcnljgennehaaa.Ev
