/- The symbolic evaluator is right: operations that read. Program-agnostic. -/
import Derived.Test.YtnhfkdgambncfaaGreatDoorQS1x
import Derived.Laws.BytesString
import Derived.Laws.BytesArg
import Derived.MapKept
import Derived.Maps.RangeRun
import Derived.Laws.StructEq
set_option linter.unusedVariables false
set_option linter.unusedSimpArgs false
set_option linter.unusedSectionVars false
namespace Go.Proofs.YtnhfkdgambncfaaGreatDoor.Sv
open Go.RowKit Go.Proofs.YtnhfkdgambncfaaGreatDoor.W
variable {Γ : Gl}

section
variable {s : Sg} {w0 w : World} {st : Stt} {A : AE} {E : Env} {P : Program} {o : Oper}
/-- the operation reads v, in this world and in all that grow out of it -/
def Rds1 (P : Program) (o : Oper) (E : Env) (w : World) (s : Sg) (a : AV) : Prop := ∃ v, Rel s a v ∧ ∀ w', Ext [] w w' → OpV P o E w' v
theorem opd_ok {x : Operand} {a : AV} (h : opd A x = some a) (hE : EnvOK s A E) : Rel s a (ev E x) := by
  cases x with
  | tmp t => exact hE t a h
  | const v => simp only [opd, Option.some.injEq] at h; subst h; exact Rel.mkv v
  | global g => simp [opd] at h
  | func f => simp only [opd, Option.some.injEq] at h; subst h; exact Rel.mkv _
theorem opd_v {x : Operand} {v : Value} (h : opd A x = some (.v v)) (hE : EnvOK s A E) : ev E x = v := (opd_ok h hE).v_of
theorem opds_ok {l : List Operand} {as' : List AV} (h : opds A l = some as') (hE : EnvOK s A E) : RelL s as' (l.map (ev E)) := by
  induction l generalizing as' with
  | nil => simp only [opds, Option.some.injEq] at h; subst h; exact RelL.nil
  | cons x r ih =>
    simp only [opds] at h
    split at h
    · rename_i a ha
      split at h
      · rename_i l' hl; cases h; exact RelL.cons (opd_ok ha hE) (ih hl)
      · cases h
    · cases h
theorem parts_ok {l : List (Nat × Operand)} {L : List (Nat × AV)} (h : partsA A l = some L) (hE : EnvOK s A E) : L.map (·.1) = l.map (·.1) ∧ RelL s (L.map (·.2)) (l.map fun x => ev E x.2) := by
  induction l generalizing L with
  | nil => simp only [partsA, Option.some.injEq] at h; subst h; exact ⟨rfl, RelL.nil⟩
  | cons x r ih =>
    obtain ⟨i, x⟩ := x
    simp only [partsA] at h
    split at h
    · rename_i a ha
      split at h
      · rename_i l' hl; cases h; obtain ⟨h1, h2⟩ := ih hl; exact ⟨by simp [h1], RelL.cons (opd_ok ha hE) h2⟩
      · cases h
    · cases h
theorem szOf_sized {t n : Nat} (h : szOf P t = some n) : Sized P t n := by
  unfold szOf at h
  unfold Sized
  cases hi : P.info? t with
  | none => rw [hi] at h; cases h
  | some i => rw [hi] at h; simpa using h
theorem plain_of {t : Nat} {d : TypeDesc} (hu : P.underlying t = some d) (h : isAggD d = false) : Plain P t := by
  refine ⟨d, hu, ?_, ?_⟩
  · rintro fs rfl; simp [isAggD] at h
  · rintro n e rfl; simp [isAggD] at h
theorem aggr_of {t n : Nat} {d : TypeDesc} (hu : P.underlying t = some d) (h : isAggD d = true) (hs : Sized P t n) : Aggr P t n := by
  refine ⟨⟨d, hu, ?_⟩, hs⟩
  cases d <;> simp [isAggD] at h
  · exact .inr ⟨_, _, rfl⟩
  · exact .inl ⟨_, rfl⟩
theorem part_ok {t off : Nat} {cs : List AV} {vs : List Value} {a : AV} (h : partA P t cs off = some a) (hr : RelL s cs vs) :
    (∃ v, Plain P t ∧ vs[off]? = some v ∧ Rel s a v) ∨ (∃ sz us, Aggr P t sz ∧ off + sz ≤ vs.length ∧ (vs.drop off).take sz = us ∧ us.length = sz ∧ Rel s a (.agg us.toArray)) := by
  unfold partA at h
  split at h
  · rename_i d sz hu hs
    cases hd : isAggD d with
    | true =>
      simp only [hd, cond_true] at h
      cases hb : Nat.ble (off + sz) cs.length with
      | false => simp [hb] at h
      | true =>
        simp only [hb, cond_true, Option.some.injEq] at h
        subst h
        have hle := ble_t hb
        rw [hr.len] at hle
        exact .inr ⟨sz, _, aggr_of hu hd (szOf_sized hs), hle, rfl, by rw [List.length_take, List.length_drop]; omega, by simp only [Rel]; exact ⟨_, (hr.drop off).take sz, rfl⟩⟩
    | false =>
      simp only [hd, cond_false] at h
      obtain ⟨v, h1, h2⟩ := hr.get h
      exact .inl ⟨v, plain_of hu hd, h1, h2⟩
  · cases h
theorem toList1 {α : Type} {xs : Array α} {x : α} (h : xs.toList = [x]) : xs = #[x] := by
  obtain ⟨l⟩ := xs; simp at h; subst h; rfl
theorem toList2 {α : Type} {xs : Array α} {x y : α} (h : xs.toList = [x, y]) : xs = #[x, y] := by
  obtain ⟨l⟩ := xs; simp at h; subst h; rfl
theorem natOf_ok {a : AV} {n : Nat} {v : Value} (h : natOf a = some n) (hr : Rel s a v) : ∃ k, v = .int k (n : Int) := by
  unfold natOf at h
  split at h
  · cases h; exact ⟨_, hr.v_of⟩
  · cases h
theorem bndN_ok {x : Option Operand} {d n : Nat} (h : bndN A x d = some n) (hE : EnvOK s A E) : BndIs E x d n := by
  cases x with
  | none => simp only [bndN, Option.some.injEq] at h; exact .inl ⟨rfl, h.symm⟩
  | some y =>
    simp only [bndN] at h
    split at h
    · rename_i a ha
      obtain ⟨k, hk⟩ := natOf_ok h (opd_ok ha hE)
      exact .inr ⟨y, k, rfl, hk⟩
    · cases h
theorem bnd_ok {x : Option Operand} {d : Nat} {n : Int} (h : bnd A x d = some n) (hE : EnvOK s A E) (h0 : x ≠ none → 0 ≤ n) : BndIs E x d n.toNat ∧ (x = none → n = d) ∧ 0 ≤ n := by
  cases x with
  | none => simp only [bnd, Option.some.injEq] at h; subst h; exact ⟨.inl ⟨rfl, by simp⟩, fun _ => rfl, Int.natCast_nonneg _⟩
  | some y =>
    have h0 := h0 (by simp)
    simp only [bnd] at h
    split at h
    · rename_i k m ha
      cases h
      have := opd_v ha hE
      exact ⟨.inr ⟨y, k, rfl, by rw [this, Int.toNat_of_nonneg h0]⟩, (fun e => by cases e), h0⟩
    · cases h
theorem fill_ok (place : Nat → Option (Nat × Nat)) : ∀ (L : List (Nat × AV)) (M : List (Nat × Value)) (cs cs' : List AV) (vs : List Value), L.map (·.1) = M.map (·.1) → RelL s (L.map (·.2)) (M.map (·.2)) → RelL s cs vs → fillA place cs L = some cs' →
    ∃ us, Instr.fill place vs.toArray M = some us.toArray ∧ RelL s cs' us
  | [], [], cs, cs', vs, _, _, hc, h => by simp only [fillA, Option.some.injEq] at h; subst h; exact ⟨vs, by simp [Instr.fill], hc⟩
  | [], _ :: _, _, _, _, h1, _, _, _ => by simp at h1
  | _ :: _, [], _, _, _, h1, _, _, _ => by simp at h1
  | (i, a) :: L, (j, v) :: M, cs, cs', vs, h1, h2, hc, h => by
    simp only [List.map_cons, List.cons.injEq] at h1
    obtain ⟨e1, h1⟩ := h1
    subst e1
    obtain ⟨v', vs', hv, hvs, e2⟩ := h2.uncons
    simp only [List.map_cons, List.cons.injEq] at e2
    obtain ⟨e2, e3⟩ := e2
    subst e2
    simp only [fillA] at h
    split at h
    · cases h
    · rename_i off sz hp
      have hcl := hv.cells
      have hlen := hcl.len
      cases hb : (Nat.beq (cellsA a).length sz && Nat.ble (off + sz) cs.length) with
      | false => rw [hb] at h; cases h
      | true =>
        rw [hb] at h
        simp only [Bool.and_eq_true] at hb
        have hsz := beq_t hb.1
        have hle := ble_t hb.2
        rw [hc.len] at hle
        have hvl : v.cells.toList.length = sz := by rw [← hlen]; exact hsz
        have hvc : v.cells.size = sz := by rw [← hsz, hlen, Array.length_toList]
        obtain ⟨us, h3, h4⟩ := fill_ok place L M (spliceA cs off (cellsA a)) cs' (W.splice vs off v.cells.toList) h1 (e3 ▸ hvs) (hc.splice hcl off) h
        refine ⟨us, ?_, h4⟩
        simp only [Instr.fill, hp]
        have hno : ¬ (v.cells.size ≠ sz ∨ off + v.cells.size > vs.toArray.size) := by simp; omega
        rw [if_neg (by simpa using hno)]
        have hz : v.cells.zipIdx.foldl (fun (cs : Array Value) (x : Value × Nat) => cs.setIfInBounds (off + x.2) x.1) vs.toArray = (W.splice vs off v.cells.toList).toArray := by
          have := foldl_set v.cells.toList off 0 (vs.take off) ((vs.drop off).take sz) (vs.drop (off + sz)) (by rw [List.length_take]; omega) (by rw [hvl, List.length_take, List.length_drop]; omega)
          rw [show vs.take off ++ (vs.drop off).take sz ++ vs.drop (off + sz) = vs from by
            rw [List.append_assoc, ← List.drop_drop, List.take_append_drop, List.take_append_drop]] at this
          unfold W.splice
          rw [hvl, ← this, ← Array.foldl_toList]
          simp
        exact (congrArg (fun z => Instr.fill place z M) hz).trans h3
theorem partsM {l : List (Nat × Operand)} : (l.map fun x => (x.1, ev E x.2)).map (·.1) = l.map (·.1) ∧ (l.map fun x => (x.1, ev E x.2)).map (·.2) = l.map fun x => ev E x.2 := by
  constructor <;> simp [List.map_map, Function.comp_def]

/-! ### Data as cells -/
mutual
theorem cellsD_ok {F : Fz} {m : Bool} (hF : s.H m = F) : ∀ (t : DT) (d : D) (cs : List Value), Rd F t d cs → RelL s (cellsD m t d) cs
  | .i k, d, cs, h => by simp only [Rd] at h; subst h; simp only [cellsD]; exact RelL.cons (Rel.mkv _) RelL.nil
  | .b, d, cs, h => by simp only [Rd] at h; subst h; simp only [cellsD]; exact RelL.cons (Rel.mkv _) RelL.nil
  | .s, d, cs, h => by simp only [Rd] at h; subst h; simp only [cellsD]; exact RelL.cons (Rel.mkv _) RelL.nil
  | .l e, d, cs, h => by
    simp only [Rd] at h
    obtain ⟨v, rfl, hv⟩ := h
    simp only [cellsD]
    exact RelL.cons (by simp only [Rel, hF]; exact hv) RelL.nil
  | .t fs, d, cs, h => by simp only [Rd] at h; simp only [cellsD]; exact cellsDs_ok hF fs d 0 d.tup cs (fun i => by rw [Nat.zero_add]; rfl) h
theorem cellsDs_ok {F : Fz} {m : Bool} (hF : s.H m = F) : ∀ (ts : List DT) (d : D) (j : Nat) (ds : List D) (cs : List Value), (∀ i, nthD ds i = d.fld (j + i)) → Rds F ts ds cs → RelL s (cellsDs m ts d j) cs
  | [], d, j, ds, cs, hd, h => by simp only [Rds] at h; subst h; simp only [cellsDs]; exact RelL.nil
  | t :: r, d, j, ds, cs, hd, h => by
    simp only [Rds] at h
    obtain ⟨us, vs, rfl, h2, h3⟩ := h
    simp only [cellsDs]
    have e0 := hd 0
    rw [Nat.add_zero] at e0
    rw [e0] at h2
    exact (cellsD_ok hF t _ us h2).append (cellsDs_ok hF r d (j + 1) _ vs (fun i => by rw [nthD_tail, hd (i + 1)]; congr 1; omega) h3)
end
theorem oneD_ok {m : Bool} {t : DT} {d : D} {cs : List Value} (h : Rd (s.H m) t d cs) : (∃ fs, t = .t fs ∧ Rel s (oneD m t d) (.agg cs.toArray)) ∨ ((∀ fs, t ≠ .t fs) ∧ ∃ v, cs = [v] ∧ Rel s (oneD m t d) v) := by
  have hc := cellsD_ok rfl t d cs h
  cases t with
  | t fs => exact .inl ⟨fs, rfl, by simp only [oneD, Rel]; exact ⟨cs, hc, rfl⟩⟩
  | i k => simp only [Rd] at h; subst h; exact .inr ⟨by simp, _, rfl, by simp only [oneD, cellsD]; exact Rel.mkv _⟩
  | b => simp only [Rd] at h; subst h; exact .inr ⟨by simp, _, rfl, by simp only [oneD, cellsD]; exact Rel.mkv _⟩
  | s => simp only [Rd] at h; subst h; exact .inr ⟨by simp, _, rfl, by simp only [oneD, cellsD]; exact Rel.mkv _⟩
  | l e =>
    simp only [Rd] at h
    obtain ⟨v, rfl, hv⟩ := h
    exact .inr ⟨by simp, _, rfl, by simp only [oneD, cellsD, Rel]; exact hv⟩
theorem fieldD_ok {F : Fz} : ∀ (ts : List DT) (j off0 : Nat) (ds : List D) (cs : List Value) (off : Nat) (dt : DT), fieldD ts j off0 = some (off, dt) → Rds F ts ds cs → ∃ us vs rs, cs = us ++ (vs ++ rs) ∧ off = off0 + us.length ∧ Rd F dt (nthD ds j) vs
  | [], _, _, _, _, _, _, h, _ => by simp [fieldD] at h
  | t :: r, 0, off0, ds, cs, off, dt, h, hr => by
    simp only [fieldD, Option.some.injEq, Prod.mk.injEq] at h
    obtain ⟨rfl, rfl⟩ := h
    simp only [Rds] at hr
    obtain ⟨us, vs, rfl, h2, h3⟩ := hr
    exact ⟨[], us, vs, rfl, rfl, h2⟩
  | t :: r, j + 1, off0, ds, cs, off, dt, h, hr => by
    simp only [fieldD] at h
    simp only [Rds] at hr
    obtain ⟨us, vs, rfl, h2, h3⟩ := hr
    obtain ⟨us', vs', rs', rfl, h5, h6⟩ := fieldD_ok r j _ _ _ _ _ h h3
    refine ⟨us ++ us', vs', rs', by simp, ?_, ?_⟩
    · rw [h5, List.length_append, Rd.len _ _ _ h2]; omega
    · rw [nthD_tail] at h6; exact h6
theorem FAt.at {F : Fz} {b k : Nat} {cs : List Value} (h : FAt F b k cs) (hF : ∀ b o, F b = some o → w.heap[b]? = some o) : At w b k cs := by
  obtain ⟨arr, et, fz, h1, h2⟩ := h
  intro j v hj
  have := hF _ _ h1
  simp [World.cell?, this, h2 j v hj]
theorem Hold.H (h : Hold Γ s w0 st w) (m : Bool) : ∀ b o, s.H m b = some o → w.heap[b]? = some o := by
  cases m
  · exact h.frz
  · exact fun b o hb => h.frz b o (h.gf b o hb)
/-- data that stand at an address are loaded -/
theorem load_data {t : TypeId} {x : Operand} {m : Bool} {dt : DT} {d : D} {a : AV} {b k : Nat} {cs : List Value} (ho : o.op = .load t x) (hx : ev E x = .pointer (some ⟨b, k, none⟩)) (hat : ∀ w', Ext [] w w' → At w' b k cs) (hr : Rd (s.H m) dt d cs) (h : readD P t m dt d = some a) : Rds1 P o E w s a := by
  unfold readD at h
  split at h
  · rename_i u sz hu hsz
    cases hc : (Nat.beq sz dt.sz && (dt.isT == isAggD u)) with
    | false => rw [hc] at h; cases h
    | true =>
      rw [hc] at h
      cases h
      simp only [Bool.and_eq_true, beq_iff_eq] at hc
      have hlen := Rd.len _ _ _ hr
      rcases oneD_ok hr with ⟨fs, rfl, hrel⟩ | ⟨hne, v, rfl, hrel⟩
      · exact ⟨_, hrel, fun w' hw => V.loadAgg ho (aggr_of hu hc.2.symm (szOf_sized hsz)) hx (hat w' hw) (by rw [hlen]; exact (beq_t hc.1).symm)⟩
      · refine ⟨v, hrel, fun w' hw => V.load ho (plain_of hu ?_) hx (by have := hat w' hw 0 v rfl; simpa using this)⟩
        have h2 := hc.2.symm
        cases dt with
        | t fs => exact absurd rfl (hne fs)
        | _ => simpa [DT.isT] using h2
  · cases h
/-- an element of data -/
theorem Slc.elem {F : Fz} {sz : Nat} {R : D → List Value → Prop} {xs : List D} {v : Value} (h : Slc F sz R xs v) {j : Nat} (hj : j < xs.length) : ∃ b k c cs, v = .slice (some ⟨b, k, none⟩) xs.length c ∧ cs.length = sz ∧ FAt F b (k + j * sz) cs ∧ R (nthD xs j) cs := by
  rcases h with ⟨rfl, _⟩ | ⟨b, k, c, hv, _, _, hq⟩
  · simp at hj
  · obtain ⟨cs, h1, h2, h3⟩ := hq j _ (get_nthD hj)
    exact ⟨b, k, c, cs, hv, h1, h2, h3⟩
/-- the path to a part, in the cells -/
theorem Hold.row (h : Hold Γ s w0 st w) {l : Nat} {et : TypeId} {t : DT} {xs : List D} (hl : st.h.get l = some (.q et t xs)) : ∃ p, s.f l = some p ∧ xs.length = p.m ∧ p.m ≤ p.c ∧ p.c ≤ maxLen ∧ (p.c ≠ 0 → ∃ cur, w.heap[p.b]? = some (.cells cur et (0, 0)) ∧ p.c * t.sz ≤ cur.size ∧ (∀ u ∈ cur.toList, u.oneCell' = true) ∧ ∀ i x, xs[i]? = some x → Rd s.G t x ((cur.toList.drop (i * t.sz)).take t.sz)) := by
  obtain ⟨p, h1, h2⟩ := h.obj l _ hl
  exact ⟨p, h1, h2.cur⟩
theorem path_ok {F : Fz} : ∀ (js : List Nat) (t : DT) (off0 off : Nat) (dt : DT) (d : D) (cs : List Value), pathD t js off0 = some (off, dt) → Rd F t d cs → ∃ us vs rs, cs = us ++ (vs ++ rs) ∧ off = off0 + us.length ∧ Rd F dt (d.at js) vs ∧ ∀ x ys, Rd F dt x ys → Rd F t (d.put js x) (us ++ (ys ++ rs)) := by
  intro js
  induction js with
  | nil =>
    intro t off0 off dt d cs h hr
    have h' : (off0, t) = (off, dt) := by cases t <;> simpa [pathD] using h
    cases h'
    exact ⟨[], cs, [], by simp, rfl, hr, fun x ys hx => by simpa [D.put] using hx⟩
  | cons j r ih =>
    intro t off0 off dt d cs h hr
    cases t with
    | t fs =>
      simp only [pathD] at h
      split at h
      · rename_i off' t' hf
        simp only [Rd] at hr
        have key : ∀ (ts : List DT) (j off0 : Nat) (ds : List D) (cs : List Value), fieldD ts j off0 = some (off', t') → Rds F ts ds cs → ∃ us vs rs, cs = us ++ (vs ++ rs) ∧ off' = off0 + us.length ∧ Rd F t' (nthD ds j) vs ∧ ∀ x ys, Rd F t' x ys → Rds F ts (setD ds j x) (us ++ (ys ++ rs)) := by
          intro ts
          induction ts with
          | nil => intro j off0 ds cs h; simp [fieldD] at h
          | cons t1 ts iht =>
            intro j off0 ds cs h hr
            simp only [Rds] at hr
            obtain ⟨us, vs, rfl, h2, h3⟩ := hr
            cases j with
            | zero =>
              simp only [fieldD, Option.some.injEq, Prod.mk.injEq] at h
              obtain ⟨rfl, rfl⟩ := h
              refine ⟨[], us, vs, rfl, rfl, h2, fun x ys hx => ?_⟩
              simp only [Rds, List.nil_append]
              refine ⟨ys, vs, rfl, ?_, ?_⟩
              · cases ds <;> simpa [setD, nthD] using hx
              · cases ds <;> simpa [setD, tailD] using h3
            | succ j =>
              simp only [fieldD] at h
              obtain ⟨us', vs', rs', rfl, h5, h6, h7⟩ := iht j _ _ _ h h3
              refine ⟨us ++ us', vs', rs', by simp, ?_, ?_, fun x ys hx => ?_⟩
              · rw [h5, List.length_append, Rd.len _ _ _ h2]; omega
              · rw [nthD_tail] at h6; exact h6
              · simp only [Rds]
                refine ⟨us, us' ++ (ys ++ rs'), by simp, ?_, ?_⟩
                · cases ds <;> simpa [setD, nthD] using h2
                · have := h7 x ys hx
                  cases ds <;> simpa [setD, tailD] using this
        obtain ⟨us, vs, rs, rfl, h5, h6, h7⟩ := key fs j off0 _ _ hf hr
        obtain ⟨us', vs', rs', rfl, h8, h9, h10⟩ := ih t' off' off dt _ _ h h6
        refine ⟨us ++ us', vs', rs' ++ rs, by simp, by rw [h8, h5, List.length_append]; omega, h9, fun x ys hx => ?_⟩
        have := h7 _ _ (h10 x ys hx)
        simp only [D.put, Rd]
        rw [show (us ++ us') ++ (ys ++ (rs' ++ rs)) = us ++ ((us' ++ (ys ++ rs')) ++ rs) from by simp]
        exact this
      · cases h
    | _ => simp [pathD] at h
theorem pathIs_ok {rt dt : DT} {js : List Nat} {off : Nat} (h : pathIs rt js off dt = true) : pathD rt js 0 = some (off, dt) := by
  unfold pathIs at h
  split at h
  · rename_i o' d' e
    simp only [Bool.and_eq_true] at h
    rw [e, beq_t h.1, DT.beq_ok h.2]
  · cases h
theorem int_nat {n : Int} (h : 0 ≤ n) : n = (n.toNat : Int) := (Int.toNat_of_nonneg h).symm
end
end Go.Proofs.YtnhfkdgambncfaaGreatDoor.Sv
namespace Go.Proofs.YtnhfkdgambncfaaGreatDoor.Sv
open Go.RowKit Go.Proofs.YtnhfkdgambncfaaGreatDoor.W
variable {Γ : Gl}

section
variable {s : Sg} {w0 w : World} {st : Stt} {A : AE} {E : Env} {P : Program} {o : Oper}
theorem pure0_ok {x : Option AV} {ps : Ps} {a : AV} (h : pure0 x = some (ps, a)) : x = some a := by
  cases x with
  | none => simp [pure0] at h
  | some b => simp only [pure0, Option.some.injEq, Prod.mk.injEq] at h; rw [h.2]
theorem Rds1.v {v : Value} (h : ∀ w', OpV P o E w' v) : Rds1 P o E w s (.v v) := ⟨v, Rel.mkv v, fun w' _ => h w'⟩
theorem Rds1.v' {v : Value} (h : ∀ w', Ext [] w w' → OpV P o E w' v) : Rds1 P o E w s (.v v) := ⟨v, Rel.mkv v, h⟩
theorem rd_load {t : TypeId} {x : Operand} {p a : AV} (ho : o.op = .load t x) (hH : Hold Γ s w0 st w) (hE : EnvOK s A E) (hx : opd A x = some p) (h : evLoad P st t p = some a) : Rds1 P o E w s a := by
  have hr := opd_ok hx hE
  cases p with
  | pe l i sz off js dt =>
    simp only [evLoad] at h
    split at h
    case h_2 => cases h
    rename_i et rt xs hl
    cases hc : (Nat.beq sz rt.sz && pathIs rt js off dt) with
    | false => rw [hc] at h; cases h
    | true =>
    rw [hc] at h
    simp only [cond_true] at h
    simp only [Bool.and_eq_true] at hc
    have hsz := beq_t hc.1
    have hpa := pathIs_ok hc.2
    simp only [Rel] at hr
    obtain ⟨p, hp, hi, hmc, he⟩ := hr
    obtain ⟨p', hp', g1, g2, g3, g4⟩ := hH.row hl
    rw [hp] at hp'; cases hp'
    obtain ⟨cur, g5, g6, g7, g8⟩ := g4 (by omega)
    have hrow := g8 i _ (get_nthD (by omega))
    obtain ⟨us, vs, rs, hcs, hoff, hrd, _⟩ := path_ok js rt 0 off dt _ _ hpa hrow
    refine load_data (m := true) ho he (fun w' hw => ?_) hrd h
    have g5' : w'.heap[p.b]? = some (.cells cur et (0, 0)) := Ext.keepB hw g5 (by simp)
    intro j v hj
    have hlt : j < vs.length := (List.getElem?_eq_some_iff.1 hj).1
    have h1 : ((cur.toList.drop (i * rt.sz)).take rt.sz)[us.length + j]? = some v := by
      rw [hcs, List.getElem?_append_right (by omega), Nat.add_sub_cancel_left, List.getElem?_append_left hlt]; exact hj
    rw [List.getElem?_take] at h1
    split at h1
    · rw [List.getElem?_drop] at h1
      have h2 : cur[i * sz + off + j]? = some v := by
        rw [show i * sz + off + j = i * rt.sz + (us.length + j) from by rw [hsz, hoff]; omega]
        simpa using h1
      simp [World.cell?, g5', h2]
    · cases h1
  | ptr l k =>
      simp only [evLoad, evRead] at h
      split at h
      case h_2 => cases h
      rename_i et cs hl
      obtain ⟨p, h1, h2⟩ := hH.obj l _ hl
      obtain ⟨vs, h3, h4⟩ := h2.cur
      simp only [Rel] at hr
      obtain ⟨p', h5, he⟩ := hr
      rw [h1] at h5; cases h5
      have hat : ∀ w', Ext [] w w' → Box w' p.b et vs := fun w' hw => Ext.keepB hw h3 (by simp)
      rcases part_ok h h4 with ⟨v, hp, hv, hrel⟩ | ⟨sz, us, hp, hle, hus, hlen, hrel⟩
      · exact ⟨v, hrel, fun w' hw => V.load ho hp he ((hat w' hw).cell hv)⟩
      · refine ⟨_, hrel, fun w' hw => V.loadAgg ho hp he ?_ hlen⟩
        have := At.seg (hat w' hw) k sz
        rw [hus] at this; exact this
  | pd m dt d =>
      simp only [evLoad, evRead] at h
      simp only [Rel] at hr
      obtain ⟨b, k, cs, he, hf, hrd⟩ := hr
      exact load_data ho he (fun w' hw => hf.at ((hH.grow hw).H m)) hrd h
  | _ => simp [evLoad, evRead] at h
theorem rd_field {t : TypeId} {x : Operand} {i : Nat} {a : AV} {cs : List AV} {fs : Array Field} {f : Field} (ho : o.op = .field t x i) (hE : EnvOK s A E) (hx : opd A x = some (.agg cs)) (hu : P.underlying t = some (.struct fs)) (hf : fs[i]? = some f) (h : partA P f.type cs f.offset = some a) : Rds1 P o E w s a := by
  have hr := opd_ok hx hE
  simp only [Rel] at hr
  obtain ⟨vs, hr, he⟩ := hr
  rcases part_ok h hr with ⟨v, hp, hv, hrel⟩ | ⟨sz, us, hp, hle, hus, hlen, hrel⟩
  · refine ⟨v, hrel, fun w' _ => ?_⟩
    simp [OpV, execOp, ho, he, go_sem, Instr.field, underlying, hu, hf, asAgg, part, is_agg_no hp, hv]
  · refine ⟨_, hrel, fun w' _ => ?_⟩
    have : vs.toArray.extract f.offset (f.offset + sz) = us.toArray := by
      subst hus; simp [List.extract_eq_take_drop]
    simp [OpV, execOp, ho, he, go_sem, Instr.field, underlying, hu, hf, asAgg, part, is_agg_yes hp, size_of hp.2, ← this]
theorem rd_build {t : TypeId} {ps : Array (Nat × Operand)} {L : List (Nat × AV)} {it : TypeInfo} {fs : Array Field} {z : Value} {places : List (Nat × Nat)} {cs : List AV} (ho : o.op = .build t ps) (hE : EnvOK s A E) (hL : partsA A ps.toList = some L) (hit : P.info? t = some it) (hu : P.underlying t = some (.struct fs))
    (hzz : it.zero = some z) (hpl : fs.toList.mapM (fun f => (P.info? f.type).map fun i => (f.offset, i.size)) = some places) (hcs : fillA (places.toArray[·]?) (cellsA (.v z)) L = some cs) : Rds1 P o E w s (.agg cs) := by
  obtain ⟨hp1, hp2⟩ := parts_ok hL hE
  have hz0 : RelL s (cellsA (.v z)) z.cells.toList := Rel.cells (Rel.mkv z)
  obtain ⟨us, hus, hrel⟩ := fill_ok _ L (ps.toList.map fun x => (x.1, ev E x.2)) _ cs _ (by rw [partsM.1]; exact hp1) (by rw [partsM.2]; exact hp2) hz0 hcs
  refine ⟨.agg us.toArray, by simp only [Rel]; exact ⟨us, hrel, rfl⟩, fun w' _ => V.build1 ho rfl (vs := us.toArray) ?_⟩
  simp only [Program.built, hit, hu, hzz, hpl]
  simpa using hus
theorem low_ps {lo hi : Option Operand} {a b n : Int} (h : ∀ p ∈ ((match lo with | none => [] | some _ => [0 ≤ a]) ++ [a ≤ b] ++ (match hi with | none => [] | some _ => [b ≤ n]) : Ps), p) : (lo ≠ none → 0 ≤ a) ∧ a ≤ b ∧ (hi ≠ none → b ≤ n) := by
  refine ⟨fun hl => ?_, h _ (by simp), fun hh => ?_⟩
  · cases lo with
    | none => exact absurd rfl hl
    | some y => exact h _ (by simp)
  · cases hi with
    | none => exact absurd rfl hh
    | some y => exact h _ (by simp)
theorem cutOf_eq {xs : List D} {lo hi : Option Operand} {a b : Int} (ha : lo = none → a = 0) (h0 : 0 ≤ a) (hb : hi = none → b = xs.length) (hab : a ≤ b) : cutOf (lowOf xs lo a) hi a b = (xs.drop a.toNat).take (b.toNat - a.toNat) := by
  have h1 : lowOf xs lo a = xs.drop a.toNat := by
    cases lo with
    | none => rw [ha rfl]; rfl
    | some y => rfl
  rw [h1]
  cases hi with
  | none =>
    have := hb rfl
    simp only [cutOf]
    rw [List.take_of_length_le (by rw [List.length_drop]; omega)]
  | some y => simp only [cutOf]; congr 1; omega
theorem rd_slice {t : TypeId} {x : Operand} {lo hi mx : Option Operand} {ps : Ps} {a : AV} (ho : o.op = .slice t x lo hi mx) (hH : Hold Γ s w0 st w) (hE : EnvOK s A E) (h : evSlice P st A t x lo hi mx = some (ps, a)) (hp : ∀ p ∈ ps, p) : Rds1 P o E w s a := by
  unfold evSlice at h
  split at h
  · -- a text
    rename_i b hx hu
    split at h
    case h_2 => cases h
    rename_i i j hlo hhi
    cases h
    obtain ⟨p1, p2, p3⟩ := low_ps hp
    obtain ⟨l1, l2, l3⟩ := bnd_ok hlo hE p1
    obtain ⟨m1, m2, m3⟩ := bnd_ok hhi hE (fun _ => by omega)
    have hj : j ≤ b.size := by
      cases hi with
      | none => rw [m2 rfl]; exact Int.le_refl _
      | some y => exact p3 (by simp)
    exact Rds1.v fun w' => V.sliceStr ho hu (opd_v hx hE) l1 m1 (by omega) (by omega)
  · -- data
    rename_i m dt xs e hx hu
    have hr := opd_ok hx hE
    simp only [Rel] at hr
    split at h
    · rename_i sz i j hsz hlo hhi
      cases hc : (Nat.beq sz dt.sz && Nat.ble 1 sz) with
      | false => rw [hc] at h; cases h
      | true =>
      rw [hc] at h
      cases h
      simp only [Bool.and_eq_true] at hc
      have hs' := beq_t hc.1
      obtain ⟨p1, p2, p3⟩ := low_ps hp
      obtain ⟨l1, l2, l3⟩ := bnd_ok hlo hE p1
      obtain ⟨m1, m2, m3⟩ := bnd_ok hhi hE (fun _ => by omega)
      have hj : j ≤ xs.length := by
        cases hi with
        | none => rw [m2 rfl]; exact Int.le_refl _
        | some y => exact p3 (by simp)
      obtain ⟨av, c, hv, hc⟩ := hr.shape
      rw [cutOf_eq l2 l3 m2 p2]
      rw [hv] at hr
      have hcut := hr.cut (l := i.toNat) (h := j.toNat) (m := c) (by omega) (by omega) (Nat.le_refl c) (by omega)
      exact ⟨_, by simp only [Rel]; exact hcut, fun w' _ => V.sliceAny ho hu (hs' ▸ szOf_sized hsz) hv l1 m1 (.inl ⟨rfl, rfl⟩) (fun e => absurd rfl e) (by omega) (by omega) (Nat.le_refl c)⟩
    · rename_i sz i j y hsz hlo hhi
      split at h
      case h_2 => cases h
      rename_i y1 hy0 k c hy
      cases hc : (Nat.beq sz dt.sz && Nat.ble 1 sz) with
      | false => rw [hc] at h; cases h
      | true =>
      rw [hc] at h
      cases h
      simp only [Bool.and_eq_true] at hc
      have hs' := beq_t hc.1
      have q1 : lo ≠ none → 0 ≤ i := fun hl => by
        cases lo with
        | none => exact absurd rfl hl
        | some y => exact hp _ (by simp)
      have q2 : i ≤ j := hp _ (by simp)
      have q3 : j ≤ c := hp _ (by simp)
      have q4 : c ≤ xs.length := hp _ (by simp)
      obtain ⟨l1, l2, l3⟩ := bnd_ok hlo hE q1
      obtain ⟨m1, m2, m3⟩ := bnd_ok hhi hE (fun _ => by omega)
      obtain ⟨av, cp, hv, hcp⟩ := hr.shape
      rw [cutOf_eq l2 l3 m2 q2]
      rw [hv] at hr
      have hcut := hr.cut (l := i.toNat) (h := j.toNat) (m := c.toNat) (by omega) (by omega) (by omega) (by omega)
      exact ⟨_, by simp only [Rel]; exact hcut, fun w' _ => V.sliceAny ho hu (hs' ▸ szOf_sized hsz) hv l1 m1 (.inr ⟨y, k, rfl, by rw [opd_v hy hE, ← int_nat (by omega)]⟩) (fun _ => by simp) (by omega) (by omega) (by omega)⟩
    · cases h
  · -- a row of one's own
    rename_i l n e hx hu
    have hr := opd_ok hx hE
    simp only [Rel] at hr
    obtain ⟨p, hp1, hn, hmc, hv⟩ := hr
    split at h
    · rename_i sz b et dt xs hsz hb hl
      cases hc : (Nat.beq sz dt.sz && Nat.ble 1 sz) with
      | false => rw [hc] at h; cases h
      | true =>
      rw [hc] at h
      cases h
      have q1 : 0 ≤ b := hp _ (by simp)
      have q2 : b ≤ n := hp _ (by simp)
      obtain ⟨m1, m2, m3⟩ := bnd_ok hb hE (fun _ => q1)
      rcases hv with hv | ⟨hc0, hv⟩
      · refine ⟨.slice (some ⟨p.b, 0, none⟩) b.toNat p.c, by simp only [Rel]; exact ⟨p, hp1, by omega, hmc, .inl rfl⟩, fun w' _ => ?_⟩
        have := V.sliceAny (w := w') ho hu (szOf_sized hsz) hv (.inl ⟨rfl, rfl⟩) m1 (.inl ⟨rfl, rfl⟩) (fun e => absurd rfl e) (by omega) (by omega) (Nat.le_refl p.c)
        simpa [addr_add] using this
      · have hn0 : n = 0 := by omega
        subst hn0
        have hb0 : b.toNat = 0 := by omega
        rcases hv with hv | ⟨az, hv⟩
        · refine ⟨.slice none 0 0, by simp only [Rel]; exact ⟨p, hp1, by omega, hmc, .inr ⟨hc0, .inl rfl⟩⟩, fun w' _ => ?_⟩
          have := V.sliceAny (w := w') ho hu (szOf_sized hsz) hv (.inl ⟨rfl, rfl⟩) (hb0 ▸ m1) (.inl ⟨rfl, rfl⟩) (fun e => absurd rfl e) (by omega) (by omega) (Nat.le_refl 0)
          simpa using this
        · refine ⟨.slice (some az) 0 0, by simp only [Rel]; exact ⟨p, hp1, by omega, hmc, .inr ⟨hc0, .inr ⟨az, rfl⟩⟩⟩, fun w' _ => ?_⟩
          have := V.sliceAny (w := w') ho hu (szOf_sized hsz) hv (.inl ⟨rfl, rfl⟩) (hb0 ▸ m1) (.inl ⟨rfl, rfl⟩) (fun e => absurd rfl e) (by omega) (by omega) (Nat.le_refl 0)
          simpa using this
    · rename_i sz b y et dt xs hsz hb hl
      split at h
      case h_2 => cases h
      rename_i y1 hy0 k c hy
      cases hc : (Nat.beq sz dt.sz && Nat.ble 1 sz) with
      | false => rw [hc] at h; cases h
      | true =>
      rw [hc] at h
      cases h
      have q1 : 0 ≤ b := hp _ (by simp)
      have q2 : b ≤ n := hp _ (by simp)
      have q3 : c = b := hp _ (by simp)
      subst q3
      obtain ⟨m1, m2, m3⟩ := bnd_ok hb hE (fun _ => q1)
      have hmx : ∀ cp : Nat, BndIs E (some y) cp c.toNat := fun cp => .inr ⟨y, k, rfl, by rw [opd_v hy hE, ← int_nat q1]⟩
      rcases hv with hv | ⟨hc0, hv⟩
      · refine ⟨.slice (some ⟨p.b, 0, none⟩) c.toNat c.toNat, by simp only [Rel]; exact ⟨p, hp1, by omega, hmc, .inl rfl⟩, fun w' _ => ?_⟩
        have := V.sliceAny (w := w') ho hu (szOf_sized hsz) hv (.inl ⟨rfl, rfl⟩) m1 (hmx p.c) (fun _ => by simp) (by omega) (Nat.le_refl _) (by omega)
        simpa [addr_add] using this
      · have hn0 : n = 0 := by omega
        subst hn0
        have hb0 : c.toNat = 0 := by omega
        rcases hv with hv | ⟨az, hv⟩
        · refine ⟨.slice none 0 0, by simp only [Rel]; exact ⟨p, hp1, by omega, hmc, .inr ⟨hc0, .inl rfl⟩⟩, fun w' _ => ?_⟩
          have := V.sliceAny (w := w') ho hu (szOf_sized hsz) hv (.inl ⟨rfl, rfl⟩) (hb0 ▸ m1) (hb0 ▸ hmx 0) (fun _ => by simp) (by omega) (by omega) (Nat.le_refl 0)
          simpa using this
        · refine ⟨.slice (some az) 0 0, by simp only [Rel]; exact ⟨p, hp1, by omega, hmc, .inr ⟨hc0, .inr ⟨az, rfl⟩⟩⟩, fun w' _ => ?_⟩
          have := V.sliceAny (w := w') ho hu (szOf_sized hsz) hv (.inl ⟨rfl, rfl⟩) (hb0 ▸ m1) (hb0 ▸ hmx 0) (fun _ => by simp) (by omega) (by omega) (Nat.le_refl 0)
          simpa using this
    · rename_i y0 sz b et dt xs hsz hb hl
      split at h
      case h_2 => cases h
      rename_i a' ha
      cases hc : (Nat.beq sz dt.sz && Nat.ble 1 sz) with
      | false => rw [hc] at h; cases h
      | true =>
      rw [hc] at h
      cases h
      have q1 : 0 ≤ a' := hp _ (by simp)
      have q2 : a' ≤ b := hp _ (by simp)
      have q3 : b ≤ n := hp _ (by simp)
      obtain ⟨l1, l2, l3⟩ := bnd_ok ha hE (fun _ => q1)
      obtain ⟨m1, m2, m3⟩ := bnd_ok hb hE (fun _ => by omega)
      rcases hv with hv | ⟨hc0, hv⟩
      · by_cases hpc : p.c = 0
        · have hn0 : n = 0 := by omega
          subst hn0
          have ha0 : a'.toNat = 0 := by omega
          have hb0 : b.toNat = 0 := by omega
          refine ⟨.slice (some ⟨p.b, 0, none⟩) 0 0, by simp only [Rel]; exact ⟨p, hp1, by omega, hmc, .inr ⟨by omega, .inr ⟨_, rfl⟩⟩⟩, fun w' _ => ?_⟩
          rw [hpc] at hv
          have := V.sliceAny (w := w') ho hu (szOf_sized hsz) hv (ha0 ▸ l1) (hb0 ▸ m1) (.inl ⟨rfl, rfl⟩) (fun e => absurd rfl e) (by omega) (by omega) (Nat.le_refl 0)
          simpa using this
        · by_cases hfull : p.c = a'.toNat
          · -- nothing is left behind it: the address stays
            have hab : b.toNat - a'.toNat = 0 := by omega
            have hz : p.c - a'.toNat = 0 := by omega
            refine ⟨.slice (some ⟨p.b, 0, none⟩) 0 0, by simp only [Rel]; exact ⟨p, hp1, by omega, hmc, .inr ⟨by omega, .inr ⟨_, rfl⟩⟩⟩, fun w' _ => ?_⟩
            have := V.sliceAny (w := w') ho hu (szOf_sized hsz) hv l1 m1 (.inl ⟨rfl, rfl⟩) (fun e => absurd rfl e) (by omega) (by omega) (Nat.le_refl p.c)
            rw [if_pos hfull, hab, hz] at this
            exact this
          · have e1 : b.toNat - a'.toNat = (b - a').toNat := by omega
            refine ⟨.slice (some ⟨p.b, a'.toNat * sz, none⟩) (b - a').toNat (p.c - a'.toNat), by simp only [Rel]; exact ⟨p, hp1, by omega, hmc, .inl ⟨hpc, _, by omega, by omega, rfl⟩⟩, fun w' _ => ?_⟩
            have := V.sliceAny (w := w') ho hu (szOf_sized hsz) hv l1 m1 (.inl ⟨rfl, rfl⟩) (fun e => absurd rfl e) (by omega) (by omega) (Nat.le_refl p.c)
            rw [if_neg hfull, e1] at this
            simpa [addr_add] using this
      · have hn0 : n = 0 := by omega
        subst hn0
        have ha0 : a'.toNat = 0 := by omega
        have hb0 : b.toNat = 0 := by omega
        have hz : (b - a').toNat = 0 := by omega
        rcases hv with hv | ⟨az, hv⟩
        · refine ⟨.slice none 0 0, by simp only [Rel]; exact ⟨p, hp1, by omega, hmc, .inr ⟨hz, .inl rfl⟩⟩, fun w' _ => ?_⟩
          have := V.sliceAny (w := w') ho hu (szOf_sized hsz) hv (ha0 ▸ l1) (hb0 ▸ m1) (.inl ⟨rfl, rfl⟩) (fun e => absurd rfl e) (by omega) (by omega) (Nat.le_refl 0)
          simpa using this
        · refine ⟨.slice (some az) 0 0, by simp only [Rel]; exact ⟨p, hp1, by omega, hmc, .inr ⟨hz, .inr ⟨az, rfl⟩⟩⟩, fun w' _ => ?_⟩
          have := V.sliceAny (w := w') ho hu (szOf_sized hsz) hv (ha0 ▸ l1) (hb0 ▸ m1) (.inl ⟨rfl, rfl⟩) (fun e => absurd rfl e) (by omega) (by omega) (Nat.le_refl 0)
          simpa using this
    · cases h
  · -- an array of one's own
    rename_i l k n e hx hu
    have hr := opd_ok hx hE
    simp only [Rel] at hr
    obtain ⟨p, hp1, hv⟩ := hr
    split at h
    case h_2 => cases h
    rename_i sz a' b et dt xs hsz ha hb hl
    cases hc : (Nat.beq k 0 && Nat.beq sz dt.sz && Nat.ble 1 sz && Nat.ble 1 n) with
    | false => rw [hc] at h; cases h
    | true =>
    rw [hc] at h
    cases h
    simp only [Bool.and_eq_true] at hc
    obtain ⟨⟨⟨c1, c2⟩, c3⟩, c4⟩ := hc
    have c1 := beq_t c1; have c2 := beq_t c2; have c4 := ble_t c4
    subst c1
    have q1 : 0 ≤ a' := hp _ (by simp)
    have q2 : a' ≤ b := hp _ (by simp)
    have q3 : b ≤ n := hp _ (by simp)
    have q4 : n ≤ xs.length := hp _ (by simp)
    obtain ⟨l1, l2, l3⟩ := bnd_ok ha hE (fun _ => q1)
    obtain ⟨m1, m2, m3⟩ := bnd_ok hb hE (fun _ => by omega)
    obtain ⟨p', hp', g1, g2, g3, g4⟩ := hH.row hl
    rw [hp1] at hp'; cases hp'
    have e1 : b.toNat - a'.toNat = (b - a').toNat := by omega
    by_cases hfull : n = a'.toNat
    · have hab : (b - a').toNat = 0 := by omega
      have hz : n - a'.toNat = 0 := by omega
      refine ⟨.slice (some ⟨p.b, 0, none⟩) 0 0, by simp only [Rel]; exact ⟨p, hp1, by omega, g2, .inr ⟨hab, .inr ⟨_, rfl⟩⟩⟩, fun w' _ => ?_⟩
      have := V.sliceArr (w := w') ho hu (szOf_sized hsz) hv l1 m1 (by omega) (by omega)
      rw [if_pos hfull, e1, hab, hz] at this
      exact this
    · refine ⟨.slice (some ⟨p.b, a'.toNat * sz, none⟩) (b - a').toNat (n - a'.toNat), by simp only [Rel]; exact ⟨p, hp1, by omega, g2, .inl ⟨by omega, _, by omega, by omega, rfl⟩⟩, fun w' _ => ?_⟩
      have := V.sliceArr (w := w') ho hu (szOf_sized hsz) hv l1 m1 (by omega) (by omega)
      rw [if_neg hfull, e1] at this
      simpa [addr_add] using this
  · -- a row whose cells are known
    rename_i l k n c e hx hu
    have hr := opd_ok hx hE
    simp only [Rel] at hr
    obtain ⟨p, hp1, hv⟩ := hr
    split at h
    case h_2 => cases h
    rename_i sz i j hsz hlo hhi
    have hlo' := bndN_ok hlo hE
    have hhi' := bndN_ok hhi hE
    have fin : ∀ m : Nat, (if m = i then (some ⟨p.b, k, none⟩ : Option Addr) else (some ⟨p.b, k, none⟩ : Option Addr).map (·.add (i * sz))) = some ⟨p.b, bif Nat.beq m i then k else k + i * sz, none⟩ := by
      intro m
      cases hq : Nat.beq m i with
      | true => rw [if_pos (beq_t hq)]; rfl
      | false => rw [if_neg (beq_f hq)]; simp [addr_add]
    cases mx with
    | none =>
      simp only at h
      cases hc : (Nat.ble i j && Nat.ble j c && Nat.ble n c) with
      | false => rw [hc] at h; cases h
      | true =>
      rw [hc] at h
      cases h
      simp only [Bool.and_eq_true] at hc
      have h1 := ble_t hc.1.1; have h2 := ble_t hc.1.2
      refine ⟨_, by simp only [Rel]; exact ⟨p, hp1, rfl⟩, fun w' _ => ?_⟩
      have := V.sliceAny (w := w') ho hu (szOf_sized hsz) hv hlo' hhi' (.inl ⟨rfl, rfl⟩) (fun e => absurd rfl e) h1 h2 (Nat.le_refl c)
      rw [fin] at this; exact this
    | some y =>
      simp only at h
      split at h
      case h_2 => cases h
      rename_i y1 m hm
      have hm' := bndN_ok hm hE (d := 0)
      cases hc : (Nat.ble i j && Nat.ble j m && Nat.ble m c) with
      | false => rw [hc] at h; cases h
      | true =>
      rw [hc] at h
      cases h
      simp only [Bool.and_eq_true] at hc
      have h1 := ble_t hc.1.1; have h2 := ble_t hc.1.2; have h3 := ble_t hc.2
      refine ⟨_, by simp only [Rel]; exact ⟨p, hp1, rfl⟩, fun w' _ => ?_⟩
      have hm2 : BndIs E (some y) c m := by
        rcases hm' with ⟨e, _⟩ | ⟨y2, k2, e, hk⟩
        · cases e
        · exact .inr ⟨y2, k2, e, hk⟩
      have := V.sliceAny (w := w') ho hu (szOf_sized hsz) hv hlo' hhi' hm2 (fun _ => by simp) h1 h2 h3
      rw [fin] at this; exact this
  · cases h
end
section
variable {s : Sg} {w0 w : World} {st st' : Stt}
/-- the elements of a list, as cells -/
structure Els (G : Fz) (t : DT) (zs : List D) (us : List Value) : Prop where
  len : us.length = zs.length * t.sz
  one : ∀ u ∈ us, u.oneCell' = true
  rd : ∀ i x, zs[i]? = some x → Rd G t x ((us.drop (i * t.sz)).take t.sz)
theorem Els.nil {G : Fz} {t : DT} : Els G t [] [] := ⟨by simp, by simp, by simp⟩
theorem Els.mono {G G' : Fz} {t : DT} {zs : List D} {us : List Value} (h : Els G t zs us) (k : Sub G G') : Els G' t zs us := ⟨h.len, h.one, fun i x hi => Rd.mono k t x _ (h.rd i x hi)⟩
theorem Els.append {G : Fz} {t : DT} {zs ys : List D} {us vs : List Value} (h : Els G t zs us) (k : Els G t ys vs) : Els G t (zs ++ ys) (us ++ vs) := by
  refine ⟨by rw [List.length_append, List.length_append, h.len, k.len, Nat.add_mul], fun u hu => ?_, fun i x hi => ?_⟩
  · rcases List.mem_append.1 hu with hu | hu
    · exact h.one u hu
    · exact k.one u hu
  · rw [List.getElem?_append] at hi
    split at hi
    · rename_i hlt
      rw [take_drop_append h.len hlt]; exact h.rd i x hi
    · obtain ⟨m, rfl⟩ : ∃ m, i = zs.length + m := ⟨i - zs.length, by omega⟩
      rw [Nat.add_sub_cancel_left] at hi
      rw [take_drop_append' h.len]; exact k.rd m x hi
theorem Els.cons {G : Fz} {t : DT} {z : D} {zs : List D} {us vs : List Value} (h : Rd G t z us) (k : Els G t zs vs) : Els G t (z :: zs) (us ++ vs) := by
  have h1 : Els G t [z] us := by
    have hl := Rd.len _ _ _ h
    refine ⟨by simp [hl], Rd.one _ _ _ h, fun i x hi => ?_⟩
    cases i with
    | zero => simp at hi; subst hi; simpa [← hl] using h
    | succ i => simp at hi
  exact h1.append k
theorem Els.cut {G : Fz} {t : DT} {zs : List D} {us : List Value} (h : Els G t zs us) (n : Nat) (hn : n ≤ zs.length) : Els G t (zs.take n) (us.take (n * t.sz)) := by
  have hle : n * t.sz ≤ us.length := by rw [h.len]; exact Nat.mul_le_mul_right _ hn
  refine ⟨by rw [List.length_take, List.length_take, Nat.min_eq_left hn, Nat.min_eq_left hle], fun u hu => h.one u (List.mem_of_mem_take hu), fun i x hi => ?_⟩
  rw [List.getElem?_take] at hi
  split at hi
  · rename_i hlt
    have h1 := h.rd i x hi
    have h2 : (i + 1) * t.sz ≤ n * t.sz := Nat.mul_le_mul_right _ hlt
    rw [Nat.add_mul] at h2
    rw [List.drop_take, List.take_take, Nat.min_eq_left (by omega)]; exact h1
  · cases hi
theorem Hold.els (h : Hold Γ s w0 st w) {l : Nat} {et : TypeId} {t : DT} {xs : List D} (hl : st.h.get l = some (.q et t xs)) {p : Loc} (hp : s.f l = some p) (hc : p.c ≠ 0) : ∃ cur, w.heap[p.b]? = some (.cells cur et (0, 0)) ∧ p.c * t.sz ≤ cur.size ∧ (∀ u ∈ cur.toList, u.oneCell' = true) ∧ Els s.G t xs (cur.toList.take (xs.length * t.sz)) := by
  obtain ⟨p', hp', g1, g2, g3, g4⟩ := h.row hl
  rw [hp] at hp'; cases hp'
  obtain ⟨cur, g5, g6, g7, g8⟩ := g4 hc
  have hle : xs.length * t.sz ≤ cur.toList.length := by
    rw [g1, Array.length_toList]; exact Nat.le_trans (Nat.mul_le_mul_right _ g2) g6
  refine ⟨cur, g5, g6, g7, by rw [List.length_take, Nat.min_eq_left hle], fun u hu => g7 u (List.mem_of_mem_take hu), fun i x hi => ?_⟩
  have hlt : i < xs.length := (List.getElem?_eq_some_iff.1 hi).1
  have h2 : (i + 1) * t.sz ≤ xs.length * t.sz := Nat.mul_le_mul_right _ hlt
  rw [Nat.add_mul] at h2
  rw [List.drop_take, List.take_take, Nat.min_eq_left (by omega)]; exact g8 i x hi
/-- the row as an object of the state, from its cells -/
theorem obj_row {w' : World} {p : Loc} {et : TypeId} {t : DT} {zs : List D} {us : List Value} {cur : Array Value} (hz : Els s.G t zs us) (h1 : w'.heap[p.b]? = some (.cells cur et (0, 0))) (h2 : p.c * t.sz ≤ cur.size) (h3 : ∀ u ∈ cur.toList, u.oneCell' = true) (h4 : cur.toList.take us.length = us) (h5 : zs.length = p.m) (h6 : p.m ≤ p.c) (h7 : p.c ≤ maxLen) : ObjAt s w' p (.q et t zs) := by
  refine ⟨h5, h6, h7, fun _ => ⟨cur, h1, h2, h3, fun i x hi => ?_⟩⟩
  have hlt : i < zs.length := (List.getElem?_eq_some_iff.1 hi).1
  have h8 : (i + 1) * t.sz ≤ zs.length * t.sz := Nat.mul_le_mul_right _ hlt
  rw [Nat.add_mul] at h8
  have := hz.rd i x hi
  rw [← h4, List.drop_take, List.take_take, Nat.min_eq_left (by rw [hz.len]; omega)] at this
  exact this
/-! ### Cells as data -/
/-- F' is a frozen memory in which the state's values may be read as data; w: to be handed on -/
structure Sees (s : Sg) (st : Stt) (W : World) (w : Bool) (F' : Fz) : Prop where
  G : Sub s.G F'
  F : w = false → Sub s.F F'
  row : w = false → ∀ l et t xs p, st.h.get l = some (.q et t xs) → s.f l = some p → p.c ≠ 0 → F' p.b = W.heap[p.b]?
theorem Slc.zv {F : Fz} {sz : Nat} {R : D → List Value → Prop} {v : Value} (h : ZV v) : Slc F sz R [] v := .inl ⟨rfl, h⟩
theorem slc_row (hH : Hold Γ s w0 st w) {F' : Fz} (hS : Sees s st w false F') {l n c : Nat} {et : TypeId} {t : DT} {xs : List D} {p : Loc} {v : Value} (hl : st.h.get l = some (.q et t xs)) (hp : s.f l = some p) (hn : n ≤ p.m) (hc : n ≤ c ∧ c ≤ p.c) (hv : v = .slice (some ⟨p.b, 0, none⟩) n c ∨ (p.c = 0 ∧ ZV v)) :
    Slc F' t.sz (fun x us => Rd F' t x us) (xs.take n) v := by
  obtain ⟨p', hp', g1, g2, g3, g4⟩ := hH.row hl
  rw [hp] at hp'; cases hp'
  have hlen : (xs.take n).length = n := by rw [List.length_take]; omega
  rcases hv with rfl | ⟨h0, hv⟩
  · by_cases hc0 : p.c = 0
    · have hn0 : n = 0 := by omega
      have hcc : c = 0 := by omega
      subst hn0; subst hcc
      rw [List.take_zero]
      exact Slc.zv (.inr ⟨_, rfl⟩)
    · obtain ⟨cur, h1, h2, h3, h4⟩ := hH.els hl hp hc0
      refine .inr ⟨p.b, 0, c, by rw [hlen], by rw [hlen]; exact hc.1, Nat.le_trans hc.2 g3, fun i x hi => ?_⟩
      rw [List.getElem?_take] at hi
      split at hi
      · have hx := h4.rd i x hi
        have hlt : i < xs.length := (List.getElem?_eq_some_iff.1 hi).1
        refine ⟨_, Rd.len _ _ _ hx, ⟨cur, et, (0, 0), (hS.row rfl l et t xs p hl hp hc0).trans h1, fun j u hj => ?_⟩, Rd.mono hS.G t x _ hx⟩
        rw [List.getElem?_take] at hj
        split at hj
        · rw [List.getElem?_drop, List.getElem?_take] at hj
          split at hj
          · simpa using hj
          · cases hj
        · cases hj
      · cases hi
  · have hn0 : n = 0 := by omega
    subst hn0
    rw [List.take_zero]
    exact Slc.zv hv
theorem slc_view (hH : Hold Γ s w0 st w) {F' : Fz} (hS : Sees s st w false F') {l lo n cv : Nat} {et : TypeId} {t : DT} {xs : List D} {p : Loc} (hl : st.h.get l = some (.q et t xs)) (hp : s.f l = some p) (hn : lo + n ≤ p.m) (hc0 : p.c ≠ 0) (h2 : n ≤ cv) (h3 : lo + cv ≤ p.c) :
    Slc F' t.sz (fun x us => Rd F' t x us) ((xs.drop lo).take n) (.slice (some ⟨p.b, lo * t.sz, none⟩) n cv) := by
  obtain ⟨p', hp', g1, g2, g3, g4⟩ := hH.row hl
  rw [hp] at hp'; cases hp'
  have hlen : ((xs.drop lo).take n).length = n := by rw [List.length_take, List.length_drop]; omega
  obtain ⟨cur, h1, _, h3', h4⟩ := hH.els hl hp hc0
  refine .inr ⟨p.b, lo * t.sz, cv, by rw [hlen], by rw [hlen]; exact h2, by omega, fun i x hi => ?_⟩
  rw [List.getElem?_take] at hi
  split at hi
  · rw [List.getElem?_drop] at hi
    have hx := h4.rd (lo + i) x hi
    have hlt : lo + i < xs.length := (List.getElem?_eq_some_iff.1 hi).1
    refine ⟨_, Rd.len _ _ _ hx, ⟨cur, et, (0, 0), (hS.row rfl l et t xs p hl hp hc0).trans h1, fun j u hj => ?_⟩, Rd.mono hS.G t x _ hx⟩
    rw [List.getElem?_take] at hj
    split at hj
    · rw [List.getElem?_drop, List.getElem?_take] at hj
      split at hj
      · rw [show lo * t.sz + i * t.sz + j = (lo + i) * t.sz + j from by rw [Nat.add_mul]]
        simpa using hj
      · cases hj
    · cases hj
  · cases hi
/-- all of memory -/
theorem sees_all (hH : Hold Γ s w0 st w) : Sees s st w false (fun b => w.heap[b]?) :=
  ⟨hH.gf.trans fun b o hb => hH.frz b o hb, fun _ b o hb => hH.frz b o hb, fun _ _ _ _ _ _ _ _ _ => rfl⟩
end
end Go.Proofs.YtnhfkdgambncfaaGreatDoor.Sv
namespace Go.Proofs.YtnhfkdgambncfaaGreatDoor.Sv
open Go.RowKit Go.Proofs.YtnhfkdgambncfaaGreatDoor.W Go.MapKept
variable {s : Sg} {F G : Fz} {P : Program} {w : World} {kt vt : DT}
theorem oneD_val {m : Bool} {t : DT} {d : D} {cs : List Value} {v : Value} (h : Rd (s.H m) t d cs) (hv : Val t.isT cs v) : Rel s (oneD m t d) v := by
  rcases oneD_ok h with ⟨fs, rfl, hr⟩ | ⟨hne, u, rfl, hr⟩
  · simp only [DT.isT, Val, cond_true] at hv; subst hv; exact hr
  · have ht : t.isT = false := by cases t <;> first | rfl | exact absurd rfl (hne _)
    rw [ht] at hv; simp only [Val, cond_false] at hv
    have : u = v := by injection hv
    rw [← this]; exact hr
mutual
theorem zOK_ok : ∀ (t : DT) (cs r : List Value), zOK t cs = some r → ∃ us, cs = us ++ r ∧ Rd F t (zD t) us
  | .i k, cs, r, h => by
    unfold zOK at h
    split at h <;> try (cases h; done)
    all_goals (rename_i e; cases e)
    rename_i k' n r'
    cases hc : (decide (k = k') && decide (n = 0)) with
    | false => rw [hc] at h; cases h
    | true =>
      rw [hc] at h; cases h
      simp only [Bool.and_eq_true, decide_eq_true_eq] at hc
      obtain ⟨rfl, rfl⟩ := hc
      exact ⟨[_], rfl, by simp only [Rd, zD, D.int]⟩
  | .b, cs, r, h => by
    unfold zOK at h
    split at h <;> try (cases h; done)
    all_goals (rename_i e; cases e)
    rename_i b r'
    cases b with
    | true => cases h
    | false => cases h; exact ⟨[_], rfl, by simp only [Rd, zD, D.bool]⟩
  | .s, cs, r, h => by
    unfold zOK at h
    split at h <;> try (cases h; done)
    all_goals (rename_i e; cases e)
    rename_i x r'
    cases hc : decide (x = ⟨#[]⟩) with
    | false => rw [hc] at h; cases h
    | true =>
      rw [hc] at h; cases h
      have := of_decide_eq_true hc
      subst this
      exact ⟨[_], rfl, by simp only [Rd, zD, D.str]⟩
  | .l e, cs, r, h => by
    unfold zOK at h
    split at h <;> try (cases h; done)
    all_goals (rename_i e; cases e)
    cases h
    exact ⟨[_], rfl, by simp only [Rd, zD]; exact ⟨_, rfl, .inl ⟨rfl, .inl rfl⟩⟩⟩
  | .t fs, cs, r, h => by
    unfold zOK at h
    obtain ⟨us, h1, h2⟩ := zOKs_ok fs cs r h
    exact ⟨us, h1, by simp only [Rd, zD]; exact h2⟩
theorem zOKs_ok : ∀ (ts : List DT) (cs r : List Value), zOKs ts cs = some r → ∃ us, cs = us ++ r ∧ Rds F ts (zDs ts) us
  | [], cs, r, h => by simp only [zOKs, Option.some.injEq] at h; subst h; exact ⟨[], rfl, by simp only [Rds]⟩
  | t :: ts, cs, r, h => by
    simp only [zOKs] at h
    split at h
    · rename_i r1 h1
      obtain ⟨us, rfl, h3⟩ := zOK_ok t cs r1 h1
      obtain ⟨vs, rfl, h4⟩ := zOKs_ok ts r1 r h
      exact ⟨us ++ vs, by simp, by simp only [Rds]; exact ⟨us, vs, rfl, h3, h4⟩⟩
    · cases h
end
theorem zOne_ok {t : DT} {z : Value} (h : zOne t z = true) : ∃ cs, Rd F t (zD t) cs ∧ Val t.isT cs z := by
  unfold zOne at h
  cases ht : t.isT with
  | true =>
    rw [ht] at h
    simp only [cond_true] at h
    split at h
    · rename_i vs
      split at h
      · rename_i hz
        obtain ⟨us, h1, h2⟩ := zOK_ok (F := F) t _ _ hz
        rw [List.append_nil] at h1
        exact ⟨us, h2, by simp only [Val, cond_true]; rw [← h1]⟩
      · cases h
    · cases h
  | false =>
    rw [ht] at h
    simp only [cond_false] at h
    split at h
    · rename_i hz
      obtain ⟨us, h1, h2⟩ := zOK_ok (F := F) t _ _ hz
      rw [List.append_nil] at h1
      exact ⟨us, h2, by simp only [Val, cond_false]; exact h1.symm⟩
    · cases h
/-- kinds of keys -/
def KeyOf (d : TypeDesc) (kt : DT) : Prop := (d = .string ∧ kt = .s) ∨ ∃ k, d = .int k ∧ kt = .i k
theorem keyT_ok {tk : TypeId} (h : keyT P tk kt = true) : ∃ d, P.underlying tk = some d ∧ KeyOf d kt := by
  unfold keyT at h
  split at h
  · rename_i e; exact ⟨_, e, .inl ⟨rfl, rfl⟩⟩
  · rename_i k k' e
    have := of_decide_eq_true h
    subst this
    exact ⟨_, e, .inr ⟨_, rfl, rfl⟩⟩
  · cases h
theorem keyD_ok {a : AV} {v : Value} {d : D} (h : keyD kt a = some d) (hr : Rel s a v) : v = keyV kt d := by
  unfold keyD at h
  split at h
  · cases h; exact hr.v_of
  · rename_i k k' n
    cases hc : decide (k = k') with
    | false => rw [hc] at h; cases h
    | true =>
      rw [hc] at h; cases h
      have := of_decide_eq_true hc
      subst this
      exact hr.v_of
  · cases h
theorem key_is {d : TypeDesc} (h : KeyOf d kt) (x : D) : IsKey d (keyV kt x) := by
  rcases h with ⟨rfl, rfl⟩ | ⟨k, rfl, rfl⟩
  · exact trivial
  · rfl
theorem same_key {d : TypeDesc} (h : KeyOf d kt) (a b : D) : Instr.sameNow d (keyV kt a) (keyV kt b) = some (keyEq kt a b) ∧ (keyEq kt a b = true → keyV kt a = keyV kt b) := by
  obtain ⟨r, h1, h2⟩ := sameNow_of_keys (key_is h a) (key_is h b)
  have h3 : keyEq kt a b = true ↔ keyV kt a = keyV kt b := by
    rcases h with ⟨rfl, rfl⟩ | ⟨k, rfl, rfl⟩
    · simp [keyEq, keyV]
    · simp [keyEq, keyV]
  refine ⟨?_, h3.1⟩
  rw [h1]
  congr 1
  cases r <;> cases hk : keyEq kt a b
  · rfl
  · exact absurd (h2.2 (h3.1 hk)) (by decide)
  · have := h3.2 (h2.1 rfl); rw [hk] at this; cases this
  · rfl
theorem Ents.len : ∀ {es : List (Nat × D × D)} {l : List MapEntry}, Ents G kt vt es l → l.length = es.length
  | [], _, h => by cases h; rfl
  | _ :: _, _, ⟨_, _, rfl, _, _, _, h⟩ => by rw [List.length_cons, List.length_cons, Ents.len h]
theorem Ents.borns : ∀ {es : List (Nat × D × D)} {l : List MapEntry}, Ents G kt vt es l → l.map (·.born) = es.map (·.1)
  | [], _, h => by cases h; rfl
  | _ :: _, _, ⟨_, _, rfl, hb, _, _, h⟩ => by rw [List.map_cons, List.map_cons, Ents.borns h, hb]
theorem Ents.push {k v : D} {e : MapEntry} (hk : e.key = keyV kt k) (hv : ∃ cs, Rd G vt v cs ∧ Val vt.isT cs e.val) : ∀ {es : List (Nat × D × D)} {l : List MapEntry}, Ents G kt vt es l → Ents G kt vt (es ++ [(e.born, k, v)]) (l ++ [e])
  | [], _, h => by cases h; exact ⟨e, [], rfl, rfl, hk, hv, rfl⟩
  | x :: r, _, ⟨e', l', rfl, h2, h3, h4, h5⟩ => ⟨e', l' ++ [e], rfl, h2, h3, h4, Ents.push hk hv h5⟩
theorem Ents.find {d : TypeDesc} (hd : KeyOf d kt) (k0 v0 : D) (ck : Nat) : ∀ {es : List (Nat × D × D)} {l : List MapEntry} (i : Nat), Ents G kt vt es l →
    (Instr.findNow d (keyV kt k0) l i = some none ∧ getE kt k0 es = none ∧ putE kt k0 v0 ck es = es ++ [(ck, k0, v0)] ∧ delE kt k0 es = es) ∨
    ∃ j e x, Instr.findNow d (keyV kt k0) l i = some (some (i + j, e.val)) ∧ l[j]? = some e ∧ e.key = keyV kt k0 ∧ getE kt k0 es = some x ∧ (∃ cs, Rd G vt x cs ∧ Val vt.isT cs e.val) ∧ (putE kt k0 v0 ck es).map (·.1) = es.map (·.1) ∧
      (∀ e' : MapEntry, e'.born = e.born → e'.key = keyV kt k0 → (∃ cs, Rd G vt v0 cs ∧ Val vt.isT cs e'.val) → Ents G kt vt (putE kt k0 v0 ck es) (l.set j e')) ∧ Ents G kt vt (delE kt k0 es) (l.eraseIdx j) ∧ (delE kt k0 es).Sublist es
  | [], _, i, h => by cases h; exact .inl ⟨rfl, rfl, rfl, rfl⟩
  | x :: r, _, i, ⟨e, l', rfl, h2, h3, h4, h5⟩ => by
    obtain ⟨s1, s2⟩ := same_key hd k0 x.2.1
    rw [← h3] at s1 s2
    cases hk : keyEq kt k0 x.2.1 with
    | true =>
      rw [hk] at s1
      refine .inr ⟨0, e, x.2.2, by simp only [Instr.findNow, s1]; rfl, rfl, (s2 hk).symm, by simp only [getE, hk, cond_true], h4, by simp only [putE, hk, cond_true, List.map_cons], fun e' hb hke hv => ?_, ?_, ?_⟩
      · simp only [putE, hk, cond_true, List.set_cons_zero]
        exact ⟨e', l', rfl, by rw [hb, h2], hke, hv, h5⟩
      · simp only [delE, hk, cond_true, List.eraseIdx_cons_zero]
        exact h5
      · simp only [delE, hk, cond_true]
        exact List.sublist_cons_self _ _
    | false =>
      rw [hk] at s1
      rcases Ents.find hd k0 v0 ck (i + 1) h5 with ⟨a1, a2, a3, a8⟩ | ⟨j, e1, x1, a1, a2, a3, a4, a5, a6, a7, a8, a9⟩
      · exact .inl ⟨by simp only [Instr.findNow, s1]; exact a1, by simp only [getE, hk, cond_false]; exact a2, by simp only [putE, hk, cond_false, a3, List.cons_append], by simp only [delE, hk, cond_false, a8]⟩
      · refine .inr ⟨j + 1, e1, x1, by simp only [Instr.findNow, s1]; rw [a1]; congr 3; omega, by simpa using a2, a3, by simp only [getE, hk, cond_false]; exact a4, a5, by simp only [putE, hk, cond_false, List.map_cons, a6], fun e' hb hke hv => ?_, ?_, ?_⟩
        · simp only [putE, hk, cond_false, List.set_cons_succ]
          exact ⟨e, _, rfl, h2, h3, h4, a7 e' hb hke hv⟩
        · simp only [delE, hk, cond_false, List.eraseIdx_cons_succ]
          exact ⟨e, _, rfl, h2, h3, h4, a8⟩
        · simp only [delE, hk, cond_false]
          exact a9.cons_cons _
/-- what is found -/
theorem run_look {t tk te : TypeId} {b : Nat} {m : Mp} {k0 : D} {z : Value} (ht : P.underlying t = some (.map tk te)) (hk : keyT P tk kt = true) (hz : zOne vt z = true) (hzr : ∀ w, (zeroValue te).run P w = .ok z w) (hm : MapAt G w b kt vt m) (ok : Bool) :
    ∃ v cs, Rd G vt (theM kt k0 (zD vt) m) cs ∧ Val vt.isT cs v ∧ ∀ w', w'.heap[b]? = w.heap[b]? → (Instr.lookup t (.map (some b)) (keyV kt k0) ok).run P w' = .ok (if ok then .tuple #[v, .bool (hasM kt k0 m)] else v) w' := by
  obtain ⟨arr, hb, he, _⟩ := hm
  obtain ⟨d, hd, hko⟩ := keyT_ok hk
  have hkey := key_is hko k0
  rcases he.find hko k0 k0 0 0 with ⟨a1, a2, _⟩ | ⟨j, e, x, a1, _, _, a4, ⟨cs, a5, a6⟩, _⟩
  · obtain ⟨cs, z1, z2⟩ := zOne_ok (F := G) hz
    refine ⟨z, cs, by unfold theM; rw [a2]; exact z1, z2, fun w' hw => ?_⟩
    have hb : w'.heap[b]? = some (.map arr m.ck) := hw.trans hb
    have hh : hasM kt k0 m = false := by unfold hasM; rw [a2]; rfl
    rw [hh]
    simp [Instr.lookup, run_underlying ht, MapKept.run_getObj_map hb, run_checkKey hd hkey, run_findKey hd a1, hzr, Result.andThen]
  · refine ⟨e.val, cs, by unfold theM; rw [a4]; exact a5, a6, fun w' hw => ?_⟩
    have hb : w'.heap[b]? = some (.map arr m.ck) := hw.trans hb
    have hh : hasM kt k0 m = true := by unfold hasM; rw [a4]; rfl
    rw [hh]
    simp [Instr.lookup, run_underlying ht, MapKept.run_getObj_map hb, run_checkKey hd hkey, run_findKey hd a1, Result.andThen]
theorem Ext.set (w : World) (b : Nat) {o' : Obj} (o : Obj) (hb : w.heap[b]? = some o') : Ext [b] w { w with heap := w.heap.setIfInBounds b o } := ⟨rfl, rfl, rfl, by simp, fun k hk' hX => (heap_set (o' := o) hb).2 k (by simpa using hX)⟩
/-- what is written -/
theorem run_mapSet {t tk te : TypeId} {b : Nat} {m : Mp} {k0 v0 : D} {v : Value} (ht : P.underlying t = some (.map tk te)) (hk : keyT P tk kt = true) (hm : MapAt G w b kt vt m) (hv : ∃ cs, Rd G vt v0 cs ∧ Val vt.isT cs v) :
    ∃ w', (Instr.mapUpdate t (.map (some b)) (keyV kt k0) v).run P w = .ok () w' ∧ Ext [b] w w' ∧ MapAt G w' b kt vt (putM kt k0 v0 m) := by
  obtain ⟨arr, hb, he, ht'⟩ := hm
  obtain ⟨d, hd, hko⟩ := keyT_ok hk
  have hkey := key_is hko k0
  rcases he.find hko k0 v0 m.ck 0 with ⟨a1, a2, a3, _⟩ | ⟨j, e, x, a1, a2, a3, a4, _, a6, a7, _⟩
  · have hh : hasM kt k0 m = false := by unfold hasM; rw [a2]; rfl
    refine ⟨{ w with heap := w.heap.setIfInBounds b (.map (arr.push ⟨keyV kt k0, v, m.ck⟩) (m.ck + 1)) }, ?_, Ext.set w b _ hb, arr.push ⟨keyV kt k0, v, m.ck⟩, ?_, ?_, ?_⟩
    · simp [Instr.mapUpdate, run_underlying ht, MapKept.run_getObj_map hb, run_checkKey hd hkey, run_findKey hd a1, MapKept.run_setObj_map _ hb, Result.andThen]
    · simp only [putM, hh, cond_false]; exact (heap_set hb).1
    · simp only [putM]; rw [a3, Array.toList_push]
      exact Ents.push (e := ⟨keyV kt k0, v, m.ck⟩) (by rfl) hv he
    · simp only [putM, hh, cond_false, a3]
      refine ⟨fun x hx => ?_, ?_⟩
      · rcases List.mem_append.1 hx with h | h
        · have := ht'.lt x h; show x.1 < m.ck + 1; omega
        · rw [List.mem_singleton.1 h]; exact Nat.lt_succ_self _
      · simp only [List.map_append, List.map_cons, List.map_nil]
        refine List.nodup_append.2 ⟨ht'.nd, by simp, fun x hx y hy hxy => ?_⟩
        subst hxy
        obtain ⟨z, hz, rfl⟩ := List.mem_map.1 hx
        have := ht'.lt z hz
        rw [List.mem_singleton] at hy
        omega
  · have hh : hasM kt k0 m = true := by unfold hasM; rw [a4]; rfl
    have hj : arr[j]? = some e := by simpa using a2
    rw [Nat.zero_add] at a1
    refine ⟨{ w with heap := w.heap.setIfInBounds b (.map (arr.modify j fun e' => { e' with key := keyV kt k0, val := v }) m.ck) }, ?_, Ext.set w b _ hb, arr.modify j fun e' => { e' with key := keyV kt k0, val := v }, ?_, ?_, ?_⟩
    · simp [Instr.mapUpdate, run_underlying ht, MapKept.run_getObj_map hb, run_checkKey hd hkey, run_findKey hd a1, hj, a3, run_keyThatStays hkey, MapKept.run_setObj_map _ hb, Result.andThen]
    · simp only [putM, hh, cond_true]; exact (heap_set hb).1
    · have hl : (arr.modify j fun e' => { e' with key := keyV kt k0, val := v }).toList = arr.toList.set j { e with key := keyV kt k0, val := v } := by
        rw [Array.toList_modify]
        apply List.ext_getElem?
        intro i
        rw [List.getElem?_modify, List.getElem?_set]
        by_cases h : j = i
        · subst h
          rw [a2]
          have hlt : j < arr.size := by simpa using (List.getElem?_eq_some_iff.1 a2).1
          simp [hlt]
        · rw [if_neg h]
          cases arr.toList[i]? <;> simp [h]
      rw [hl]
      exact a7 _ rfl rfl hv
    · have e1 : (putM kt k0 v0 m).ck = m.ck := by simp only [putM, hh, cond_true]
      refine ⟨fun y hy => ?_, by simp only [putM]; rw [a6]; exact ht'.nd⟩
      rw [e1]
      have : y.1 ∈ (putE kt k0 v0 m.ck m.es).map (·.1) := List.mem_map_of_mem (f := (·.1)) hy
      rw [a6] at this
      obtain ⟨z, hz, h⟩ := List.mem_map.1 this
      rw [← h]; exact ht'.lt z hz
/-- what is taken away -/
theorem run_mapDel {t tk te ty : TypeId} {b : Nat} {m : Mp} {k0 : D} {ts : Array TypeId} {as : Array Value} (ht : P.underlying t = some (.map tk te)) (hts : ts[0]? = some t) (has : as[0]? = some (.map (some b))) (has' : as[1]? = some (keyV kt k0)) (hk : keyT P tk kt = true) (hm : MapAt G w b kt vt m) :
    ∃ w', (Builtin.delete_ ts ty as).run P w = .ok (.tuple #[]) w' ∧ Ext [b] w w' ∧ MapAt G w' b kt vt (delM kt k0 m) := by
  obtain ⟨arr, hb, he, ht'⟩ := hm
  obtain ⟨d, hd, hko⟩ := keyT_ok hk
  have hkey := key_is hko k0
  rcases he.find hko k0 k0 0 0 with ⟨a1, a2, _, a3⟩ | ⟨j, e, x, a1, a2, _, _, _, _, _, a8, a9⟩
  · refine ⟨{ w with heap := w.heap.setIfInBounds b (.map arr m.ck) }, ?_, Ext.set w b _ hb, arr, (heap_set hb).1, by simp only [delM]; rw [a3]; exact he, by simp only [delM]; rw [a3]; exact ht'⟩
    simp [Builtin.delete_, hts, has, has', run_underlying ht, MapKept.run_getObj_map hb, run_checkKey hd hkey, run_findKey hd a1, MapKept.run_setObj_map _ hb, Result.andThen]
  · rw [Nat.zero_add] at a1
    refine ⟨{ w with heap := w.heap.setIfInBounds b (.map (arr.eraseIdxIfInBounds j) m.ck) }, ?_, Ext.set w b _ hb, arr.eraseIdxIfInBounds j, (heap_set hb).1, ?_, ?_, ?_⟩
    · simp [Builtin.delete_, hts, has, has', run_underlying ht, MapKept.run_getObj_map hb, run_checkKey hd hkey, run_findKey hd a1, MapKept.run_setObj_map _ hb, Result.andThen]
    · simp only [delM]
      have : (arr.eraseIdxIfInBounds j).toList = arr.toList.eraseIdx j := by simp
      rw [this]; exact a8
    · exact fun x hx => ht'.lt x (a9.subset hx)
    · exact (a9.map _).nodup ht'.nd
theorem leftOf_ents (seen : List Nat) : ∀ {es : List (Nat × D × D)} {l : List MapEntry}, Ents G kt vt es l → Ents G kt vt (es.filter fun e => !seen.contains e.1) (l.filter fun e => !seen.contains e.born)
  | [], _, h => by cases h; rfl
  | x :: r, _, ⟨e, l', rfl, h2, h3, h4, h5⟩ => by
    have ih := leftOf_ents seen h5
    rw [List.filter_cons, List.filter_cons, h2]
    split
    · exact ⟨e, _, rfl, h2, h3, h4, ih⟩
    · exact ih
theorem Ents.split : ∀ {es : List (Nat × D × D)} {l : List MapEntry} {e : MapEntry}, Ents G kt vt es l → e ∈ l → ∃ a x b, es = a ++ x :: b ∧ e.born = x.1 ∧ e.key = keyV kt x.2.1 ∧ ∃ cs, Rd G vt x.2.2 cs ∧ Val vt.isT cs e.val
  | [], _, _, h, he => by cases h; cases he
  | x :: r, _, e, ⟨e', l', rfl, h2, h3, h4, h5⟩, he => by
    rcases List.mem_cons.1 he with rfl | he
    · exact ⟨[], x, r, rfl, h2, h3, h4⟩
    · obtain ⟨a, y, b, rfl, h⟩ := h5.split he
      exact ⟨x :: a, y, b, rfl, h⟩
theorem left_step {m : Mp} (ht : m.Tidy) {seen : List Nat} {a b : List (Nat × D × D)} {e : Nat × D × D} (h : leftM m seen = a ++ e :: b) : leftM m (seen ++ [e.1]) = a ++ b ∧ entM m (seen ++ [e.1]) = e.2 ∧ metM m (seen ++ [e.1]) := by
  have hnd : ((leftM m seen).map (·.1)).Nodup := (List.filter_sublist.map _).nodup ht.nd
  have hin : e ∈ m.es := by
    have : e ∈ leftM m seen := by rw [h]; simp
    exact (List.mem_filter.1 this).1
  have h1 : leftM m (seen ++ [e.1]) = (leftM m seen).filter fun x => !Nat.beq x.1 e.1 := by
    unfold leftM
    rw [List.filter_filter]
    refine List.filter_congr fun x _ => ?_
    simp only [List.contains_eq_mem, List.mem_append, List.mem_singleton, Bool.decide_or, Bool.not_or]
    rw [Bool.and_comm]
    congr 2
    cases hb : Nat.beq x.1 e.1 with
    | true => exact decide_eq_true (Nat.eq_of_beq_eq_true hb)
    | false => exact decide_eq_false (fun hh => by rw [hh, Nat.beq_refl] at hb; cases hb)
  rw [h] at h1 hnd
  rw [List.map_append, List.map_cons] at hnd
  obtain ⟨_, h3, h4⟩ := List.nodup_append.1 hnd
  have h5 := List.nodup_cons.1 h3
  refine ⟨?_, ?_, ⟨e.1, by simp, e, hin, rfl⟩⟩
  · rw [h1, List.filter_append, List.filter_cons]
    have ha : a.filter (fun x => !Nat.beq x.1 e.1) = a := List.filter_eq_self.2 fun x hx => by
      cases hb : Nat.beq x.1 e.1 with
      | true => exact absurd (Nat.eq_of_beq_eq_true hb) (h4 _ (List.mem_map_of_mem (f := (·.1)) hx) _ List.mem_cons_self)
      | false => rfl
    have hb' : b.filter (fun x => !Nat.beq x.1 e.1) = b := List.filter_eq_self.2 fun x hx => by
      cases hb : Nat.beq x.1 e.1 with
      | true => exact absurd (List.mem_map_of_mem (f := (·.1)) hx) (by rw [Nat.eq_of_beq_eq_true hb]; exact h5.1)
      | false => rfl
    rw [ha, hb', Nat.beq_refl]; rfl
  · unfold entM
    rw [List.getLast?_concat]
    have : ∀ l : List (Nat × D × D), (l.map (·.1)).Nodup → e ∈ l → l.find? (fun x => Nat.beq x.1 e.1) = some e := by
      intro l
      induction l with
      | nil => intro _ h; cases h
      | cons y r ih =>
        intro hn he
        rw [List.find?_cons]
        rcases List.mem_cons.1 he with rfl | he
        · rw [Nat.beq_refl]
        · have hn' := List.nodup_cons.1 hn
          cases hb : Nat.beq y.1 e.1 with
          | true => exact absurd (List.mem_map_of_mem (f := (·.1)) he) (by rw [← Nat.eq_of_beq_eq_true hb]; exact hn'.1)
          | false => exact ih hn'.2 he
    simp only [this m.es ht.nd hin]
theorem oneD_key {x : D} {m : Bool} (h : keyK kt = true) : Rel s (oneD m kt x) (keyV kt x) := by
  cases kt <;> simp only [keyK, Bool.false_eq_true] at h
  · simp only [oneD, cellsD, keyV]; exact Rel.mkv _
  · simp only [oneD, cellsD, keyV]; exact Rel.mkv _
theorem Ents.born (n : Nat) : ∀ {es : List (Nat × D × D)} {l : List MapEntry}, Ents G kt vt es l → ∀ x, es.find? (fun e => Nat.beq e.1 n) = some x → ∃ e, l.find? (fun e => e.born == n) = some e ∧ e.key = keyV kt x.2.1 ∧ ∃ cs, Rd G vt x.2.2 cs ∧ Val vt.isT cs e.val
  | [], _, h, x, hx => by cases hx
  | y :: r, _, ⟨e, l', rfl, h2, h3, h4, h5⟩, x, hx => by
    rw [List.find?_cons] at hx
    rw [List.find?_cons]
    cases hb : Nat.beq y.1 n with
    | true =>
      rw [hb] at hx; cases hx
      have : (e.born == n) = true := by rw [h2, Nat.eq_of_beq_eq_true hb]; exact beq_self_eq_true n
      rw [this]
      exact ⟨e, rfl, h3, h4⟩
    | false =>
      rw [hb] at hx
      have : (e.born == n) = false := by rw [h2]; exact beq_eq_false_iff_ne.2 fun hh => by rw [hh, Nat.beq_refl] at hb; cases hb
      rw [this]
      exact h5.born n x hx
/-- the entry that a walk met last -/
theorem run_entry {r b n : Nat} {seen : List Nat} {m : Mp} (hk : keyK kt = true) (hn : m.ck = n) (hb : metM m seen) (hm : MapAt G w b kt vt m) (hr : w.heap[r]? = some (.mapIter (some b) n seen.toArray n)) :
    ∃ v cs, Rd G vt (entM m seen).2 cs ∧ Val vt.isT cs v ∧ ∀ w', w'.heap[b]? = w.heap[b]? → w'.heap[r]? = w.heap[r]? → (Instr.entry (.pointer (some ⟨r, 0, none⟩))).run P w' = .ok (.tuple #[keyV kt (entM m seen).1, v]) w' := by
  obtain ⟨arr, h1, h2, h3⟩ := hm
  obtain ⟨i, hl, e0, he0, hi⟩ := hb
  have hf : ∃ x, m.es.find? (fun e => Nat.beq e.1 i) = some x := by
    cases h : m.es.find? (fun e => Nat.beq e.1 i) with
    | some x => exact ⟨x, rfl⟩
    | none => exact absurd (List.find?_eq_none.1 h e0 he0) (by rw [hi]; simp)
  obtain ⟨x, hx⟩ := hf
  obtain ⟨e, k1, k2, cs, k3, k4⟩ := h2.born i x hx
  have hent : entM m seen = x.2 := by unfold entM; rw [hl]; simp only [hx]
  rw [hent]
  refine ⟨e.val, cs, k3, k4, fun w' w1 w2 => ?_⟩
  have w1 := w1.trans h1
  have w2 := w2.trans hr
  have hbk : seen.toArray.back? = some i := by simpa using hl
  have hfd : arr.find? (fun e => e.born == i) = some e := by rw [← Array.find?_toList]; exact k1
  simp only [Instr.entry, getObj, Sem.run_bind, Sem.run, w1, w2, Result.andThen, hbk, hn, bne_self_eq_false, Bool.false_eq_true, if_false, hfd, k2]
  rfl
/-- a step of a walk -/
theorem run_next {r b n : Nat} {seen : List Nat} {m : Mp} (hn : m.ck = n) (hm : MapAt G w b kt vt m) (hr : w.heap[r]? = some (.mapIter (some b) n seen.toArray n)) (ty : TypeId) :
    (leftM m seen = [] ∧ (Instr.next (.pointer (some ⟨r, 0, none⟩)) false ty).run P w = .ok (.tuple #[.bool false]) w) ∨
    ∃ a x b' v w', leftM m seen = a ++ x :: b' ∧ (Instr.next (.pointer (some ⟨r, 0, none⟩)) false ty).run P w = .ok (.tuple #[.bool true, keyV kt x.2.1, v]) w' ∧ (∃ cs, Rd G vt x.2.2 cs ∧ Val vt.isT cs v) ∧ Ext [r] w w' ∧ w'.heap[r]? = some (.mapIter (some b) n (seen ++ [x.1]).toArray n) := by
  obtain ⟨arr, h1, h2, h3⟩ := hm
  subst hn
  have hold : ∀ x ∈ arr.toList, x.born < m.ck := fun x hx => by
    have : x.born ∈ m.es.map (·.1) := by rw [← h2.borns]; exact List.mem_map_of_mem (f := (·.born)) hx
    obtain ⟨y, hy, e⟩ := List.mem_map.1 this
    rw [← e]; exact h3.lt y hy
  have hl : (leftOf arr seen.toArray).toList = arr.toList.filter fun e => !seen.contains e.born := by simp [leftOf]
  have hlf := leftOf_ents seen h2
  rw [← hl] at hlf
  rcases run_next_at (P := P) w ty r b m.ck m.ck seen.toArray arr m.ck hr h1 hold (Nat.le_refl _) with ⟨k1, k2⟩ | ⟨e, he, w1, hw1, k2⟩
  · refine .inl ⟨?_, k2⟩
    have : (leftOf arr seen.toArray).toList = [] := by simpa using k1
    rw [this] at hlf
    exact List.eq_nil_of_length_eq_zero hlf.len.symm
  · obtain ⟨a, x, b', k3, k4, k5, k6⟩ := hlf.split he
    have hb1 : w1.heap[r]? = some (.mapIter (some b) m.ck seen.toArray m.ck) := by rcases hw1 with rfl | rfl <;> exact hr
    refine .inr ⟨a, x, b', e.val, _, k3, by rw [k2, k5], k6, ?_, ?_⟩
    · have e1 : Ext [r] w w1 := by
        rcases hw1 with rfl | rfl
        · exact Ext.refl _ _
        · exact Ext.drew w _
      exact e1.trans (Ext.set w1 r _ hb1)
    · rw [show (seen ++ [x.1]).toArray = seen.toArray.push e.born from by rw [k4]; simp]
      exact (heap_set hb1).1
/-- how many there are -/
theorem run_mapLen {t tk te ty : TypeId} {b : Nat} {m : Mp} {ts : Array TypeId} (ht : P.underlying t = some (.map tk te)) (hts : ts[0]? = some t) (hm : MapAt G w b kt vt m) : ∀ w', w'.heap[b]? = w.heap[b]? → (Builtin.len_ ts ty #[.map (some b)]).run P w' = .ok (.int .i64 m.es.length) w' := by
  obtain ⟨arr, h1, h2, _⟩ := hm
  intro w' hw
  have hb := hw.trans h1
  have := h2.len
  simp [Builtin.len_, hts, run_underlying ht, MapKept.run_getObj_map hb, Result.andThen, goInt, ← this]
end Go.Proofs.YtnhfkdgambncfaaGreatDoor.Sv
namespace Go.Proofs.YtnhfkdgambncfaaGreatDoor.Sv
open Go.RowKit Go.Proofs.YtnhfkdgambncfaaGreatDoor.W
variable {Γ : Gl}

section
variable {s : Sg} {w0 w : World} {st : Stt} {A : AE} {E : Env} {P : Program} {o : Oper}
theorem Rd_ints {F : Fz} {xs : List D} {v : Value} (h : Slc F 1 (fun x us => Rd F (.i .u8) x us) xs v) (hF : ∀ b o, F b = some o → w.heap[b]? = some o) {src e dst : TypeId} (hs : P.underlying src = some (.slice e)) (he : P.underlying e = some (.int .u8)) (hd : P.underlying dst = some .string) :
    (convert src dst v).run P w = .ok (.string (strOfD xs)) w := by
  rcases h with ⟨rfl, rfl | ⟨a, rfl⟩⟩ | ⟨b, k, c, rfl, _, _, hq⟩
  · exact run_convert_bytes_nil (P := P) w src e hs he 0 0 dst hd
  · have hl : (loadCells a 0).run P w = .ok (([] : List Int).map (Value.int .u8)).toArray w := by simp [loadCells, loadCellsFrom, go_sem]
    have := Go.run_bytesToString (P := P) w a 0 0 [] hl
    simp [go_sem, convert, underlying, hs, hd, he, this, strOfD, strOfNums]
    rfl
  · refine run_convert_bytes_arg (P := P) w src e hs he b k xs.length c (xs.map D.int) (by simp) (fun i hi => ?_) dst hd
    obtain ⟨cs, h1, h2, h3⟩ := hq i _ (get_nthD hi)
    simp only [Rd] at h3
    subst h3
    have := h2.at hF 0 _ rfl
    simp only [Nat.mul_one, Nat.add_zero] at this
    rw [this]
    congr 2
    rw [List.getD_eq_getElem?_getD, List.getElem?_map, get_nthD hi]; rfl
theorem cmp_ok {op : BinOp} {t u : TypeId} {x y : Operand} {k : IntKind} {a b : Int} {r : Bool} (ho : o.op = .binOp op t x y u) (hx : ev E x = .int k a) (hy : ev E y = .int k b) (hr : cmpP op a b = some r) : OpV P o E w (.bool r) := by
  refine V.cmp ho hx hy ?_
  cases op <;> simp only [cmpP, Option.some.injEq, reduceCtorEq] at hr <;> subst hr <;> simp [cmpB]
theorem str_eq_list {x y : ByteArray} : (x.toList == y.toList) = decide (x = y) := by
  have key : x.toList = y.toList ↔ x = y := by
    constructor
    · intro h
      rw [ByteArray.toList_eq, ByteArray.toList_eq] at h
      exact ByteArray.ext (Array.ext' h)
    · intro h; rw [h]
  by_cases e : x = y
  · simp [e]
  · have e' : ¬ x.toList = y.toList := fun h => e (key.1 h)
    simp [e, e']
theorem scmp_ok {op : BinOp} {t u : TypeId} {x y : Operand} {a b : ByteArray} {r : Bool} (ho : o.op = .binOp op t x y u) (hx : ev E x = .string a) (hy : ev E y = .string b) (hr : scmpP op a b = some r) : OpV P o E w (.bool r) := by
  refine V.scmp ho hx hy ?_
  cases op <;> simp only [scmpP, Option.some.injEq, reduceCtorEq] at hr <;> subst hr <;> simp only [scmpB, str_eq_list]
theorem bool_ok {op : BinOp} {t u : TypeId} {x y : Operand} {a b : Bool} (ho : o.op = .binOp op t x y u) (hx : ev E x = .bool a) (hy : ev E y = .bool b) (hu : P.underlying t = some .bool) (h : op = .eql ∨ op = .neq) : OpV P o E w (.bool (bif op == .eql then a == b else !(a == b))) := by
  have he : (Op.equal t (.bool a) (.bool b)).run P w = .ok (a == b) w := by
    show (Op.equalIn (Op.maxDepth - 1 + 1) t (.bool a) (.bool b)).run P w = _
    rw [Op.equalIn]
    simp only [Sem.run_bind, underlying, run_program, hu, Result.andThen_ok, Sem.run_pure]
  rcases h with rfl | rfl <;> simp [OpV, execOp, ho, hx, hy, go_sem, eqGuard, binOp, he] <;> cases a <;> cases b <;> rfl
theorem arith_ok {op : BinOp} {t u : TypeId} {x y : Operand} {k : IntKind} {i j r : Int} {ps : Ps} {a : AV} (ho : o.op = .binOp op t x y u) (hx : ev E x = .int k i) (hy : ev E y = .int k j) (hr : W.arith op i j = some r) (h : arithP k r = some (ps, a)) (hp : ∀ p ∈ ps, p) : Rds1 P o E w s a := by
  unfold arithP at h
  cases hk : is64 k with
  | true =>
    rw [hk] at h
    cases h
    have : k = .i64 := by cases k <;> first | rfl | simp [is64] at hk
    subst this
    have hb : I64 r := hp _ (List.mem_singleton.2 rfl)
    exact Rds1.v fun w' => V.arith ho hx hy hr (wrap_i64 hb.1 hb.2)
  | false => rw [hk] at h; cases h; exact Rds1.v fun w' => V.arith ho hx hy hr rfl
theorem shift_ok {op : BinOp} {t u : TypeId} {x y : Operand} {k k' : IntKind} {a n r : Int} (ho : o.op = .binOp op t x y u) (hx : ev E x = .int k a) (hy : ev E y = .int k' n) (hn : 0 ≤ n) (hr : shP op k a n = some r) : OpV P o E w (.int k r) := by
  have hn' : ¬ n < 0 := by omega
  cases op <;> simp only [shP, Option.some.injEq, reduceCtorEq] at hr <;> subst hr <;> simp [OpV, execOp, ho, hx, hy, go_sem, eqGuard, binOp, Op.shift, bshl, bshr, hn']
theorem bits_ok {op : BinOp} {t u : TypeId} {x y : Operand} {k : IntKind} {a b r : Int} (ho : o.op = .binOp op t x y u) (hx : ev E x = .int k a) (hy : ev E y = .int k b) (hr : bitP op k a b = some r) : OpV P o E w (.int k r) := by
  cases op <;> simp only [bitP, Option.some.injEq, reduceCtorEq] at hr <;> subst hr <;> simp [OpV, execOp, ho, hx, hy, go_sem, eqGuard, binOp, Op.intBits, bor, band, bxor]
theorem quo_ok {t u : TypeId} {x y : Operand} {k : IntKind} {a b : Int} (ho : o.op = .binOp .quo t x y u) (hx : ev E x = .int k a) (hy : ev E y = .int k b) (hb : b ≠ 0) : OpV P o E w (.int k (k.wrap (a.tdiv b))) := by
  simp [OpV, execOp, ho, hx, hy, go_sem, eqGuard, binOp, Op.intDiv, hb]
theorem rem_ok {t u : TypeId} {x y : Operand} {k : IntKind} {a b : Int} (ho : o.op = .binOp .rem t x y u) (hx : ev E x = .int k a) (hy : ev E y = .int k b) (hb : b ≠ 0) : OpV P o E w (.int k (a.tmod b)) := by
  simp [OpV, execOp, ho, hx, hy, go_sem, eqGuard, binOp, Op.intDiv, hb]
theorem part_run {t off : Nat} {cs : List AV} {vs : List Value} {a : AV} (h : partA P t cs off = some a) (hr : RelL s cs vs) : ∃ u, Rel s a u ∧ (part t vs.toArray off).run P w = .ok u w := by
  rcases part_ok h hr with ⟨v, hp, hv, hrel⟩ | ⟨sz, us, hp, hle, hus, hlen, hrel⟩
  · exact ⟨v, hrel, by simp [go_sem, part, is_agg_no hp, hv]⟩
  · refine ⟨_, hrel, ?_⟩
    have : vs.toArray.extract off (off + sz) = us.toArray := by
      subst hus; simp [List.extract_eq_take_drop]
    simp [go_sem, part, is_agg_yes hp, size_of hp.2, ← this]
theorem agg_of {a : AV} {u : Value} (h : isAggA a = true) (hr : Rel s a u) : ∃ us, RelL s (cellsA a) us ∧ u = .agg us.toArray := by
  cases a <;> simp only [isAggA, reduceCtorEq, Bool.false_eq_true] at h
  · rename_i x
    have := hr.v_of
    subst this
    cases u <;> simp at h
    rename_i vs
    exact ⟨vs.toList, Rel.cells (Rel.mkv _), by simp⟩
  · simp only [Rel] at hr
    obtain ⟨vs, h1, h2⟩ := hr
    exact ⟨vs, by simpa [cellsA] using h1, h2⟩
theorem eqFs_ok {q : TypeId → AV → AV → Option Bool} {d : Nat} (hq : ∀ t a b u v r, q t a b = some r → Rel s a u → Rel s b v → (Op.equalIn d t u v).run P w = .ok r w) : ∀ (fs : List Field) (cs ds : List AV) (us vs : List Value) (r : Bool), eqFs P q fs cs ds = some r → RelL s cs us → RelL s ds vs → (Op.eqFields d us.toArray vs.toArray fs).run P w = .ok r w
  | [], _, _, _, _, r, h, _, _ => by simp only [eqFs, Option.some.injEq] at h; subst h; simp [Op.eqFields]
  | f :: fs, cs, ds, us, vs, r, h, h1, h2 => by
    simp only [eqFs] at h
    cases hn : decide (f.name = "_") with
    | true => rw [hn] at h; cases h
    | false =>
    rw [hn] at h
    simp only [cond_false] at h
    split at h
    case h_2 => cases h
    rename_i a b ha hb
    split at h
    case h_2 => cases h
    rename_i x y hx hy
    cases h
    obtain ⟨u, hu, ru⟩ := part_run (w := w) ha h1
    obtain ⟨v, hv, rv⟩ := part_run (w := w) hb h2
    have h3 := hq _ _ _ _ _ _ hx hu hv
    have h4 := eqFs_ok hq fs cs ds us vs y hy h1 h2
    have hne : f.name ≠ "_" := by simpa using hn
    simp only [Op.eqFields, ne_eq, hne, not_false_eq_true, if_true, Sem.run_bind, ru, rv, h3, Result.andThen_ok]
    cases x with
    | true => simpa using h4
    | false => simp
theorem eqS_ok : ∀ (n : Nat) (t : TypeId) (a b : AV) (u v : Value) (r : Bool), eqS P n t a b = some r → Rel s a u → Rel s b v → ∀ d, n ≤ d → (Op.equalIn d t u v).run P w = .ok r w
  | 0, _, _, _, _, _, _, h, _, _, _, _ => by simp [eqS] at h
  | n + 1, t, a, b, u, v, r, h, ha, hb, d, hd => by
    obtain ⟨d, rfl⟩ : ∃ e, d = e + 1 := ⟨d - 1, by omega⟩
    simp only [eqS] at h
    split at h
    · rename_i ht
      split at h
      case h_2 => cases h
      cases h
      rw [ha.v_of, hb.v_of]
      exact run_equalIn_bool' w d t _ _ ht
    · rename_i ht
      split at h
      case h_2 => cases h
      rename_i k x k' y
      cases hk : decide (k = k') with
      | false => rw [hk] at h; cases h
      | true =>
      rw [hk] at h
      cases h
      simp only [decide_eq_true_eq] at hk
      subst hk
      rw [ha.v_of, hb.v_of, run_equalIn_int w d t _ _ _ _ ht]
      rfl
    · rename_i ht
      split at h
      case h_2 => cases h
      cases h
      rw [ha.v_of, hb.v_of, run_equalIn_string w d t _ _ ht, str_eq_list]
    · rename_i fs ht
      cases hc : (!P.stoodInHeld t && isAggA a && isAggA b) with
      | false => rw [hc] at h; cases h
      | true =>
      rw [hc] at h
      simp only [cond_true] at h
      simp only [Bool.and_eq_true, Bool.not_eq_true'] at hc
      obtain ⟨⟨c1, c2⟩, c3⟩ := hc
      obtain ⟨us, r1, rfl⟩ := agg_of c2 ha
      obtain ⟨vs, r2, rfl⟩ := agg_of c3 hb
      have hf : P.fieldsOf t = fs := by simp [Program.fieldsOf, ht]
      rw [run_equalIn_struct w d t _ _ (by rw [hf]; exact ht) c1, hf]
      exact eqFs_ok (fun t a b u v r h1 h2 h3 => eqS_ok n t a b u v r h1 h2 h3 d (by omega)) _ _ _ _ _ _ h r1 r2
    · cases h
theorem evEq_ok {op : BinOp} {t u : TypeId} {x y : Operand} {p q : AV} {ps : Ps} {a : AV} (ho : o.op = .binOp op t x y u) (hE : EnvOK s A E) (hx : opd A x = some p) (hy : opd A y = some q) (h : evEq P t op p q = some (ps, a)) : Rds1 P o E w s a := by
  unfold evEq at h
  cases hc : (isAggA p && isAggA q && !P.eqGuardType P.depth t) with
  | false => rw [hc] at h; cases h
  | true =>
  rw [hc] at h
  simp only [cond_true] at h
  simp only [Bool.and_eq_true, Bool.not_eq_true'] at hc
  obtain ⟨⟨c1, c2⟩, c3⟩ := hc
  have h1 := opd_ok hx hE
  have h2 := opd_ok hy hE
  obtain ⟨us, r1, e1⟩ := agg_of c1 h1
  obtain ⟨vs, r2, e2⟩ := agg_of c2 h2
  split at h
  case h_2 => cases h
  rename_i r hr
  have key : ∀ w' : World, (Op.equalIn 10000 t (.agg us.toArray) (.agg vs.toArray)).run P w' = .ok r w' := fun w' => by
    have := eqS_ok (w := w') 9 t p q _ _ r hr h1 h2 10000 (by omega)
    rwa [e1, e2] at this
  split at h
  · cases h
    refine Rds1.v fun w' => ?_
    simp [OpV, execOp, ho, e1, e2, go_sem, key w', c3]
  · cases h
    refine Rds1.v fun w' => ?_
    simp [OpV, execOp, ho, e1, e2, go_sem, key w', c3]
  · cases h
theorem bin_ok {op : BinOp} {t u : TypeId} {x y : Operand} {p q : AV} {ps : Ps} {a : AV} (ho : o.op = .binOp op t x y u) (hE : EnvOK s A E) (hx : opd A x = some p) (hy : opd A y = some q) (h : evBin P t op p q = some (ps, a)) (hp : ∀ p ∈ ps, p) : Rds1 P o E w s a := by
  unfold evBin at h
  split at h
  · rename_i k i k' j
    split at h
    · rename_i r hr
      cases h
      exact Rds1.v fun w' => shift_ok ho (opd_v hx hE) (opd_v hy hE) (hp _ (List.mem_singleton.2 rfl)) hr
    cases hk : decide (k = k') with
    | false => rw [hk] at h; cases h
    | true =>
    rw [hk] at h
    simp only [cond_true] at h
    simp only [decide_eq_true_eq] at hk
    subst hk
    split at h
    · rename_i r hr; cases h; exact Rds1.v fun w' => cmp_ok ho (opd_v hx hE) (opd_v hy hE) hr
    · split at h
      · exact arith_ok ho (opd_v hx hE) (opd_v hy hE) rfl h hp
      · exact arith_ok ho (opd_v hx hE) (opd_v hy hE) rfl h hp
      · exact arith_ok ho (opd_v hx hE) (opd_v hy hE) rfl h hp
      · cases h; exact Rds1.v fun w' => quo_ok ho (opd_v hx hE) (opd_v hy hE) (hp _ (List.mem_singleton.2 rfl))
      · cases h; exact Rds1.v fun w' => rem_ok ho (opd_v hx hE) (opd_v hy hE) (hp _ (List.mem_singleton.2 rfl))
      · split at h
        · rename_i r hr; cases h; exact Rds1.v fun w' => bits_ok ho (opd_v hx hE) (opd_v hy hE) hr
        · cases h
  · rename_i i j
    split at h
    · rename_i r hr; cases h; exact Rds1.v fun w' => scmp_ok ho (opd_v hx hE) (opd_v hy hE) hr
    · split at h
      · cases h; exact Rds1.v fun w' => V.sadd ho (opd_v hx hE) (opd_v hy hE) (hp _ (by simp))
      · cases h
  · rename_i i j
    split at h
    · rename_i hu; cases h; exact Rds1.v fun w' => bool_ok ho (opd_v hx hE) (opd_v hy hE) hu (.inl rfl)
    · rename_i hu; cases h; exact Rds1.v fun w' => bool_ok ho (opd_v hx hE) (opd_v hy hE) hu (.inr rfl)
    · cases h
  · exact evEq_ok ho hE hx hy h
theorem err_ok {op : BinOp} {t u : TypeId} {x y : Operand} {a : AV} (ho : o.op = .binOp op t x y u) (hE : EnvOK s A E) (h : evErr P t op (opd A x) y = some a) : Rds1 P o E w s a := by
  unfold evErr at h
  split at h
  · rename_i b hx
    have hyv : ev E (.const .nilIface) = .nilIface := rfl
    have hxr := opd_ok hx hE
    simp only [Rel] at hxr
    split at h
    · rename_i ms hu
      cases h
      have hm : P.underlying t = some (.interface (P.methodsAt t)) := by rw [hu]; simp only [Program.methodsAt, hu]
      refine Rds1.v fun w' => ?_
      rcases hxr with ⟨rfl, e1⟩ | ⟨rfl, u, p, e1⟩
      · simp [OpV, execOp, ho, e1, hyv, go_sem, eqGuard, run_eql_nil_nil w' t hm]
      · simp [OpV, execOp, ho, e1, hyv, go_sem, eqGuard, run_eql_held_nil w' t u p hm]
    · rename_i ms hu
      cases h
      have hm : P.underlying t = some (.interface (P.methodsAt t)) := by rw [hu]; simp only [Program.methodsAt, hu]
      refine Rds1.v fun w' => ?_
      rcases hxr with ⟨rfl, e1⟩ | ⟨rfl, u, p, e1⟩
      · simp [OpV, execOp, ho, e1, hyv, go_sem, eqGuard, run_neq_nil_nil w' t hm]
      · simp [OpV, execOp, ho, e1, hyv, go_sem, eqGuard, run_neq_held_nil w' t u p hm]
    · cases h
  · cases h
theorem pickA_ok {b : Bool} {p q a : AV} {u v : Value} (h : pickA b p q = some a) (hp : b = true → Rel s p u) (hq : b = false → Rel s q v) : Rel s a (bif b then u else v) := by
  unfold pickA at h
  split at h
  · cases h
    cases b
    · rw [(hq rfl).v_of]; exact Rel.mkv _
    · rw [(hp rfl).v_of]; exact Rel.mkv _
  · rename_i k i k' j
    cases hk : decide (k = k') with
    | false => rw [hk] at h; cases h
    | true =>
    rw [hk] at h
    cases h
    simp only [decide_eq_true_eq] at hk
    subst hk
    cases b
    · rw [(hq rfl).v_of]; exact Rel.mkv _
    · rw [(hp rfl).v_of]; exact Rel.mkv _
  · cases h
    cases b
    · rw [(hq rfl).v_of]; exact Rel.mkv _
    · rw [(hp rfl).v_of]; exact Rel.mkv _
  · cases h
theorem constB_ok {x : Operand} {b : Bool} (h : constB x = some b) : ev E x = .bool b := by
  unfold constB at h
  split at h
  · cases h; rfl
  · cases h
theorem rd_index {t : TypeId} {x i : Operand} {ps : Ps} {a : AV} {p q : AV} {e sz : Nat} {m : Bool} {dt : DT} {xs : List D} {k : IntKind} {j : Int} (ho : o.op = .indexAddr t x i) (hE : EnvOK s A E) (hx : opd A x = some (.dl m dt xs)) (hi : opd A i = some (.v (.int k j))) (hu : P.underlying t = some (.slice e)) (hsz : szOf P e = some sz) (hs' : sz = dt.sz) (h0 : 0 ≤ j) (h1 : j < xs.length) : Rds1 P o E w s (.pd m dt (nthD xs j.toNat)) := by
  have hr := opd_ok hx hE
  simp only [Rel] at hr
  obtain ⟨b, kk, c, cs, hv, hl, hf, hrd⟩ := hr.elem (j := j.toNat) (by omega)
  refine ⟨_, by simp only [Rel]; exact ⟨b, kk + j.toNat * dt.sz, cs, rfl, hf, hrd⟩, fun w' _ => ?_⟩
  exact V.indexAddr ho hu (hs' ▸ szOf_sized hsz) hv (opd_v hi hE) (int_nat h0) (by omega)
theorem rd_ok (hH : Hold Γ s w0 st w) (hE : EnvOK s A E) {ps : Ps} {a : AV} (h : evRdS P st A o.op = some (ps, a)) (hp : ∀ p ∈ ps, p) : Rds1 P o E w s a := by
  unfold evRdS at h
  split at h
  · rename_i x ho; exact ⟨_, opd_ok (pure0_ok h) hE, fun w' _ => V.move ho rfl⟩
  · rename_i x ho; exact ⟨_, opd_ok (pure0_ok h) hE, fun w' _ => V.assign ho rfl⟩
  · rename_i x i ho
    split at h
    · rename_i cs hx
      have hr := opd_ok hx hE
      simp only [Rel] at hr
      obtain ⟨vs, hr, he⟩ := hr
      obtain ⟨v, hv, hrel⟩ := hr.get (pure0_ok h)
      exact ⟨v, hrel, fun w' _ => V.extract ho he (by simpa using hv)⟩
    · rename_i vs hx
      split at h
      · rename_i v hv; cases h; exact Rds1.v fun w' => V.extract ho (opd_v hx hE) hv
      · cases h
    · cases h
  · rename_i f fs cs ho
    cases hz : Nat.beq fs.size 0 with
    | false => rw [hz] at h; cases h
    | true =>
      rw [hz] at h
      simp only [cond_true] at h
      split at h
      · rename_i l hl
        cases h
        have hfs : fs = #[] := Array.eq_empty_of_size_eq_zero (beq_t hz)
        subst hfs
        refine ⟨_, ?_, fun w' _ => V.makeFunc ho rfl rfl⟩
        simp only [Rel]
        exact ⟨_, opds_ok hl hE, by rw [show cs.map (ev E) = (cs.toList.map (ev E)).toArray from Array.ext' (by simp), show (#[] : Array Operand).map (ev E) = #[] from by simp]⟩
      · cases h
  · rename_i x ho
    split at h
    · rename_i l k hx
      cases h
      have hr := opd_ok hx hE
      have hr' := hr
      simp only [Rel] at hr
      obtain ⟨p, hb, he⟩ := hr
      exact ⟨_, he ▸ hr', fun w' _ => V.nilCheck ho he⟩
    · rename_i m t d hx
      cases h
      have hr := opd_ok hx hE
      have hr' := hr
      simp only [Rel] at hr
      obtain ⟨b, k, cs, he, _⟩ := hr
      exact ⟨_, he ▸ hr', fun w' _ => V.nilCheck ho he⟩
    · rename_i f cs hx
      cases h
      have hr := opd_ok hx hE
      have hr' := hr
      simp only [Rel] at hr
      obtain ⟨vs, hr, he⟩ := hr
      refine ⟨.func (.func f) #[] vs.toArray, he ▸ hr', fun w' _ => ?_⟩
      simp [OpV, execOp, ho, he, go_sem]
    · cases h
  · rename_i t x i ho
    split at h
    case h_2 => cases h
    rename_i fs hu
    split at h
    case h_2 => cases h
    rename_i f hf
    split at h
    case h_2 => cases h
    rename_i n hn
    cases hz : Nat.beq n 0 with
    | true => rw [hz] at h; cases h
    | false =>
    rw [hz] at h
    simp only [cond_false] at h
    have hfo : FieldOf P t i f.type f.offset n := ⟨⟨fs, f, hu, hf, rfl, rfl⟩, szOf_sized hn, beq_f hz⟩
    split at h
    · rename_i l k hx
      cases h
      have hr := opd_ok hx hE
      simp only [Rel] at hr
      obtain ⟨p, hb, he⟩ := hr
      exact ⟨_, by simp only [Rel]; exact ⟨p, hb, rfl⟩, fun w' _ => V.fieldAddr ho hfo he⟩
    · rename_i m ts d hx
      split at h
      case h_2 => cases h
      rename_i off dt hfd
      cases hq : Nat.beq off f.offset with
      | false => rw [hq] at h; cases h
      | true =>
      rw [hq] at h
      cases h
      have hr := opd_ok hx hE
      simp only [Rel, Rd] at hr
      obtain ⟨b, k, cs, he, hfa, hrd⟩ := hr
      obtain ⟨us, vs, rs, rfl, hoff, hrd'⟩ := fieldD_ok ts i 0 _ _ _ _ hfd hrd
      refine ⟨_, ?_, fun w' _ => V.fieldAddr ho hfo he⟩
      simp only [Rel]
      refine ⟨b, k + f.offset, vs, rfl, ?_, hrd'⟩
      rw [← beq_t hq, hoff, Nat.zero_add]
      exact hfa.part
    · rename_i l j sz off js ts hx
      split at h
      case h_2 => cases h
      rename_i off' dt hfd
      cases hq : Nat.beq off' f.offset with
      | false => rw [hq] at h; cases h
      | true =>
      rw [hq] at h
      cases h
      have hr := opd_ok hx hE
      simp only [Rel] at hr
      obtain ⟨p, hb, hi, hmc, he⟩ := hr
      refine ⟨_, ?_, fun w' _ => V.fieldAddr ho hfo he⟩
      simp only [Rel]
      exact ⟨p, hb, hi, hmc, by rw [← beq_t hq, Nat.add_assoc]⟩
    · cases h
  · rename_i t x i ho
    split at h
    · rename_i m dt xs k j e hx hi hu
      split at h
      case h_2 => cases h
      rename_i sz hsz
      cases hc : (Nat.beq sz dt.sz && Nat.ble 1 sz) with
      | false => rw [hc] at h; cases h
      | true =>
      rw [hc] at h
      cases h
      simp only [Bool.and_eq_true] at hc
      have hb : Idx j xs.length := hp _ (List.mem_singleton.2 rfl)
      exact rd_index (p := .e0) (q := .e0) ho hE hx hi hu hsz (beq_t hc.1) (ps := []) (a := .e0) hb.1 hb.2
    · rename_i l n k j e hx hi hu
      split at h
      case h_2 => cases h
      rename_i sz et dt xs hsz hl
      cases hc : (Nat.beq sz dt.sz && Nat.ble 1 sz) with
      | false => rw [hc] at h; cases h
      | true =>
      rw [hc] at h
      cases h
      obtain ⟨h0, h1⟩ : Idx j n := hp _ (List.mem_singleton.2 rfl)
      have hr := opd_ok hx hE
      simp only [Rel] at hr
      obtain ⟨p, hb, hn, hmc, hv⟩ := hr
      rcases hv with hv | ⟨hc0, _⟩
      · refine ⟨.pointer (some ⟨p.b, 0 + j.toNat * sz, none⟩), ?_, fun w' _ => V.indexAddr ho hu (szOf_sized hsz) hv (opd_v hi hE) (int_nat h0) (by omega)⟩
        simp only [Rel]
        exact ⟨p, hb, by omega, hmc, by rw [Nat.zero_add, Nat.add_zero]⟩
      · omega
    · rename_i l n k j e hx hi hu
      split at h
      case h_2 => cases h
      rename_i sz et dt xs hsz hl
      cases hc : (Nat.beq sz dt.sz && Nat.ble 1 sz) with
      | false => rw [hc] at h; cases h
      | true =>
      rw [hc] at h
      cases h
      obtain ⟨h0, h1⟩ : Idx j n := hp _ (List.mem_singleton.2 rfl)
      have hr := opd_ok hx hE
      simp only [Rel] at hr
      obtain ⟨p, hb, hn, hmc, hv⟩ := hr
      rcases hv with hv | ⟨hc0, _⟩
      · refine ⟨.pointer (some ⟨p.b, 0 + j.toNat * sz, none⟩), ?_, fun w' _ => V.indexAddr ho hu (szOf_sized hsz) hv (opd_v hi hE) (int_nat h0) (by omega)⟩
        simp only [Rel]
        exact ⟨p, hb, by omega, hmc, by rw [Nat.zero_add, Nat.add_zero]⟩
      · omega
    · rename_i l k n c ai e hx hi hu
      split at h
      case h_2 => cases h
      rename_i j sz hj hsz
      cases hz : Nat.blt j n with
      | false => rw [hz] at h; cases h
      | true =>
      rw [hz] at h
      cases h
      have hr := opd_ok hx hE
      simp only [Rel] at hr
      obtain ⟨p, hb, he⟩ := hr
      obtain ⟨ik, hik⟩ := natOf_ok hj (opd_ok hi hE)
      exact ⟨_, by simp only [Rel]; exact ⟨p, hb, rfl⟩, fun w' _ => V.indexAddr ho hu (szOf_sized hsz) he hik rfl (blt_t hz)⟩
    · rename_i l lo n sz' k j e hx hi hu
      split at h
      case h_2 => cases h
      rename_i sz et dt xs hsz hl
      cases hc : (Nat.beq sz dt.sz && Nat.ble 1 sz && Nat.beq sz sz') with
      | false => rw [hc] at h; cases h
      | true =>
      rw [hc] at h
      cases h
      simp only [Bool.and_eq_true] at hc
      have hss := beq_t hc.2
      subst hss
      obtain ⟨h0, h1⟩ : Idx j n := hp _ (List.mem_singleton.2 rfl)
      have hr := opd_ok hx hE
      simp only [Rel] at hr
      obtain ⟨p, hb, hn, hmc, hv⟩ := hr
      rcases hv with ⟨_, cv, _, _, hv⟩ | ⟨hn0, _⟩
      · refine ⟨.pointer (some ⟨p.b, lo * sz + j.toNat * sz, none⟩), ?_, fun w' _ => V.indexAddr ho hu (szOf_sized hsz) hv (opd_v hi hE) (int_nat h0) (by omega)⟩
        simp only [Rel]
        exact ⟨p, hb, by omega, hmc, by rw [Nat.add_mul, Nat.add_zero]⟩
      · omega
    · rename_i l k ai n e hx hi hu
      split at h
      · rename_i et dt xs hl
        split at h
        case h_2 => cases h
        rename_i ik j sz hsz
        cases hc : (Nat.beq k 0 && Nat.beq sz dt.sz && Nat.ble 1 sz) with
        | false => rw [hc] at h; cases h
        | true =>
        rw [hc] at h
        cases h
        simp only [Bool.and_eq_true] at hc
        have hk := beq_t hc.1.1
        subst hk
        obtain ⟨h0, h1⟩ : Idx j n := hp _ (by simp)
        have q4 : n ≤ xs.length := hp _ (by simp)
        have hr := opd_ok hx hE
        simp only [Rel] at hr
        obtain ⟨p, hb, he⟩ := hr
        obtain ⟨p', hp', g1, g2, g3, g4⟩ := hH.row hl
        rw [hb] at hp'; cases hp'
        have hi' := opd_v hi hE
        refine ⟨.pointer (some ⟨p.b, j.toNat * sz, none⟩), by simp only [Rel]; exact ⟨p, hb, by omega, g2, by rw [Nat.add_zero]⟩, fun w' _ => ?_⟩
        simp [OpV, execOp, ho, he, hi', go_sem, Instr.indexAt, underlying, hu, asIntOf, Instr.sureAddr, size_of (szOf_sized hsz), addr_add, h0, h1]
      · split at h
        case h_2 => cases h
        rename_i j sz hj hsz
        cases hz : Nat.blt j n with
        | false => rw [hz] at h; cases h
        | true =>
        rw [hz] at h
        cases h
        have hr := opd_ok hx hE
        simp only [Rel] at hr
        obtain ⟨p, hb, he⟩ := hr
        obtain ⟨ik, hik⟩ := natOf_ok hj (opd_ok hi hE)
        refine ⟨.pointer (some ⟨p.b, k + j * sz, none⟩), by simp only [Rel]; exact ⟨p, hb, rfl⟩, fun w' _ => ?_⟩
        have hlt := blt_t hz
        simp [OpV, execOp, ho, he, hik, go_sem, Instr.indexAt, underlying, hu, asIntOf, Instr.sureAddr, size_of (szOf_sized hsz), addr_add, hlt]
    · cases h
  · rename_i t x i ho
    split at h
    · rename_i b k j hx hi hu
      cases h
      obtain ⟨h0, h1⟩ : Idx j b.size := hp _ (List.mem_singleton.2 rfl)
      have hlt : j.toNat < b.size := by omega
      refine Rds1.v fun w' => V.indexString ho hu (opd_v hx hE) (opd_v hi hE) (int_nat h0) (u := b.data.getD j.toNat 0) ?_
      have : b.data[j.toNat]? = some b.data[j.toNat] := Array.getElem?_eq_getElem (by simpa using hlt)
      simp [getElem?_pos, hlt, Array.getD]
      rfl
    · cases h
  · rename_i t x i ho
    split at h
    · rename_i cs fs hx hu
      split at h
      · rename_i f hf; exact rd_field ho hE hx hu hf (pure0_ok h)
      · cases h
    · cases h
  · rename_i t ps' ho
    split at h
    · rename_i L it fs hL hit hu
      split at h
      · rename_i z places hzz hpl
        split at h
        · rename_i cs hcs; cases h; exact rd_build ho hE hL hit hu hzz hpl hcs
        · cases h
      · cases h
    · cases h
  · rename_i t x ho
    split at h
    · rename_i p hx; exact rd_load ho hH hE hx (pure0_ok h)
    · cases h
  · rename_i t x lo hi mx ho; exact rd_slice ho hH hE h hp
  · rename_i t x ho
    split at h
    · rename_i b hx; cases h; exact Rds1.v fun w' => V.not ho (opd_v hx hE)
    · cases h
  · rename_i op t x y u ho
    split at h
    · rename_i r hr
      cases h
      exact err_ok ho hE hr
    · split at h
      · rename_i p q hx hy; exact bin_ok ho hE hx hy h hp
      · cases h
  · rename_i c x y ho
    split at h
    case h_2 => cases h
    rename_i b hc
    have hcv := opd_v hc hE
    cases hu1 : isU (opd A x) with
    | true =>
      rw [hu1] at h
      simp only [cond_true] at h
      split at h
      · rename_i q hy
        cases h
        have hb : b = false := hp _ (.head _)
        subst hb
        exact ⟨_, opd_ok hy hE, fun w' _ => V.pick ho hcv rfl⟩
      · cases h
    | false =>
    rw [hu1] at h
    cases hu2 : isU (opd A y) with
    | true =>
      rw [hu2] at h
      simp only [cond_true, cond_false] at h
      split at h
      · rename_i q hx
        cases h
        have hb : b = true := hp _ (.head _)
        subst hb
        exact ⟨_, opd_ok hx hE, fun w' _ => V.pick ho hcv rfl⟩
      · cases h
    | false =>
    rw [hu2] at h
    simp only [cond_false] at h
    split at h
    · rename_i _ hy
      split at h
      · rename_i p hx
        cases h
        refine Rds1.v fun w' => V.pick ho hcv ?_
        rw [opd_v hx hE, constB_ok hy]
        cases b <;> rfl
      · cases h
    · rename_i hx _
      split at h
      · rename_i q hy
        cases h
        refine Rds1.v fun w' => V.pick ho hcv ?_
        rw [opd_v hy hE, constB_ok hx]
        cases b <;> rfl
      · cases h
    · split at h
      · rename_i p q hx hy
        exact ⟨_, pickA_ok (pure0_ok h) (fun _ => opd_ok hx hE) (fun _ => opd_ok hy hE), fun w' _ => V.pick ho hcv rfl⟩
      · cases h
  · rename_i sT dT x ho
    split at h
    · rename_i k n k' k'' hx hs hd
      cases h
      have hx' := opd_v hx hE
      refine Rds1.v fun w' => ?_
      simp [OpV, execOp, ho, hx', go_sem, convert, underlying, hs, hd, Conv.intToInt]
    · rename_i b hx hs hd
      cases h
      have hx' := opd_v hx hE
      refine Rds1.v fun w' => ?_
      simp [OpV, execOp, ho, hx', go_sem, convert, underlying, hs, hd]
    · rename_i m xs e hx hs hd
      split at h
      · rename_i he
        cases h
        have hr := opd_ok hx hE
        simp only [Rel] at hr
        refine Rds1.v' fun w' hw => ?_
        have := Rd_ints (P := P) hr ((hH.grow hw).H m) hs he hd
        simp only [OpV, execOp, ho]
        exact run_v this
      · cases h
    · rename_i l n e hx hs hd
      split at h
      · rename_i et xs he hl
        cases h
        have hr := opd_ok hx hE
        simp only [Rel] at hr
        obtain ⟨p, hb, hn, hmc, hv⟩ := hr
        obtain ⟨p', hb', g1, g2, g3, g4⟩ := hH.row hl
        rw [hb] at hb'; cases hb'
        refine Rds1.v' fun w' hw => ?_
        simp only [OpV, execOp, ho]
        refine run_v ?_
        rcases hv with hv | ⟨hc0, hv⟩
        · rw [hv]
          by_cases hn0 : n = 0
          · subst hn0
            have hl0 : (loadCells ⟨p.b, 0, none⟩ 0).run P w' = .ok (([] : List Int).map (Value.int .u8)).toArray w' := by simp [loadCells, loadCellsFrom, go_sem]
            have := Go.run_bytesToString (P := P) w' ⟨p.b, 0, none⟩ 0 p.c [] hl0
            simp [go_sem, convert, underlying, hs, hd, he, this, strOfD, strOfNums]
            rfl
          · obtain ⟨cur, g5, g6, g7, g8⟩ := g4 (by omega)
            have g5' : w'.heap[p.b]? = some (.cells cur et (0, 0)) := Ext.keepB hw g5 (by simp)
            have hlen : ((xs.take n).map D.int).length = n := by rw [List.length_map, List.length_take]; omega
            refine run_convert_bytes_arg (P := P) w' sT e hs he p.b 0 n p.c ((xs.take n).map D.int) hlen (fun i hi => ?_) dT hd
            have hi' : i < xs.length := by omega
            have h1 := g8 i _ (get_nthD hi')
            simp only [DT.sz, Rd, Nat.mul_one] at h1
            have h2 : cur[i]? = some (.int .u8 (nthD xs i).int) := by
              have h3 : ((cur.toList.drop i).take 1)[0]? = some (.int .u8 (nthD xs i).int) := by rw [h1]; rfl
              simpa using h3
            simp only [Nat.zero_add, World.cell?, g5', h2]
            congr 2
            rw [List.getD_eq_getElem?_getD, List.getElem?_map, List.getElem?_take, if_pos hi, get_nthD hi']; rfl
        · have hx0 : xs.take n = [] := by
            have : xs = [] := List.eq_nil_of_length_eq_zero (by omega)
            rw [this]; simp
          rw [hx0]
          rcases hv with hv | ⟨az, hv⟩
          · rw [hv]; exact run_convert_bytes_nil (P := P) w' sT e hs he 0 0 dT hd
          · rw [hv]
            have hl0 : (loadCells az 0).run P w' = .ok (([] : List Int).map (Value.int .u8)).toArray w' := by simp [loadCells, loadCellsFrom, go_sem]
            have := Go.run_bytesToString (P := P) w' az 0 0 [] hl0
            simp [go_sem, convert, underlying, hs, hd, he, this, strOfD, strOfNums]
            rfl
      · cases h
    · rename_i l lo n sz e hx hs hd
      split at h
      · rename_i et xs he hl
        cases hz : Nat.beq sz 1 with
        | false => rw [hz] at h; cases h
        | true =>
        rw [hz] at h
        cases h
        have hz := beq_t hz
        subst hz
        have hr := opd_ok hx hE
        simp only [Rel] at hr
        obtain ⟨p, hb, hn, hmc, hv⟩ := hr
        refine Rds1.v' fun w' hw => ?_
        simp only [OpV, execOp, ho]
        refine run_v ?_
        have hslc : Slc (fun b => w'.heap[b]?) 1 (fun x us => Rd (fun b => w'.heap[b]?) (.i .u8) x us) ((xs.drop lo).take n) (ev E x) := by
          rcases hv with ⟨hc0, cv, k1, k2, hv⟩ | ⟨hn0, hv⟩
          · rw [hv]
            exact slc_view (t := .i .u8) (hH.grow hw) (sees_all (hH.grow hw)) hl hb hn hc0 k1 k2
          · subst hn0
            rw [List.take_zero]
            exact Slc.zv hv
        exact Rd_ints (P := P) hslc (fun _ _ h => h) hs he hd
      · cases h
    · cases h
  · rename_i xs ts ho
    split at h
    case h_2 => cases h
    rename_i x t hxs hts
    rw [toList1 hxs, toList1 hts] at ho
    split at h
    · rename_i b hx hu; cases h; exact Rds1.v fun w' => V.lenString ho rfl hu (opd_v hx hE)
    · rename_i m dt xs e hx hu
      cases h
      have hr := opd_ok hx hE
      simp only [Rel] at hr
      obtain ⟨a', c, hv, _⟩ := hr.shape
      exact Rds1.v fun w' => V.lenSlice ho rfl hu hv
    · rename_i l n e hx hu
      cases h
      have hr := opd_ok hx hE
      simp only [Rel] at hr
      obtain ⟨p, hb, hn, hmc, hv | ⟨hc0, hv⟩⟩ := hr
      · exact Rds1.v fun w' => V.lenSlice ho rfl hu hv
      · have : n = 0 := by omega
        subst this
        rcases hv with hv | ⟨az, hv⟩ <;> exact Rds1.v fun w' => V.lenSlice ho rfl hu hv
    · rename_i l n e hx hu
      cases h
      have hr := opd_ok hx hE
      simp only [Rel] at hr
      obtain ⟨p, hb, hn, hmc, hv | ⟨hc0, hv⟩⟩ := hr
      · exact Rds1.v fun w' => V.lenSlice ho rfl hu hv
      · have : n = 0 := by omega
        subst this
        rcases hv with hv | ⟨az, hv⟩ <;> exact Rds1.v fun w' => V.lenSlice ho rfl hu hv
    · rename_i l lo n sz e hx hu
      cases h
      have hr := opd_ok hx hE
      simp only [Rel] at hr
      obtain ⟨p, hb, hn, hmc, ⟨_, cv, _, _, hv⟩ | ⟨hn0, hv⟩⟩ := hr
      · exact Rds1.v fun w' => V.lenSlice ho rfl hu hv
      · subst hn0
        rcases hv with hv | ⟨az, hv⟩ <;> exact Rds1.v fun w' => V.lenSlice ho rfl hu hv
    · rename_i l k n c e hx hu
      cases h
      have hr := opd_ok hx hE
      simp only [Rel] at hr
      obtain ⟨p, hb, hv⟩ := hr
      exact Rds1.v fun w' => V.lenSlice ho rfl hu hv
    · rename_i l tk te hx hu
      split at h
      case h_2 => cases h
      rename_i kt vt m hl
      cases h
      have hr := opd_ok hx hE
      simp only [Rel] at hr
      obtain ⟨p, hp, hv⟩ := hr
      obtain ⟨p', hp', hob⟩ := hH.obj l _ hl
      rw [hp] at hp'; cases hp'
      have hlt : p.b < w.heap.size := hob.cur.lt trivial
      refine Rds1.v' fun w' hw => ?_
      simp only [OpV, execOp, ho]
      have hA : (#[x] : Array Operand).map (ev E) = #[.map (some p.b)] := by simp [hv]
      refine run_v ?_
      simpa [go_sem, hA, hv] using run_mapLen (P := P) (ty := o.type) hu rfl hob.cur w' (hw.block p.b hlt (by simp))
    · rename_i e hx hu
      cases h
      exact Rds1.v fun w' => V.lenSlice ho rfl hu (opd_v hx hE)
    · rename_i e hx hu
      cases h
      have hr := opd_ok hx hE
      simp only [Rel] at hr
      rcases hr with hv | ⟨a', hv⟩
      · exact Rds1.v fun w' => V.lenSlice ho rfl hu hv
      · exact Rds1.v fun w' => V.lenSlice ho rfl hu hv
    · cases h
  · rename_i xs ts ho
    split at h
    case h_2 => cases h
    rename_i x y t tr hxs hts
    split at h
    case h_2 => cases h
    rename_i k i k' j k'' hx hy hu
    cases hk : (decide (k = k') && decide (k = k'')) with
    | false => rw [hk] at h; cases h
    | true =>
    rw [hk] at h
    cases h
    simp only [Bool.and_eq_true, decide_eq_true_eq] at hk
    obtain ⟨rfl, rfl⟩ := hk
    rw [toList2 hxs] at ho
    exact Rds1.v fun w' => V.min ho (t := t) (by obtain ⟨l⟩ := ts; simp only at hts; subst hts; rfl) hu (opd_v hx hE) (opd_v hy hE)
  · rename_i xs ts ho
    split at h
    case h_2 => cases h
    rename_i x y t tr hxs hts
    split at h
    case h_2 => cases h
    rename_i k i k' j k'' hx hy hu
    cases hk : (decide (k = k') && decide (k = k'')) with
    | false => rw [hk] at h; cases h
    | true =>
    rw [hk] at h
    cases h
    simp only [Bool.and_eq_true, decide_eq_true_eq] at hk
    obtain ⟨rfl, rfl⟩ := hk
    rw [toList2 hxs] at ho
    exact Rds1.v fun w' => V.max ho (t := t) (by obtain ⟨l⟩ := ts; simp only at hts; subst hts; rfl) hu (opd_v hx hE) (opd_v hy hE)
  · rename_i t x ho
    split at h
    case h_2 => cases h
    rename_i d hx hu
    cases hd : isIfaceD d with
    | true => rw [hd] at h; cases h
    | false =>
    rw [hd] at h
    cases h
    refine ⟨.iface t (ev E x), by simp only [Rel]; rfl, fun w' _ => ?_⟩
    have hr : (Instr.makeInterface t (ev E x)).run P w' = .ok (.iface t (ev E x)) w' := by
      unfold Instr.makeInterface
      cases d <;> first | (cases hd; done) | simp [run_underlying hu]
    simp only [OpV, execOp, ho]
    exact run_v hr
  · rename_i t x i ok ho
    split at h
    case h_2 => cases h
    rename_i l ka tk te hx hi hu
    split at h
    case h_2 => cases h
    rename_i kt vt m inf hl hinf
    split at h
    case h_2 => cases h
    rename_i kd z hkd hz
    cases hc : (keyT P tk kt && zOne vt z) with
    | false => rw [hc] at h; cases h
    | true =>
    rw [hc] at h
    simp only [cond_true] at h
    simp only [Bool.and_eq_true] at hc
    have hr := opd_ok hx hE
    simp only [Rel] at hr
    obtain ⟨p, hp, hv⟩ := hr
    have hkv := keyD_ok hkd (opd_ok hi hE)
    have hzr : ∀ w, (zeroValue te).run P w = .ok z w := fun w => zero_of (by simp [W.Zero, hinf, hz])
    obtain ⟨p', hp', hob⟩ := hH.obj l _ hl
    rw [hp] at hp'; cases hp'
    have hm : MapAt s.G w p.b kt vt m := hob.cur
    have hlt : p.b < w.heap.size := hob.cur.lt trivial
    obtain ⟨v, cs, h1, h2, h3⟩ := run_look (k0 := kd) hu hc.1 hc.2 hzr hm ok
    have hX : ∀ w', Ext [] w w' → OpV P o E w' (if ok then .tuple #[v, .bool (hasM kt kd m)] else v) := fun w' hw => by
      simp only [OpV, execOp, ho]
      rw [hv, hkv]
      exact run_v (h3 w' (hw.block p.b hlt (by simp)))
    have hone : Rel s (oneD true vt (theM kt kd (zD vt) m)) v := oneD_val (by simpa [Sg.H] using h1) h2
    cases ok with
    | true =>
      simp only [cond_true] at h
      cases h
      refine ⟨_, ?_, hX⟩
      simp only [Rel]
      exact ⟨[v, .bool (hasM kt kd m)], RelL.cons hone (RelL.cons (Rel.mkv _) RelL.nil), rfl⟩
    | false =>
      simp only [cond_false] at h
      cases h
      exact ⟨_, hone, hX⟩
  · rename_i x ho
    split at h
    case h_2 => cases h
    rename_i i hx
    split at h
    case h_2 => cases h
    rename_i l n seen hi
    split at h
    case h_2 => cases h
    rename_i kt vt m hl
    cases hk : keyK kt with
    | false => rw [hk] at h; cases h
    | true =>
    rw [hk] at h
    cases h
    have hr := opd_ok hx hE
    simp only [Rel] at hr
    obtain ⟨p, hp1, hv⟩ := hr
    obtain ⟨p', hp', hob⟩ := hH.obj i _ hi
    rw [hp1] at hp'; cases hp'
    obtain ⟨q, hq, hit⟩ := hob.cur
    obtain ⟨q', hq', hmb⟩ := hH.obj l _ hl
    rw [hq] at hq'; cases hq'
    obtain ⟨v, cs, h1, h2, h3⟩ := run_entry (P := P) hk (hp _ (by simp)) (hp _ (by simp)) hmb.cur hit
    refine ⟨.tuple #[keyV kt (entM m seen).1, v], ?_, fun w' hw => ?_⟩
    · simp only [Rel]
      exact ⟨[keyV kt (entM m seen).1, v], RelL.cons (oneD_key hk) (RelL.cons (oneD_val (by simpa [Sg.H] using h1) h2) RelL.nil), rfl⟩
    · simp only [OpV, execOp, ho]
      rw [hv]
      exact run_v (h3 w' (hw.block q.b (hmb.cur.lt trivial) (by simp)) (hw.block p.b (hob.cur.lt trivial) (by simp)))
  · cases h
theorem pureRun_run {α : Type} (P : Program) (m : Sem α) {x : α} (h : pureRun P m = some x) (w : World) : m.run P w = .ok x w := by
  induction m with
  | pure a => simp only [pureRun, Option.some.injEq] at h; subst h; rfl
  | program k ih => simp only [pureRun] at h; exact ih _ h
  | mark _ k ih => simp only [pureRun] at h; exact ih h
  | _ => simp [pureRun] at h
theorem allV_ok {l : List Operand} (h : allV A l = true) (hE : EnvOK s A E) : ∀ x ∈ l, ev E x = rho A x := by
  induction l with
  | nil => simp
  | cons y r ih =>
    simp only [allV] at h
    split at h
    · rename_i v hv
      intro x hx
      rcases List.mem_cons.1 hx with rfl | hx
      · simp only [rho, hv]; exact opd_v hv hE
      · exact ih h x hx
    · cases h
theorem pure_ok (hE : EnvOK s A E) {a : AV} (h : evPure P A o = some a) : Rds1 P o E w s a := by
  unfold evPure at h
  split at h
  · cases h
  · rename_i hns
    cases hz : allV A o.op.operands.toList with
    | false => rw [hz] at h; cases h
    | true =>
      rw [hz] at h
      simp only [cond_true] at h
      split at h
      · rename_i v hv
        cases h
        refine Rds1.v fun w' => ?_
        have := execOp_congr (ρ := ev E) (ρ' := rho A) o (fun cs b e => hns cs b e) (fun x hx => allV_ok hz hE x (by simpa using hx))
        unfold OpV
        rw [this]
        exact pureRun_run P _ hv w'
      · cases h
end
end Go.Proofs.YtnhfkdgambncfaaGreatDoor.Sv
namespace Go.Proofs.YtnhfkdgambncfaaGreatDoor.Sv
open Go.RowKit Go.Proofs.YtnhfkdgambncfaaGreatDoor.W
variable {Γ : Gl}

section
variable {s : Sg} {w0 w : World} {st st' : Stt}
mutual
theorem toD_ok (hH : Hold Γ s w0 st w) {b : Bool} {F' : Fz} (hS : Sees s st w b F') : ∀ (t : DT) (cs : List AV) (vs : List Value) (d : D) (r : List AV), toD b st t cs = some (d, r) → RelL s cs vs → ∃ us ws, vs = us ++ ws ∧ Rd F' t d us ∧ RelL s r ws
  | .i k, cs, vs, d, r, h, hr => by
    simp only [toD] at h
    split at h
    case h_2 => cases h
    rename_i k' n r'
    cases hk : decide (k = k') with
    | false => rw [hk] at h; cases h
    | true =>
    rw [hk] at h
    cases h
    simp only [decide_eq_true_eq] at hk
    subst hk
    obtain ⟨v, vs', h1, h2, rfl⟩ := hr.uncons
    exact ⟨[v], vs', rfl, by simp only [Rd, D.int]; rw [h1.v_of], h2⟩
  | .b, cs, vs, d, r, h, hr => by
    simp only [toD] at h
    split at h
    case h_2 => cases h
    cases h
    obtain ⟨v, vs', h1, h2, rfl⟩ := hr.uncons
    exact ⟨[v], vs', rfl, by simp only [Rd, D.bool]; rw [h1.v_of], h2⟩
  | .s, cs, vs, d, r, h, hr => by
    simp only [toD] at h
    split at h
    case h_2 => cases h
    cases h
    obtain ⟨v, vs', h1, h2, rfl⟩ := hr.uncons
    exact ⟨[v], vs', rfl, by simp only [Rd, D.str]; rw [h1.v_of], h2⟩
  | .l e, cs, vs, d, r, h, hr => by
    simp only [toD] at h
    split at h
    · cases h
      obtain ⟨v, vs', h1, h2, rfl⟩ := hr.uncons
      exact ⟨[v], vs', rfl, by simp only [Rd, D.list]; exact ⟨v, rfl, Slc.zv (.inl h1.v_of)⟩, h2⟩
    · cases h
      obtain ⟨v, vs', h1, h2, rfl⟩ := hr.uncons
      simp only [Rel] at h1
      exact ⟨[v], vs', rfl, by simp only [Rd, D.list]; exact ⟨v, rfl, Slc.zv h1⟩, h2⟩
    · rename_i m e' xs r'
      cases hk : (e.beq e' && (m || !b)) with
      | false => rw [hk] at h; cases h
      | true =>
      rw [hk] at h
      cases h
      simp only [Bool.and_eq_true] at hk
      have := DT.beq_ok hk.1
      subst this
      obtain ⟨v, vs', h1, h2, rfl⟩ := hr.uncons
      simp only [Rel] at h1
      have hsub : Sub (s.H m) F' := by
        cases m with
        | true => exact hS.G
        | false => refine hS.F ?_; cases b <;> simp_all
      exact ⟨[v], vs', rfl, by simp only [Rd, D.list]; exact ⟨v, rfl, h1.mono hsub fun x us hx => Rd.mono hsub e x us hx⟩, h2⟩
    · rename_i l n r'
      split at h
      · rename_i et e' xs hl
        cases hk : (e.beq e' && !b) with
        | false => rw [hk] at h; cases h
        | true =>
        rw [hk] at h
        cases h
        simp only [Bool.and_eq_true, Bool.not_eq_true'] at hk
        have := DT.beq_ok hk.1
        subst this
        obtain ⟨_, rfl⟩ := hk
        obtain ⟨v, vs', h1, h2, rfl⟩ := hr.uncons
        simp only [Rel] at h1
        obtain ⟨p, hp, hn, hmc, hv⟩ := h1
        exact ⟨[v], vs', rfl, by simp only [Rd, D.list]; exact ⟨v, rfl, slc_row hH hS hl hp hn ⟨by omega, Nat.le_refl _⟩ hv⟩, h2⟩
      · cases h
    · rename_i l n r'
      split at h
      · rename_i et e' xs hl
        cases hk : (e.beq e' && !b) with
        | false => rw [hk] at h; cases h
        | true =>
        rw [hk] at h
        cases h
        simp only [Bool.and_eq_true, Bool.not_eq_true'] at hk
        have := DT.beq_ok hk.1
        subst this
        obtain ⟨_, rfl⟩ := hk
        obtain ⟨v, vs', h1, h2, rfl⟩ := hr.uncons
        simp only [Rel] at h1
        obtain ⟨p, hp, hn, hmc, hv⟩ := h1
        exact ⟨[v], vs', rfl, by simp only [Rd, D.list]; exact ⟨v, rfl, slc_row hH hS hl hp hn ⟨Nat.le_refl _, by omega⟩ hv⟩, h2⟩
      · cases h
    · rename_i l lo n sz r'
      split at h
      · rename_i et e' xs hl
        cases hk : (e.beq e' && !b && Nat.beq sz e.sz) with
        | false => rw [hk] at h; cases h
        | true =>
        rw [hk] at h
        cases h
        simp only [Bool.and_eq_true, Bool.not_eq_true'] at hk
        have := DT.beq_ok hk.1.1
        subst this
        have hsz := beq_t hk.2
        obtain ⟨⟨_, rfl⟩, _⟩ := hk
        subst hsz
        obtain ⟨v, vs', h1, h2, rfl⟩ := hr.uncons
        simp only [Rel] at h1
        obtain ⟨p, hp, hn, hmc, hv⟩ := h1
        refine ⟨[v], vs', rfl, ?_, h2⟩
        simp only [Rd, D.list]
        refine ⟨v, rfl, ?_⟩
        rcases hv with ⟨hc0, cv, k1, k2, rfl⟩ | ⟨hc0, hv⟩
        · exact slc_view hH hS hl hp hn hc0 k1 k2
        · have hn0 : n = 0 := hc0
          subst hn0
          rw [List.take_zero]
          exact Slc.zv hv
      · cases h
    · cases h
  | .t fs, cs, vs, d, r, h, hr => by
    simp only [toD] at h
    split at h
    · rename_i ds r' hds
      cases h
      obtain ⟨us, ws, h1, h2, h3⟩ := toDs_ok hH hS fs cs vs ds r hds hr
      exact ⟨us, ws, h1, by simp only [Rd, D.tup]; exact h2, h3⟩
    · cases h
theorem toDs_ok (hH : Hold Γ s w0 st w) {b : Bool} {F' : Fz} (hS : Sees s st w b F') : ∀ (ts : List DT) (cs : List AV) (vs : List Value) (ds : List D) (r : List AV), toDs b st ts cs = some (ds, r) → RelL s cs vs → ∃ us ws, vs = us ++ ws ∧ Rds F' ts ds us ∧ RelL s r ws
  | [], cs, vs, ds, r, h, hr => by
    simp only [toDs, Option.some.injEq, Prod.mk.injEq] at h
    obtain ⟨rfl, rfl⟩ := h
    exact ⟨[], vs, rfl, by simp only [Rds], hr⟩
  | t :: ts, cs, vs, ds, r, h, hr => by
    simp only [toDs] at h
    split at h
    · rename_i d r1 hd
      split at h
      · rename_i ds' r2 hds
        cases h
        obtain ⟨us, ws, rfl, h2, h3⟩ := toD_ok hH hS t cs vs d r1 hd hr
        obtain ⟨us', ws', rfl, h5, h6⟩ := toDs_ok hH hS ts r1 ws ds' _ hds h3
        exact ⟨us ++ us', ws', by simp, by simp only [Rds]; exact ⟨us, us', rfl, h2, h5⟩, h6⟩
      · cases h
    · cases h
end
theorem toDn_ok (hH : Hold Γ s w0 st w) {b : Bool} {F' : Fz} (hS : Sees s st w b F') (t : DT) : ∀ (n : Nat) (cs : List AV) (vs : List Value) (ds : List D), toDn b st t n cs = some ds → RelL s cs vs → ds.length = n ∧ Els F' t ds vs
  | 0, [], vs, ds, h, hr => by simp only [toDn, Option.some.injEq] at h; subst h; rw [hr.unnil]; exact ⟨rfl, Els.nil⟩
  | 0, _ :: _, _, _, h, _ => by simp [toDn] at h
  | n + 1, cs, vs, ds, h, hr => by
    simp only [toDn] at h
    split at h
    · rename_i d r hd
      split at h
      · rename_i ds' hds
        cases h
        obtain ⟨us, ws, rfl, h2, h3⟩ := toD_ok hH hS t cs vs d r hd hr
        obtain ⟨h4, h5⟩ := toDn_ok hH hS t n r ws ds' hds h3
        exact ⟨by simp [h4], Els.cons h2 h5⟩
      · cases h
    · cases h
mutual
theorem toD_zero {st : Stt} {w : Bool} : ∀ (t : DT) (cs : List AV) (d : D) (r : List AV), toD w ⟨[], 0⟩ t cs = some (d, r) → toD w st t cs = some (d, r)
  | .i _, cs, d, r, h => by simpa only [toD] using h
  | .b, cs, d, r, h => by simpa only [toD] using h
  | .s, cs, d, r, h => by simpa only [toD] using h
  | .l e, cs, d, r, h => by
    have hno : ∀ l : Nat, (⟨[], 0⟩ : Stt).h.get l = none := fun l => by simp only [Ly.get, Ly.go]; cases Nat.blt l 1000000 <;> rfl
    simp only [toD, hno] at h ⊢
    split at h
    · exact h
    · exact h
    · exact h
    · cases h
    · cases h
    · cases h
    · cases h
  | .t fs, cs, d, r, h => by
    simp only [toD] at h ⊢
    split at h
    case h_2 => cases h
    rename_i ds r' hds
    rw [toDs_zero fs cs ds r' hds]; exact h
theorem toDs_zero {st : Stt} {w : Bool} : ∀ (ts : List DT) (cs : List AV) (ds : List D) (r : List AV), toDs w ⟨[], 0⟩ ts cs = some (ds, r) → toDs w st ts cs = some (ds, r)
  | [], cs, ds, r, h => by simpa only [toDs] using h
  | t :: ts, cs, ds, r, h => by
    simp only [toDs] at h ⊢
    split at h
    case h_2 => cases h
    rename_i d r' hd
    split at h
    case h_2 => cases h
    rename_i ds' r'' hds
    rw [toD_zero t cs d r' hd]
    simp only
    rw [toDs_zero ts r' ds' r'' hds]; exact h
end
theorem Sees.self (st : Stt) (W : World) : Sees s st W true s.G := ⟨Sub.refl _, (fun h => by cases h), (fun h => by cases h)⟩

/-! ### Rows that become data -/
def Sg.frz (s : Sg) (b : Nat) (o : Obj) : Sg := { s with F := fun k => if k = b then some o else s.F k, G := fun k => if k = b then some o else s.G k }
/-- how states turn where rows become data -/
structure FrzRel (s : Sg) (st : Stt) (s' : Sg) (st' : Stt) : Prop where
  f : s'.f = s.f
  sub : ∀ k x, st'.h.get k = some x → st.h.get k = some x
  F : ∀ b, s.F b = none → (∀ l o p, st.h.get l = some o → s.f l = some p → there o p → p.b ≠ b) → s'.F b = none
theorem FrzRel.refl (s : Sg) (st : Stt) : FrzRel s st s st := ⟨rfl, fun _ _ h => h, fun _ h _ => h⟩
theorem FrzRel.trans {a b c : Sg} {x y z : Stt} (h : FrzRel a x b y) (k : FrzRel b y c z) : FrzRel a x c z :=
  ⟨k.f.trans h.f, fun i o hi => h.sub i o (k.sub i o hi), fun i hi hl => k.F i (h.F i hi hl) fun l o p h1 h2 => hl l o p (h.sub l o h1) (by rw [← h.f]; exact h2)⟩
theorem freeze_row (hH : Hold Γ s w0 st w) {l n c : Nat} {et : TypeId} {t : DT} {xs : List D} {p : Loc} {v : Value} (hl : st.h.get l = some (.q et t xs)) (hp : s.f l = some p) (hn : n ≤ p.m) (hc : n ≤ c ∧ c ≤ p.c) (hv : v = .slice (some ⟨p.b, 0, none⟩) n c ∨ (p.c = 0 ∧ ZV v)) :
    ∃ s', s.le s' ∧ Hold Γ s' w0 (delX st l) w ∧ Rel s' (.dl true t (xs.take n)) v ∧ FrzRel s st s' (delX st l) := by
  by_cases hc0 : p.c = 0
  · refine ⟨s, Sg.le.refl s, hH.del l, ?_, ⟨rfl, fun k x hk => (delX_key hk).2, fun _ h _ => h⟩⟩
    have hn0 : n = 0 := by
      obtain ⟨p', hp', g1, g2, _⟩ := hH.row hl
      rw [hp] at hp'; cases hp'
      omega
    subst hn0
    have hcc : c = 0 := by omega
    subst hcc
    simp only [Rel, List.take_zero]
    rcases hv with rfl | ⟨_, hv⟩
    · exact Slc.zv (.inr ⟨_, rfl⟩)
    · exact Slc.zv hv
  · obtain ⟨cur, h1, h2, h3, h4⟩ := hH.els hl hp hc0
    obtain ⟨p', hp', ho⟩ := hH.obj l _ hl
    rw [hp] at hp'; cases hp'
    have hF : s.F p.b = none := (ho.free hc0).1
    have hG : s.G p.b = none := by
      cases hg : s.G p.b with
      | none => rfl
      | some x => rw [hH.gf _ _ hg] at hF; cases hF
    have hle : s.le (s.frz p.b (.cells cur et (0, 0))) := by
      refine ⟨fun _ _ h => h, fun b o hb => ?_, fun b o hb => ?_, rfl, rfl⟩
      · simp only [Sg.frz]; split
        · rename_i e; subst e; rw [hF] at hb; cases hb
        · exact hb
      · simp only [Sg.frz]; split
        · rename_i e; subst e; rw [hG] at hb; cases hb
        · exact hb
    have hH' : Hold Γ (s.frz p.b (.cells cur et (0, 0))) w0 (delX st l) w := by
      refine ⟨hH.ext, fun b o hb => ?_, fun b o hb => ?_, hH.dom, fun k x hk => ?_, fun k k' x x' q q' hk hk' => hH.inj k k' x x' q q' (delX_key hk).2 (delX_key hk').2, fun b hb => ?_, hH.glob⟩
      · simp only [Sg.frz] at hb
        split at hb
        · rename_i e; subst e; cases hb; exact h1
        · exact hH.frz b o hb
      · simp only [Sg.frz] at hb ⊢
        split at hb
        · rename_i e; rw [if_pos e]; exact hb
        · rename_i e; rw [if_neg e]; exact hH.gf b o hb
      · obtain ⟨hne, hx⟩ := delX_key hk
        obtain ⟨q, g1, g2⟩ := hH.obj k x hx
        refine ⟨q, g1, fun ht => ?_, g2.cur.step hle fun _ => rfl⟩
        obtain ⟨g3, g4⟩ := g2.free ht
        refine ⟨?_, g4⟩
        simp only [Sg.frz]
        rw [if_neg (fun e => hne (hH.inj k l x _ q p hx hl g1 hp ht hc0 e))]
        exact g3
      · simp only [Sg.frz] at hb ⊢
        split at hb
        · rename_i e
          rcases (ho.free hc0).2 with h | ⟨_, h⟩
          · exact .inr (e ▸ h)
          · cases h
        · exact hH.gnew b hb
    refine ⟨_, hle, hH', ?_, ⟨rfl, fun k x hk => (delX_key hk).2, fun b hb hlv => ?_⟩⟩
    rotate_left
    · simp only [Sg.frz]
      rw [if_neg (fun e => hlv l _ p hl hp hc0 e.symm)]; exact hb
    have hS : Sees (s.frz p.b (.cells cur et (0, 0))) st w true (s.frz p.b (.cells cur et (0, 0))).G := Sees.self st w
    have hlen : (xs.take n).length = n := by rw [List.length_take, ho.cur.1]; omega
    simp only [Rel, Sg.H, cond_true]
    rcases hv with rfl | ⟨h0, _⟩
    · refine .inr ⟨p.b, 0, c, by rw [hlen], by rw [hlen]; exact hc.1, Nat.le_trans hc.2 ho.cur.2.2.1, fun i x hi => ?_⟩
      rw [List.getElem?_take] at hi
      split at hi
      · have hx := h4.rd i x hi
        refine ⟨_, Rd.len _ _ _ hx, ⟨cur, et, (0, 0), by simp [Sg.frz], fun j u hj => ?_⟩, Rd.mono hle.G t x _ hx⟩
        rw [List.getElem?_take] at hj
        split at hj
        · rw [List.getElem?_drop, List.getElem?_take] at hj
          split at hj
          · simpa using hj
          · cases hj
        · cases hj
      · cases hi
    · exact absurd h0 hc0
theorem freeze_ok (hH : Hold Γ s w0 st w) {a a' : AV} {v : Value} (h : freeze st a = some (a', st')) (hr : Rel s a v) : ∃ s', s.le s' ∧ Hold Γ s' w0 st' w ∧ Rel s' a' v ∧ FrzRel s st s' st' := by
  cases a with
  | ow l n =>
    simp only [freeze] at h
    split at h
    · rename_i et t xs hl
      cases h
      simp only [Rel] at hr
      obtain ⟨p, hp, hn, hmc, hv⟩ := hr
      exact freeze_row hH hl hp hn ⟨by omega, Nat.le_refl _⟩ hv
    · cases h
  | oc l n =>
    simp only [freeze] at h
    split at h
    · rename_i et t xs hl
      cases h
      simp only [Rel] at hr
      obtain ⟨p, hp, hn, hmc, hv⟩ := hr
      exact freeze_row hH hl hp hn ⟨Nat.le_refl _, by omega⟩ hv
    · cases h
  | _ => simp only [freeze, Option.some.injEq, Prod.mk.injEq] at h; obtain ⟨rfl, rfl⟩ := h; exact ⟨s, Sg.le.refl s, hH, hr, FrzRel.refl _ _⟩
theorem freezeL_ok' : ∀ {cs cs' : List AV} {vs : List Value} {s : Sg} {st st' : Stt}, Hold Γ s w0 st w → freezeL st cs = some (cs', st') → RelL s cs vs → ∃ s', s.le s' ∧ Hold Γ s' w0 st' w ∧ RelL s' cs' vs ∧ FrzRel s st s' st'
  | [], cs', vs, s, st, st', hH, h, hr => by simp only [freezeL, Option.some.injEq, Prod.mk.injEq] at h; obtain ⟨rfl, rfl⟩ := h; exact ⟨s, Sg.le.refl s, hH, hr, FrzRel.refl _ _⟩
  | a :: r, cs', vs, s, st, st', hH, h, hr => by
    simp only [freezeL] at h
    split at h
    · rename_i a1 st1 h1
      split at h
      · rename_i r1 st2 h2
        cases h
        obtain ⟨v, vs', h3, h4, rfl⟩ := hr.uncons
        obtain ⟨s1, k1, k2, k3, q1⟩ := freeze_ok hH h1 h3
        obtain ⟨s2, k4, k5, k6, q2⟩ := freezeL_ok' k2 h2 (RelL.mono k1 _ _ h4)
        exact ⟨s2, k1.trans k4, k5, RelL.cons (Rel.mono k4 _ _ k3) k6, q1.trans q2⟩
      · cases h
    · cases h
theorem freezeL_ok {cs cs' : List AV} {vs : List Value} (hH : Hold Γ s w0 st w) (h : freezeL st cs = some (cs', st')) (hr : RelL s cs vs) : ∃ s', s.le s' ∧ Hold Γ s' w0 st' w ∧ RelL s' cs' vs := by
  obtain ⟨s', h1, h2, h3, _⟩ := freezeL_ok' hH h hr
  exact ⟨s', h1, h2, h3⟩
theorem isAggA_val {a : AV} {v : Value} {b : Bool} (h : Rel s a v) (hb : isAggA a = b) (h1 : v.cells.toList.length = 1 ∨ b = true) (hone : ∀ u ∈ v.cells.toList, u.oneCell' = true) : Val b v.cells.toList v := by
  cases b with
  | true =>
    simp only [Val, cond_true]
    cases a <;> simp only [isAggA] at hb <;> try (cases hb; done)
    · rename_i x
      have := h.v_of
      subst this
      cases v <;> simp at hb
      simp [Value.cells]
    · simp only [Rel] at h
      obtain ⟨vs, _, rfl⟩ := h
      simp [Value.cells]
  | false =>
    simp only [Val, cond_false]
    have : ∀ cs, v ≠ .agg cs := by
      rintro cs rfl
      cases a <;> simp only [Rel] at h
      · subst h; simp [isAggA] at hb
      · obtain ⟨p, _, h⟩ := h; cases h
      · obtain ⟨p, _, h⟩ := h; cases h
      · simp [isAggA] at hb
      · obtain ⟨p, _, h⟩ := h; cases h
      · obtain ⟨p, _, h⟩ := h; cases h
      · obtain ⟨_, _, h, _⟩ := h.shape; cases h
      · rcases h with h | ⟨_, h⟩ <;> cases h
      · simp [Value.oneCell'] at h
      · rcases h with ⟨_, h⟩ | ⟨_, _, _, h⟩ <;> cases h
      · obtain ⟨_, _, _, h, _⟩ := h; cases h
      · obtain ⟨p, _, _, _, h | ⟨_, h | ⟨_, h⟩⟩⟩ := h <;> cases h
      · obtain ⟨p, _, _, _, h | ⟨_, h | ⟨_, h⟩⟩⟩ := h <;> cases h
      · obtain ⟨p, _, _, _, h⟩ := h; cases h
      · obtain ⟨p, _, _, _, ⟨_, cv, _, _, h⟩ | ⟨_, h | ⟨_, h⟩⟩⟩ := h <;> cases h
      · obtain ⟨p, _, h⟩ := h; cases h
    cases v <;> first | rfl | exact absurd rfl (this _)
theorem toD1_ok (hH : Hold Γ s w0 st w) {b : Bool} {F' : Fz} (hS : Sees s st w b F') {t : DT} {a : AV} {v : Value} {d : D} (h : toD1 b st t a = some d) (hr : Rel s a v) : ∃ cs, Rd F' t d cs ∧ Val t.isT cs v := by
  unfold toD1 at h
  cases hg : (isAggA a == t.isT) with
  | false => rw [hg] at h; cases h
  | true =>
  rw [hg] at h
  simp only [cond_true] at h
  split at h
  · rename_i d' hd
    cases h
    obtain ⟨us, ws, h1, h2, h3⟩ := toD_ok hH hS t _ _ _ _ hd hr.cells
    have := h3.unnil
    subst this
    rw [List.append_nil] at h1
    have hl := Rd.len _ _ _ h2
    refine ⟨us, h2, h1 ▸ isAggA_val hr (by simpa using hg) ?_ (by rw [h1]; exact Rd.one _ _ _ h2)⟩
    rw [h1, hl]
    cases t <;> simp [DT.isT, DT.sz]
  · cases h
end
end Go.Proofs.YtnhfkdgambncfaaGreatDoor.Sv
