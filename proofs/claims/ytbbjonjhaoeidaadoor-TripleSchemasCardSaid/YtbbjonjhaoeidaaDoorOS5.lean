/- The symbolic evaluator is right: operations that read. Program-agnostic. -/
import Derived.Test.YtbbjonjhaoeidaaDoorOS4
import Derived.Laws.BytesString
set_option linter.unusedVariables false
set_option linter.unusedSimpArgs false
namespace Go.Proofs.YtbbjonjhaoeidaaDoor.Sv
open Go.RowKit Go.Proofs.YtbbjonjhaoeidaaDoor.W
variable {Γ : Gl}

section
variable {s : Sg} {w0 w : World} {st : Stt} {A : AE} {E : Env} {P : Program} {o : Oper}
/-- the operation reads v, in this world and in all that grow out of it -/
def Rds1 (P : Program) (o : Oper) (E : Env) (w : World) (s : Sg) (a : AV) : Prop := ∃ v, Rel s a v ∧ ∀ w', Ext [] w w' → OpV P o E w' v
theorem opd_ok {x : Operand} {a : AV} (h : opd A x = some a) (hE : EnvOK s A E) : Rel s a (ev E x) := by
  cases x with
  | tmp t => exact hE t a h
  | const v => simp only [opd, Option.some.injEq] at h; subst h; exact Rel.mkv v
  | global g => simp [opd] at h
  | func f => simp only [opd, Option.some.injEq] at h; subst h; exact Rel.mkv _
theorem opd_v {x : Operand} {v : Value} (h : opd A x = some (.v v)) (hE : EnvOK s A E) : ev E x = v := (opd_ok h hE).v_of
theorem opds_ok {l : List Operand} {as' : List AV} (h : opds A l = some as') (hE : EnvOK s A E) : RelL s as' (l.map (ev E)) := by
  induction l generalizing as' with
  | nil => simp only [opds, Option.some.injEq] at h; subst h; exact RelL.nil
  | cons x r ih =>
    simp only [opds] at h
    split at h
    · rename_i a ha
      split at h
      · rename_i l' hl; cases h; exact RelL.cons (opd_ok ha hE) (ih hl)
      · cases h
    · cases h
theorem parts_ok {l : List (Nat × Operand)} {L : List (Nat × AV)} (h : partsA A l = some L) (hE : EnvOK s A E) : L.map (·.1) = l.map (·.1) ∧ RelL s (L.map (·.2)) (l.map fun x => ev E x.2) := by
  induction l generalizing L with
  | nil => simp only [partsA, Option.some.injEq] at h; subst h; exact ⟨rfl, RelL.nil⟩
  | cons x r ih =>
    obtain ⟨i, x⟩ := x
    simp only [partsA] at h
    split at h
    · rename_i a ha
      split at h
      · rename_i l' hl; cases h; obtain ⟨h1, h2⟩ := ih hl; exact ⟨by simp [h1], RelL.cons (opd_ok ha hE) h2⟩
      · cases h
    · cases h
theorem szOf_sized {t n : Nat} (h : szOf P t = some n) : Sized P t n := by
  unfold szOf at h
  unfold Sized
  cases hi : P.info? t with
  | none => rw [hi] at h; cases h
  | some i => rw [hi] at h; simpa using h
theorem plain_of {t : Nat} {d : TypeDesc} (hu : P.underlying t = some d) (h : isAggD d = false) : Plain P t := by
  refine ⟨d, hu, ?_, ?_⟩
  · rintro fs rfl; simp [isAggD] at h
  · rintro n e rfl; simp [isAggD] at h
theorem aggr_of {t n : Nat} {d : TypeDesc} (hu : P.underlying t = some d) (h : isAggD d = true) (hs : Sized P t n) : Aggr P t n := by
  refine ⟨⟨d, hu, ?_⟩, hs⟩
  cases d <;> simp [isAggD] at h
  · exact .inr ⟨_, _, rfl⟩
  · exact .inl ⟨_, rfl⟩
theorem part_ok {t off : Nat} {cs : List AV} {vs : List Value} {a : AV} (h : partA P t cs off = some a) (hr : RelL s cs vs) :
    (∃ v, Plain P t ∧ vs[off]? = some v ∧ Rel s a v) ∨ (∃ sz us, Aggr P t sz ∧ off + sz ≤ vs.length ∧ (vs.drop off).take sz = us ∧ us.length = sz ∧ Rel s a (.agg us.toArray)) := by
  unfold partA at h
  split at h
  · rename_i d sz hu hs
    cases hd : isAggD d with
    | true =>
      simp only [hd, cond_true] at h
      cases hb : Nat.ble (off + sz) cs.length with
      | false => simp [hb] at h
      | true =>
        simp only [hb, cond_true, Option.some.injEq] at h
        subst h
        have hle := ble_t hb
        rw [hr.len] at hle
        exact .inr ⟨sz, _, aggr_of hu hd (szOf_sized hs), hle, rfl, by rw [List.length_take, List.length_drop]; omega, by simp only [Rel]; exact ⟨_, (hr.drop off).take sz, rfl⟩⟩
    | false =>
      simp only [hd, cond_false] at h
      obtain ⟨v, h1, h2⟩ := hr.get h
      exact .inl ⟨v, plain_of hu hd, h1, h2⟩
  · cases h
theorem toList1 {α : Type} {xs : Array α} {x : α} (h : xs.toList = [x]) : xs = #[x] := by
  obtain ⟨l⟩ := xs; simp at h; subst h; rfl
theorem toList2 {α : Type} {xs : Array α} {x y : α} (h : xs.toList = [x, y]) : xs = #[x, y] := by
  obtain ⟨l⟩ := xs; simp at h; subst h; rfl
theorem natOf_ok {a : AV} {n : Nat} {v : Value} (h : natOf a = some n) (hr : Rel s a v) : ∃ k, v = .int k (n : Int) := by
  unfold natOf at h
  split at h
  · cases h; exact ⟨_, hr.v_of⟩
  · cases h
theorem bndN_ok {x : Option Operand} {d n : Nat} (h : bndN A x d = some n) (hE : EnvOK s A E) : BndIs E x d n := by
  cases x with
  | none => simp only [bndN, Option.some.injEq] at h; exact .inl ⟨rfl, h.symm⟩
  | some y =>
    simp only [bndN] at h
    split at h
    · rename_i a ha
      obtain ⟨k, hk⟩ := natOf_ok h (opd_ok ha hE)
      exact .inr ⟨y, k, rfl, hk⟩
    · cases h
theorem bnd_ok {x : Option Operand} {d : Nat} {n : Int} (h : bnd A x d = some n) (hE : EnvOK s A E) (h0 : x ≠ none → 0 ≤ n) : BndIs E x d n.toNat ∧ (x = none → n = d) ∧ 0 ≤ n := by
  cases x with
  | none => simp only [bnd, Option.some.injEq] at h; subst h; exact ⟨.inl ⟨rfl, by simp⟩, fun _ => rfl, Int.natCast_nonneg _⟩
  | some y =>
    have h0 := h0 (by simp)
    simp only [bnd] at h
    split at h
    · rename_i k m ha
      cases h
      have := opd_v ha hE
      exact ⟨.inr ⟨y, k, rfl, by rw [this, Int.toNat_of_nonneg h0]⟩, (fun e => by cases e), h0⟩
    · cases h
theorem fill_ok (place : Nat → Option (Nat × Nat)) : ∀ (L : List (Nat × AV)) (M : List (Nat × Value)) (cs cs' : List AV) (vs : List Value), L.map (·.1) = M.map (·.1) → RelL s (L.map (·.2)) (M.map (·.2)) → RelL s cs vs → fillA place cs L = some cs' →
    ∃ us, Instr.fill place vs.toArray M = some us.toArray ∧ RelL s cs' us
  | [], [], cs, cs', vs, _, _, hc, h => by simp only [fillA, Option.some.injEq] at h; subst h; exact ⟨vs, by simp [Instr.fill], hc⟩
  | [], _ :: _, _, _, _, h1, _, _, _ => by simp at h1
  | _ :: _, [], _, _, _, h1, _, _, _ => by simp at h1
  | (i, a) :: L, (j, v) :: M, cs, cs', vs, h1, h2, hc, h => by
    simp only [List.map_cons, List.cons.injEq] at h1
    obtain ⟨e1, h1⟩ := h1
    subst e1
    obtain ⟨v', vs', hv, hvs, e2⟩ := h2.uncons
    simp only [List.map_cons, List.cons.injEq] at e2
    obtain ⟨e2, e3⟩ := e2
    subst e2
    simp only [fillA] at h
    split at h
    · cases h
    · rename_i off sz hp
      have hcl := hv.cells
      have hlen := hcl.len
      cases hb : (Nat.beq (cellsA a).length sz && Nat.ble (off + sz) cs.length) with
      | false => rw [hb] at h; cases h
      | true =>
        rw [hb] at h
        simp only [Bool.and_eq_true] at hb
        have hsz := beq_t hb.1
        have hle := ble_t hb.2
        rw [hc.len] at hle
        have hvl : v.cells.toList.length = sz := by rw [← hlen]; exact hsz
        have hvc : v.cells.size = sz := by rw [← hsz, hlen, Array.length_toList]
        obtain ⟨us, h3, h4⟩ := fill_ok place L M (spliceA cs off (cellsA a)) cs' (W.splice vs off v.cells.toList) h1 (e3 ▸ hvs) (hc.splice hcl off) h
        refine ⟨us, ?_, h4⟩
        simp only [Instr.fill, hp]
        have hno : ¬ (v.cells.size ≠ sz ∨ off + v.cells.size > vs.toArray.size) := by simp; omega
        rw [if_neg (by simpa using hno)]
        have hz : v.cells.zipIdx.foldl (fun (cs : Array Value) (x : Value × Nat) => cs.setIfInBounds (off + x.2) x.1) vs.toArray = (W.splice vs off v.cells.toList).toArray := by
          have := foldl_set v.cells.toList off 0 (vs.take off) ((vs.drop off).take sz) (vs.drop (off + sz)) (by rw [List.length_take]; omega) (by rw [hvl, List.length_take, List.length_drop]; omega)
          rw [show vs.take off ++ (vs.drop off).take sz ++ vs.drop (off + sz) = vs from by
            rw [List.append_assoc, ← List.drop_drop, List.take_append_drop, List.take_append_drop]] at this
          unfold W.splice
          rw [hvl, ← this, ← Array.foldl_toList]
          simp
        exact (congrArg (fun z => Instr.fill place z M) hz).trans h3
theorem partsM {l : List (Nat × Operand)} : (l.map fun x => (x.1, ev E x.2)).map (·.1) = l.map (·.1) ∧ (l.map fun x => (x.1, ev E x.2)).map (·.2) = l.map fun x => ev E x.2 := by
  constructor <;> simp [List.map_map, Function.comp_def]

/-! ### Data as cells -/
mutual
theorem cellsD_ok {F : Fz} {m : Bool} (hF : s.H m = F) : ∀ (t : DT) (d : D) (cs : List Value), Rd F t d cs → RelL s (cellsD m t d) cs
  | .i k, d, cs, h => by simp only [Rd] at h; subst h; simp only [cellsD]; exact RelL.cons (Rel.mkv _) RelL.nil
  | .b, d, cs, h => by simp only [Rd] at h; subst h; simp only [cellsD]; exact RelL.cons (Rel.mkv _) RelL.nil
  | .s, d, cs, h => by simp only [Rd] at h; subst h; simp only [cellsD]; exact RelL.cons (Rel.mkv _) RelL.nil
  | .l e, d, cs, h => by
    simp only [Rd] at h
    obtain ⟨v, rfl, hv⟩ := h
    simp only [cellsD]
    exact RelL.cons (by simp only [Rel, hF]; exact hv) RelL.nil
  | .t fs, d, cs, h => by simp only [Rd] at h; simp only [cellsD]; exact cellsDs_ok hF fs d 0 d.tup cs (fun i => by rw [Nat.zero_add]; rfl) h
theorem cellsDs_ok {F : Fz} {m : Bool} (hF : s.H m = F) : ∀ (ts : List DT) (d : D) (j : Nat) (ds : List D) (cs : List Value), (∀ i, nthD ds i = d.fld (j + i)) → Rds F ts ds cs → RelL s (cellsDs m ts d j) cs
  | [], d, j, ds, cs, hd, h => by simp only [Rds] at h; subst h; simp only [cellsDs]; exact RelL.nil
  | t :: r, d, j, ds, cs, hd, h => by
    simp only [Rds] at h
    obtain ⟨us, vs, rfl, h2, h3⟩ := h
    simp only [cellsDs]
    have e0 := hd 0
    rw [Nat.add_zero] at e0
    rw [e0] at h2
    exact (cellsD_ok hF t _ us h2).append (cellsDs_ok hF r d (j + 1) _ vs (fun i => by rw [nthD_tail, hd (i + 1)]; congr 1; omega) h3)
end
theorem oneD_ok {m : Bool} {t : DT} {d : D} {cs : List Value} (h : Rd (s.H m) t d cs) : (∃ fs, t = .t fs ∧ Rel s (oneD m t d) (.agg cs.toArray)) ∨ ((∀ fs, t ≠ .t fs) ∧ ∃ v, cs = [v] ∧ Rel s (oneD m t d) v) := by
  have hc := cellsD_ok rfl t d cs h
  cases t with
  | t fs => exact .inl ⟨fs, rfl, by simp only [oneD, Rel]; exact ⟨cs, hc, rfl⟩⟩
  | i k => simp only [Rd] at h; subst h; exact .inr ⟨by simp, _, rfl, by simp only [oneD, cellsD]; exact Rel.mkv _⟩
  | b => simp only [Rd] at h; subst h; exact .inr ⟨by simp, _, rfl, by simp only [oneD, cellsD]; exact Rel.mkv _⟩
  | s => simp only [Rd] at h; subst h; exact .inr ⟨by simp, _, rfl, by simp only [oneD, cellsD]; exact Rel.mkv _⟩
  | l e =>
    simp only [Rd] at h
    obtain ⟨v, rfl, hv⟩ := h
    exact .inr ⟨by simp, _, rfl, by simp only [oneD, cellsD, Rel]; exact hv⟩
theorem fieldD_ok {F : Fz} : ∀ (ts : List DT) (j off0 : Nat) (ds : List D) (cs : List Value) (off : Nat) (dt : DT), fieldD ts j off0 = some (off, dt) → Rds F ts ds cs → ∃ us vs rs, cs = us ++ (vs ++ rs) ∧ off = off0 + us.length ∧ Rd F dt (nthD ds j) vs
  | [], _, _, _, _, _, _, h, _ => by simp [fieldD] at h
  | t :: r, 0, off0, ds, cs, off, dt, h, hr => by
    simp only [fieldD, Option.some.injEq, Prod.mk.injEq] at h
    obtain ⟨rfl, rfl⟩ := h
    simp only [Rds] at hr
    obtain ⟨us, vs, rfl, h2, h3⟩ := hr
    exact ⟨[], us, vs, rfl, rfl, h2⟩
  | t :: r, j + 1, off0, ds, cs, off, dt, h, hr => by
    simp only [fieldD] at h
    simp only [Rds] at hr
    obtain ⟨us, vs, rfl, h2, h3⟩ := hr
    obtain ⟨us', vs', rs', rfl, h5, h6⟩ := fieldD_ok r j _ _ _ _ _ h h3
    refine ⟨us ++ us', vs', rs', by simp, ?_, ?_⟩
    · rw [h5, List.length_append, Rd.len _ _ _ h2]; omega
    · rw [nthD_tail] at h6; exact h6
theorem FAt.at {F : Fz} {b k : Nat} {cs : List Value} (h : FAt F b k cs) (hF : ∀ b o, F b = some o → w.heap[b]? = some o) : At w b k cs := by
  obtain ⟨arr, et, fz, h1, h2⟩ := h
  intro j v hj
  have := hF _ _ h1
  simp [World.cell?, this, h2 j v hj]
theorem Hold.H (h : Hold Γ s w0 st w) (m : Bool) : ∀ b o, s.H m b = some o → w.heap[b]? = some o := by
  cases m
  · exact h.frz
  · exact fun b o hb => h.frz b o (h.gf b o hb)
/-- data that stand at an address are loaded -/
theorem load_data {t : TypeId} {x : Operand} {m : Bool} {dt : DT} {d : D} {a : AV} {b k : Nat} {cs : List Value} (ho : o.op = .load t x) (hx : ev E x = .pointer (some ⟨b, k, none⟩)) (hat : ∀ w', Ext [] w w' → At w' b k cs) (hr : Rd (s.H m) dt d cs) (h : readD P t m dt d = some a) : Rds1 P o E w s a := by
  unfold readD at h
  split at h
  · rename_i u sz hu hsz
    cases hc : (Nat.beq sz dt.sz && (dt.isT == isAggD u)) with
    | false => rw [hc] at h; cases h
    | true =>
      rw [hc] at h
      cases h
      simp only [Bool.and_eq_true, beq_iff_eq] at hc
      have hlen := Rd.len _ _ _ hr
      rcases oneD_ok hr with ⟨fs, rfl, hrel⟩ | ⟨hne, v, rfl, hrel⟩
      · exact ⟨_, hrel, fun w' hw => V.loadAgg ho (aggr_of hu hc.2.symm (szOf_sized hsz)) hx (hat w' hw) (by rw [hlen]; exact (beq_t hc.1).symm)⟩
      · refine ⟨v, hrel, fun w' hw => V.load ho (plain_of hu ?_) hx (by have := hat w' hw 0 v rfl; simpa using this)⟩
        have h2 := hc.2.symm
        cases dt with
        | t fs => exact absurd rfl (hne fs)
        | _ => simpa [DT.isT] using h2
  · cases h
/-- an element of data -/
theorem Slc.elem {F : Fz} {sz : Nat} {R : D → List Value → Prop} {xs : List D} {v : Value} (h : Slc F sz R xs v) {j : Nat} (hj : j < xs.length) : ∃ b k c cs, v = .slice (some ⟨b, k, none⟩) xs.length c ∧ cs.length = sz ∧ FAt F b (k + j * sz) cs ∧ R (nthD xs j) cs := by
  rcases h with ⟨rfl, _⟩ | ⟨b, k, c, hv, _, _, hq⟩
  · simp at hj
  · obtain ⟨cs, h1, h2, h3⟩ := hq j _ (get_nthD hj)
    exact ⟨b, k, c, cs, hv, h1, h2, h3⟩
/-- the path to a part, in the cells -/
theorem Hold.row (h : Hold Γ s w0 st w) {l : Nat} {et : TypeId} {t : DT} {xs : List D} (hl : st.h.get l = some (.q et t xs)) : ∃ p, s.f l = some p ∧ xs.length = p.m ∧ p.m ≤ p.c ∧ p.c ≤ maxLen ∧ (p.c ≠ 0 → ∃ cur, w.heap[p.b]? = some (.cells cur et (0, 0)) ∧ p.c * t.sz ≤ cur.size ∧ (∀ u ∈ cur.toList, u.oneCell' = true) ∧ ∀ i x, xs[i]? = some x → Rd s.G t x ((cur.toList.drop (i * t.sz)).take t.sz)) := by
  obtain ⟨p, h1, h2⟩ := h.obj l _ hl
  exact ⟨p, h1, h2.cur⟩
theorem path_ok {F : Fz} : ∀ (js : List Nat) (t : DT) (off0 off : Nat) (dt : DT) (d : D) (cs : List Value), pathD t js off0 = some (off, dt) → Rd F t d cs → ∃ us vs rs, cs = us ++ (vs ++ rs) ∧ off = off0 + us.length ∧ Rd F dt (d.at js) vs ∧ ∀ x ys, Rd F dt x ys → Rd F t (d.put js x) (us ++ (ys ++ rs)) := by
  intro js
  induction js with
  | nil =>
    intro t off0 off dt d cs h hr
    have h' : (off0, t) = (off, dt) := by cases t <;> simpa [pathD] using h
    cases h'
    exact ⟨[], cs, [], by simp, rfl, hr, fun x ys hx => by simpa [D.put] using hx⟩
  | cons j r ih =>
    intro t off0 off dt d cs h hr
    cases t with
    | t fs =>
      simp only [pathD] at h
      split at h
      · rename_i off' t' hf
        simp only [Rd] at hr
        have key : ∀ (ts : List DT) (j off0 : Nat) (ds : List D) (cs : List Value), fieldD ts j off0 = some (off', t') → Rds F ts ds cs → ∃ us vs rs, cs = us ++ (vs ++ rs) ∧ off' = off0 + us.length ∧ Rd F t' (nthD ds j) vs ∧ ∀ x ys, Rd F t' x ys → Rds F ts (setD ds j x) (us ++ (ys ++ rs)) := by
          intro ts
          induction ts with
          | nil => intro j off0 ds cs h; simp [fieldD] at h
          | cons t1 ts iht =>
            intro j off0 ds cs h hr
            simp only [Rds] at hr
            obtain ⟨us, vs, rfl, h2, h3⟩ := hr
            cases j with
            | zero =>
              simp only [fieldD, Option.some.injEq, Prod.mk.injEq] at h
              obtain ⟨rfl, rfl⟩ := h
              refine ⟨[], us, vs, rfl, rfl, h2, fun x ys hx => ?_⟩
              simp only [Rds, List.nil_append]
              refine ⟨ys, vs, rfl, ?_, ?_⟩
              · cases ds <;> simpa [setD, nthD] using hx
              · cases ds <;> simpa [setD, tailD] using h3
            | succ j =>
              simp only [fieldD] at h
              obtain ⟨us', vs', rs', rfl, h5, h6, h7⟩ := iht j _ _ _ h h3
              refine ⟨us ++ us', vs', rs', by simp, ?_, ?_, fun x ys hx => ?_⟩
              · rw [h5, List.length_append, Rd.len _ _ _ h2]; omega
              · rw [nthD_tail] at h6; exact h6
              · simp only [Rds]
                refine ⟨us, us' ++ (ys ++ rs'), by simp, ?_, ?_⟩
                · cases ds <;> simpa [setD, nthD] using h2
                · have := h7 x ys hx
                  cases ds <;> simpa [setD, tailD] using this
        obtain ⟨us, vs, rs, rfl, h5, h6, h7⟩ := key fs j off0 _ _ hf hr
        obtain ⟨us', vs', rs', rfl, h8, h9, h10⟩ := ih t' off' off dt _ _ h h6
        refine ⟨us ++ us', vs', rs' ++ rs, by simp, by rw [h8, h5, List.length_append]; omega, h9, fun x ys hx => ?_⟩
        have := h7 _ _ (h10 x ys hx)
        simp only [D.put, Rd]
        rw [show (us ++ us') ++ (ys ++ (rs' ++ rs)) = us ++ ((us' ++ (ys ++ rs')) ++ rs) from by simp]
        exact this
      · cases h
    | _ => simp [pathD] at h
theorem pathIs_ok {rt dt : DT} {js : List Nat} {off : Nat} (h : pathIs rt js off dt = true) : pathD rt js 0 = some (off, dt) := by
  unfold pathIs at h
  split at h
  · rename_i o' d' e
    simp only [Bool.and_eq_true] at h
    rw [e, beq_t h.1, DT.beq_ok h.2]
  · cases h
theorem int_nat {n : Int} (h : 0 ≤ n) : n = (n.toNat : Int) := (Int.toNat_of_nonneg h).symm
end
end Go.Proofs.YtbbjonjhaoeidaaDoor.Sv
