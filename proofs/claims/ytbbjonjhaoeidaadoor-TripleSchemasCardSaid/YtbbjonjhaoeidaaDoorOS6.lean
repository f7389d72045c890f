/- The symbolic evaluator is right: operations that read, one by one. Program-agnostic. -/
import Derived.Test.YtbbjonjhaoeidaaDoorOS5
import Derived.Laws.BytesArg
set_option linter.unusedVariables false
set_option linter.unusedSimpArgs false
namespace Go.Proofs.YtbbjonjhaoeidaaDoor.Sv
open Go.RowKit Go.Proofs.YtbbjonjhaoeidaaDoor.W
variable {Γ : Gl}

section
variable {s : Sg} {w0 w : World} {st : Stt} {A : AE} {E : Env} {P : Program} {o : Oper}
theorem pure0_ok {x : Option AV} {ps : Ps} {a : AV} (h : pure0 x = some (ps, a)) : x = some a := by
  cases x with
  | none => simp [pure0] at h
  | some b => simp only [pure0, Option.some.injEq, Prod.mk.injEq] at h; rw [h.2]
theorem Rds1.v {v : Value} (h : ∀ w', OpV P o E w' v) : Rds1 P o E w s (.v v) := ⟨v, Rel.mkv v, fun w' _ => h w'⟩
theorem Rds1.v' {v : Value} (h : ∀ w', Ext [] w w' → OpV P o E w' v) : Rds1 P o E w s (.v v) := ⟨v, Rel.mkv v, h⟩
theorem rd_load {t : TypeId} {x : Operand} {p a : AV} (ho : o.op = .load t x) (hH : Hold Γ s w0 st w) (hE : EnvOK s A E) (hx : opd A x = some p) (h : evLoad P st t p = some a) : Rds1 P o E w s a := by
  have hr := opd_ok hx hE
  cases p with
  | pe l i sz off js dt =>
    simp only [evLoad] at h
    split at h
    case h_2 => cases h
    rename_i et rt xs hl
    cases hc : (Nat.beq sz rt.sz && pathIs rt js off dt) with
    | false => rw [hc] at h; cases h
    | true =>
    rw [hc] at h
    simp only [cond_true] at h
    simp only [Bool.and_eq_true] at hc
    have hsz := beq_t hc.1
    have hpa := pathIs_ok hc.2
    simp only [Rel] at hr
    obtain ⟨p, hp, hi, hmc, he⟩ := hr
    obtain ⟨p', hp', g1, g2, g3, g4⟩ := hH.row hl
    rw [hp] at hp'; cases hp'
    obtain ⟨cur, g5, g6, g7, g8⟩ := g4 (by omega)
    have hrow := g8 i _ (get_nthD (by omega))
    obtain ⟨us, vs, rs, hcs, hoff, hrd, _⟩ := path_ok js rt 0 off dt _ _ hpa hrow
    refine load_data (m := true) ho he (fun w' hw => ?_) hrd h
    have g5' : w'.heap[p.b]? = some (.cells cur et (0, 0)) := Ext.keepB hw g5 (by simp)
    intro j v hj
    have hlt : j < vs.length := (List.getElem?_eq_some_iff.1 hj).1
    have h1 : ((cur.toList.drop (i * rt.sz)).take rt.sz)[us.length + j]? = some v := by
      rw [hcs, List.getElem?_append_right (by omega), Nat.add_sub_cancel_left, List.getElem?_append_left hlt]; exact hj
    rw [List.getElem?_take] at h1
    split at h1
    · rw [List.getElem?_drop] at h1
      have h2 : cur[i * sz + off + j]? = some v := by
        rw [show i * sz + off + j = i * rt.sz + (us.length + j) from by rw [hsz, hoff]; omega]
        simpa using h1
      simp [World.cell?, g5', h2]
    · cases h1
  | ptr l k =>
      simp only [evLoad, evRead] at h
      split at h
      case h_2 => cases h
      rename_i et cs hl
      obtain ⟨p, h1, h2⟩ := hH.obj l _ hl
      obtain ⟨vs, h3, h4⟩ := h2.cur
      simp only [Rel] at hr
      obtain ⟨p', h5, he⟩ := hr
      rw [h1] at h5; cases h5
      have hat : ∀ w', Ext [] w w' → Box w' p.b et vs := fun w' hw => Ext.keepB hw h3 (by simp)
      rcases part_ok h h4 with ⟨v, hp, hv, hrel⟩ | ⟨sz, us, hp, hle, hus, hlen, hrel⟩
      · exact ⟨v, hrel, fun w' hw => V.load ho hp he ((hat w' hw).cell hv)⟩
      · refine ⟨_, hrel, fun w' hw => V.loadAgg ho hp he ?_ hlen⟩
        have := At.seg (hat w' hw) k sz
        rw [hus] at this; exact this
  | pd m dt d =>
      simp only [evLoad, evRead] at h
      simp only [Rel] at hr
      obtain ⟨b, k, cs, he, hf, hrd⟩ := hr
      exact load_data ho he (fun w' hw => hf.at ((hH.grow hw).H m)) hrd h
  | _ => simp [evLoad, evRead] at h
theorem rd_field {t : TypeId} {x : Operand} {i : Nat} {a : AV} {cs : List AV} {fs : Array Field} {f : Field} (ho : o.op = .field t x i) (hE : EnvOK s A E) (hx : opd A x = some (.agg cs)) (hu : P.underlying t = some (.struct fs)) (hf : fs[i]? = some f) (h : partA P f.type cs f.offset = some a) : Rds1 P o E w s a := by
  have hr := opd_ok hx hE
  simp only [Rel] at hr
  obtain ⟨vs, hr, he⟩ := hr
  rcases part_ok h hr with ⟨v, hp, hv, hrel⟩ | ⟨sz, us, hp, hle, hus, hlen, hrel⟩
  · refine ⟨v, hrel, fun w' _ => ?_⟩
    simp [OpV, execOp, ho, he, go_sem, Instr.field, underlying, hu, hf, asAgg, part, is_agg_no hp, hv]
  · refine ⟨_, hrel, fun w' _ => ?_⟩
    have : vs.toArray.extract f.offset (f.offset + sz) = us.toArray := by
      subst hus; simp [List.extract_eq_take_drop]
    simp [OpV, execOp, ho, he, go_sem, Instr.field, underlying, hu, hf, asAgg, part, is_agg_yes hp, size_of hp.2, ← this]
theorem rd_build {t : TypeId} {ps : Array (Nat × Operand)} {L : List (Nat × AV)} {it : TypeInfo} {fs : Array Field} {z : Value} {places : List (Nat × Nat)} {cs : List AV} (ho : o.op = .build t ps) (hE : EnvOK s A E) (hL : partsA A ps.toList = some L) (hit : P.info? t = some it) (hu : P.underlying t = some (.struct fs))
    (hzz : it.zero = some z) (hpl : fs.toList.mapM (fun f => (P.info? f.type).map fun i => (f.offset, i.size)) = some places) (hcs : fillA (places.toArray[·]?) (cellsA (.v z)) L = some cs) : Rds1 P o E w s (.agg cs) := by
  obtain ⟨hp1, hp2⟩ := parts_ok hL hE
  have hz0 : RelL s (cellsA (.v z)) z.cells.toList := Rel.cells (Rel.mkv z)
  obtain ⟨us, hus, hrel⟩ := fill_ok _ L (ps.toList.map fun x => (x.1, ev E x.2)) _ cs _ (by rw [partsM.1]; exact hp1) (by rw [partsM.2]; exact hp2) hz0 hcs
  refine ⟨.agg us.toArray, by simp only [Rel]; exact ⟨us, hrel, rfl⟩, fun w' _ => V.build1 ho rfl (vs := us.toArray) ?_⟩
  simp only [Program.built, hit, hu, hzz, hpl]
  simpa using hus
theorem low_ps {lo hi : Option Operand} {a b n : Int} (h : ∀ p ∈ ((match lo with | none => [] | some _ => [0 ≤ a]) ++ [a ≤ b] ++ (match hi with | none => [] | some _ => [b ≤ n]) : Ps), p) : (lo ≠ none → 0 ≤ a) ∧ a ≤ b ∧ (hi ≠ none → b ≤ n) := by
  refine ⟨fun hl => ?_, h _ (by simp), fun hh => ?_⟩
  · cases lo with
    | none => exact absurd rfl hl
    | some y => exact h _ (by simp)
  · cases hi with
    | none => exact absurd rfl hh
    | some y => exact h _ (by simp)
theorem cutOf_eq {xs : List D} {lo hi : Option Operand} {a b : Int} (ha : lo = none → a = 0) (h0 : 0 ≤ a) (hb : hi = none → b = xs.length) (hab : a ≤ b) : cutOf (lowOf xs lo a) hi a b = (xs.drop a.toNat).take (b.toNat - a.toNat) := by
  have h1 : lowOf xs lo a = xs.drop a.toNat := by
    cases lo with
    | none => rw [ha rfl]; rfl
    | some y => rfl
  rw [h1]
  cases hi with
  | none =>
    have := hb rfl
    simp only [cutOf]
    rw [List.take_of_length_le (by rw [List.length_drop]; omega)]
  | some y => simp only [cutOf]; congr 1; omega
theorem rd_slice {t : TypeId} {x : Operand} {lo hi mx : Option Operand} {ps : Ps} {a : AV} (ho : o.op = .slice t x lo hi mx) (hH : Hold Γ s w0 st w) (hE : EnvOK s A E) (h : evSlice P st A t x lo hi mx = some (ps, a)) (hp : ∀ p ∈ ps, p) : Rds1 P o E w s a := by
  unfold evSlice at h
  split at h
  · -- a text
    rename_i b hx hu
    split at h
    case h_2 => cases h
    rename_i i j hlo hhi
    cases h
    obtain ⟨p1, p2, p3⟩ := low_ps hp
    obtain ⟨l1, l2, l3⟩ := bnd_ok hlo hE p1
    obtain ⟨m1, m2, m3⟩ := bnd_ok hhi hE (fun _ => by omega)
    have hj : j ≤ b.size := by
      cases hi with
      | none => rw [m2 rfl]; exact Int.le_refl _
      | some y => exact p3 (by simp)
    exact Rds1.v fun w' => V.sliceStr ho hu (opd_v hx hE) l1 m1 (by omega) (by omega)
  · -- data
    rename_i m dt xs e hx hu
    have hr := opd_ok hx hE
    simp only [Rel] at hr
    split at h
    · rename_i sz i j hsz hlo hhi
      cases hc : (Nat.beq sz dt.sz && Nat.ble 1 sz) with
      | false => rw [hc] at h; cases h
      | true =>
      rw [hc] at h
      cases h
      simp only [Bool.and_eq_true] at hc
      have hs' := beq_t hc.1
      obtain ⟨p1, p2, p3⟩ := low_ps hp
      obtain ⟨l1, l2, l3⟩ := bnd_ok hlo hE p1
      obtain ⟨m1, m2, m3⟩ := bnd_ok hhi hE (fun _ => by omega)
      have hj : j ≤ xs.length := by
        cases hi with
        | none => rw [m2 rfl]; exact Int.le_refl _
        | some y => exact p3 (by simp)
      obtain ⟨av, c, hv, hc⟩ := hr.shape
      rw [cutOf_eq l2 l3 m2 p2]
      rw [hv] at hr
      have hcut := hr.cut (l := i.toNat) (h := j.toNat) (m := c) (by omega) (by omega) (Nat.le_refl c) (by omega)
      exact ⟨_, by simp only [Rel]; exact hcut, fun w' _ => V.sliceAny ho hu (hs' ▸ szOf_sized hsz) hv l1 m1 (.inl ⟨rfl, rfl⟩) (fun e => absurd rfl e) (by omega) (by omega) (Nat.le_refl c)⟩
    · rename_i sz i j y hsz hlo hhi
      split at h
      case h_2 => cases h
      rename_i y1 hy0 k c hy
      cases hc : (Nat.beq sz dt.sz && Nat.ble 1 sz) with
      | false => rw [hc] at h; cases h
      | true =>
      rw [hc] at h
      cases h
      simp only [Bool.and_eq_true] at hc
      have hs' := beq_t hc.1
      have q1 : lo ≠ none → 0 ≤ i := fun hl => by
        cases lo with
        | none => exact absurd rfl hl
        | some y => exact hp _ (by simp)
      have q2 : i ≤ j := hp _ (by simp)
      have q3 : j ≤ c := hp _ (by simp)
      have q4 : c ≤ xs.length := hp _ (by simp)
      obtain ⟨l1, l2, l3⟩ := bnd_ok hlo hE q1
      obtain ⟨m1, m2, m3⟩ := bnd_ok hhi hE (fun _ => by omega)
      obtain ⟨av, cp, hv, hcp⟩ := hr.shape
      rw [cutOf_eq l2 l3 m2 q2]
      rw [hv] at hr
      have hcut := hr.cut (l := i.toNat) (h := j.toNat) (m := c.toNat) (by omega) (by omega) (by omega) (by omega)
      exact ⟨_, by simp only [Rel]; exact hcut, fun w' _ => V.sliceAny ho hu (hs' ▸ szOf_sized hsz) hv l1 m1 (.inr ⟨y, k, rfl, by rw [opd_v hy hE, ← int_nat (by omega)]⟩) (fun _ => by simp) (by omega) (by omega) (by omega)⟩
    · cases h
  · -- a row of one's own
    rename_i l n e hx hu
    have hr := opd_ok hx hE
    simp only [Rel] at hr
    obtain ⟨p, hp1, hn, hmc, hv⟩ := hr
    split at h
    · rename_i sz b et dt xs hsz hb hl
      cases hc : (Nat.beq sz dt.sz && Nat.ble 1 sz) with
      | false => rw [hc] at h; cases h
      | true =>
      rw [hc] at h
      cases h
      have q1 : 0 ≤ b := hp _ (by simp)
      have q2 : b ≤ n := hp _ (by simp)
      obtain ⟨m1, m2, m3⟩ := bnd_ok hb hE (fun _ => q1)
      rcases hv with hv | ⟨hc0, hv⟩
      · refine ⟨.slice (some ⟨p.b, 0, none⟩) b.toNat p.c, by simp only [Rel]; exact ⟨p, hp1, by omega, hmc, .inl rfl⟩, fun w' _ => ?_⟩
        have := V.sliceAny (w := w') ho hu (szOf_sized hsz) hv (.inl ⟨rfl, rfl⟩) m1 (.inl ⟨rfl, rfl⟩) (fun e => absurd rfl e) (by omega) (by omega) (Nat.le_refl p.c)
        simpa [addr_add] using this
      · have hn0 : n = 0 := by omega
        subst hn0
        have hb0 : b.toNat = 0 := by omega
        rcases hv with hv | ⟨az, hv⟩
        · refine ⟨.slice none 0 0, by simp only [Rel]; exact ⟨p, hp1, by omega, hmc, .inr ⟨hc0, .inl rfl⟩⟩, fun w' _ => ?_⟩
          have := V.sliceAny (w := w') ho hu (szOf_sized hsz) hv (.inl ⟨rfl, rfl⟩) (hb0 ▸ m1) (.inl ⟨rfl, rfl⟩) (fun e => absurd rfl e) (by omega) (by omega) (Nat.le_refl 0)
          simpa using this
        · refine ⟨.slice (some az) 0 0, by simp only [Rel]; exact ⟨p, hp1, by omega, hmc, .inr ⟨hc0, .inr ⟨az, rfl⟩⟩⟩, fun w' _ => ?_⟩
          have := V.sliceAny (w := w') ho hu (szOf_sized hsz) hv (.inl ⟨rfl, rfl⟩) (hb0 ▸ m1) (.inl ⟨rfl, rfl⟩) (fun e => absurd rfl e) (by omega) (by omega) (Nat.le_refl 0)
          simpa using this
    · rename_i sz b y et dt xs hsz hb hl
      split at h
      case h_2 => cases h
      rename_i y1 hy0 k c hy
      cases hc : (Nat.beq sz dt.sz && Nat.ble 1 sz) with
      | false => rw [hc] at h; cases h
      | true =>
      rw [hc] at h
      cases h
      have q1 : 0 ≤ b := hp _ (by simp)
      have q2 : b ≤ n := hp _ (by simp)
      have q3 : c = b := hp _ (by simp)
      subst q3
      obtain ⟨m1, m2, m3⟩ := bnd_ok hb hE (fun _ => q1)
      have hmx : ∀ cp : Nat, BndIs E (some y) cp c.toNat := fun cp => .inr ⟨y, k, rfl, by rw [opd_v hy hE, ← int_nat q1]⟩
      rcases hv with hv | ⟨hc0, hv⟩
      · refine ⟨.slice (some ⟨p.b, 0, none⟩) c.toNat c.toNat, by simp only [Rel]; exact ⟨p, hp1, by omega, hmc, .inl rfl⟩, fun w' _ => ?_⟩
        have := V.sliceAny (w := w') ho hu (szOf_sized hsz) hv (.inl ⟨rfl, rfl⟩) m1 (hmx p.c) (fun _ => by simp) (by omega) (Nat.le_refl _) (by omega)
        simpa [addr_add] using this
      · have hn0 : n = 0 := by omega
        subst hn0
        have hb0 : c.toNat = 0 := by omega
        rcases hv with hv | ⟨az, hv⟩
        · refine ⟨.slice none 0 0, by simp only [Rel]; exact ⟨p, hp1, by omega, hmc, .inr ⟨hc0, .inl rfl⟩⟩, fun w' _ => ?_⟩
          have := V.sliceAny (w := w') ho hu (szOf_sized hsz) hv (.inl ⟨rfl, rfl⟩) (hb0 ▸ m1) (hb0 ▸ hmx 0) (fun _ => by simp) (by omega) (by omega) (Nat.le_refl 0)
          simpa using this
        · refine ⟨.slice (some az) 0 0, by simp only [Rel]; exact ⟨p, hp1, by omega, hmc, .inr ⟨hc0, .inr ⟨az, rfl⟩⟩⟩, fun w' _ => ?_⟩
          have := V.sliceAny (w := w') ho hu (szOf_sized hsz) hv (.inl ⟨rfl, rfl⟩) (hb0 ▸ m1) (hb0 ▸ hmx 0) (fun _ => by simp) (by omega) (by omega) (Nat.le_refl 0)
          simpa using this
    · rename_i y0 sz b et dt xs hsz hb hl
      split at h
      case h_2 => cases h
      rename_i a' ha
      cases hc : (Nat.beq sz dt.sz && Nat.ble 1 sz) with
      | false => rw [hc] at h; cases h
      | true =>
      rw [hc] at h
      cases h
      have q1 : 0 ≤ a' := hp _ (by simp)
      have q2 : a' ≤ b := hp _ (by simp)
      have q3 : b ≤ n := hp _ (by simp)
      obtain ⟨l1, l2, l3⟩ := bnd_ok ha hE (fun _ => q1)
      obtain ⟨m1, m2, m3⟩ := bnd_ok hb hE (fun _ => by omega)
      rcases hv with hv | ⟨hc0, hv⟩
      · by_cases hpc : p.c = 0
        · have hn0 : n = 0 := by omega
          subst hn0
          have ha0 : a'.toNat = 0 := by omega
          have hb0 : b.toNat = 0 := by omega
          refine ⟨.slice (some ⟨p.b, 0, none⟩) 0 0, by simp only [Rel]; exact ⟨p, hp1, by omega, hmc, .inr ⟨by omega, .inr ⟨_, rfl⟩⟩⟩, fun w' _ => ?_⟩
          rw [hpc] at hv
          have := V.sliceAny (w := w') ho hu (szOf_sized hsz) hv (ha0 ▸ l1) (hb0 ▸ m1) (.inl ⟨rfl, rfl⟩) (fun e => absurd rfl e) (by omega) (by omega) (Nat.le_refl 0)
          simpa using this
        · by_cases hfull : p.c = a'.toNat
          · -- nothing is left behind it: the address stays
            have hab : b.toNat - a'.toNat = 0 := by omega
            have hz : p.c - a'.toNat = 0 := by omega
            refine ⟨.slice (some ⟨p.b, 0, none⟩) 0 0, by simp only [Rel]; exact ⟨p, hp1, by omega, hmc, .inr ⟨by omega, .inr ⟨_, rfl⟩⟩⟩, fun w' _ => ?_⟩
            have := V.sliceAny (w := w') ho hu (szOf_sized hsz) hv l1 m1 (.inl ⟨rfl, rfl⟩) (fun e => absurd rfl e) (by omega) (by omega) (Nat.le_refl p.c)
            rw [if_pos hfull, hab, hz] at this
            exact this
          · have e1 : b.toNat - a'.toNat = (b - a').toNat := by omega
            refine ⟨.slice (some ⟨p.b, a'.toNat * sz, none⟩) (b - a').toNat (p.c - a'.toNat), by simp only [Rel]; exact ⟨p, hp1, by omega, hmc, .inl ⟨hpc, _, by omega, by omega, rfl⟩⟩, fun w' _ => ?_⟩
            have := V.sliceAny (w := w') ho hu (szOf_sized hsz) hv l1 m1 (.inl ⟨rfl, rfl⟩) (fun e => absurd rfl e) (by omega) (by omega) (Nat.le_refl p.c)
            rw [if_neg hfull, e1] at this
            simpa [addr_add] using this
      · have hn0 : n = 0 := by omega
        subst hn0
        have ha0 : a'.toNat = 0 := by omega
        have hb0 : b.toNat = 0 := by omega
        have hz : (b - a').toNat = 0 := by omega
        rcases hv with hv | ⟨az, hv⟩
        · refine ⟨.slice none 0 0, by simp only [Rel]; exact ⟨p, hp1, by omega, hmc, .inr ⟨hz, .inl rfl⟩⟩, fun w' _ => ?_⟩
          have := V.sliceAny (w := w') ho hu (szOf_sized hsz) hv (ha0 ▸ l1) (hb0 ▸ m1) (.inl ⟨rfl, rfl⟩) (fun e => absurd rfl e) (by omega) (by omega) (Nat.le_refl 0)
          simpa using this
        · refine ⟨.slice (some az) 0 0, by simp only [Rel]; exact ⟨p, hp1, by omega, hmc, .inr ⟨hz, .inr ⟨az, rfl⟩⟩⟩, fun w' _ => ?_⟩
          have := V.sliceAny (w := w') ho hu (szOf_sized hsz) hv (ha0 ▸ l1) (hb0 ▸ m1) (.inl ⟨rfl, rfl⟩) (fun e => absurd rfl e) (by omega) (by omega) (Nat.le_refl 0)
          simpa using this
    · cases h
  · -- an array of one's own
    rename_i l k n e hx hu
    have hr := opd_ok hx hE
    simp only [Rel] at hr
    obtain ⟨p, hp1, hv⟩ := hr
    split at h
    case h_2 => cases h
    rename_i sz a' b et dt xs hsz ha hb hl
    cases hc : (Nat.beq k 0 && Nat.beq sz dt.sz && Nat.ble 1 sz && Nat.ble 1 n) with
    | false => rw [hc] at h; cases h
    | true =>
    rw [hc] at h
    cases h
    simp only [Bool.and_eq_true] at hc
    obtain ⟨⟨⟨c1, c2⟩, c3⟩, c4⟩ := hc
    have c1 := beq_t c1; have c2 := beq_t c2; have c4 := ble_t c4
    subst c1
    have q1 : 0 ≤ a' := hp _ (by simp)
    have q2 : a' ≤ b := hp _ (by simp)
    have q3 : b ≤ n := hp _ (by simp)
    have q4 : n ≤ xs.length := hp _ (by simp)
    obtain ⟨l1, l2, l3⟩ := bnd_ok ha hE (fun _ => q1)
    obtain ⟨m1, m2, m3⟩ := bnd_ok hb hE (fun _ => by omega)
    obtain ⟨p', hp', g1, g2, g3, g4⟩ := hH.row hl
    rw [hp1] at hp'; cases hp'
    have e1 : b.toNat - a'.toNat = (b - a').toNat := by omega
    by_cases hfull : n = a'.toNat
    · have hab : (b - a').toNat = 0 := by omega
      have hz : n - a'.toNat = 0 := by omega
      refine ⟨.slice (some ⟨p.b, 0, none⟩) 0 0, by simp only [Rel]; exact ⟨p, hp1, by omega, g2, .inr ⟨hab, .inr ⟨_, rfl⟩⟩⟩, fun w' _ => ?_⟩
      have := V.sliceArr (w := w') ho hu (szOf_sized hsz) hv l1 m1 (by omega) (by omega)
      rw [if_pos hfull, e1, hab, hz] at this
      exact this
    · refine ⟨.slice (some ⟨p.b, a'.toNat * sz, none⟩) (b - a').toNat (n - a'.toNat), by simp only [Rel]; exact ⟨p, hp1, by omega, g2, .inl ⟨by omega, _, by omega, by omega, rfl⟩⟩, fun w' _ => ?_⟩
      have := V.sliceArr (w := w') ho hu (szOf_sized hsz) hv l1 m1 (by omega) (by omega)
      rw [if_neg hfull, e1] at this
      simpa [addr_add] using this
  · -- a row whose cells are known
    rename_i l k n c e hx hu
    have hr := opd_ok hx hE
    simp only [Rel] at hr
    obtain ⟨p, hp1, hv⟩ := hr
    split at h
    case h_2 => cases h
    rename_i sz i j hsz hlo hhi
    have hlo' := bndN_ok hlo hE
    have hhi' := bndN_ok hhi hE
    have fin : ∀ m : Nat, (if m = i then (some ⟨p.b, k, none⟩ : Option Addr) else (some ⟨p.b, k, none⟩ : Option Addr).map (·.add (i * sz))) = some ⟨p.b, bif Nat.beq m i then k else k + i * sz, none⟩ := by
      intro m
      cases hq : Nat.beq m i with
      | true => rw [if_pos (beq_t hq)]; rfl
      | false => rw [if_neg (beq_f hq)]; simp [addr_add]
    cases mx with
    | none =>
      simp only at h
      cases hc : (Nat.ble i j && Nat.ble j c && Nat.ble n c) with
      | false => rw [hc] at h; cases h
      | true =>
      rw [hc] at h
      cases h
      simp only [Bool.and_eq_true] at hc
      have h1 := ble_t hc.1.1; have h2 := ble_t hc.1.2
      refine ⟨_, by simp only [Rel]; exact ⟨p, hp1, rfl⟩, fun w' _ => ?_⟩
      have := V.sliceAny (w := w') ho hu (szOf_sized hsz) hv hlo' hhi' (.inl ⟨rfl, rfl⟩) (fun e => absurd rfl e) h1 h2 (Nat.le_refl c)
      rw [fin] at this; exact this
    | some y =>
      simp only at h
      split at h
      case h_2 => cases h
      rename_i y1 m hm
      have hm' := bndN_ok hm hE (d := 0)
      cases hc : (Nat.ble i j && Nat.ble j m && Nat.ble m c) with
      | false => rw [hc] at h; cases h
      | true =>
      rw [hc] at h
      cases h
      simp only [Bool.and_eq_true] at hc
      have h1 := ble_t hc.1.1; have h2 := ble_t hc.1.2; have h3 := ble_t hc.2
      refine ⟨_, by simp only [Rel]; exact ⟨p, hp1, rfl⟩, fun w' _ => ?_⟩
      have hm2 : BndIs E (some y) c m := by
        rcases hm' with ⟨e, _⟩ | ⟨y2, k2, e, hk⟩
        · cases e
        · exact .inr ⟨y2, k2, e, hk⟩
      have := V.sliceAny (w := w') ho hu (szOf_sized hsz) hv hlo' hhi' hm2 (fun _ => by simp) h1 h2 h3
      rw [fin] at this; exact this
  · cases h
end
section
variable {s : Sg} {w0 w : World} {st st' : Stt}
/-- the elements of a list, as cells -/
structure Els (G : Fz) (t : DT) (zs : List D) (us : List Value) : Prop where
  len : us.length = zs.length * t.sz
  one : ∀ u ∈ us, u.oneCell' = true
  rd : ∀ i x, zs[i]? = some x → Rd G t x ((us.drop (i * t.sz)).take t.sz)
theorem Els.nil {G : Fz} {t : DT} : Els G t [] [] := ⟨by simp, by simp, by simp⟩
theorem Els.mono {G G' : Fz} {t : DT} {zs : List D} {us : List Value} (h : Els G t zs us) (k : Sub G G') : Els G' t zs us := ⟨h.len, h.one, fun i x hi => Rd.mono k t x _ (h.rd i x hi)⟩
theorem Els.append {G : Fz} {t : DT} {zs ys : List D} {us vs : List Value} (h : Els G t zs us) (k : Els G t ys vs) : Els G t (zs ++ ys) (us ++ vs) := by
  refine ⟨by rw [List.length_append, List.length_append, h.len, k.len, Nat.add_mul], fun u hu => ?_, fun i x hi => ?_⟩
  · rcases List.mem_append.1 hu with hu | hu
    · exact h.one u hu
    · exact k.one u hu
  · rw [List.getElem?_append] at hi
    split at hi
    · rename_i hlt
      rw [take_drop_append h.len hlt]; exact h.rd i x hi
    · obtain ⟨m, rfl⟩ : ∃ m, i = zs.length + m := ⟨i - zs.length, by omega⟩
      rw [Nat.add_sub_cancel_left] at hi
      rw [take_drop_append' h.len]; exact k.rd m x hi
theorem Els.cons {G : Fz} {t : DT} {z : D} {zs : List D} {us vs : List Value} (h : Rd G t z us) (k : Els G t zs vs) : Els G t (z :: zs) (us ++ vs) := by
  have h1 : Els G t [z] us := by
    have hl := Rd.len _ _ _ h
    refine ⟨by simp [hl], Rd.one _ _ _ h, fun i x hi => ?_⟩
    cases i with
    | zero => simp at hi; subst hi; simpa [← hl] using h
    | succ i => simp at hi
  exact h1.append k
theorem Els.cut {G : Fz} {t : DT} {zs : List D} {us : List Value} (h : Els G t zs us) (n : Nat) (hn : n ≤ zs.length) : Els G t (zs.take n) (us.take (n * t.sz)) := by
  have hle : n * t.sz ≤ us.length := by rw [h.len]; exact Nat.mul_le_mul_right _ hn
  refine ⟨by rw [List.length_take, List.length_take, Nat.min_eq_left hn, Nat.min_eq_left hle], fun u hu => h.one u (List.mem_of_mem_take hu), fun i x hi => ?_⟩
  rw [List.getElem?_take] at hi
  split at hi
  · rename_i hlt
    have h1 := h.rd i x hi
    have h2 : (i + 1) * t.sz ≤ n * t.sz := Nat.mul_le_mul_right _ hlt
    rw [Nat.add_mul] at h2
    rw [List.drop_take, List.take_take, Nat.min_eq_left (by omega)]; exact h1
  · cases hi
theorem Hold.els (h : Hold Γ s w0 st w) {l : Nat} {et : TypeId} {t : DT} {xs : List D} (hl : st.h.get l = some (.q et t xs)) {p : Loc} (hp : s.f l = some p) (hc : p.c ≠ 0) : ∃ cur, w.heap[p.b]? = some (.cells cur et (0, 0)) ∧ p.c * t.sz ≤ cur.size ∧ (∀ u ∈ cur.toList, u.oneCell' = true) ∧ Els s.G t xs (cur.toList.take (xs.length * t.sz)) := by
  obtain ⟨p', hp', g1, g2, g3, g4⟩ := h.row hl
  rw [hp] at hp'; cases hp'
  obtain ⟨cur, g5, g6, g7, g8⟩ := g4 hc
  have hle : xs.length * t.sz ≤ cur.toList.length := by
    rw [g1, Array.length_toList]; exact Nat.le_trans (Nat.mul_le_mul_right _ g2) g6
  refine ⟨cur, g5, g6, g7, by rw [List.length_take, Nat.min_eq_left hle], fun u hu => g7 u (List.mem_of_mem_take hu), fun i x hi => ?_⟩
  have hlt : i < xs.length := (List.getElem?_eq_some_iff.1 hi).1
  have h2 : (i + 1) * t.sz ≤ xs.length * t.sz := Nat.mul_le_mul_right _ hlt
  rw [Nat.add_mul] at h2
  rw [List.drop_take, List.take_take, Nat.min_eq_left (by omega)]; exact g8 i x hi
/-- the row as an object of the state, from its cells -/
theorem obj_row {w' : World} {p : Loc} {et : TypeId} {t : DT} {zs : List D} {us : List Value} {cur : Array Value} (hz : Els s.G t zs us) (h1 : w'.heap[p.b]? = some (.cells cur et (0, 0))) (h2 : p.c * t.sz ≤ cur.size) (h3 : ∀ u ∈ cur.toList, u.oneCell' = true) (h4 : cur.toList.take us.length = us) (h5 : zs.length = p.m) (h6 : p.m ≤ p.c) (h7 : p.c ≤ maxLen) : ObjAt s w' p (.q et t zs) := by
  refine ⟨h5, h6, h7, fun _ => ⟨cur, h1, h2, h3, fun i x hi => ?_⟩⟩
  have hlt : i < zs.length := (List.getElem?_eq_some_iff.1 hi).1
  have h8 : (i + 1) * t.sz ≤ zs.length * t.sz := Nat.mul_le_mul_right _ hlt
  rw [Nat.add_mul] at h8
  have := hz.rd i x hi
  rw [← h4, List.drop_take, List.take_take, Nat.min_eq_left (by rw [hz.len]; omega)] at this
  exact this
/-! ### Cells as data -/
/-- F' is a frozen memory in which the state's values may be read as data; w: to be handed on -/
structure Sees (s : Sg) (st : Stt) (W : World) (w : Bool) (F' : Fz) : Prop where
  G : Sub s.G F'
  F : w = false → Sub s.F F'
  row : w = false → ∀ l et t xs p, st.h.get l = some (.q et t xs) → s.f l = some p → p.c ≠ 0 → F' p.b = W.heap[p.b]?
theorem Slc.zv {F : Fz} {sz : Nat} {R : D → List Value → Prop} {v : Value} (h : ZV v) : Slc F sz R [] v := .inl ⟨rfl, h⟩
theorem slc_row (hH : Hold Γ s w0 st w) {F' : Fz} (hS : Sees s st w false F') {l n c : Nat} {et : TypeId} {t : DT} {xs : List D} {p : Loc} {v : Value} (hl : st.h.get l = some (.q et t xs)) (hp : s.f l = some p) (hn : n ≤ p.m) (hc : n ≤ c ∧ c ≤ p.c) (hv : v = .slice (some ⟨p.b, 0, none⟩) n c ∨ (p.c = 0 ∧ ZV v)) :
    Slc F' t.sz (fun x us => Rd F' t x us) (xs.take n) v := by
  obtain ⟨p', hp', g1, g2, g3, g4⟩ := hH.row hl
  rw [hp] at hp'; cases hp'
  have hlen : (xs.take n).length = n := by rw [List.length_take]; omega
  rcases hv with rfl | ⟨h0, hv⟩
  · by_cases hc0 : p.c = 0
    · have hn0 : n = 0 := by omega
      have hcc : c = 0 := by omega
      subst hn0; subst hcc
      rw [List.take_zero]
      exact Slc.zv (.inr ⟨_, rfl⟩)
    · obtain ⟨cur, h1, h2, h3, h4⟩ := hH.els hl hp hc0
      refine .inr ⟨p.b, 0, c, by rw [hlen], by rw [hlen]; exact hc.1, Nat.le_trans hc.2 g3, fun i x hi => ?_⟩
      rw [List.getElem?_take] at hi
      split at hi
      · have hx := h4.rd i x hi
        have hlt : i < xs.length := (List.getElem?_eq_some_iff.1 hi).1
        refine ⟨_, Rd.len _ _ _ hx, ⟨cur, et, (0, 0), (hS.row rfl l et t xs p hl hp hc0).trans h1, fun j u hj => ?_⟩, Rd.mono hS.G t x _ hx⟩
        rw [List.getElem?_take] at hj
        split at hj
        · rw [List.getElem?_drop, List.getElem?_take] at hj
          split at hj
          · simpa using hj
          · cases hj
        · cases hj
      · cases hi
  · have hn0 : n = 0 := by omega
    subst hn0
    rw [List.take_zero]
    exact Slc.zv hv
theorem slc_view (hH : Hold Γ s w0 st w) {F' : Fz} (hS : Sees s st w false F') {l lo n cv : Nat} {et : TypeId} {t : DT} {xs : List D} {p : Loc} (hl : st.h.get l = some (.q et t xs)) (hp : s.f l = some p) (hn : lo + n ≤ p.m) (hc0 : p.c ≠ 0) (h2 : n ≤ cv) (h3 : lo + cv ≤ p.c) :
    Slc F' t.sz (fun x us => Rd F' t x us) ((xs.drop lo).take n) (.slice (some ⟨p.b, lo * t.sz, none⟩) n cv) := by
  obtain ⟨p', hp', g1, g2, g3, g4⟩ := hH.row hl
  rw [hp] at hp'; cases hp'
  have hlen : ((xs.drop lo).take n).length = n := by rw [List.length_take, List.length_drop]; omega
  obtain ⟨cur, h1, _, h3', h4⟩ := hH.els hl hp hc0
  refine .inr ⟨p.b, lo * t.sz, cv, by rw [hlen], by rw [hlen]; exact h2, by omega, fun i x hi => ?_⟩
  rw [List.getElem?_take] at hi
  split at hi
  · rw [List.getElem?_drop] at hi
    have hx := h4.rd (lo + i) x hi
    have hlt : lo + i < xs.length := (List.getElem?_eq_some_iff.1 hi).1
    refine ⟨_, Rd.len _ _ _ hx, ⟨cur, et, (0, 0), (hS.row rfl l et t xs p hl hp hc0).trans h1, fun j u hj => ?_⟩, Rd.mono hS.G t x _ hx⟩
    rw [List.getElem?_take] at hj
    split at hj
    · rw [List.getElem?_drop, List.getElem?_take] at hj
      split at hj
      · rw [show lo * t.sz + i * t.sz + j = (lo + i) * t.sz + j from by rw [Nat.add_mul]]
        simpa using hj
      · cases hj
    · cases hj
  · cases hi
/-- all of memory -/
theorem sees_all (hH : Hold Γ s w0 st w) : Sees s st w false (fun b => w.heap[b]?) :=
  ⟨hH.gf.trans fun b o hb => hH.frz b o hb, fun _ b o hb => hH.frz b o hb, fun _ _ _ _ _ _ _ _ _ => rfl⟩
end
end Go.Proofs.YtbbjonjhaoeidaaDoor.Sv
