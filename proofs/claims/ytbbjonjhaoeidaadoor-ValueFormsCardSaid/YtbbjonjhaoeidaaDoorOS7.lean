/- The symbolic evaluator is right: operations that read, all. Program-agnostic. -/
import Derived.Test.YtbbjonjhaoeidaaDoorOS6
import Derived.Laws.StructEq
set_option linter.unusedVariables false
set_option linter.unusedSimpArgs false
namespace Go.Proofs.YtbbjonjhaoeidaaDoor.Sv
open Go.RowKit Go.Proofs.YtbbjonjhaoeidaaDoor.W
variable {Γ : Gl}

section
variable {s : Sg} {w0 w : World} {st : Stt} {A : AE} {E : Env} {P : Program} {o : Oper}
theorem Rd_ints {F : Fz} {xs : List D} {v : Value} (h : Slc F 1 (fun x us => Rd F (.i .u8) x us) xs v) (hF : ∀ b o, F b = some o → w.heap[b]? = some o) {src e dst : TypeId} (hs : P.underlying src = some (.slice e)) (he : P.underlying e = some (.int .u8)) (hd : P.underlying dst = some .string) :
    (convert src dst v).run P w = .ok (.string (strOfD xs)) w := by
  rcases h with ⟨rfl, rfl | ⟨a, rfl⟩⟩ | ⟨b, k, c, rfl, _, _, hq⟩
  · exact run_convert_bytes_nil (P := P) w src e hs he 0 0 dst hd
  · have hl : (loadCells a 0).run P w = .ok (([] : List Int).map (Value.int .u8)).toArray w := by simp [loadCells, loadCellsFrom, go_sem]
    have := Go.run_bytesToString (P := P) w a 0 0 [] hl
    simp [go_sem, convert, underlying, hs, hd, he, this, strOfD, strOfNums]
    rfl
  · refine run_convert_bytes_arg (P := P) w src e hs he b k xs.length c (xs.map D.int) (by simp) (fun i hi => ?_) dst hd
    obtain ⟨cs, h1, h2, h3⟩ := hq i _ (get_nthD hi)
    simp only [Rd] at h3
    subst h3
    have := h2.at hF 0 _ rfl
    simp only [Nat.mul_one, Nat.add_zero] at this
    rw [this]
    congr 2
    rw [List.getD_eq_getElem?_getD, List.getElem?_map, get_nthD hi]; rfl
theorem cmp_ok {op : BinOp} {t u : TypeId} {x y : Operand} {k : IntKind} {a b : Int} {r : Bool} (ho : o.op = .binOp op t x y u) (hx : ev E x = .int k a) (hy : ev E y = .int k b) (hr : cmpP op a b = some r) : OpV P o E w (.bool r) := by
  refine V.cmp ho hx hy ?_
  cases op <;> simp only [cmpP, Option.some.injEq, reduceCtorEq] at hr <;> subst hr <;> simp [cmpB]
theorem str_eq_list {x y : ByteArray} : (x.toList == y.toList) = decide (x = y) := by
  have key : x.toList = y.toList ↔ x = y := by
    constructor
    · intro h
      rw [ByteArray.toList_eq, ByteArray.toList_eq] at h
      exact ByteArray.ext (Array.ext' h)
    · intro h; rw [h]
  by_cases e : x = y
  · simp [e]
  · have e' : ¬ x.toList = y.toList := fun h => e (key.1 h)
    simp [e, e']
theorem scmp_ok {op : BinOp} {t u : TypeId} {x y : Operand} {a b : ByteArray} {r : Bool} (ho : o.op = .binOp op t x y u) (hx : ev E x = .string a) (hy : ev E y = .string b) (hr : scmpP op a b = some r) : OpV P o E w (.bool r) := by
  refine V.scmp ho hx hy ?_
  cases op <;> simp only [scmpP, Option.some.injEq, reduceCtorEq] at hr <;> subst hr <;> simp only [scmpB, str_eq_list]
theorem bool_ok {op : BinOp} {t u : TypeId} {x y : Operand} {a b : Bool} (ho : o.op = .binOp op t x y u) (hx : ev E x = .bool a) (hy : ev E y = .bool b) (hu : P.underlying t = some .bool) (h : op = .eql ∨ op = .neq) : OpV P o E w (.bool (bif op == .eql then a == b else !(a == b))) := by
  have he : (Op.equal t (.bool a) (.bool b)).run P w = .ok (a == b) w := by
    show (Op.equalIn (Op.maxDepth - 1 + 1) t (.bool a) (.bool b)).run P w = _
    rw [Op.equalIn]
    simp only [Sem.run_bind, underlying, run_program, hu, Result.andThen_ok, Sem.run_pure]
  rcases h with rfl | rfl <;> simp [OpV, execOp, ho, hx, hy, go_sem, eqGuard, binOp, he] <;> cases a <;> cases b <;> rfl
theorem arith_ok {op : BinOp} {t u : TypeId} {x y : Operand} {k : IntKind} {i j r : Int} {ps : Ps} {a : AV} (ho : o.op = .binOp op t x y u) (hx : ev E x = .int k i) (hy : ev E y = .int k j) (hr : W.arith op i j = some r) (h : arithP k r = some (ps, a)) (hp : ∀ p ∈ ps, p) : Rds1 P o E w s a := by
  unfold arithP at h
  cases hk : is64 k with
  | true =>
    rw [hk] at h
    cases h
    have : k = .i64 := by cases k <;> first | rfl | simp [is64] at hk
    subst this
    have hb : I64 r := hp _ (List.mem_singleton.2 rfl)
    exact Rds1.v fun w' => V.arith ho hx hy hr (wrap_i64 hb.1 hb.2)
  | false => rw [hk] at h; cases h; exact Rds1.v fun w' => V.arith ho hx hy hr rfl
theorem shift_ok {op : BinOp} {t u : TypeId} {x y : Operand} {k k' : IntKind} {a n r : Int} (ho : o.op = .binOp op t x y u) (hx : ev E x = .int k a) (hy : ev E y = .int k' n) (hn : 0 ≤ n) (hr : shP op k a n = some r) : OpV P o E w (.int k r) := by
  have hn' : ¬ n < 0 := by omega
  cases op <;> simp only [shP, Option.some.injEq, reduceCtorEq] at hr <;> subst hr <;> simp [OpV, execOp, ho, hx, hy, go_sem, eqGuard, binOp, Op.shift, bshl, bshr, hn']
theorem bits_ok {op : BinOp} {t u : TypeId} {x y : Operand} {k : IntKind} {a b r : Int} (ho : o.op = .binOp op t x y u) (hx : ev E x = .int k a) (hy : ev E y = .int k b) (hr : bitP op k a b = some r) : OpV P o E w (.int k r) := by
  cases op <;> simp only [bitP, Option.some.injEq, reduceCtorEq] at hr <;> subst hr <;> simp [OpV, execOp, ho, hx, hy, go_sem, eqGuard, binOp, Op.intBits, bor, band, bxor]
theorem quo_ok {t u : TypeId} {x y : Operand} {k : IntKind} {a b : Int} (ho : o.op = .binOp .quo t x y u) (hx : ev E x = .int k a) (hy : ev E y = .int k b) (hb : b ≠ 0) : OpV P o E w (.int k (k.wrap (a.tdiv b))) := by
  simp [OpV, execOp, ho, hx, hy, go_sem, eqGuard, binOp, Op.intDiv, hb]
theorem rem_ok {t u : TypeId} {x y : Operand} {k : IntKind} {a b : Int} (ho : o.op = .binOp .rem t x y u) (hx : ev E x = .int k a) (hy : ev E y = .int k b) (hb : b ≠ 0) : OpV P o E w (.int k (a.tmod b)) := by
  simp [OpV, execOp, ho, hx, hy, go_sem, eqGuard, binOp, Op.intDiv, hb]
theorem part_run {t off : Nat} {cs : List AV} {vs : List Value} {a : AV} (h : partA P t cs off = some a) (hr : RelL s cs vs) : ∃ u, Rel s a u ∧ (part t vs.toArray off).run P w = .ok u w := by
  rcases part_ok h hr with ⟨v, hp, hv, hrel⟩ | ⟨sz, us, hp, hle, hus, hlen, hrel⟩
  · exact ⟨v, hrel, by simp [go_sem, part, is_agg_no hp, hv]⟩
  · refine ⟨_, hrel, ?_⟩
    have : vs.toArray.extract off (off + sz) = us.toArray := by
      subst hus; simp [List.extract_eq_take_drop]
    simp [go_sem, part, is_agg_yes hp, size_of hp.2, ← this]
theorem agg_of {a : AV} {u : Value} (h : isAggA a = true) (hr : Rel s a u) : ∃ us, RelL s (cellsA a) us ∧ u = .agg us.toArray := by
  cases a <;> simp only [isAggA, reduceCtorEq, Bool.false_eq_true] at h
  · rename_i x
    have := hr.v_of
    subst this
    cases u <;> simp at h
    rename_i vs
    exact ⟨vs.toList, Rel.cells (Rel.mkv _), by simp⟩
  · simp only [Rel] at hr
    obtain ⟨vs, h1, h2⟩ := hr
    exact ⟨vs, by simpa [cellsA] using h1, h2⟩
theorem eqFs_ok {q : TypeId → AV → AV → Option Bool} {d : Nat} (hq : ∀ t a b u v r, q t a b = some r → Rel s a u → Rel s b v → (Op.equalIn d t u v).run P w = .ok r w) : ∀ (fs : List Field) (cs ds : List AV) (us vs : List Value) (r : Bool), eqFs P q fs cs ds = some r → RelL s cs us → RelL s ds vs → (Op.eqFields d us.toArray vs.toArray fs).run P w = .ok r w
  | [], _, _, _, _, r, h, _, _ => by simp only [eqFs, Option.some.injEq] at h; subst h; simp [Op.eqFields]
  | f :: fs, cs, ds, us, vs, r, h, h1, h2 => by
    simp only [eqFs] at h
    cases hn : decide (f.name = "_") with
    | true => rw [hn] at h; cases h
    | false =>
    rw [hn] at h
    simp only [cond_false] at h
    split at h
    case h_2 => cases h
    rename_i a b ha hb
    split at h
    case h_2 => cases h
    rename_i x y hx hy
    cases h
    obtain ⟨u, hu, ru⟩ := part_run (w := w) ha h1
    obtain ⟨v, hv, rv⟩ := part_run (w := w) hb h2
    have h3 := hq _ _ _ _ _ _ hx hu hv
    have h4 := eqFs_ok hq fs cs ds us vs y hy h1 h2
    have hne : f.name ≠ "_" := by simpa using hn
    simp only [Op.eqFields, ne_eq, hne, not_false_eq_true, if_true, Sem.run_bind, ru, rv, h3, Result.andThen_ok]
    cases x with
    | true => simpa using h4
    | false => simp
theorem eqS_ok : ∀ (n : Nat) (t : TypeId) (a b : AV) (u v : Value) (r : Bool), eqS P n t a b = some r → Rel s a u → Rel s b v → ∀ d, n ≤ d → (Op.equalIn d t u v).run P w = .ok r w
  | 0, _, _, _, _, _, _, h, _, _, _, _ => by simp [eqS] at h
  | n + 1, t, a, b, u, v, r, h, ha, hb, d, hd => by
    obtain ⟨d, rfl⟩ : ∃ e, d = e + 1 := ⟨d - 1, by omega⟩
    simp only [eqS] at h
    split at h
    · rename_i ht
      split at h
      case h_2 => cases h
      cases h
      rw [ha.v_of, hb.v_of]
      exact run_equalIn_bool' w d t _ _ ht
    · rename_i ht
      split at h
      case h_2 => cases h
      rename_i k x k' y
      cases hk : decide (k = k') with
      | false => rw [hk] at h; cases h
      | true =>
      rw [hk] at h
      cases h
      simp only [decide_eq_true_eq] at hk
      subst hk
      rw [ha.v_of, hb.v_of, run_equalIn_int w d t _ _ _ _ ht]
      rfl
    · rename_i ht
      split at h
      case h_2 => cases h
      cases h
      rw [ha.v_of, hb.v_of, run_equalIn_string w d t _ _ ht, str_eq_list]
    · rename_i fs ht
      cases hc : (!P.stoodInHeld t && isAggA a && isAggA b) with
      | false => rw [hc] at h; cases h
      | true =>
      rw [hc] at h
      simp only [cond_true] at h
      simp only [Bool.and_eq_true, Bool.not_eq_true'] at hc
      obtain ⟨⟨c1, c2⟩, c3⟩ := hc
      obtain ⟨us, r1, rfl⟩ := agg_of c2 ha
      obtain ⟨vs, r2, rfl⟩ := agg_of c3 hb
      have hf : P.fieldsOf t = fs := by simp [Program.fieldsOf, ht]
      rw [run_equalIn_struct w d t _ _ (by rw [hf]; exact ht) c1, hf]
      exact eqFs_ok (fun t a b u v r h1 h2 h3 => eqS_ok n t a b u v r h1 h2 h3 d (by omega)) _ _ _ _ _ _ h r1 r2
    · cases h
theorem evEq_ok {op : BinOp} {t u : TypeId} {x y : Operand} {p q : AV} {ps : Ps} {a : AV} (ho : o.op = .binOp op t x y u) (hE : EnvOK s A E) (hx : opd A x = some p) (hy : opd A y = some q) (h : evEq P t op p q = some (ps, a)) : Rds1 P o E w s a := by
  unfold evEq at h
  cases hc : (isAggA p && isAggA q && !P.eqGuardType P.depth t) with
  | false => rw [hc] at h; cases h
  | true =>
  rw [hc] at h
  simp only [cond_true] at h
  simp only [Bool.and_eq_true, Bool.not_eq_true'] at hc
  obtain ⟨⟨c1, c2⟩, c3⟩ := hc
  have h1 := opd_ok hx hE
  have h2 := opd_ok hy hE
  obtain ⟨us, r1, e1⟩ := agg_of c1 h1
  obtain ⟨vs, r2, e2⟩ := agg_of c2 h2
  split at h
  case h_2 => cases h
  rename_i r hr
  have key : ∀ w' : World, (Op.equalIn 10000 t (.agg us.toArray) (.agg vs.toArray)).run P w' = .ok r w' := fun w' => by
    have := eqS_ok (w := w') 9 t p q _ _ r hr h1 h2 10000 (by omega)
    rwa [e1, e2] at this
  split at h
  · cases h
    refine Rds1.v fun w' => ?_
    simp [OpV, execOp, ho, e1, e2, go_sem, key w', c3]
  · cases h
    refine Rds1.v fun w' => ?_
    simp [OpV, execOp, ho, e1, e2, go_sem, key w', c3]
  · cases h
theorem bin_ok {op : BinOp} {t u : TypeId} {x y : Operand} {p q : AV} {ps : Ps} {a : AV} (ho : o.op = .binOp op t x y u) (hE : EnvOK s A E) (hx : opd A x = some p) (hy : opd A y = some q) (h : evBin P t op p q = some (ps, a)) (hp : ∀ p ∈ ps, p) : Rds1 P o E w s a := by
  unfold evBin at h
  split at h
  · rename_i k i k' j
    split at h
    · rename_i r hr
      cases h
      exact Rds1.v fun w' => shift_ok ho (opd_v hx hE) (opd_v hy hE) (hp _ (List.mem_singleton.2 rfl)) hr
    cases hk : decide (k = k') with
    | false => rw [hk] at h; cases h
    | true =>
    rw [hk] at h
    simp only [cond_true] at h
    simp only [decide_eq_true_eq] at hk
    subst hk
    split at h
    · rename_i r hr; cases h; exact Rds1.v fun w' => cmp_ok ho (opd_v hx hE) (opd_v hy hE) hr
    · split at h
      · exact arith_ok ho (opd_v hx hE) (opd_v hy hE) rfl h hp
      · exact arith_ok ho (opd_v hx hE) (opd_v hy hE) rfl h hp
      · exact arith_ok ho (opd_v hx hE) (opd_v hy hE) rfl h hp
      · cases h; exact Rds1.v fun w' => quo_ok ho (opd_v hx hE) (opd_v hy hE) (hp _ (List.mem_singleton.2 rfl))
      · cases h; exact Rds1.v fun w' => rem_ok ho (opd_v hx hE) (opd_v hy hE) (hp _ (List.mem_singleton.2 rfl))
      · split at h
        · rename_i r hr; cases h; exact Rds1.v fun w' => bits_ok ho (opd_v hx hE) (opd_v hy hE) hr
        · cases h
  · rename_i i j
    split at h
    · rename_i r hr; cases h; exact Rds1.v fun w' => scmp_ok ho (opd_v hx hE) (opd_v hy hE) hr
    · split at h
      · cases h; exact Rds1.v fun w' => V.sadd ho (opd_v hx hE) (opd_v hy hE) (hp _ (by simp))
      · cases h
  · rename_i i j
    split at h
    · rename_i hu; cases h; exact Rds1.v fun w' => bool_ok ho (opd_v hx hE) (opd_v hy hE) hu (.inl rfl)
    · rename_i hu; cases h; exact Rds1.v fun w' => bool_ok ho (opd_v hx hE) (opd_v hy hE) hu (.inr rfl)
    · cases h
  · exact evEq_ok ho hE hx hy h
theorem pickA_ok {b : Bool} {p q a : AV} {u v : Value} (h : pickA b p q = some a) (hp : b = true → Rel s p u) (hq : b = false → Rel s q v) : Rel s a (bif b then u else v) := by
  unfold pickA at h
  split at h
  · cases h
    cases b
    · rw [(hq rfl).v_of]; exact Rel.mkv _
    · rw [(hp rfl).v_of]; exact Rel.mkv _
  · rename_i k i k' j
    cases hk : decide (k = k') with
    | false => rw [hk] at h; cases h
    | true =>
    rw [hk] at h
    cases h
    simp only [decide_eq_true_eq] at hk
    subst hk
    cases b
    · rw [(hq rfl).v_of]; exact Rel.mkv _
    · rw [(hp rfl).v_of]; exact Rel.mkv _
  · cases h
    cases b
    · rw [(hq rfl).v_of]; exact Rel.mkv _
    · rw [(hp rfl).v_of]; exact Rel.mkv _
  · cases h
theorem constB_ok {x : Operand} {b : Bool} (h : constB x = some b) : ev E x = .bool b := by
  unfold constB at h
  split at h
  · cases h; rfl
  · cases h
theorem rd_index {t : TypeId} {x i : Operand} {ps : Ps} {a : AV} {p q : AV} {e sz : Nat} {m : Bool} {dt : DT} {xs : List D} {k : IntKind} {j : Int} (ho : o.op = .indexAddr t x i) (hE : EnvOK s A E) (hx : opd A x = some (.dl m dt xs)) (hi : opd A i = some (.v (.int k j))) (hu : P.underlying t = some (.slice e)) (hsz : szOf P e = some sz) (hs' : sz = dt.sz) (h0 : 0 ≤ j) (h1 : j < xs.length) : Rds1 P o E w s (.pd m dt (nthD xs j.toNat)) := by
  have hr := opd_ok hx hE
  simp only [Rel] at hr
  obtain ⟨b, kk, c, cs, hv, hl, hf, hrd⟩ := hr.elem (j := j.toNat) (by omega)
  refine ⟨_, by simp only [Rel]; exact ⟨b, kk + j.toNat * dt.sz, cs, rfl, hf, hrd⟩, fun w' _ => ?_⟩
  exact V.indexAddr ho hu (hs' ▸ szOf_sized hsz) hv (opd_v hi hE) (int_nat h0) (by omega)
theorem rd_ok (hH : Hold Γ s w0 st w) (hE : EnvOK s A E) {ps : Ps} {a : AV} (h : evRdS P st A o.op = some (ps, a)) (hp : ∀ p ∈ ps, p) : Rds1 P o E w s a := by
  unfold evRdS at h
  split at h
  · rename_i x ho; exact ⟨_, opd_ok (pure0_ok h) hE, fun w' _ => V.move ho rfl⟩
  · rename_i x ho; exact ⟨_, opd_ok (pure0_ok h) hE, fun w' _ => V.assign ho rfl⟩
  · rename_i x i ho
    split at h
    · rename_i cs hx
      have hr := opd_ok hx hE
      simp only [Rel] at hr
      obtain ⟨vs, hr, he⟩ := hr
      obtain ⟨v, hv, hrel⟩ := hr.get (pure0_ok h)
      exact ⟨v, hrel, fun w' _ => V.extract ho he (by simpa using hv)⟩
    · rename_i vs hx
      split at h
      · rename_i v hv; cases h; exact Rds1.v fun w' => V.extract ho (opd_v hx hE) hv
      · cases h
    · cases h
  · rename_i f fs cs ho
    cases hz : Nat.beq fs.size 0 with
    | false => rw [hz] at h; cases h
    | true =>
      rw [hz] at h
      simp only [cond_true] at h
      split at h
      · rename_i l hl
        cases h
        have hfs : fs = #[] := Array.eq_empty_of_size_eq_zero (beq_t hz)
        subst hfs
        refine ⟨_, ?_, fun w' _ => V.makeFunc ho rfl rfl⟩
        simp only [Rel]
        exact ⟨_, opds_ok hl hE, by rw [show cs.map (ev E) = (cs.toList.map (ev E)).toArray from Array.ext' (by simp), show (#[] : Array Operand).map (ev E) = #[] from by simp]⟩
      · cases h
  · rename_i x ho
    split at h
    · rename_i l k hx
      cases h
      have hr := opd_ok hx hE
      have hr' := hr
      simp only [Rel] at hr
      obtain ⟨p, hb, he⟩ := hr
      exact ⟨_, he ▸ hr', fun w' _ => V.nilCheck ho he⟩
    · rename_i m t d hx
      cases h
      have hr := opd_ok hx hE
      have hr' := hr
      simp only [Rel] at hr
      obtain ⟨b, k, cs, he, _⟩ := hr
      exact ⟨_, he ▸ hr', fun w' _ => V.nilCheck ho he⟩
    · rename_i f cs hx
      cases h
      have hr := opd_ok hx hE
      have hr' := hr
      simp only [Rel] at hr
      obtain ⟨vs, hr, he⟩ := hr
      refine ⟨.func (.func f) #[] vs.toArray, he ▸ hr', fun w' _ => ?_⟩
      simp [OpV, execOp, ho, he, go_sem]
    · cases h
  · rename_i t x i ho
    split at h
    case h_2 => cases h
    rename_i fs hu
    split at h
    case h_2 => cases h
    rename_i f hf
    split at h
    case h_2 => cases h
    rename_i n hn
    cases hz : Nat.beq n 0 with
    | true => rw [hz] at h; cases h
    | false =>
    rw [hz] at h
    simp only [cond_false] at h
    have hfo : FieldOf P t i f.type f.offset n := ⟨⟨fs, f, hu, hf, rfl, rfl⟩, szOf_sized hn, beq_f hz⟩
    split at h
    · rename_i l k hx
      cases h
      have hr := opd_ok hx hE
      simp only [Rel] at hr
      obtain ⟨p, hb, he⟩ := hr
      exact ⟨_, by simp only [Rel]; exact ⟨p, hb, rfl⟩, fun w' _ => V.fieldAddr ho hfo he⟩
    · rename_i m ts d hx
      split at h
      case h_2 => cases h
      rename_i off dt hfd
      cases hq : Nat.beq off f.offset with
      | false => rw [hq] at h; cases h
      | true =>
      rw [hq] at h
      cases h
      have hr := opd_ok hx hE
      simp only [Rel, Rd] at hr
      obtain ⟨b, k, cs, he, hfa, hrd⟩ := hr
      obtain ⟨us, vs, rs, rfl, hoff, hrd'⟩ := fieldD_ok ts i 0 _ _ _ _ hfd hrd
      refine ⟨_, ?_, fun w' _ => V.fieldAddr ho hfo he⟩
      simp only [Rel]
      refine ⟨b, k + f.offset, vs, rfl, ?_, hrd'⟩
      rw [← beq_t hq, hoff, Nat.zero_add]
      exact hfa.part
    · rename_i l j sz off js ts hx
      split at h
      case h_2 => cases h
      rename_i off' dt hfd
      cases hq : Nat.beq off' f.offset with
      | false => rw [hq] at h; cases h
      | true =>
      rw [hq] at h
      cases h
      have hr := opd_ok hx hE
      simp only [Rel] at hr
      obtain ⟨p, hb, hi, hmc, he⟩ := hr
      refine ⟨_, ?_, fun w' _ => V.fieldAddr ho hfo he⟩
      simp only [Rel]
      exact ⟨p, hb, hi, hmc, by rw [← beq_t hq, Nat.add_assoc]⟩
    · cases h
  · rename_i t x i ho
    split at h
    · rename_i m dt xs k j e hx hi hu
      split at h
      case h_2 => cases h
      rename_i sz hsz
      cases hc : (Nat.beq sz dt.sz && Nat.ble 1 sz) with
      | false => rw [hc] at h; cases h
      | true =>
      rw [hc] at h
      cases h
      simp only [Bool.and_eq_true] at hc
      have hb : Idx j xs.length := hp _ (List.mem_singleton.2 rfl)
      exact rd_index (p := .e0) (q := .e0) ho hE hx hi hu hsz (beq_t hc.1) (ps := []) (a := .e0) hb.1 hb.2
    · rename_i l n k j e hx hi hu
      split at h
      case h_2 => cases h
      rename_i sz et dt xs hsz hl
      cases hc : (Nat.beq sz dt.sz && Nat.ble 1 sz) with
      | false => rw [hc] at h; cases h
      | true =>
      rw [hc] at h
      cases h
      obtain ⟨h0, h1⟩ : Idx j n := hp _ (List.mem_singleton.2 rfl)
      have hr := opd_ok hx hE
      simp only [Rel] at hr
      obtain ⟨p, hb, hn, hmc, hv⟩ := hr
      rcases hv with hv | ⟨hc0, _⟩
      · refine ⟨.pointer (some ⟨p.b, 0 + j.toNat * sz, none⟩), ?_, fun w' _ => V.indexAddr ho hu (szOf_sized hsz) hv (opd_v hi hE) (int_nat h0) (by omega)⟩
        simp only [Rel]
        exact ⟨p, hb, by omega, hmc, by rw [Nat.zero_add, Nat.add_zero]⟩
      · omega
    · rename_i l k n c ai e hx hi hu
      split at h
      case h_2 => cases h
      rename_i j sz hj hsz
      cases hz : Nat.blt j n with
      | false => rw [hz] at h; cases h
      | true =>
      rw [hz] at h
      cases h
      have hr := opd_ok hx hE
      simp only [Rel] at hr
      obtain ⟨p, hb, he⟩ := hr
      obtain ⟨ik, hik⟩ := natOf_ok hj (opd_ok hi hE)
      exact ⟨_, by simp only [Rel]; exact ⟨p, hb, rfl⟩, fun w' _ => V.indexAddr ho hu (szOf_sized hsz) he hik rfl (blt_t hz)⟩
    · rename_i l lo n sz' k j e hx hi hu
      split at h
      case h_2 => cases h
      rename_i sz et dt xs hsz hl
      cases hc : (Nat.beq sz dt.sz && Nat.ble 1 sz && Nat.beq sz sz') with
      | false => rw [hc] at h; cases h
      | true =>
      rw [hc] at h
      cases h
      simp only [Bool.and_eq_true] at hc
      have hss := beq_t hc.2
      subst hss
      obtain ⟨h0, h1⟩ : Idx j n := hp _ (List.mem_singleton.2 rfl)
      have hr := opd_ok hx hE
      simp only [Rel] at hr
      obtain ⟨p, hb, hn, hmc, hv⟩ := hr
      rcases hv with ⟨_, cv, _, _, hv⟩ | ⟨hn0, _⟩
      · refine ⟨.pointer (some ⟨p.b, lo * sz + j.toNat * sz, none⟩), ?_, fun w' _ => V.indexAddr ho hu (szOf_sized hsz) hv (opd_v hi hE) (int_nat h0) (by omega)⟩
        simp only [Rel]
        exact ⟨p, hb, by omega, hmc, by rw [Nat.add_mul, Nat.add_zero]⟩
      · omega
    · rename_i l k ai n e hx hi hu
      split at h
      · rename_i et dt xs hl
        split at h
        case h_2 => cases h
        rename_i ik j sz hsz
        cases hc : (Nat.beq k 0 && Nat.beq sz dt.sz && Nat.ble 1 sz) with
        | false => rw [hc] at h; cases h
        | true =>
        rw [hc] at h
        cases h
        simp only [Bool.and_eq_true] at hc
        have hk := beq_t hc.1.1
        subst hk
        obtain ⟨h0, h1⟩ : Idx j n := hp _ (by simp)
        have q4 : n ≤ xs.length := hp _ (by simp)
        have hr := opd_ok hx hE
        simp only [Rel] at hr
        obtain ⟨p, hb, he⟩ := hr
        obtain ⟨p', hp', g1, g2, g3, g4⟩ := hH.row hl
        rw [hb] at hp'; cases hp'
        have hi' := opd_v hi hE
        refine ⟨.pointer (some ⟨p.b, j.toNat * sz, none⟩), by simp only [Rel]; exact ⟨p, hb, by omega, g2, by rw [Nat.add_zero]⟩, fun w' _ => ?_⟩
        simp [OpV, execOp, ho, he, hi', go_sem, Instr.indexAt, underlying, hu, asIntOf, Instr.sureAddr, size_of (szOf_sized hsz), addr_add, h0, h1]
      · split at h
        case h_2 => cases h
        rename_i j sz hj hsz
        cases hz : Nat.blt j n with
        | false => rw [hz] at h; cases h
        | true =>
        rw [hz] at h
        cases h
        have hr := opd_ok hx hE
        simp only [Rel] at hr
        obtain ⟨p, hb, he⟩ := hr
        obtain ⟨ik, hik⟩ := natOf_ok hj (opd_ok hi hE)
        refine ⟨.pointer (some ⟨p.b, k + j * sz, none⟩), by simp only [Rel]; exact ⟨p, hb, rfl⟩, fun w' _ => ?_⟩
        have hlt := blt_t hz
        simp [OpV, execOp, ho, he, hik, go_sem, Instr.indexAt, underlying, hu, asIntOf, Instr.sureAddr, size_of (szOf_sized hsz), addr_add, hlt]
    · cases h
  · rename_i t x i ho
    split at h
    · rename_i b k j hx hi hu
      cases h
      obtain ⟨h0, h1⟩ : Idx j b.size := hp _ (List.mem_singleton.2 rfl)
      have hlt : j.toNat < b.size := by omega
      refine Rds1.v fun w' => V.indexString ho hu (opd_v hx hE) (opd_v hi hE) (int_nat h0) (u := b.data.getD j.toNat 0) ?_
      have : b.data[j.toNat]? = some b.data[j.toNat] := Array.getElem?_eq_getElem (by simpa using hlt)
      simp [getElem?_pos, hlt, Array.getD]
      rfl
    · cases h
  · rename_i t x i ho
    split at h
    · rename_i cs fs hx hu
      split at h
      · rename_i f hf; exact rd_field ho hE hx hu hf (pure0_ok h)
      · cases h
    · cases h
  · rename_i t ps' ho
    split at h
    · rename_i L it fs hL hit hu
      split at h
      · rename_i z places hzz hpl
        split at h
        · rename_i cs hcs; cases h; exact rd_build ho hE hL hit hu hzz hpl hcs
        · cases h
      · cases h
    · cases h
  · rename_i t x ho
    split at h
    · rename_i p hx; exact rd_load ho hH hE hx (pure0_ok h)
    · cases h
  · rename_i t x lo hi mx ho; exact rd_slice ho hH hE h hp
  · rename_i t x ho
    split at h
    · rename_i b hx; cases h; exact Rds1.v fun w' => V.not ho (opd_v hx hE)
    · cases h
  · rename_i op t x y u ho
    split at h
    · rename_i p q hx hy; exact bin_ok ho hE hx hy h hp
    · cases h
  · rename_i c x y ho
    split at h
    case h_2 => cases h
    rename_i b hc
    have hcv := opd_v hc hE
    split at h
    · rename_i _ hy
      split at h
      · rename_i p hx
        cases h
        refine Rds1.v fun w' => V.pick ho hcv ?_
        rw [opd_v hx hE, constB_ok hy]
        cases b <;> rfl
      · cases h
    · rename_i hx _
      split at h
      · rename_i q hy
        cases h
        refine Rds1.v fun w' => V.pick ho hcv ?_
        rw [opd_v hy hE, constB_ok hx]
        cases b <;> rfl
      · cases h
    · split at h
      · rename_i p q hx hy
        exact ⟨_, pickA_ok (pure0_ok h) (fun _ => opd_ok hx hE) (fun _ => opd_ok hy hE), fun w' _ => V.pick ho hcv rfl⟩
      · cases h
  · rename_i sT dT x ho
    split at h
    · rename_i k n k' k'' hx hs hd
      cases h
      have hx' := opd_v hx hE
      refine Rds1.v fun w' => ?_
      simp [OpV, execOp, ho, hx', go_sem, convert, underlying, hs, hd, Conv.intToInt]
    · rename_i b hx hs hd
      cases h
      have hx' := opd_v hx hE
      refine Rds1.v fun w' => ?_
      simp [OpV, execOp, ho, hx', go_sem, convert, underlying, hs, hd]
    · rename_i m xs e hx hs hd
      split at h
      · rename_i he
        cases h
        have hr := opd_ok hx hE
        simp only [Rel] at hr
        refine Rds1.v' fun w' hw => ?_
        have := Rd_ints (P := P) hr ((hH.grow hw).H m) hs he hd
        simp only [OpV, execOp, ho]
        exact run_v this
      · cases h
    · rename_i l n e hx hs hd
      split at h
      · rename_i et xs he hl
        cases h
        have hr := opd_ok hx hE
        simp only [Rel] at hr
        obtain ⟨p, hb, hn, hmc, hv⟩ := hr
        obtain ⟨p', hb', g1, g2, g3, g4⟩ := hH.row hl
        rw [hb] at hb'; cases hb'
        refine Rds1.v' fun w' hw => ?_
        simp only [OpV, execOp, ho]
        refine run_v ?_
        rcases hv with hv | ⟨hc0, hv⟩
        · rw [hv]
          by_cases hn0 : n = 0
          · subst hn0
            have hl0 : (loadCells ⟨p.b, 0, none⟩ 0).run P w' = .ok (([] : List Int).map (Value.int .u8)).toArray w' := by simp [loadCells, loadCellsFrom, go_sem]
            have := Go.run_bytesToString (P := P) w' ⟨p.b, 0, none⟩ 0 p.c [] hl0
            simp [go_sem, convert, underlying, hs, hd, he, this, strOfD, strOfNums]
            rfl
          · obtain ⟨cur, g5, g6, g7, g8⟩ := g4 (by omega)
            have g5' : w'.heap[p.b]? = some (.cells cur et (0, 0)) := Ext.keepB hw g5 (by simp)
            have hlen : ((xs.take n).map D.int).length = n := by rw [List.length_map, List.length_take]; omega
            refine run_convert_bytes_arg (P := P) w' sT e hs he p.b 0 n p.c ((xs.take n).map D.int) hlen (fun i hi => ?_) dT hd
            have hi' : i < xs.length := by omega
            have h1 := g8 i _ (get_nthD hi')
            simp only [DT.sz, Rd, Nat.mul_one] at h1
            have h2 : cur[i]? = some (.int .u8 (nthD xs i).int) := by
              have h3 : ((cur.toList.drop i).take 1)[0]? = some (.int .u8 (nthD xs i).int) := by rw [h1]; rfl
              simpa using h3
            simp only [Nat.zero_add, World.cell?, g5', h2]
            congr 2
            rw [List.getD_eq_getElem?_getD, List.getElem?_map, List.getElem?_take, if_pos hi, get_nthD hi']; rfl
        · have hx0 : xs.take n = [] := by
            have : xs = [] := List.eq_nil_of_length_eq_zero (by omega)
            rw [this]; simp
          rw [hx0]
          rcases hv with hv | ⟨az, hv⟩
          · rw [hv]; exact run_convert_bytes_nil (P := P) w' sT e hs he 0 0 dT hd
          · rw [hv]
            have hl0 : (loadCells az 0).run P w' = .ok (([] : List Int).map (Value.int .u8)).toArray w' := by simp [loadCells, loadCellsFrom, go_sem]
            have := Go.run_bytesToString (P := P) w' az 0 0 [] hl0
            simp [go_sem, convert, underlying, hs, hd, he, this, strOfD, strOfNums]
            rfl
      · cases h
    · rename_i l lo n sz e hx hs hd
      split at h
      · rename_i et xs he hl
        cases hz : Nat.beq sz 1 with
        | false => rw [hz] at h; cases h
        | true =>
        rw [hz] at h
        cases h
        have hz := beq_t hz
        subst hz
        have hr := opd_ok hx hE
        simp only [Rel] at hr
        obtain ⟨p, hb, hn, hmc, hv⟩ := hr
        refine Rds1.v' fun w' hw => ?_
        simp only [OpV, execOp, ho]
        refine run_v ?_
        have hslc : Slc (fun b => w'.heap[b]?) 1 (fun x us => Rd (fun b => w'.heap[b]?) (.i .u8) x us) ((xs.drop lo).take n) (ev E x) := by
          rcases hv with ⟨hc0, cv, k1, k2, hv⟩ | ⟨hn0, hv⟩
          · rw [hv]
            exact slc_view (t := .i .u8) (hH.grow hw) (sees_all (hH.grow hw)) hl hb hn hc0 k1 k2
          · subst hn0
            rw [List.take_zero]
            exact Slc.zv hv
        exact Rd_ints (P := P) hslc (fun _ _ h => h) hs he hd
      · cases h
    · cases h
  · rename_i xs ts ho
    split at h
    case h_2 => cases h
    rename_i x t hxs hts
    rw [toList1 hxs, toList1 hts] at ho
    split at h
    · rename_i b hx hu; cases h; exact Rds1.v fun w' => V.lenString ho rfl hu (opd_v hx hE)
    · rename_i m dt xs e hx hu
      cases h
      have hr := opd_ok hx hE
      simp only [Rel] at hr
      obtain ⟨a', c, hv, _⟩ := hr.shape
      exact Rds1.v fun w' => V.lenSlice ho rfl hu hv
    · rename_i l n e hx hu
      cases h
      have hr := opd_ok hx hE
      simp only [Rel] at hr
      obtain ⟨p, hb, hn, hmc, hv | ⟨hc0, hv⟩⟩ := hr
      · exact Rds1.v fun w' => V.lenSlice ho rfl hu hv
      · have : n = 0 := by omega
        subst this
        rcases hv with hv | ⟨az, hv⟩ <;> exact Rds1.v fun w' => V.lenSlice ho rfl hu hv
    · rename_i l n e hx hu
      cases h
      have hr := opd_ok hx hE
      simp only [Rel] at hr
      obtain ⟨p, hb, hn, hmc, hv | ⟨hc0, hv⟩⟩ := hr
      · exact Rds1.v fun w' => V.lenSlice ho rfl hu hv
      · have : n = 0 := by omega
        subst this
        rcases hv with hv | ⟨az, hv⟩ <;> exact Rds1.v fun w' => V.lenSlice ho rfl hu hv
    · rename_i l lo n sz e hx hu
      cases h
      have hr := opd_ok hx hE
      simp only [Rel] at hr
      obtain ⟨p, hb, hn, hmc, ⟨_, cv, _, _, hv⟩ | ⟨hn0, hv⟩⟩ := hr
      · exact Rds1.v fun w' => V.lenSlice ho rfl hu hv
      · subst hn0
        rcases hv with hv | ⟨az, hv⟩ <;> exact Rds1.v fun w' => V.lenSlice ho rfl hu hv
    · rename_i l k n c e hx hu
      cases h
      have hr := opd_ok hx hE
      simp only [Rel] at hr
      obtain ⟨p, hb, hv⟩ := hr
      exact Rds1.v fun w' => V.lenSlice ho rfl hu hv
    · rename_i e hx hu
      cases h
      exact Rds1.v fun w' => V.lenSlice ho rfl hu (opd_v hx hE)
    · rename_i e hx hu
      cases h
      have hr := opd_ok hx hE
      simp only [Rel] at hr
      rcases hr with hv | ⟨a', hv⟩
      · exact Rds1.v fun w' => V.lenSlice ho rfl hu hv
      · exact Rds1.v fun w' => V.lenSlice ho rfl hu hv
    · cases h
  · rename_i xs ts ho
    split at h
    case h_2 => cases h
    rename_i x y t tr hxs hts
    split at h
    case h_2 => cases h
    rename_i k i k' j k'' hx hy hu
    cases hk : (decide (k = k') && decide (k = k'')) with
    | false => rw [hk] at h; cases h
    | true =>
    rw [hk] at h
    cases h
    simp only [Bool.and_eq_true, decide_eq_true_eq] at hk
    obtain ⟨rfl, rfl⟩ := hk
    rw [toList2 hxs] at ho
    exact Rds1.v fun w' => V.min ho (t := t) (by obtain ⟨l⟩ := ts; simp only at hts; subst hts; rfl) hu (opd_v hx hE) (opd_v hy hE)
  · rename_i xs ts ho
    split at h
    case h_2 => cases h
    rename_i x y t tr hxs hts
    split at h
    case h_2 => cases h
    rename_i k i k' j k'' hx hy hu
    cases hk : (decide (k = k') && decide (k = k'')) with
    | false => rw [hk] at h; cases h
    | true =>
    rw [hk] at h
    cases h
    simp only [Bool.and_eq_true, decide_eq_true_eq] at hk
    obtain ⟨rfl, rfl⟩ := hk
    rw [toList2 hxs] at ho
    exact Rds1.v fun w' => V.max ho (t := t) (by obtain ⟨l⟩ := ts; simp only at hts; subst hts; rfl) hu (opd_v hx hE) (opd_v hy hE)
  · cases h
theorem pureRun_run {α : Type} (P : Program) (m : Sem α) {x : α} (h : pureRun P m = some x) (w : World) : m.run P w = .ok x w := by
  induction m with
  | pure a => simp only [pureRun, Option.some.injEq] at h; subst h; rfl
  | program k ih => simp only [pureRun] at h; exact ih _ h
  | mark _ k ih => simp only [pureRun] at h; exact ih h
  | _ => simp [pureRun] at h
theorem allV_ok {l : List Operand} (h : allV A l = true) (hE : EnvOK s A E) : ∀ x ∈ l, ev E x = rho A x := by
  induction l with
  | nil => simp
  | cons y r ih =>
    simp only [allV] at h
    split at h
    · rename_i v hv
      intro x hx
      rcases List.mem_cons.1 hx with rfl | hx
      · simp only [rho, hv]; exact opd_v hv hE
      · exact ih h x hx
    · cases h
theorem pure_ok (hE : EnvOK s A E) {a : AV} (h : evPure P A o = some a) : Rds1 P o E w s a := by
  unfold evPure at h
  split at h
  · cases h
  · rename_i hns
    cases hz : allV A o.op.operands.toList with
    | false => rw [hz] at h; cases h
    | true =>
      rw [hz] at h
      simp only [cond_true] at h
      split at h
      · rename_i v hv
        cases h
        refine Rds1.v fun w' => ?_
        have := execOp_congr (ρ := ev E) (ρ' := rho A) o (fun cs b e => hns cs b e) (fun x hx => allV_ok hz hE x (by simpa using hx))
        unfold OpV
        rw [this]
        exact pureRun_run P _ hv w'
      · cases h
end
end Go.Proofs.YtbbjonjhaoeidaaDoor.Sv
