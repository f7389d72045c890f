/- The evaluator is right: maps, walks over maps and texts, what is equal to nil. Program-agnostic. -/
import Derived.Test.YtkcnljgennehaaaE4
import Derived.RangeFuncRecord
namespace Go.Proofs.Ytkcnljgennehaaa.Ev
open Go.RowKit Go.Proofs.Ytkcnljgennehaaa.W

theorem pureRun_run {α : Type} (P : Program) (m : Sem α) {x : α} (h : pureRun P m = some x) (w : World) : m.run P w = .ok x w := by
  induction m with
  | pure a => simp only [pureRun, Option.some.injEq] at h; subst h; rfl
  | program k ih => exact ih P h
  | mark m k ih => exact ih h
  | _ => simp [pureRun] at h
theorem pureRun_bind {α β : Type} (P : Program) (m : Sem α) (f : α → Sem β) : pureRun P (m >>= f) = (pureRun P m).bind fun a => pureRun P (f a) := by
  show pureRun P (m.bind f) = _
  induction m with
  | pure a => rfl
  | program k ih => exact ih P
  | mark m k ih => exact ih
  | _ => rfl
theorem pureRun_pure {α : Type} (P : Program) (a : α) : pureRun P (pure a : Sem α) = some a := rfl

def SameKeys : List MapEntry → List MapEntry → Prop
  | [], [] => True
  | a :: r, b :: s => a.key = b.key ∧ SameKeys r s
  | _, _ => False
theorem findNow_same {d : TypeDesc} {k : Value} : ∀ (L L' : List MapEntry) (i : Nat), SameKeys L L' → match Instr.findNow d k L i with
    | none => Instr.findNow d k L' i = none
    | some none => Instr.findNow d k L' i = some none
    | some (some (j, _)) => i ≤ j ∧ ∃ e, L'[j - i]? = some e ∧ Instr.findNow d k L' i = some (some (j, e.val))
  | [], [], i, _ => by simp [Instr.findNow]
  | [], _ :: _, i, h => h.elim
  | _ :: _, [], i, h => h.elim
  | a :: r, b :: s, i, h => by
    obtain ⟨h1, h2⟩ := h
    have ih := findNow_same (d := d) (k := k) r s (i + 1) h2
    simp only [Instr.findNow, h1]
    cases hs : Instr.sameNow d k b.key with
    | none => simp
    | some t =>
      cases t with
      | true => exact ⟨Nat.le_refl _, b, by simp, rfl⟩
      | false =>
        simp only
        cases hf : Instr.findNow d k r (i + 1) with
        | none => rw [hf] at ih; exact ih
        | some q =>
          rw [hf] at ih
          cases q with
          | none => exact ih
          | some x =>
            obtain ⟨j, v⟩ := x
            obtain ⟨g1, e, g2, g3⟩ := ih
            refine ⟨by omega, e, ?_, g3⟩
            rw [show j - i = (j - (i + 1)) + 1 from by omega]
            simpa using g2
theorem findAsking_same {P : Program} {t : TypeId} {k : Value} : ∀ (L L' : List MapEntry) (i : Nat) (r : Option (Nat × Value)), SameKeys L L' → pureRun P (Instr.findAsking t k L i) = some r → match r with
    | none => pureRun P (Instr.findAsking t k L' i) = some none
    | some (j, _) => i ≤ j ∧ ∃ e, L'[j - i]? = some e ∧ pureRun P (Instr.findAsking t k L' i) = some (some (j, e.val))
  | [], [], i, r, _, h => by
    simp only [Instr.findAsking, pureRun_pure, Option.some.injEq] at h
    subst h
    rfl
  | [], _ :: _, i, r, h, _ => h.elim
  | _ :: _, [], i, r, h, _ => h.elim
  | a :: l, b :: s, i, r, hk, h => by
    obtain ⟨h1, h2⟩ := hk
    simp only [Instr.findAsking, pureRun_bind] at h
    cases he : pureRun P (Op.equal t k a.key) with
    | none => rw [he] at h; simp at h
    | some q =>
      rw [he] at h
      simp only [Option.bind_some] at h
      have he' : pureRun P (Op.equal t k b.key) = some q := by rw [← h1]; exact he
      cases q with
      | true =>
        simp only [if_true, pureRun_pure, Option.some.injEq] at h
        subst h
        refine ⟨Nat.le_refl _, b, by simp, ?_⟩
        simp only [Instr.findAsking, pureRun_bind, he', Option.bind_some, if_true, pureRun_pure]
      | false =>
        simp only [Bool.false_eq_true, if_false] at h
        have ih := findAsking_same l s (i + 1) r h2 h
        have e2 : pureRun P (Instr.findAsking t k (b :: s) i) = pureRun P (Instr.findAsking t k s (i + 1)) := by
          simp only [Instr.findAsking, pureRun_bind, he', Option.bind_some, Bool.false_eq_true, if_false]
        cases r with
        | none => exact e2.trans ih
        | some x =>
          obtain ⟨j, v⟩ := x
          obtain ⟨g1, e, g2, g3⟩ := ih
          refine ⟨by omega, e, ?_, e2.trans g3⟩
          rw [show j - i = (j - (i + 1)) + 1 from by omega]
          simpa using g2
theorem findKey_same {P : Program} {t : TypeId} {k : Value} {L L' : List MapEntry} {r : Option (Nat × Value)} (hk : SameKeys L L') (h : pureRun P (Instr.findKey t k L) = some r) : match r with
    | none => pureRun P (Instr.findKey t k L') = some none
    | some (j, _) => ∃ e, L'[j]? = some e ∧ pureRun P (Instr.findKey t k L') = some (some (j, e.val)) := by
  simp only [Instr.findKey, pureRun_bind] at h ⊢
  cases hu : pureRun P (underlying t) with
  | none => rw [hu] at h; simp at h
  | some d =>
    rw [hu] at h
    simp only [Option.bind_some] at h ⊢
    have hn := findNow_same (d := d) (k := k) L L' 0 hk
    cases hf : Instr.findNow d k L 0 with
    | none =>
      rw [hf] at hn h
      simp only at hn h
      rw [hn]
      have := findAsking_same L L' 0 r hk h
      cases r with
      | none => exact this
      | some x => obtain ⟨j, v⟩ := x; obtain ⟨_, e, g2, g3⟩ := this; exact ⟨e, by simpa using g2, g3⟩
    | some q =>
      rw [hf] at hn h
      simp only [pureRun_pure, Option.some.injEq] at h
      subst h
      cases q with
      | none => simp only at hn; rw [hn]; rfl
      | some x =>
        obtain ⟨j, v⟩ := x
        simp only at hn
        obtain ⟨_, e, g2, g3⟩ := hn
        exact ⟨e, by simpa using g2, by rw [g3]; rfl⟩
section
variable {ω : Nat → Value} {s : Sg} {w0 w : World} {st : Stt} {A : AE} {E : Env} {P : Program} {o : Oper}
theorem mkEs_same : ∀ {es : List (Value × AV × Nat)} {vs : List Value}, es.length = vs.length → SameKeys (es.map fun e => { key := e.1, val := undef, born := e.2.2 }) (mkEs es vs)
  | [], [], _ => trivial
  | [], _ :: _, h => by simp at h
  | _ :: _, [], h => by simp at h
  | e :: es, v :: vs, h => ⟨rfl, mkEs_same (by simpa using h)⟩
theorem mkEs_len : ∀ {es : List (Value × AV × Nat)} {vs : List Value}, es.length = vs.length → (mkEs es vs).length = es.length
  | [], [], _ => rfl
  | [], _ :: _, h => by simp at h
  | _ :: _, [], h => by simp at h
  | e :: es, v :: vs, h => by simp [mkEs, mkEs_len (es := es) (vs := vs) (by simpa using h)]
theorem mkEs_get : ∀ {es : List (Value × AV × Nat)} {vs : List Value} {i : Nat} {e : MapEntry}, es.length = vs.length → (mkEs es vs)[i]? = some e → ∃ x, es[i]? = some x ∧ vs[i]? = some e.val ∧ e = { key := x.1, val := e.val, born := x.2.2 }
  | [], [], i, e, _, h => by simp [mkEs] at h
  | [], _ :: _, _, _, h, _ => by simp at h
  | _ :: _, [], _, _, h, _ => by simp at h
  | x :: es, v :: vs, i, e, h, hi => by
    cases i with
    | zero => simp only [mkEs, List.getElem?_cons_zero, Option.some.injEq] at hi; subst hi; exact ⟨x, rfl, rfl, rfl⟩
    | succ i => simp only [mkEs, List.getElem?_cons_succ] at hi ⊢; exact mkEs_get (by simpa using h) hi
theorem mkEs_set : ∀ {es : List (Value × AV × Nat)} {vs : List Value} {i : Nat} {k : Value} {x : AV} {b : Nat} {v : Value}, es.length = vs.length → mkEs (es.set i (k, x, b)) (vs.set i v) = (mkEs es vs).set i { key := k, val := v, born := b }
  | [], [], _, _, _, _, _, _ => rfl
  | [], _ :: _, _, _, _, _, _, h => by simp at h
  | _ :: _, [], _, _, _, _, _, h => by simp at h
  | e :: es, u :: vs, i, k, x, b, v, h => by
    cases i with
    | zero => rfl
    | succ i => simp only [List.set_cons_succ, mkEs, mkEs_set (es := es) (vs := vs) (by simpa using h)]
theorem mkEs_push : ∀ {es : List (Value × AV × Nat)} {vs : List Value} {e : Value × AV × Nat} {v : Value}, es.length = vs.length → mkEs (es ++ [e]) (vs ++ [v]) = mkEs es vs ++ [{ key := e.1, val := v, born := e.2.2 }]
  | [], [], _, _, _ => rfl
  | [], _ :: _, _, _, h => by simp at h
  | _ :: _, [], _, _, h => by simp at h
  | e :: es, u :: vs, x, v, h => by simp only [List.cons_append, mkEs, mkEs_push (es := es) (vs := vs) (by simpa using h)]
theorem mkEs_erase : ∀ {es : List (Value × AV × Nat)} {vs : List Value} {i : Nat}, es.length = vs.length → mkEs (es.eraseIdx i) (vs.eraseIdx i) = (mkEs es vs).eraseIdx i
  | [], [], _, _ => rfl
  | [], _ :: _, _, h => by simp at h
  | _ :: _, [], _, h => by simp at h
  | e :: es, u :: vs, i, h => by
    cases i with
    | zero => rfl
    | succ i => simp only [List.eraseIdx_cons_succ, mkEs, mkEs_erase (es := es) (vs := vs) (by simpa using h)]
theorem RelL.set {l : List AV} {vs : List Value} (h : RelL ω s l vs) {a : AV} {v : Value} (k : Rel ω s a v) (i : Nat) : RelL ω s (l.set i a) (vs.set i v) := by
  induction l generalizing vs i with
  | nil => rw [h.unnil]; exact RelL.nil
  | cons b l ih =>
    obtain ⟨u, vs', h1, h2, rfl⟩ := h.uncons
    cases i with
    | zero => exact RelL.cons k h2
    | succ i => exact RelL.cons h1 (ih h2 i)
theorem RelL.erase {l : List AV} {vs : List Value} (h : RelL ω s l vs) (i : Nat) : RelL ω s (l.eraseIdx i) (vs.eraseIdx i) := by
  induction l generalizing vs i with
  | nil => rw [h.unnil]; exact RelL.nil
  | cons b l ih =>
    obtain ⟨u, vs', h1, h2, rfl⟩ := h.uncons
    cases i with
    | zero => exact h2
    | succ i => exact RelL.cons h1 (ih h2 i)
theorem keyIdx_ok {emp : Bool} {kt : TypeId} {k : Value} {es : List (Value × AV × Nat)} {vs : List Value} {r : Option Nat} (hl : es.length = vs.length) (h : keyIdx P emp kt k es = some r) (w : World) :
    (Instr.checkKey emp 10000 kt k).run P w = .ok () w ∧ match r with
      | none => (Instr.findKey kt k (mkEs es vs)).run P w = .ok none w
      | some i => ∃ e, (mkEs es vs)[i]? = some e ∧ (Instr.findKey kt k (mkEs es vs)).run P w = .ok (some (i, e.val)) w := by
  unfold keyIdx at h
  split at h
  · rename_i u hc
    refine ⟨pureRun_run P _ hc w, ?_⟩
    split at h
    · rename_i i v hf
      cases h
      obtain ⟨e, g1, g2⟩ := findKey_same (mkEs_same hl) hf
      exact ⟨e, g1, pureRun_run P _ g2 w⟩
    · rename_i hf
      cases h
      exact pureRun_run P _ (findKey_same (mkEs_same hl) hf) w
    · cases h
  · cases h
theorem Ext.putObj (w : World) (b : Nat) (o : Obj) : Ext [b] w (w.putObj b o) := ⟨rfl, rfl, rfl, by simp, fun k _ hk => World.putObj_heap_other (by simpa using hk)⟩
theorem run_getO {b : Nat} {x : Obj} (h : w.heap[b]? = some x) (hx : ∀ c t f, x ≠ .cells c t f) : (getObj b).run P w = .ok x w := by
  cases x <;> first | exact absurd rfl (hx _ _ _) | simp [getObj, Sem.run, h]
theorem run_setO {b : Nat} {x : Obj} (y : Obj) (h : w.heap[b]? = some x) (hx : ∀ c t f, x ≠ .cells c t f) : (setObj b y).run P w = .ok () (w.putObj b y) := by
  cases x <;> first | exact absurd rfl (hx _ _ _) | simp [setObj, Sem.run, h, World.putObj]
theorem Hold.map (hH : Hold ω s w0 st w) {l : Nat} {es : List (Value × AV × Nat)} {c : Nat} (hl : st.h.get l = some (.m es c)) {b cp : Nat} (hb : s l = some (b, cp)) : ∃ vs, RelL ω s (es.map (·.2.1)) vs ∧ es.length = vs.length ∧ w.heap[b]? = some (.map (mkEs es vs).toArray c) ∧ w0.heap.size ≤ b := by
  obtain ⟨b', c', e1, hob⟩ := hH.obj l _ hl
  rw [hb] at e1; cases e1
  obtain ⟨vs, h1, h2⟩ := hob.cur
  exact ⟨vs, h1, by have := h1.len; simpa using this, h2, hob.ge⟩
theorem Rel.mp_of {l : Nat} {v : Value} (h : Rel ω s (.mp l) v) : ∃ b c, s l = some (b, c) ∧ v = .map (some b) := by simpa only [Rel] using h
theorem es_empty {es : List (Value × AV × Nat)} {vs : List Value} (h : es.length = vs.length) : (mkEs es vs).isEmpty = es.isEmpty := by
  have := mkEs_len h
  cases es with
  | nil => cases vs <;> rfl
  | cons e es => cases vs with
    | nil => simp at h
    | cons v vs => rfl
/-- what a map says of a key -/
theorem look_ok (hH : Hold ω s w0 st w) {t kt et : TypeId} {m k : Operand} {ok : Bool} {l : Nat} {kv : Value} {es : List (Value × AV × Nat)} {c : Nat} {r : Option Nat} (ho : o.op = .lookup t m k ok) (hm : Rel ω s (.mp l) (ev E m)) (hk : ev E k = kv) (ht : P.underlying t = some (.map kt et)) (hl : st.h.get l = some (.m es c)) (hi : keyIdx P es.isEmpty kt kv es = some r) :
    match r with
    | some i => ∀ a b x, es[i]? = some (x, a, b) → ∃ v, OpV P o E w v ∧ Rel ω s (bif ok then mkTup [a, .v (.bool true)] else a) v
    | none => ∀ z, zeroV P et = some z → OpV P o E w (bif ok then .tuple #[z, .bool false] else z) := by
  obtain ⟨b, cp, hb, hmv⟩ := hm.mp_of
  obtain ⟨vs, h1, h2, h3, _⟩ := hH.map hl hb
  obtain ⟨g1, g2⟩ := keyIdx_ok h2 hi w
  have hget := run_getO (P := P) h3 (by intro c t f; simp)
  have hemp : (mkEs es vs).toArray.isEmpty = es.isEmpty := by rw [← es_empty h2]; simp
  cases r with
  | some i =>
    intro a bb x hx
    obtain ⟨e, g3, g4⟩ := g2
    obtain ⟨x', g5, g6, g7⟩ := mkEs_get h2 g3
    rw [hx] at g5; cases g5
    have hra : Rel ω s a e.val := by
      obtain ⟨v, q1, q2⟩ := h1.get (i := i) (a := a) (by simp [hx])
      rw [g6] at q1; cases q1; exact q2
    have hrun : (Instr.lookup t (ev E m) (ev E k) ok).run P w = .ok (if ok = true then .tuple #[e.val, .bool true] else e.val) w := by
      unfold Instr.lookup
      simp only [Sem.run_bind, run_underlying ht, Result.andThen_ok, hmv, hget, Sem.run_pure, hemp, hk, g1, List.toList_toArray, g4]
    refine ⟨_, by simp only [OpV, execOp, ho]; exact run_v hrun, ?_⟩
    cases ok with
    | true => exact Rel.mkTup (RelL.cons hra (RelL.cons (Rel.mkv _) RelL.nil))
    | false => exact hra
  | none =>
    intro z hz
    have hzr : (zeroValue et).run P w = .ok z w := zero_of (by
      unfold zeroV at hz
      unfold W.Zero
      cases hi : P.info? et with
      | none => rw [hi] at hz; cases hz
      | some i => rw [hi] at hz; simpa using hz)
    have hrun : (Instr.lookup t (ev E m) (ev E k) ok).run P w = .ok (if ok = true then .tuple #[z, .bool false] else z) w := by
      unfold Instr.lookup
      simp only [Sem.run_bind, run_underlying ht, Result.andThen_ok, hmv, hget, Sem.run_pure, hemp, hk, g1, List.toList_toArray, g2, hzr]
    simp only [OpV, execOp, ho]
    cases ok <;> exact run_v hrun
theorem eql_ok {st : Stt} {d : TypeDesc} {t : TypeId} {a b : AV} {r : Bool} {x y : Value} (hu : P.underlying t = some d) (h : eqlA st d a b = some r) (hx : Rel ω s a x) (hy : Rel ω s b y) (op : BinOp) (hop : op = .eql ∨ op = .neq) (p q : Operand) :
    (eqGuard op t p q x y).run P w = .ok () w ∧ (binOp op t x y).run P w = .ok (.bool (if op = .eql then r else !r)) w := by
  unfold eqlA at h
  have eqd : ∀ b, (∀ n, (Op.equalIn (n + 1) t x y).run P w = .ok b w) → (Op.equal t x y).run P w = .ok b w := fun b hb => by rw [Op.equal, Op.maxDepth]; exact hb 9999
  have fin : ∀ b, (Op.equal t x y).run P w = .ok b w → (binOp .eql t x y = do pure (.bool (← Op.equal t x y))) → (binOp .neq t x y = do pure (.bool (!(← Op.equal t x y)))) → (binOp op t x y).run P w = .ok (.bool (if op = .eql then b else !b)) w := by
    intro b hb h1 h2
    rcases hop with rfl | rfl
    · rw [h1]; simp only [Sem.run_bind, hb, Result.andThen_ok, Sem.run_pure, if_true]
    · rw [h2]; simp only [Sem.run_bind, hb, Result.andThen_ok, Sem.run_pure]; simp
  split at h
  · cases h
    obtain ⟨bk, c, _, rfl⟩ := hx.sl_of
    have := hy.v_of; subst this
    refine ⟨by rcases hop with rfl | rfl <;> rfl, fin false (eqd false fun n => ?_) rfl rfl⟩
    simp [Op.equalIn, run_underlying hu]
  · cases h
    obtain ⟨bk, c, _, rfl⟩ := hx.ptr_of
    have := hy.v_of; subst this
    refine ⟨by rcases hop with rfl | rfl <;> rfl, fin false (eqd false fun n => ?_) rfl rfl⟩
    simp [Op.equalIn, run_underlying hu]
  · cases h
    simp only [Rel] at hx
    obtain ⟨vs, _, rfl⟩ := hx
    have := hy.v_of; subst this
    refine ⟨by rcases hop with rfl | rfl <;> rfl, fin false (eqd false fun n => ?_) rfl rfl⟩
    simp [Op.equalIn, run_underlying hu]
  · cases h
    obtain ⟨bk, c, _, rfl⟩ := hx.mp_of
    have := hy.v_of; subst this
    refine ⟨by rcases hop with rfl | rfl <;> rfl, fin false (eqd false fun n => ?_) rfl rfl⟩
    simp [Op.equalIn, run_underlying hu]
  · cases h
theorem mkEs_find {p : Nat → Bool} {x : Value × AV × Nat} : ∀ {es : List (Value × AV × Nat)} {vs : List Value}, RelL ω s (es.map (·.2.1)) vs → es.find? (fun e => p e.2.2) = some x → ∃ v, (mkEs es vs).find? (fun e => p e.born) = some { key := x.1, val := v, born := x.2.2 } ∧ Rel ω s x.2.1 v
  | [], vs, _, h => by simp at h
  | e :: es, vs, hr, h => by
    rw [List.map_cons] at hr
    obtain ⟨v, vs', h1, h2, rfl⟩ := hr.uncons
    rw [List.find?_cons] at h
    simp only [mkEs, List.find?_cons]
    cases hp : p e.2.2 with
    | true => rw [hp] at h; cases h; exact ⟨v, rfl, h1⟩
    | false => rw [hp] at h; exact mkEs_find h2 h
theorem mkEs_all {p : Nat → Bool} : ∀ {es : List (Value × AV × Nat)} {vs : List Value}, es.length = vs.length → (mkEs es vs).all (fun e => p e.born) = es.all fun e => p e.2.2
  | [], [], _ => rfl
  | [], _ :: _, h => by simp at h
  | _ :: _, [], h => by simp at h
  | e :: es, v :: vs, h => by simp only [mkEs, List.all_cons, mkEs_all (es := es) (vs := vs) (by simpa using h)]
theorem mkEs_filter {p : Nat → Bool} : ∀ {es : List (Value × AV × Nat)} {vs : List Value}, RelL ω s (es.map (·.2.1)) vs → ∃ us, RelL ω s ((es.filter fun e => p e.2.2).map (·.2.1)) us ∧ (mkEs es vs).filter (fun e => p e.born) = mkEs (es.filter fun e => p e.2.2) us
  | [], vs, hr => ⟨[], RelL.nil, by rw [hr.unnil]; rfl⟩
  | e :: es, vs, hr => by
    rw [List.map_cons] at hr
    obtain ⟨v, vs', h1, h2, rfl⟩ := hr.uncons
    obtain ⟨us, h3, h4⟩ := mkEs_filter (p := p) h2
    simp only [mkEs, List.filter_cons]
    cases hp : p e.2.2 with
    | true => exact ⟨v :: us, RelL.cons h1 h3, by simp only [if_true, mkEs, h4]⟩
    | false => exact ⟨us, h3, by simpa using h4⟩
theorem Hold.mi (hH : Hold ω s w0 st w) {l m since stepped : Nat} {seen : List Nat} (hl : st.h.get l = some (.mi (some m) since seen stepped)) {b cp : Nat} (hb : s l = some (b, cp)) : ∃ mb cm, s m = some (mb, cm) ∧ w.heap[b]? = some (.mapIter (some mb) since seen.toArray stepped) := by
  obtain ⟨b', c', e1, hob⟩ := hH.obj l _ hl
  rw [hb] at e1; cases e1
  obtain ⟨mb, h1, h2⟩ := hob.cur
  obtain ⟨b2, c2, h3, rfl⟩ := h1
  exact ⟨b2, c2, h3, h2⟩
/-- an entry that a walk over a map stands at -/
theorem entry_ok (hH : Hold ω s w0 st w) {it : Operand} {l m since stepped clock b0 : Nat} {seen : List Nat} {es : List (Value × AV × Nat)} {e : Value × AV × Nat} (ho : o.op = .entry it) (hit : Rel ω s (.ptr l 0) (ev E it)) (hl : st.h.get l = some (.mi (some m) since seen stepped)) (hm : st.h.get m = some (.m es clock)) (hb0 : seen.getLast? = some b0) (hc : clock = stepped) (he : es.find? (fun e => e.2.2 == b0) = some e) :
    ∃ v, OpV P o E w v ∧ Rel ω s (mkTup [.v e.1, e.2.1]) v := by
  obtain ⟨b, cp, hb, hv⟩ := hit.ptr_of
  obtain ⟨mb, cm, hmb, hheap⟩ := hH.mi hl hb
  obtain ⟨vs, h1, h2, h3, _⟩ := hH.map hm hmb
  obtain ⟨v, h4, h5⟩ := mkEs_find (p := fun n => n == b0) h1 he
  subst hc
  have hrun : (Instr.entry (ev E it)).run P w = .ok (.tuple #[e.1, v]) w := by
    rw [hv]
    unfold Instr.entry
    have hback : seen.toArray.back? = some b0 := by simpa using hb0
    have hfind : (mkEs es vs).toArray.find? (fun e => e.born == b0) = some { key := e.1, val := v, born := e.2.2 } := by rw [List.find?_toArray]; exact h4
    simp only [Sem.run_bind, run_getO hheap (by intro c t f; simp), Result.andThen_ok, Sem.run_pure, hback, run_getO h3 (by intro c t f; simp), hfind]
    simp
  refine ⟨_, by unfold OpV; simp only [execOp, ho]; exact run_v hrun, ?_⟩
  exact Rel.mkTup (RelL.cons (Rel.mkv _) (RelL.cons h5 RelL.nil))
end
end Go.Proofs.Ytkcnljgennehaaa.Ev
