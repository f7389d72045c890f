/- The evaluator is right: operations on maps, walks over maps and texts, copies. Program-agnostic. -/
import Derived.Test.YtkcnljgennehaaaE6
namespace Go.Proofs.Ytkcnljgennehaaa.Ev
open Go.RowKit Go.Proofs.Ytkcnljgennehaaa.W

theorem modify_at {α : Type} {L : List α} {i : Nat} {e : α} (h : L[i]? = some e) (f : α → α) : L.toArray.modify i f = (L.set i (f e)).toArray := by
  apply Array.ext_getElem?
  intro j
  rw [Array.getElem?_modify]
  simp only [List.getElem?_toArray, List.getElem?_set]
  by_cases hij : i = j
  · subst hij
    have hlt : i < L.length := (List.getElem?_eq_some_iff.1 h).1
    rw [h]; simp [hlt]
  · simp [hij]
theorem erase_at {α : Type} {L : List α} {i : Nat} {e : α} (h : L[i]? = some e) : L.toArray.eraseIdxIfInBounds i = (L.eraseIdx i).toArray := by
  have hlt : i < L.length := (List.getElem?_eq_some_iff.1 h).1
  simp [Array.eraseIdxIfInBounds, hlt]
theorem map_erase {α β : Type} (f : α → β) : ∀ (l : List α) (i : Nat), (l.map f).eraseIdx i = (l.eraseIdx i).map f
  | [], _ => rfl
  | _ :: _, 0 => rfl
  | a :: l, i + 1 => by simp [map_erase f l i]
section
variable {ω : Nat → Value} {s : Sg} {w0 w : World} {st : Stt} {A : AE} {E : Env} {P : Program} {o : Oper}
theorem run_newO {ob : Obj} : (newObj ob).run P w = .ok w.heap.size (w.alloc ob) := rfl
theorem makeMap_ok (hH : Hold ω s w0 st w) (hE : EnvOK ω s A E) {t kt et : TypeId} {r : Option Operand} {n : Nat} (ho : o.op = .makeMap t r) (ht : P.underlying t = some (.map kt et)) (hr : bnd A r 0 = some n) :
    ∃ v w' s', OpX P o E w v w' ∧ s.le s' ∧ Hold ω s' w0 (newX st (.m [] 0)) w' ∧ Rel ω s' (.mp st.nx) v := by
  obtain ⟨h1, h2⟩ := bnd_ok hr hE
  refine ⟨.map (some w.heap.size), w.alloc (.map #[] 0), _, .inl ?_, hH.le_new _, hH.new (c := 0) (Ext.alloc w _) ⟨hH.ge, [], RelL.nil, heap_alloc_new w _⟩, by simp only [Rel]; exact ⟨_, _, Sg.ins_same, rfl⟩⟩
  simp only [execOp, ho]
  refine run_v ?_
  unfold Instr.makeMap
  cases r with
  | none => rfl
  | some x =>
    obtain ⟨k, hk⟩ := h2 x rfl
    simp only [Option.map_some, hk, Sem.run_bind, run_underlying ht, Result.andThen_ok]
    rfl
theorem lt_of_some {b : Nat} {x : Obj} (h : w.heap[b]? = some x) : b < w.heap.size := (Array.getElem?_eq_some_iff.1 h).1
theorem upd_ok (hH : Hold ω s w0 st w) (hE : EnvOK ω s A E) {t : TypeId} {m k x : Operand} {a : AV} {st' : Stt} (ho : o.op = .mapUpdate t m k x ∨ o.op = .insert t m k x) (h : evUpd P st A t m k x = some (a, st')) :
    ∃ v w', OpX P o E w v w' ∧ Hold ω s w0 st' w' ∧ Rel ω s a v := by
  unfold evUpd at h
  split at h
  · rename_i l kv xa kt et hm hk hx ht
    split at h
    · rename_i es c hl
      obtain ⟨b, cp, hb, hmv⟩ := (opd_ok hm hE).mp_of
      obtain ⟨vs, h1, h2, h3, hge⟩ := hH.map hl hb
      have hkv := (opd_ok hk hE).v_of
      have hxr := opd_ok hx hE
      have hget := run_getO (P := P) h3 (by intro c t f; simp)
      have fin : ∀ ob : Obj, (Instr.mapUpdate t (ev E m) (ev E k) (ev E x)).run P w = .ok () (w.putObj b ob) → OpX P o E w undef (w.putObj b ob) := by
        intro ob hr
        refine .inr ⟨rfl, ?_⟩
        rcases ho with ho | ho <;> (simp only [execOp, ho]; exact run_u hr)
      split at h
      · rename_i i hi
        obtain ⟨g1, e, g3, g4⟩ := keyIdx_ok h2 hi w
        split at h
        · rename_i k' a' b' hes
          cases hsb : Instr.sameBits 10000 k' kv with
          | false => rw [hsb] at h; cases h
          | true =>
            rw [hsb] at h
            cases h
            obtain ⟨x', g5, g6, g7⟩ := mkEs_get h2 g3
            rw [hes] at g5; cases g5
            refine ⟨undef, _, fin (.map (mkEs (es.set i (kv, xa, b')) (vs.set i (ev E x))).toArray c) ?_, hH.turn hl hb (Ext.putObj w b _) ⟨hge, vs.set i (ev E x), ?_, World.putObj_heap_same (lt_of_some h3)⟩, Rel.mkv _⟩
            · have hstay : (Instr.keyThatStays ((Option.map (·.key) (mkEs es vs).toArray[i]?).getD kv) kv).run P w = .ok kv w := by
                have : ((mkEs es vs).toArray[i]?) = some e := by simpa using g3
                rw [this, g7]
                simp only [Option.map_some, Option.getD_some, Instr.keyThatStays, hsb, if_true]
                rfl
              have hmod : (mkEs es vs).toArray.modify i (fun e => { e with key := kv, val := ev E x }) = (mkEs (es.set i (kv, xa, b')) (vs.set i (ev E x))).toArray := by
                rw [modify_at g3, mkEs_set h2, g7]
              unfold Instr.mapUpdate
              simp only [Sem.run_bind, run_underlying ht, Result.andThen_ok, hmv, hget, hkv, g1, List.toList_toArray, g4, hstay, hmod]
              exact run_setO _ h3 (by intro c t f; simp)
            · rw [List.map_set]; exact h1.set hxr i
        · cases h
      · rename_i hi
        cases h
        obtain ⟨g1, g4⟩ := keyIdx_ok h2 hi w
        refine ⟨undef, _, fin (.map (mkEs (es ++ [(kv, xa, c)]) (vs ++ [ev E x])).toArray (c + 1)) ?_, hH.turn hl hb (Ext.putObj w b _) ⟨hge, vs ++ [ev E x], ?_, World.putObj_heap_same (lt_of_some h3)⟩, Rel.mkv _⟩
        · have hmod : (mkEs es vs).toArray.push { key := kv, val := ev E x, born := c } = (mkEs (es ++ [(kv, xa, c)]) (vs ++ [ev E x])).toArray := by
            rw [mkEs_push h2, List.push_toArray]
          unfold Instr.mapUpdate
          simp only [Sem.run_bind, run_underlying ht, Result.andThen_ok, hmv, hget, hkv, g1, List.toList_toArray, g4, hmod]
          exact run_setO _ h3 (by intro c t f; simp)
        · rw [List.map_append]; exact h1.append (RelL.cons hxr RelL.nil)
      · cases h
    · cases h
  · cases h
theorem delete_ok (hH : Hold ω s w0 st w) (hE : EnvOK ω s A E) {t u : TypeId} {m k : Operand} {a : AV} {st' : Stt} (ho : o.op = .call ⟨.builtin .delete, #[m, k], #[t, u]⟩) (h : evDelete P st A t m k = some (a, st')) :
    ∃ v w', OpX P o E w v w' ∧ Hold ω s w0 st' w' ∧ Rel ω s a v := by
  unfold evDelete at h
  split at h
  · rename_i l kv kt et hm hk ht
    split at h
    · rename_i es c hl
      obtain ⟨b, cp, hb, hmv⟩ := (opd_ok hm hE).mp_of
      obtain ⟨vs, h1, h2, h3, hge⟩ := hH.map hl hb
      have hkv := (opd_ok hk hE).v_of
      have hget := run_getO (P := P) h3 (by intro c t f; simp)
      have hemp : (mkEs es vs).toArray.isEmpty = es.isEmpty := by rw [← es_empty h2]; simp
      have fin : ∀ ob : Obj, (Builtin.delete_ #[t, u] o.type #[ev E m, ev E k]).run P w = .ok (.tuple #[]) (w.putObj b ob) → OpX P o E w (.tuple #[]) (w.putObj b ob) := by
        intro ob hr
        left
        simp only [execOp, ho, resolve]
        rw [show #[m, k].map (ev E) = #[ev E m, ev E k] from by simp]
        exact run_v hr
      split at h
      · rename_i i hi
        cases h
        obtain ⟨g1, e, g3, g4⟩ := keyIdx_ok h2 hi w
        refine ⟨.tuple #[], _, fin (.map (mkEs (es.eraseIdx i) (vs.eraseIdx i)).toArray c) ?_, hH.turn hl hb (Ext.putObj w b _) ⟨hge, vs.eraseIdx i, ?_, World.putObj_heap_same (lt_of_some h3)⟩, Rel.mkv _⟩
        · have hmod : (mkEs es vs).toArray.eraseIdxIfInBounds i = (mkEs (es.eraseIdx i) (vs.eraseIdx i)).toArray := by rw [erase_at g3, mkEs_erase h2]
          have hset := run_setO (P := P) (.map (mkEs (es.eraseIdx i) (vs.eraseIdx i)).toArray c) h3 (by intro c t f; simp)
          have hset' : (setObj b (.map ((mkEs es vs).toArray.eraseIdxIfInBounds i) c)).run P w = .ok () (w.putObj b (.map (mkEs (es.eraseIdx i) (vs.eraseIdx i)).toArray c)) := by rw [hmod]; exact hset
          unfold Builtin.delete_
          simp [go_sem, run_underlying ht, hmv, hget, hkv, g1, g4, hemp, -List.eraseIdxIfInBounds_toArray]
          exact (congrArg (fun r => Result.andThen r fun _ w' => Result.ok (Value.tuple #[]) w') hset').trans rfl
        · have : (es.eraseIdx i).map (·.2.1) = (es.map (·.2.1)).eraseIdx i := (map_erase _ es i).symm
          rw [this]; exact h1.erase i
      · rename_i hi
        cases h
        obtain ⟨g1, g4⟩ := keyIdx_ok h2 hi w
        refine ⟨.tuple #[], _, fin (.map (mkEs es vs).toArray c) ?_, hH.turn hl hb (Ext.putObj w b _) ⟨hge, vs, h1, World.putObj_heap_same (lt_of_some h3)⟩, Rel.mkv _⟩
        have hset := run_setO (P := P) (.map (mkEs es vs).toArray c) h3 (by intro c t f; simp)
        unfold Builtin.delete_
        simp [go_sem, run_underlying ht, hmv, hget, hkv, g1, g4, hset, hemp]
      · cases h
    · cases h
  · cases h
theorem rangeOf_ok (hH : Hold ω s w0 st w) (hE : EnvOK ω s A E) {t : TypeId} {x : Operand} {a : AV} {st' : Stt} (ho : o.op = .range t x) (h : evRangeOf P st A t x = some (a, st')) :
    ∃ v w' s', OpX P o E w v w' ∧ s.le s' ∧ Hold ω s' w0 st' w' ∧ Rel ω s' a v := by
  have fin : ∀ ob : Obj, (Instr.range t (ev E x)).run P w = .ok (.pointer (some ⟨w.heap.size, 0, none⟩)) (w.alloc ob) → OpX P o E w (.pointer (some ⟨w.heap.size, 0, none⟩)) (w.alloc ob) := by
    intro ob hr
    left
    simp only [execOp, ho]
    exact run_v hr
  unfold evRangeOf at h
  split at h
  · rename_i l kt et hx ht
    split at h
    · rename_i es c hl
      cases h
      obtain ⟨b, cp, hb, hmv⟩ := (opd_ok hx hE).mp_of
      obtain ⟨vs, h1, h2, h3, hge⟩ := hH.map hl hb
      have hget := run_getO (P := P) h3 (by intro c t f; simp)
      refine ⟨_, _, _, fin (.mapIter (some b) c #[] c) ?_, hH.le_new _, hH.new (c := 0) (Ext.alloc w _) ⟨hH.ge, some b, ⟨b, cp, hb, rfl⟩, heap_alloc_new w _⟩, Rel.newPtr hH _ 0⟩
      unfold Instr.range
      simp only [Sem.run_bind, run_underlying ht, Result.andThen_ok, hmv, hget, Sem.run_pure, run_newO]
    · cases h
  · rename_i kt et hx ht
    cases h
    have hmv := (opd_ok hx hE).v_of
    refine ⟨_, _, _, fin (.mapIter none 0 #[] 0) ?_, hH.le_new _, hH.new (c := 0) (Ext.alloc w _) ⟨hH.ge, none, rfl, heap_alloc_new w _⟩, Rel.newPtr hH _ 0⟩
    unfold Instr.range
    simp only [Sem.run_bind, run_underlying ht, Result.andThen_ok, hmv, Sem.run_pure, run_newO]
  · rename_i tx hx ht
    cases h
    have hmv := (opd_ok hx hE).v_of
    refine ⟨_, _, _, fin (.stringIter tx 0) ?_, hH.le_new _, hH.new (c := 0) (Ext.alloc w _) ⟨hH.ge, heap_alloc_new w _⟩, Rel.newPtr hH _ 0⟩
    unfold Instr.range
    simp only [Sem.run_bind, run_underlying ht, Result.andThen_ok, hmv, Sem.run_pure, run_newO]
  · cases h
theorem next_ok (hH : Hold ω s w0 st w) (hE : EnvOK ω s A E) {it : Operand} {isStr : Bool} {a : AV} {st' : Stt} (ho : o.op = .next it isStr) (h : evNext st A it isStr = some (a, st')) :
    ∃ v w', OpX P o E w v w' ∧ Hold ω s w0 st' w' ∧ Rel ω s a v := by
  have fin : ∀ v w', (Instr.next (ev E it) isStr o.type).run P w = .ok v w' → OpX P o E w v w' := by
    intro v w' hr
    left
    simp only [execOp, ho]
    exact run_v hr
  unfold evNext at h
  split at h
  · rename_i l hit
    obtain ⟨b, cp, hb, hv⟩ := (opd_ok hit hE).ptr_of
    split at h
    · rename_i tx pos hl
      cases isStr with
      | false => cases h
      | true =>
        simp only [cond_true] at h
        obtain ⟨b', c', e1, hob⟩ := hH.obj l _ hl
        rw [hb] at e1; cases e1
        have h3 : w.heap[b]? = some (.stringIter tx pos) := hob.cur
        have hget := run_getO (P := P) h3 (by intro c t f; simp)
        cases hlt : Nat.blt pos tx.size with
        | true =>
          rw [hlt] at h
          cases h
          have hp := blt_t hlt
          refine ⟨_, _, fin _ _ ?_, hH.turn hl hb (Ext.putObj w b (.stringIter tx (pos + (Utf8.decode tx pos).2))) ⟨hob.ge, World.putObj_heap_same (lt_of_some h3)⟩, Rel.mkv _⟩
          have hset := run_setO (P := P) (.stringIter tx (pos + (Utf8.decode tx pos).2)) h3 (by intro c t f; simp)
          unfold Instr.next
          simp only [hv, Sem.run_bind, hget, Result.andThen_ok, if_pos hp, hset, Sem.run_pure, goInt]
        | false =>
          rw [hlt] at h
          cases h
          have hp : ¬ pos < tx.size := by
            intro hq
            have : Nat.blt pos tx.size = true := Nat.ble_eq_true_of_le hq
            rw [hlt] at this; cases this
          refine ⟨_, w, fin _ _ ?_, hH, Rel.mkv _⟩
          unfold Instr.next
          simp only [hv, Sem.run_bind, hget, Result.andThen_ok, if_neg hp, Sem.run_pure]
    · rename_i since seen last hl
      cases isStr with
      | true => cases h
      | false =>
        cases h
        obtain ⟨b', c', e1, hob⟩ := hH.obj l _ hl
        rw [hb] at e1; cases e1
        obtain ⟨mb, rfl, h3⟩ := hob.cur
        have hget := run_getO (P := P) h3 (by intro c t f; simp)
        refine ⟨_, w, fin _ _ ?_, hH, Rel.mkv _⟩
        unfold Instr.next
        simp only [hv, Sem.run_bind, hget, Result.andThen_ok, Sem.run_pure]
    · rename_i m since seen last hl
      cases isStr with
      | true => cases h
      | false =>
        simp only [cond_false] at h
        split at h
        · rename_i es clock hm
          obtain ⟨b', c', e1, hob⟩ := hH.obj l _ hl
          rw [hb] at e1; cases e1
          obtain ⟨mb, cm, hmb, h3⟩ := hH.mi hl hb
          obtain ⟨vs, g1, g2, g3, gge⟩ := hH.map hm hmb
          have hget := run_getO (P := P) h3 (by intro c t f; simp)
          have hgetm := run_getO (P := P) g3 (by intro c t f; simp)
          have hemp : (mkEs es vs).toArray.isEmpty = es.isEmpty := by rw [← es_empty g2]; simp
          have hall : (mkEs es vs).toArray.all (fun e => decide (e.born ≥ last)) = es.all fun e => decide (e.2.2 ≥ last) := by
            rw [← mkEs_all (p := fun n => decide (n ≥ last)) g2]; simp
          have hseen : seen.toArray.isEmpty = seen.isEmpty := by simp
          obtain ⟨us, q1, q2⟩ := mkEs_filter (p := fun n => !seen.contains n) g1
          have hleft : (mkEs es vs).toArray.filter (fun e => !seen.toArray.contains e.born) = (mkEs (es.filter fun e => !seen.contains e.2.2) us).toArray := by
            rw [← q2]; simp
          cases hc : (!seen.isEmpty && !es.isEmpty && es.all (fun e => decide (e.2.2 ≥ last))) with
          | true => rw [hc] at h; cases h
          | false =>
            rw [hc] at h
            simp only [cond_false] at h
            split at h
            · rename_i hf
              cases h
              rw [hf] at hleft q1
              have hus := q1.unnil
              subst hus
              refine ⟨_, w, fin _ _ ?_, hH, Rel.mkv _⟩
              unfold Instr.next
              simp only [hv, Sem.run_bind, hget, Result.andThen_ok, hgetm, hseen, hemp, hall, hc, Bool.false_eq_true, if_false, Sem.run_pure]
              rw [hleft]
              simp only [mkEs]
              simp [go_sem, Question.forced]
            · rename_i e hf
              cases hs : Nat.blt e.2.2 since with
              | false => rw [hs] at h; cases h
              | true =>
                rw [hs] at h
                cases h
                rw [hf] at hleft q1
                obtain ⟨v, vs', hve, hv2, rfl⟩ := q1.uncons
                have hnil := hv2.unnil
                subst hnil
                have hlt : e.2.2 < since := blt_t hs
                have hset := run_setO (P := P) (.mapIter (some mb) since (seen ++ [e.2.2]).toArray clock) h3 (by intro c t f; simp)
                refine ⟨.tuple #[.bool true, e.1, v], _, fin _ _ ?_, hH.turn hl hb (Ext.putObj w b (.mapIter (some mb) since (seen ++ [e.2.2]).toArray clock)) ⟨hob.ge, some mb, ⟨mb, cm, hmb, rfl⟩, ?_⟩, ?_⟩
                · unfold Instr.next
                  simp only [hv, Sem.run_bind, hget, Result.andThen_ok, hgetm, hseen, hemp, hall, hc, Bool.false_eq_true, if_false, Sem.run_pure]
                  rw [hleft]
                  simp only [mkEs]
                  simp [hlt, go_sem, Question.forced]
                  exact (congrArg (fun r => Result.andThen r fun _ w' => Result.ok (Value.tuple #[.bool true, e.1, v]) w') hset).trans rfl
                · exact World.putObj_heap_same (lt_of_some h3)
                · exact Rel.mkTup (RelL.cons (Rel.mkv _) (RelL.cons (Rel.mkv _) (RelL.cons hve RelL.nil)))
            · cases h
        · cases h
    · cases h
  · cases h
theorem srcA_ok (hH : Hold ω s w0 st w) {sz m n : Nat} {y : AV} {ys : List AV} {v : Value} (hm : lenS y = some m) (hy : srcA st sz y = some ys) (hr : Rel ω s y v) (hn : n ≤ m) : ∃ us, RelL ω s (ys.take (n * sz)) us ∧ us.length ≤ n * sz ∧ (Builtin.lenOf v).run P w = .ok m w ∧ (Builtin.firstCells sz n v).run P w = .ok us.toArray w := by
  unfold srcA at hy
  split at hy
  · rename_i tx
    cases hz : Nat.beq sz 1 with
    | false => rw [hz] at hy; cases hy
    | true =>
      rw [hz] at hy
      cases hy
      have := beq_t hz
      subst this
      have hv := hr.v_of
      subst hv
      simp only [lenS, Option.some.injEq] at hm
      subst hm
      have hlist : (tx.data.toList.map fun b => AV.v (.int .u8 b.toNat)) = (tx.data.toList.map fun b => Value.int .u8 b.toNat).map .v := by rw [List.map_map]; rfl
      rw [hlist]
      refine ⟨_, (RelL.vs _).take _, by rw [List.length_take]; omega, rfl, ?_⟩
      have : ((tx.extract 0 n).data.map fun b => Value.int .u8 b.toNat) = ((tx.data.toList.map fun b => Value.int .u8 b.toNat).take (n * 1)).toArray := by
        apply Array.ext'
        rw [ByteArray.data_extract]
        simp [List.map_take, List.extract_eq_take_drop]
      rw [← this]; rfl
  · rename_i hne
    have hm' : lenA y = some m := by
      unfold lenS at hm
      split at hm
      · rename_i tx; exact absurd rfl (hne tx)
      · exact hm
    unfold elemsA at hy
    split at hy
    · cases hy
      simp only [lenA, Option.some.injEq] at hm'
      subst hm'
      have hv := hr.v_of
      subst hv
      have : n = 0 := by omega
      subst this
      exact ⟨[], by simpa using RelL.nil, by simp, rfl, rfl⟩
    · cases hy
      simp only [lenA, Option.some.injEq] at hm'
      subst hm'
      have : n = 0 := by omega
      subst this
      have hnil := nil_of (P := P) w (sz := sz) (by rfl) hr
      exact ⟨[], by simpa using RelL.nil, by simp, hnil.1, hnil.2⟩
    · rename_i l k m' d ex
      simp only [lenA, Option.some.injEq] at hm'
      subst hm'
      obtain ⟨b, c, us, cap, he, _, hb, hrel, hlen, hcell⟩ := elems_ok hH (by unfold elemsA; exact hy) hr
      subst he
      refine ⟨us.take (n * sz), hrel.take _, by rw [List.length_take]; omega, rfl, ?_⟩
      have hle : n * sz ≤ m' * sz := Nat.mul_le_mul_right sz hn
      have hsz : (us.take (n * sz)).length = n * sz := by rw [List.length_take]; omega
      have hld : (loadCells ⟨b, k, none⟩ (n * sz)).run P w = .ok (us.take (n * sz)).toArray w := by
        have := load_cells (P := P) (w := w) (b := b) (k := k) (us.take (n * sz)) 0 #[] (fun j v hj => by
          rw [List.getElem?_take] at hj
          split at hj
          · have := hcell j v hj; rw [addr_add] at this; rw [Nat.zero_add]; exact this
          · cases hj)
        rw [hsz] at this
        simpa [loadCells] using this
      exact hld
    · cases hy
theorem copy_ok (hω : OneW ω) (hH : Hold ω s w0 st w) (hE : EnvOK ω s A E) {t u : TypeId} {x y : Operand} {a : AV} {st' : Stt} (ho : o.op = .call ⟨.builtin .copy, #[x, y], #[t, u]⟩) (h : evCopy P st A t x y = some (a, st')) :
    ∃ v w', OpX P o E w v w' ∧ Hold ω s w0 st' w' ∧ Rel ω s a v := by
  unfold evCopy at h
  split at h
  · rename_i l k n d ex ya e hx hy ht
    split at h
    · rename_i sz ob hsz hl
      split at h
      · rename_i m hm
        split at h
        · rename_i ys hys
          cases hc : (Nat.ble (k + n * sz) ob.cs.length && (ys.take (Nat.min m n * sz)).all oneCellA) with
          | false => rw [hc] at h; cases h
          | true =>
            rw [hc] at h
            cases h
            simp only [Bool.and_eq_true] at hc
            obtain ⟨bk, c, hb, hxv⟩ := (opd_ok hx hE).sl_of
            obtain ⟨us, q1, q2, q3, q4⟩ := srcA_ok (P := P) hH (n := Nat.min m n) hm hys (opd_ok hy hE) (Nat.min_le_left m n)
            have hle := ble_t hc.1
            have hmn : Nat.min m n * sz ≤ n * sz := Nat.mul_le_mul_right sz (Nat.min_le_right m n)
            have hone : ∀ u ∈ us, u.oneCell' = true := q1.one hω hc.2
            obtain ⟨w', hst, hH'⟩ := hH.splice (P := P) (k := k) hl q1 (by omega) hone hb
            refine ⟨.int .i64 (Nat.min m n), w', .inl ?_, hH', Rel.mkv _⟩
            have hrun : (Builtin.copy_ #[t, u] o.type #[ev E x, ev E y]).run P w = .ok (.int .i64 (Nat.min m n)) w' := by
              rw [hxv]
              unfold Builtin.copy_
              simp only [List.getElem?_toArray, List.getElem?_cons_zero, List.getElem?_cons_succ, Sem.run_bind, run_underlying ht, Result.andThen_ok, q3, size_of (szOf_sized hsz), q4, Sem.run_pure]
              exact (congrArg (fun r => Result.andThen r fun _ w' => Result.ok (goInt (Nat.min m n)) w') hst).trans rfl
            simp only [execOp, ho, resolve]
            rw [show #[x, y].map (ev E) = #[ev E x, ev E y] from by simp]
            exact run_v hrun
        · cases h
      · cases h
    · cases h
  · cases h
end
end Go.Proofs.Ytkcnljgennehaaa.Ev
