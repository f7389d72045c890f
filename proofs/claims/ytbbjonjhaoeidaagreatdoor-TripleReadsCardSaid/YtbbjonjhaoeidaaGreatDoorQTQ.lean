/- A drawn return: a builder's String beside moves. -/
import Derived.Test.YtbbjonjhaoeidaaGreatDoorQS14x
import Derived.Test.YtbbjonjhaoeidaaGreatDoorQH3
import Derived.Shelf.Strings.BuilderF
set_option linter.unusedVariables false
set_option linter.unusedSimpArgs false
namespace Go.Proofs
open Go Go.RowKit Go.Proofs.YtbbjonjhaoeidaaGreatDoor.W
theorem Tryz.bldDoneF (B b : Nat) (l : List UInt8) (w : World) (h : Lib.IsBuilderF 97 5 B b (Lib.byteCells l) w) (hBw : B ≤ w.heap.size) :
    Calls Tryz.prog 57 #[.pointer (some ⟨b, 0, none⟩)] w fun e w' => e = .returned (.string ⟨l.toArray⟩) ∧ (Lib.IsBuilderF 97 5 B b (Lib.byteCells l) w' ∧ Below B w w') := Any.Builder_String_any_f { Tryz.lays156 with } Tryz.Builder_Extra_156 B b l w h hBw
def preB (o : Oper) (i : Nat) : Bool := o.after.toList.any fun e => Region.binds .any e && e.on == i
def backB (o : Oper) (k : Nat) : Bool := o.after.toList.all fun e => !(Region.binds .any e) || decide (e.on < k)
theorem backB_of {o : Oper} {k : Nat} (h : backB o k = true) : ∀ e ∈ o.after.toList, Region.binds .any e = true → e.on < k := by
  intro e he hb
  simp only [backB, List.all_eq_true, Bool.or_eq_true, Bool.not_eq_true', decide_eq_true_eq] at h
  rcases h e he with h | h
  · rw [hb] at h; cases h
  · exact h
theorem preB_of {o : Oper} {i : Nat} (h : preB o i = true) : ∃ e ∈ o.after.toList, Region.binds .any e = true ∧ e.on = i := by
  simp only [preB, List.any_eq_true, Bool.and_eq_true, beq_iff_eq] at h
  exact h
theorem Tryz.rk_draw {id : Nat} {o0 o1 o2 o3 o4 o5 o6 o7 : Oper} {tys : Array TypeId} {tA tB : TypeId} {E : Env} {w0 w : World} {B i : Nat} {acc : List UInt8} {r : ByteArray}
    (hm : Tryz.prog.follows .mixedOrders = true) (b0 : backB o0 0 = true) (b1 : backB o1 1 = true) (b2 : backB o2 2 = true) (b3 : backB o3 3 = true) (b4 : backB o4 4 = true) (b5 : backB o5 5 = true) (b6 : backB o6 6 = true) (b7 : backB o7 7 = true)
    (e0 : o0.op = .call ⟨.value (.func 57), #[.tmp 5], tys⟩) (d0 : o0.dst = some 28) (g0 : o0.guard = none) (e1 : o1.op = .move (.tmp 0)) (d1 : o1.dst = some 29) (g1 : o1.guard = none) (e2 : o2.op = .move (.tmp 6)) (d2 : o2.dst = some 30) (g2 : o2.guard = none) (e3 : o3.op = .binOp .add tA (.tmp 30) (.const (.int .i64 2)) tB) (d3 : o3.dst = some 31) (g3 : o3.guard = none) (e4 : o4.op = .slice 9 (.tmp 29) (some (.tmp 31)) none none) (d4 : o4.dst = some 32) (g4 : o4.guard = none) (e5 : o5.op = .assign (.tmp 28)) (d5 : o5.dst = some 2) (g5 : o5.guard = none) (e6 : o6.op = .assign (.tmp 32)) (d6 : o6.dst = some 3) (g6 : o6.guard = none) (e7 : o7.op = .assign (.const (.int .i64 0))) (d7 : o7.dst = some 4) (g7 : o7.guard = none)
    (p32 : preB o3 2 = true) (p41 : preB o4 1 = true) (p43 : preB o4 3 = true) (p50 : preB o5 0 = true) (p64 : preB o6 4 = true)
    (hi : i + 2 ≤ r.size) (hr : r.size ≤ 9223372036854775807) (hI : Lib.IsBuilderF 97 5 B B (Lib.byteCells acc) w) (hB : B ≤ w.heap.size) (hb : Below B w0 w) (t5 : E 5 = .pointer (some ⟨B, 0, none⟩)) (t0 : E 0 = .string r) (t6 : E 6 = .int .i64 (i : Int)) :
    WP Tryz.prog ⟨40, []⟩ (.region id [o0, o1, o2, o3, o4, o5, o6, o7].toArray true) ⟨fun E2 w2 => E2 2 = .string ⟨acc.toArray⟩ ∧ E2 3 = .string (r.extract (i + 2) r.size) ∧ E2 4 = .int .i64 0 ∧ Below B w0 w2, fun _ _ _ => False, fun _ _ => False⟩ E w := by
  have D : ∀ j t, dstAt [o0, o1, o2, o3, o4, o5, o6, o7] j = some t → [28, 29, 30, 31, 32, 2, 3, 4][j]? = some t := by
    intro j t h
    match j, h with
    | 0, h => exact (d0.symm.trans h : some 28 = some t)
    | 1, h => exact (d1.symm.trans h : some 29 = some t)
    | 2, h => exact (d2.symm.trans h : some 30 = some t)
    | 3, h => exact (d3.symm.trans h : some 31 = some t)
    | 4, h => exact (d4.symm.trans h : some 32 = some t)
    | 5, h => exact (d5.symm.trans h : some 2 = some t)
    | 6, h => exact (d6.symm.trans h : some 3 = some t)
    | 7, h => exact (d7.symm.trans h : some 4 = some t)
    | j + 8, h => exact absurd h (by simp [dstAt])
  have N : ∀ t, t < 28 → t ≠ 2 → t ≠ 3 → t ≠ 4 → ∀ j, dstAt [o0, o1, o2, o3, o4, o5, o6, o7] j ≠ some t := by
    intro t q1 q2 q3 q4 j h
    have h := D j t h
    match j, h with
    | 0, h => exact absurd (Option.some.inj h) (by omega)
    | 1, h => exact absurd (Option.some.inj h) (by omega)
    | 2, h => exact absurd (Option.some.inj h) (by omega)
    | 3, h => exact absurd (Option.some.inj h) (by omega)
    | 4, h => exact absurd (Option.some.inj h) (by omega)
    | 5, h => exact absurd (Option.some.inj h) (by omega)
    | 6, h => exact absurd (Option.some.inj h) (by omega)
    | 7, h => exact absurd (Option.some.inj h) (by omega)
    | j + 8, h => exact absurd h (by simp)
  have hb2 := hb.size
  refine WP.any (fun w2 => Lib.IsBuilderF 97 5 B B (Lib.byteCells acc) w2 ∧ B ≤ w2.heap.size ∧ Below B w0 w2) (fun kk v _ => ([.string ⟨acc.toArray⟩, .string r, .int .i64 (i : Int), .int .i64 ((i + 2 : Nat) : Int), .string (r.extract (i + 2) r.size), .string ⟨acc.toArray⟩, .string (r.extract (i + 2) r.size), .int .i64 0] : List Value)[kk]? = some v) hm (fun d => ⟨?_, hB, ?_⟩) ⟨?_, ?_, ?_, ?_⟩ ?_
  · exact hI
  · exact ⟨hb.os, hb.tape, hb.output, hb.size, hb.block⟩
  · intro i o ho
    match i, ho with
    | 0, ho => obtain rfl : o0 = o := Option.some.inj ho; rw [d0]; rfl
    | 1, ho => obtain rfl : o1 = o := Option.some.inj ho; rw [d1]; rfl
    | 2, ho => obtain rfl : o2 = o := Option.some.inj ho; rw [d2]; rfl
    | 3, ho => obtain rfl : o3 = o := Option.some.inj ho; rw [d3]; rfl
    | 4, ho => obtain rfl : o4 = o := Option.some.inj ho; rw [d4]; rfl
    | 5, ho => obtain rfl : o5 = o := Option.some.inj ho; rw [d5]; rfl
    | 6, ho => obtain rfl : o6 = o := Option.some.inj ho; rw [d6]; rfl
    | 7, ho => obtain rfl : o7 = o := Option.some.inj ho; rw [d7]; rfl
    | i + 8, ho => exact absurd ho (by simp)
  · intro i j d hi hj
    have hi := D i d hi
    have hj := D j d hj
    have hlt : i < 8 := (List.getElem?_eq_some_iff.1 hi).1
    exact (List.getElem?_inj hlt (by decide)).1 (hi.trans hj.symm)
  · intro i o ho
    match i, ho with
    | 0, ho => obtain rfl : o0 = o := Option.some.inj ho; exact backB_of b0
    | 1, ho => obtain rfl : o1 = o := Option.some.inj ho; exact backB_of b1
    | 2, ho => obtain rfl : o2 = o := Option.some.inj ho; exact backB_of b2
    | 3, ho => obtain rfl : o3 = o := Option.some.inj ho; exact backB_of b3
    | 4, ho => obtain rfl : o4 = o := Option.some.inj ho; exact backB_of b4
    | 5, ho => obtain rfl : o5 = o := Option.some.inj ho; exact backB_of b5
    | 6, ho => obtain rfl : o6 = o := Option.some.inj ho; exact backB_of b6
    | 7, ho => obtain rfl : o7 = o := Option.some.inj ho; exact backB_of b7
    | i + 8, ho => exact absurd ho (by simp)
  · intro k o ho E2 w2 hI2 hbase hpre
    have rd : ∀ (j d : Nat) (v : Value), (∃ e ∈ o.after.toList, Region.binds .any e = true ∧ e.on = j) → dstAt [o0, o1, o2, o3, o4, o5, o6, o7] j = some d → ([.string ⟨acc.toArray⟩, .string r, .int .i64 (i : Int), .int .i64 ((i + 2 : Nat) : Int), .string (r.extract (i + 2) r.size), .string ⟨acc.toArray⟩, .string (r.extract (i + 2) r.size), .int .i64 0] : List Value)[j]? = some v → E2 d = v := by
      rintro j d v ⟨e, he, hb, rfl⟩ hd hv
      have := hpre e he hb
      simp only [holdsF, hd] at this
      exact Option.some.inj (this.symm.trans hv)
    have base : ∀ t, t < 28 → t ≠ 2 → t ≠ 3 → t ≠ 4 → E2 t = E t := fun t q1 q2 q3 q4 => hbase t fun j hj => absurd hj (N t q1 q2 q3 q4 j)
    match k, ho with
    | 0, ho =>
      obtain rfl : o0 = o := Option.some.inj ho
      refine .inr ⟨Sure.none g0, .inr ⟨57, _, C.call1 e0 ⟨_, Tryz.func57, by kernel_rfl, by kernel_rfl⟩ ((base 5 (by omega) (by omega) (by omega) (by omega)).trans t5), ?_⟩⟩
      refine Calls.mono (Tryz.bldDoneF B B acc w2 hI2.1 hI2.2.1) ?_
      rintro e w3 ⟨rfl, f1, f2⟩
      exact ⟨_, rfl, ⟨f1, Nat.le_trans hI2.2.1 f2.size, hI2.2.2.trans f2⟩, rfl, fun j u _ h => h⟩
    | 1, ho =>
      obtain rfl : o1 = o := Option.some.inj ho
      refine .inr ⟨Sure.none g1, .inl ⟨_, w2, (V.move e1 ((base 0 (by omega) (by omega) (by omega) (by omega)).trans t0)).x, hI2, rfl, fun j u _ h => h⟩⟩
    | 2, ho =>
      obtain rfl : o2 = o := Option.some.inj ho
      refine .inr ⟨Sure.none g2, .inl ⟨_, w2, (V.move e2 ((base 6 (by omega) (by omega) (by omega) (by omega)).trans t6)).x, hI2, rfl, fun j u _ h => h⟩⟩
    | 3, ho =>
      obtain rfl : o3 = o := Option.some.inj ho
      refine .inr ⟨Sure.none g3, .inl ⟨_, w2, (V.arith e3 (rd 2 30 _ (preB_of p32) d2 rfl) rfl (r := (i : Int) + 2) rfl (r' := ((i + 2 : Nat) : Int)) (by rw [wrap_i64 (by omega) (by omega)]; rfl)).x, hI2, rfl, fun j u _ h => h⟩⟩
    | 4, ho =>
      obtain rfl : o4 = o := Option.some.inj ho
      refine .inr ⟨Sure.none g4, .inl ⟨_, w2, (V.sliceString (l := i + 2) (h := r.size) e4 Tryz.underlying9 (rd 1 29 _ (preB_of p41) d1 rfl) ⟨_, rd 3 31 _ (preB_of p43) d3 rfl⟩ rfl hi (Nat.le_refl _) rfl).x, hI2, rfl, fun j u _ h => h⟩⟩
    | 5, ho =>
      obtain rfl : o5 = o := Option.some.inj ho
      refine .inr ⟨Sure.none g5, .inl ⟨_, w2, (V.assign e5 (rd 0 28 _ (preB_of p50) d0 rfl)).x, hI2, rfl, fun j u _ h => h⟩⟩
    | 6, ho =>
      obtain rfl : o6 = o := Option.some.inj ho
      refine .inr ⟨Sure.none g6, .inl ⟨_, w2, (V.assign e6 (rd 4 32 _ (preB_of p64) d4 rfl)).x, hI2, rfl, fun j u _ h => h⟩⟩
    | 7, ho =>
      obtain rfl : o7 = o := Option.some.inj ho
      refine .inr ⟨Sure.none g7, .inl ⟨_, w2, (V.assign e7 rfl).x, hI2, rfl, fun j u _ h => h⟩⟩
    | k + 8, ho => exact absurd ho (by simp)
  · intro E2 w2 hI2 _ hF
    have f5 := hF 5 (by simp)
    have f6 := hF 6 (by simp)
    have f7 := hF 7 (by simp)
    simp only [holdsF, show dstAt [o0, o1, o2, o3, o4, o5, o6, o7] 5 = some 2 from d5] at f5
    simp only [holdsF, show dstAt [o0, o1, o2, o3, o4, o5, o6, o7] 6 = some 3 from d6] at f6
    simp only [holdsF, show dstAt [o0, o1, o2, o3, o4, o5, o6, o7] 7 = some 4 from d7] at f7
    exact ⟨(Option.some.inj f5).symm, (Option.some.inj f6).symm, (Option.some.inj f7).symm, hI2.2.2⟩
end Go.Proofs
