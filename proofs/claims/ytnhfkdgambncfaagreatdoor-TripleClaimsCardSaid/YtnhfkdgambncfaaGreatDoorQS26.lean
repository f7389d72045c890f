/- A row of numbers that a function of the library sorts, a row without its room: as contracts that turn a row. Program-agnostic. -/
import Derived.Test.YtnhfkdgambncfaaGreatDoorQS14x
import Derived.Test.YtnhfkdgambncfaaGreatDoorQW5x
import Derived.Shelf.GgSortFunc.Insertion
set_option linter.unusedVariables false
set_option linter.unusedSimpArgs false
set_option linter.unusedSectionVars false
namespace Go.Proofs.YtnhfkdgambncfaaGreatDoor.Sv
open Go.RowKit Go.Sort Go.Proofs.YtnhfkdgambncfaaGreatDoor.W
variable {Γ : Gl}
def sortI (le : Int → Int → Bool) (xs : List D) : List D := ((xs.map D.int).mergeSort le).map D.i
theorem sortI_len (le : Int → Int → Bool) (xs : List D) : (sortI le xs).length = xs.length := by simp [sortI, List.length_mergeSort]
def rowC (et : TypeId) (t : DT) (fs : List FuncId) (pre : List D → Prop) (out : List D → List D) : Con := ⟨[.o et t fs], fun ds => [pre (nthD ds 0).list], [], fun _ => [], fun ds => [.l (out (nthD ds 0).list)]⟩
section
variable {P : Program}
theorem heap_sort {α : Type} [Inhabited α] {enc : α → Value} {w : World} {b n : Nat} {d : Array α} {os : Array Obj} {cur : Array Value} {et : TypeId} (h : w.heap[b]? = some (.cells cur et (0, 0))) : (sortWorld enc w b 0 n d os).heap[b]? = some (.cells (putCells enc 0 d cur) et (0, 0)) := by
  unfold sortWorld grow putRow mapBlock
  show ((w.heap.modify b _) ++ os)[b]? = _
  have hb : b < w.heap.size := (Array.getElem?_eq_some_iff.1 h).1
  rw [Array.getElem?_append_left (by simpa using hb), Array.getElem?_modify, if_pos rfl, h]
  rfl
theorem ext_sort {α : Type} [Inhabited α] {enc : α → Value} {w : World} {b n : Nat} {d : Array α} {os : Array Obj} : Ext [b] w (sortWorld enc w b 0 n d os) := by
  refine ⟨rfl, rfl, rfl, ?_, fun k hk hX => ?_⟩
  · unfold sortWorld grow putRow mapBlock
    simp
  · unfold sortWorld grow putRow mapBlock
    show ((w.heap.modify b _) ++ os)[k]? = _
    rw [Array.getElem?_append_left (by simpa using hk), Array.getElem?_modify, if_neg (fun e => hX (by simp [e]))]
theorem put_size {α : Type} [Inhabited α] {enc : α → Value} {d : Array α} {cur : Array Value} : (putCells enc 0 d cur).size = cur.size := by unfold putCells; simp
theorem put_get {α : Type} [Inhabited α] {enc : α → Value} {d : Array α} {cur : Array Value} {i : Nat} (h : i < d.size) (hc : i < cur.size) : (putCells enc 0 d cur).toList[i]? = some (enc d[i]!) := by
  unfold putCells
  simp only [Array.getElem?_toList, Array.getElem?_mapIdx, Array.getElem?_eq_getElem hc, Option.map_some, Nat.zero_add, Nat.zero_le, true_and, Nat.sub_zero, if_pos h]
theorem put_one {α : Type} [Inhabited α] {enc : α → Value} {d : Array α} {cur : Array Value} (h1 : ∀ x, (enc x).oneCell' = true) (h : ∀ u ∈ cur.toList, u.oneCell' = true) : ∀ u ∈ (putCells enc 0 d cur).toList, u.oneCell' = true := by
  intro u hu
  obtain ⟨i, hi⟩ := List.mem_iff_getElem?.1 hu
  unfold putCells at hi
  simp only [Array.getElem?_toList, Array.getElem?_mapIdx] at hi
  cases hc : cur[i]? with
  | none => rw [hc] at hi; cases hi
  | some v =>
    rw [hc] at hi
    simp only [Option.map_some, Option.some.injEq] at hi
    subst hi
    split
    · exact h1 _
    · exact h v (List.mem_of_getElem? (i := i) (by simpa using hc))
theorem drop_take1 {l : List Value} {i : Nat} {v : Value} (h : l[i]? = some v) : (l.drop (i * 1)).take 1 = [v] := by
  rw [Nat.mul_one]
  have hi := (List.getElem?_eq_some_iff.1 h)
  obtain ⟨hl, e⟩ := hi
  rw [List.drop_eq_getElem_cons hl, e]
  rfl
/-- numbers, sorted by a function of the library -/
theorem sort_row {f g : FuncId} {et : TypeId} {k : IntKind} {le : Int → Int → Bool}
    (hs : ∀ (d : Array Int) (b c : Nat) (w : World), Holds (Value.int k) w b 0 d → b < w.heap.size → d.size < 4611686018427387904 → Calls P f #[.slice (some ⟨b, 0, none⟩) d.size c, .func (.func g) #[] #[]] w fun e w' => e = .returned (.tuple #[]) ∧ ∃ n os, w' = sortWorld (Value.int k) w b 0 n (d.toList.mergeSort le).toArray os)
    (h0 : ∀ (p : Option Addr) (c : Nat) (w : World), Calls P f #[.slice p 0 c, .func (.func g) #[] #[]] w fun e w' => e = .returned (.tuple #[]) ∧ ∃ os, w' = grow w os) :
    RowOK P Γ f (rowC et (.i k) [g] (fun xs => xs.length < 4611686018427387904) (sortI le)) et (.i k) [g] := by
  refine ⟨fun G w p xs hgl hpn hG hGp hc hob hpre => ?_, fun w z hgl hz hpre => ⟨by show sortI le [] = []; simp [sortI], ?_⟩⟩
  · obtain ⟨o1, o2, o3, o4⟩ := hob
    obtain ⟨cur, hcur, hsz, hone, hel⟩ := o4 hc
    have hlen : xs.length < 4611686018427387904 := hpre _ (.head _)
    have hd : (xs.map D.int).toArray.size = xs.length := by simp
    have hsz' : p.c ≤ cur.size := by simpa [DT.sz] using hsz
    have hat : ∀ j, j < xs.length → cur.toList[j]? = some (.int k (xs[j]!).int) := by
      intro j hj
      have h1 := hel j xs[j]! (by rw [getElem!_pos xs j hj]; exact List.getElem?_eq_getElem hj)
      simp only [Rd, DT.sz] at h1
      have hj' : j < cur.toList.length := by simp; omega
      rw [Nat.mul_one, List.drop_eq_getElem_cons hj'] at h1
      simp only [List.take_succ_cons, List.take_zero] at h1
      rw [List.getElem?_eq_getElem hj']
      simp only [List.cons.injEq, and_true] at h1
      rw [h1]
    have hH : Holds (Value.int k) w p.b 0 (xs.map D.int).toArray := by
      intro j hj
      rw [hd] at hj
      have h1 := hat j hj
      constructor
      · simp only [World.cell?, hcur, Nat.zero_add]
        rw [if_neg (by simp), show cur[j]? = cur.toList[j]? from by simp, h1]
        congr 1
        rw [getElem!_pos xs j hj, getElem!_pos _ j (by simpa using hj)]
        simp
      · simp [World.frozen?, hcur]
    have hcall := hs _ p.b p.c w hH ((Array.getElem?_eq_some_iff.1 hcur).1) (by rw [hd]; exact hlen)
    rw [hd] at hcall
    refine Calls.mono (P := P) (f := f) hcall ?_
    rintro e w' ⟨rfl, n, os, rfl⟩
    have hs2 : ((xs.map D.int).mergeSort le).toArray.size = xs.length := by simp [List.length_mergeSort]
    refine ⟨_, rfl, rfl, ext_sort, (sortI_len le xs).trans o1, o2, o3, fun _ => ⟨_, heap_sort hcur, by rw [put_size]; exact hsz, put_one (fun _ => rfl) hone, fun i x hx => ?_⟩⟩
    have hx : (sortI le xs)[i]? = some x := hx
    have hi : i < xs.length := by
      have := (List.getElem?_eq_some_iff.1 hx).1
      rwa [sortI_len] at this
    simp only [Rd, DT.sz]
    have hic : i < cur.size := by omega
    rw [show ([Value.int k x.int] : List Value) = [.int k (((xs.map D.int).mergeSort le).toArray[i]!)] from ?_]
    · exact drop_take1 (put_get (by rw [hs2]; exact hi) hic)
    · unfold sortI at hx
      rw [List.getElem?_map] at hx
      cases hm : ((xs.map D.int).mergeSort le)[i]? with
      | none => rw [hm] at hx; cases hx
      | some v =>
        rw [hm] at hx
        simp only [Option.map_some, Option.some.injEq] at hx
        subst hx
        have := (List.getElem?_eq_some_iff.1 hm)
        obtain ⟨h1, h2⟩ := this
        rw [getElem!_pos _ i (by simpa using h1)]
        simp [D.int, h2]
  · have key : ∀ p c, Fnc P f #[.slice p 0 c, .func (.func g) #[] #[]] w fun v w' => v = .tuple #[] ∧ Ext [] w w' := by
      intro p c
      refine Calls.mono (h0 p c w) ?_
      rintro e w' ⟨rfl, os, rfl⟩
      refine ⟨_, rfl, rfl, rfl, rfl, rfl, ?_, fun k hk _ => ?_⟩
      · unfold grow; simp
      · unfold grow
        show (w.heap ++ os)[k]? = _
        rw [Array.getElem?_append_left hk]
    rcases hz with rfl | ⟨a, rfl⟩
    · exact key none 0
    · exact key (some a) 0
section
variable {o : Oper} {E : Env} {w : World}
theorem clip_at {t e : TypeId} {x y z : Operand} {sz b n c : Nat} (ho : o.op = .slice t x none (some y) (some z)) (ht : P.underlying t = some (.slice e)) (hs : Sized P e sz) (hx : ev E x = .slice (some ⟨b, 0, none⟩) n c) (hy : ev E y = .int .i64 (n : Int)) (hz : ev E z = .int .i64 (n : Int)) (hc : n ≤ c) : OpV P o E w (.slice (some ⟨b, 0, none⟩) n n) := by
  simp [OpV, execOp, ho, hx, hy, hz, go_sem, Instr.sliceAt, underlying, ht, Instr.slice, Instr.sliceBounds, Instr.sliceBound, asIntOf, size_of hs, hc, addr_add]
theorem clip_z {t e : TypeId} {x y z : Operand} {sz : Nat} {v : Value} (ho : o.op = .slice t x none (some y) (some z)) (ht : P.underlying t = some (.slice e)) (hs : Sized P e sz) (hx : ev E x = v) (hv : ZV v) (hy : ev E y = .int .i64 0) (hz : ev E z = .int .i64 0) : OpV P o E w v := by
  rcases hv with rfl | ⟨a, rfl⟩
  · simp [OpV, execOp, ho, hx, hy, hz, go_sem, Instr.sliceAt, underlying, ht, Instr.slice, Instr.sliceBounds, Instr.sliceBound, asIntOf, size_of hs]
  · simp [OpV, execOp, ho, hx, hy, hz, go_sem, Instr.sliceAt, underlying, ht, Instr.slice, Instr.sliceBounds, Instr.sliceBound, asIntOf, size_of hs, Addr.add]
theorem len_z {tys : Array TypeId} {x : Operand} {t e : Nat} {v : Value} (ho : o.op = .call ⟨.builtin .len, #[x], tys⟩) (ht : tys[0]? = some t) (hu : P.underlying t = some (.slice e)) (hx : ev E x = v) (hv : ZV v) : OpV P o E w (.int .i64 0) := by
  rcases hv with rfl | ⟨a, rfl⟩
  · exact V.lenSlice ho ht hu hx
  · exact V.lenSlice ho ht hu hx
end
end
end Go.Proofs.YtnhfkdgambncfaaGreatDoor.Sv
