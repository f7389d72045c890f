/- A row of structs that a function of the library sorts, as a contract that turns a row. Program-agnostic. -/
import Derived.Test.YtcinjnkgopoclaaGreatDoorQS27
import Derived.Shelf.SlSortCmp.NoneTotal
set_option linter.unusedVariables false
set_option linter.unusedSimpArgs false
set_option linter.unusedSectionVars false
namespace Go.Proofs.YtcinjnkgopoclaaGreatDoor.Sv
open Go.RowKit Go.Sort Go.Proofs.YtcinjnkgopoclaaGreatDoor.W
variable {Γ : Gl} {P : Program}
/-- data sorted as values of a type of their own -/
def sortK {α : Type} (ofD : D → α) (toD : α → D) (le : α → α → Bool) (xs : List D) : List D := ((xs.map ofD).mergeSort le).map toD
theorem sortK_len {α : Type} (ofD : D → α) (toD : α → D) (le : α → α → Bool) (xs : List D) : (sortK ofD toD le xs).length = xs.length := by simp [sortK, List.length_mergeSort]
theorem drop_takeK {l : List Value} {i k : Nat} {e : List Value} (hk : e.length = k) (h : ∀ r, r < k → l[i * k + r]? = e[r]?) : (l.drop (i * k)).take k = e := by
  apply List.ext_getElem?
  intro r
  rcases Nat.lt_or_ge r k with hr | hr
  · rw [List.getElem?_take, if_pos hr, List.getElem?_drop, h r hr]
  · rw [List.getElem?_take, if_neg (by omega), List.getElem?_eq_none (by omega)]
theorem flat_at {α : Type} [Inhabited α] {enc : α → List Value} {k : Nat} {d : Array α} {i r : Nat} (hi : i < d.size) (hr : r < k) : (flatK enc k d)[i * k + r]! = (enc d[i]!)[r]! := by
  have hlt : i * k + r < d.size * k := by
    have : (i + 1) * k ≤ d.size * k := Nat.mul_le_mul_right k hi
    rw [Nat.succ_mul] at this
    omega
  have hk : 0 < k := by omega
  rw [getElem!_pos (flatK enc k d) _ (by rw [size_flatK]; exact hlt)]
  unfold flatK
  simp only [Array.getElem_map, Array.getElem_range]
  rw [show (i * k + r) / k = i by rw [Nat.mul_comm, Nat.mul_add_div hk, Nat.div_eq_of_lt hr, Nat.add_zero], show (i * k + r) % k = r by rw [Nat.mul_comm, Nat.mul_add_mod, Nat.mod_eq_of_lt hr]]
/-- structs, sorted by a function of the library -/
theorem sort_rowK {α : Type} [Inhabited α] {f g : FuncId} {et : TypeId} {t : DT} {k : Nat} {enc : α → List Value} {ofD : D → α} {toD : α → D} {le : α → α → Bool}
    (hk : ∀ x, (enc x).length = k) (hz0 : t.sz = k) (h1 : ∀ x, ∀ v ∈ enc x, v.oneCell' = true)
    (hrd : ∀ F x l, Rd F t x l → l = enc (ofD x)) (hrd' : ∀ F a, Rd F t (toD a) (enc a))
    (hs : ∀ (d : Array α) (b c : Nat) (w : World), HoldsK enc k w b 0 d → b < w.heap.size → d.size < 4611686018427387904 → Calls P f #[.slice (some ⟨b, 0, none⟩) d.size c, .func (.func g) #[] #[]] w fun e w' => e = .returned (.tuple #[]) ∧ ∃ n os, w' = sortWorldK enc k w b 0 n (d.toList.mergeSort le).toArray os)
    (h0 : ∀ (p : Option Addr) (c : Nat) (w : World), Calls P f #[.slice p 0 c, .func (.func g) #[] #[]] w fun e w' => e = .returned (.tuple #[]) ∧ ∃ os, w' = grow w os) :
    RowOK P Γ f (rowC et t [g] (fun xs => xs.length < 4611686018427387904) (sortK ofD toD le)) et t [g] := by
  refine ⟨fun G w p xs hgl hpn hG hGp hc hob hpre => ?_, fun w z hgl hz hpre => ⟨by show sortK ofD toD le [] = []; simp [sortK], ?_⟩⟩
  · obtain ⟨o1, o2, o3, o4⟩ := hob
    obtain ⟨cur, hcur, hsz, hone, hel⟩ := o4 hc
    rw [hz0] at hsz
    have hlen : xs.length < 4611686018427387904 := hpre _ (.head _)
    have hd : (xs.map ofD).toArray.size = xs.length := by simp
    have hlc : xs.length ≤ p.c := by omega
    have hroom : xs.length * k ≤ cur.size := Nat.le_trans (Nat.mul_le_mul_right k hlc) hsz
    have hat : ∀ i r, i < xs.length → r < k → cur.toList[i * k + r]? = (enc (ofD xs[i]!))[r]? := by
      intro i r hi hr
      have h1 := hel i xs[i]! (by rw [getElem!_pos xs i hi]; exact List.getElem?_eq_getElem hi)
      rw [hz0] at h1
      have h1 := hrd _ _ _ h1
      rw [← h1, List.getElem?_take, if_pos hr, List.getElem?_drop]
    have hH : HoldsK enc k w p.b 0 (xs.map ofD).toArray := by
      intro j hj
      rw [size_flatK, hd] at hj
      have hkp : 0 < k := by
        rcases Nat.eq_zero_or_pos k with e | e
        · rw [e] at hj; omega
        · exact e
      have hr : j % k < k := Nat.mod_lt _ hkp
      have hi : j / k < xs.length := (Nat.div_lt_iff_lt_mul hkp).2 hj
      have hj' : j = (j / k) * k + j % k := by rw [Nat.mul_comm]; exact (Nat.div_add_mod j k).symm
      constructor
      · simp only [World.cell?, hcur, Nat.zero_add]
        rw [if_neg (by simp), show cur[j]? = cur.toList[j]? from by simp]
        conv => lhs; rw [hj', hat _ _ hi hr]
        conv => rhs; rw [hj', flat_at (by rw [hd]; exact hi) hr]
        rw [getElem!_pos xs _ hi, getElem!_pos (xs.map ofD).toArray (j / k) (by rw [hd]; exact hi)]
        simp only [List.getElem_toArray, List.getElem_map]
        have hl : j % k < (enc (ofD xs[j / k])).length := by rw [hk]; exact hr
        rw [List.getElem?_eq_getElem hl, getElem!_pos (enc _) _ hl]
        rfl
      · simp [World.frozen?, hcur]
    have hcall := hs _ p.b p.c w hH ((Array.getElem?_eq_some_iff.1 hcur).1) (by rw [hd]; exact hlen)
    rw [hd] at hcall
    refine Calls.mono (P := P) (f := f) hcall ?_
    rintro e w' ⟨rfl, n, os, rfl⟩
    have hs2 : ((xs.map ofD).mergeSort le).toArray.size = xs.length := by simp [List.length_mergeSort]
    unfold sortWorldK putRowK
    refine ⟨_, rfl, rfl, ext_sort (enc := id) (n := n) (d := flatK enc k _), (sortK_len ofD toD le xs).trans o1, o2, o3, fun _ => ⟨_, heap_sort (enc := id) (n := n) (d := flatK enc k _) hcur, by rw [put_size, hz0]; exact hsz, ?_, fun i x hx => ?_⟩⟩
    · intro u hu
      obtain ⟨i, hi⟩ := List.mem_iff_getElem?.1 hu
      unfold putCells at hi
      simp only [Array.getElem?_toList, Array.getElem?_mapIdx] at hi
      cases hc : cur[i]? with
      | none => rw [hc] at hi; cases hi
      | some v =>
        rw [hc] at hi
        simp only [Option.map_some, Option.some.injEq] at hi
        subst hi
        split
        · rename_i hin
          obtain ⟨_, hin⟩ := hin
          rw [Nat.zero_add, size_flatK] at hin
          rw [Nat.sub_zero]
          have hkp : 0 < k := by
            rcases Nat.eq_zero_or_pos k with e | e
            · rw [e] at hin; omega
            · exact e
          have hr : i % k < k := Nat.mod_lt _ hkp
          have hi : i / k < ((xs.map ofD).mergeSort le).toArray.size := (Nat.div_lt_iff_lt_mul hkp).2 hin
          have hj' : i = (i / k) * k + i % k := by rw [Nat.mul_comm]; exact (Nat.div_add_mod i k).symm
          rw [hj', flat_at hi hr]
          have hl : i % k < (enc ((xs.map ofD).mergeSort le).toArray[i / k]!).length := by rw [hk]; exact hr
          rw [getElem!_pos (enc _) _ hl]
          exact h1 _ _ (List.getElem_mem _)
        · exact hone v (List.mem_of_getElem? (i := i) (by simpa using hc))
    have hx : (sortK ofD toD le xs)[i]? = some x := hx
    have hi : i < xs.length := by
      have := (List.getElem?_eq_some_iff.1 hx).1
      rwa [sortK_len] at this
    rw [hz0]
    unfold sortK at hx
    rw [List.getElem?_map] at hx
    cases hm : ((xs.map ofD).mergeSort le)[i]? with
    | none => rw [hm] at hx; cases hx
    | some v =>
      rw [hm] at hx
      simp only [Option.map_some, Option.some.injEq] at hx
      subst hx
      obtain ⟨h3, h4⟩ := List.getElem?_eq_some_iff.1 hm
      have hv : ((xs.map ofD).mergeSort le).toArray[i]! = v := by
        rw [getElem!_pos _ i (by simpa using h3)]
        simp only [List.getElem_toArray]
        exact h4
      rw [drop_takeK (e := enc v) (hk v) ?_]
      · exact hrd' _ v
      · intro r hr
        have hb : i * k + r < xs.length * k := by
          have : (i + 1) * k ≤ xs.length * k := Nat.mul_le_mul_right k hi
          rw [Nat.succ_mul] at this
          omega
        rw [put_get (enc := id) (by rw [size_flatK, hs2]; exact hb) (by omega), flat_at (by rw [hs2]; exact hi) hr, hv]
        have hl : r < (enc v).length := by rw [hk]; exact hr
        rw [List.getElem?_eq_getElem hl, getElem!_pos (enc _) _ hl]
        rfl
  · have key : ∀ p c, Fnc P f #[.slice p 0 c, .func (.func g) #[] #[]] w fun v w' => v = .tuple #[] ∧ Ext [] w w' := by
      intro p c
      refine Calls.mono (h0 p c w) ?_
      rintro e w' ⟨rfl, os, rfl⟩
      refine ⟨_, rfl, rfl, rfl, rfl, rfl, ?_, fun k hk _ => ?_⟩
      · unfold grow; simp
      · unfold grow
        show (w.heap ++ os)[k]? = _
        rw [Array.getElem?_append_left hk]
    rcases hz with rfl | ⟨a, rfl⟩
    · exact key none 0
    · exact key (some a) 0
end Go.Proofs.YtcinjnkgopoclaaGreatDoor.Sv
