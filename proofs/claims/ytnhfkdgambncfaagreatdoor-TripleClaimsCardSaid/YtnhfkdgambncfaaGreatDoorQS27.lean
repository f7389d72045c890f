/- A row of texts that a function of the library sorts, as a contract that turns a row. Program-agnostic. -/
import Derived.Test.YtnhfkdgambncfaaGreatDoorQS26
import Derived.Sort.EncStr
set_option linter.unusedVariables false
set_option linter.unusedSimpArgs false
set_option linter.unusedSectionVars false
namespace Go.Proofs.YtnhfkdgambncfaaGreatDoor.Sv
open Go.RowKit Go.Sort Go.Proofs.YtnhfkdgambncfaaGreatDoor.W
variable {Γ : Gl}
def sortT (xs : List D) : List D := ((xs.map fun x => x.str.toList).mergeSort fun x y => decide (x ≤ y)).map fun l => D.s ⟨l.toArray⟩
theorem sortT_len (xs : List D) : (sortT xs).length = xs.length := by simp [sortT, List.length_mergeSort]
section
variable {P : Program}
theorem enc_toList (s : ByteArray) : encStr s.toList = .string s := by
  show Value.string ⟨s.toList.toArray⟩ = _
  rw [ByteArray.toList_eq]
/-- texts, sorted by a function of the library -/
theorem sort_rowT {f : FuncId} {et : TypeId}
    (hs : ∀ (d : List (List UInt8)) (b c : Nat) (w : World), Holds encStr w b 0 d.toArray → b < w.heap.size → d.length < 4611686018427387904 → Calls P f #[.slice (some ⟨b, 0, none⟩) d.length c] w fun e w' => e = .returned (.tuple #[]) ∧ ∃ n os, w' = grow (putRow encStr (Sort.ahead w n) b 0 (d.mergeSort fun x y => decide (x ≤ y)).toArray) os)
    (h0 : ∀ (p : Option Addr) (c : Nat) (w : World), Calls P f #[.slice p 0 c] w fun e w' => e = .returned (.tuple #[]) ∧ w' = w) :
    RowOK P Γ f (rowC et .s [] (fun xs => xs.length < 4611686018427387904) sortT) et .s [] := by
  refine ⟨fun G w p xs hgl hpn hG hGp hc hob hpre => ?_, fun w z hgl hz hpre => ⟨by show sortT [] = []; simp [sortT], ?_⟩⟩
  · obtain ⟨o1, o2, o3, o4⟩ := hob
    obtain ⟨cur, hcur, hsz, hone, hel⟩ := o4 hc
    have hlen : xs.length < 4611686018427387904 := hpre _ (.head _)
    have hd : (xs.map fun x => x.str.toList).length = xs.length := by simp
    have hsz' : p.c ≤ cur.size := by simpa [DT.sz] using hsz
    have hat : ∀ j, j < xs.length → cur.toList[j]? = some (.string (xs[j]!).str) := by
      intro j hj
      have h1 := hel j xs[j]! (by rw [getElem!_pos xs j hj]; exact List.getElem?_eq_getElem hj)
      simp only [Rd, DT.sz] at h1
      have hj' : j < cur.toList.length := by simp; omega
      rw [Nat.mul_one, List.drop_eq_getElem_cons hj'] at h1
      simp only [List.take_succ_cons, List.take_zero] at h1
      rw [List.getElem?_eq_getElem hj']
      simp only [List.cons.injEq, and_true] at h1
      rw [h1]
    have hH : Holds encStr w p.b 0 (xs.map fun x => x.str.toList).toArray := by
      intro j hj
      have hj : j < xs.length := by simpa using hj
      have h1 := hat j hj
      constructor
      · simp only [World.cell?, hcur, Nat.zero_add]
        rw [if_neg (by simp), show cur[j]? = cur.toList[j]? from by simp, h1]
        congr 1
        rw [getElem!_pos xs j hj, getElem!_pos _ j (by simpa using hj)]
        simp only [List.getElem_toArray, List.getElem_map]
        exact (enc_toList _).symm
      · simp [World.frozen?, hcur]
    have hcall := hs _ p.b p.c w hH ((Array.getElem?_eq_some_iff.1 hcur).1) (by rw [hd]; exact hlen)
    rw [hd] at hcall
    refine Calls.mono (P := P) (f := f) hcall ?_
    rintro e w' ⟨rfl, n, os, hw⟩
    have hw : w' = sortWorld encStr w p.b 0 n ((xs.map fun x => x.str.toList).mergeSort fun x y => decide (x ≤ y)).toArray os := hw
    subst hw
    have hs2 : ((xs.map fun x => x.str.toList).mergeSort fun x y => decide (x ≤ y)).toArray.size = xs.length := by simp [List.length_mergeSort]
    refine ⟨_, rfl, rfl, ext_sort, (sortT_len xs).trans o1, o2, o3, fun _ => ⟨_, heap_sort hcur, by rw [put_size]; exact hsz, put_one (fun _ => rfl) hone, fun i x hx => ?_⟩⟩
    have hx : (sortT xs)[i]? = some x := hx
    have hi : i < xs.length := by
      have := (List.getElem?_eq_some_iff.1 hx).1
      rwa [sortT_len] at this
    simp only [Rd, DT.sz]
    have hic : i < cur.size := by omega
    rw [show ([Value.string x.str] : List Value) = [encStr (((xs.map fun x => x.str.toList).mergeSort fun x y => decide (x ≤ y)).toArray[i]!)] from ?_]
    · exact drop_take1 (put_get (by rw [hs2]; exact hi) hic)
    · unfold sortT at hx
      rw [List.getElem?_map] at hx
      cases hm : ((xs.map fun x => x.str.toList).mergeSort fun x y => decide (x ≤ y))[i]? with
      | none => rw [hm] at hx; cases hx
      | some v =>
        rw [hm] at hx
        simp only [Option.map_some, Option.some.injEq] at hx
        subst hx
        have := (List.getElem?_eq_some_iff.1 hm)
        obtain ⟨h1, h2⟩ := this
        rw [getElem!_pos _ i (by simpa using h1)]
        simp only [List.getElem_toArray]
        rw [h2]; rfl
  · have key : ∀ p c, Fnc P f #[.slice p 0 c] w fun v w' => v = .tuple #[] ∧ Ext [] w w' := by
      intro p c
      refine Calls.mono (h0 p c w) ?_
      rintro e w' ⟨rfl, rfl⟩
      exact ⟨_, rfl, rfl, Ext.refl _ _⟩
    rcases hz with rfl | ⟨a, rfl⟩
    · exact key none 0
    · exact key (some a) 0
end
end Go.Proofs.YtnhfkdgambncfaaGreatDoor.Sv
