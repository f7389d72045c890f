/- Texts as lists of numbers: more plain laws. -/
import Derived.Test.YtlfafkeamppakaaDoorQY0
set_option linter.unusedVariables false
set_option linter.unusedSimpArgs false
namespace Go.Proofs.YtlfafkeamppakaaDoor.XT
open Go Go.RowKit Go.Proofs.YtlfafkeamppakaaDoor.Sv
def nums (l : List UInt8) : List Int := l.map fun b => (b.toNat : Int)
theorem sL_nums (l : List UInt8) : sL (nums l) = ⟨l.toArray⟩ := by
  simp only [sL, strOfNums, nums, List.map_map]
  congr 2
  refine (List.map_congr_left fun b _ => ?_).trans (List.map_id l)
  simp
theorem bys_nums (s : ByteArray) : bys s = nums s.data.toList := rfl
theorem sL_bys (s : ByteArray) : sL (bys s) = s := by rw [bys_nums, sL_nums]
theorem bys_length (s : ByteArray) : (bys s).length = s.size := by rw [bys, List.length_map, Array.length_toList]; rfl
theorem byte_in (s : ByteArray) (k : Nat) : 0 ≤ byteAt' s k ∧ byteAt' s k < 256 := by
  unfold byteAt'
  have := UInt8.toNat_lt (s.data.getD k 0)
  omega
theorem bys_succ {s : ByteArray} {k : Nat} (h : k < s.size) : (bys s).take (k + 1) = (bys s).take k ++ [byteAt' s k] := by
  have hl : k < (bys s).length := by rw [bys_length]; exact h
  rw [List.take_add_one, List.getElem?_eq_getElem hl]
  have : (bys s)[k] = byteAt' s k := by
    have h' : k < s.data.size := h
    simp [bys, byteAt', Array.getD, h']
    rw [dif_pos h]
  rw [this]; rfl
theorem bys_all {s : ByteArray} {k : Nat} (h : ¬ (k : Int) < s.size) : (bys s).take k = bys s := List.take_of_length_le (by rw [bys_length]; omega)
theorem bys_in {s : ByteArray} {k : Nat} {c : Int} (h : c ∈ (bys s).take k) : 0 ≤ c ∧ c < 256 := by
  have h := List.mem_of_mem_take h
  simp only [bys, List.mem_map] at h
  obtain ⟨b, _, rfl⟩ := h
  have := UInt8.toNat_lt b
  omega
theorem bys_extract (s : ByteArray) (i j : Nat) : bys (s.extract i j) = ((bys s).drop i).take (j - i) := by
  have e : (s.extract i j).data.toList = (s.data.toList.drop i).take (j - i) := by
    rw [ByteArray.data_extract, Array.toList_extract, List.extract_eq_take_drop]
  unfold bys
  rw [e, List.map_take, List.map_drop]
theorem extract_size (s : ByteArray) (i j : Nat) (h : j ≤ s.size) : (s.extract i j).size = j - i := by
  rw [ByteArray.size_extract]; omega
theorem bys_drop {s : ByteArray} {k : Nat} (h : k < s.size) : (bys s).drop k = byteAt' s k :: (bys s).drop (k + 1) := by
  have hl : k < (bys s).length := by rw [bys_length]; exact h
  rw [List.drop_eq_getElem_cons hl]
  have : (bys s)[k] = byteAt' s k := by
    have h' : k < s.data.size := h
    simp [bys, byteAt', Array.getD, h']
    rw [dif_pos h]
  rw [this]
theorem bys_end {s : ByteArray} {k : Nat} (h : s.size ≤ k) : (bys s).drop k = [] := List.drop_of_length_le (by rw [bys_length]; exact h)
theorem extract_end (s : ByteArray) (i : Nat) : s.extract i s.size = sL ((bys s).drop i) := by
  rw [← sL_bys (s.extract i s.size), bys_extract, List.take_of_length_le (by rw [List.length_drop, bys_length]; omega)]
theorem getD_drop {s : ByteArray} {k j : Nat} (h : k + j < s.size) : ((bys s).drop k).getD j 0 = byteAt' s (k + j) := by
  have hl : k + j < (bys s).length := by rw [bys_length]; exact h
  rw [List.getD_eq_getElem?_getD, List.getElem?_drop, List.getElem?_eq_getElem hl]
  have h' : k + j < s.data.size := h
  simp [bys, byteAt', Array.getD, h']
  rw [dif_pos h]
theorem bys_sL {l : List Int} (h : ∀ c ∈ l, 0 ≤ c ∧ c < 256) : bys (sL l) = l := by
  unfold bys sL strOfNums
  simp only [List.map_map]
  refine (List.map_congr_left fun x hx => ?_).trans (List.map_id l)
  obtain ⟨h0, h1⟩ := h x hx
  simp only [Function.comp_apply, id]
  rw [UInt8.toNat_ofNat']
  omega
theorem byteAt_sL {l : List Int} (h : ∀ c ∈ l, 0 ≤ c ∧ c < 256) {k : Nat} (hk : k < l.length) : byteAt' (sL l) k = l.getD k 0 := by
  have h1 := getD_drop (s := sL l) (k := 0) (j := k) (by rw [sL_size]; omega)
  rw [List.drop_zero, bys_sL h, Nat.zero_add] at h1
  exact h1.symm
theorem bys_all_in (t : ByteArray) : ∀ c ∈ bys t, 0 ≤ c ∧ c < 256 := fun c hc => by
  simp only [bys, List.mem_map] at hc
  obtain ⟨b, _, rfl⟩ := hc
  have := UInt8.toNat_lt b
  omega
theorem bys_append (s t : ByteArray) : bys (s ++ t) = bys s ++ bys t := by
  simp [bys, ByteArray.data_append]
theorem byteAt_get {s : ByteArray} {k : Nat} (h : k < s.size) : byteAt' s k = (bys s).getD k 0 := by
  have := getD_drop (s := s) (k := 0) (j := k) (by omega)
  rw [List.drop_zero, Nat.zero_add] at this
  exact this.symm
theorem emS_size {s : ByteArray} : s = (ByteArray.mk #[]) ↔ s.size = 0 :=
  ⟨fun h => by rw [h]; rfl, fun h => ByteArray.ext (Array.eq_empty_of_size_eq_zero h)⟩
theorem bys_take_drop (s : ByteArray) (k : Nat) : sL ((bys s).take k) ++ sL ((bys s).drop k) = s := by
  rw [sL_append, List.take_append_drop, sL_bys]
theorem extract_sL (s : ByteArray) (i j : Nat) : s.extract i j = sL (((bys s).drop i).take (j - i)) := by rw [← bys_extract, sL_bys]
end Go.Proofs.YtlfafkeamppakaaDoor.XT
