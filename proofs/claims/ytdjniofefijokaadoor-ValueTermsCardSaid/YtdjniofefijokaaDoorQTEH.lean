/- The library's sort of texts, laid at this program (as the shelf's command wrote it); as a contract that turns a row. Runs of equals. -/
import Derived.Shelf.Sort.Plain
import Derived.Shelf.Slices.In.SortNone
import Derived.Test.YtdjniofefijokaaDoorQTE0
set_option linter.unusedVariables false
set_option linter.unusedSimpArgs false
set_option linter.unusedSectionVars false
namespace Go.Proofs
open Go.Shelf
def Tryd.lays190_ren : Go.Shelf.Ren := ⟨fun | 190 => 11 | 125 => 29 | 258 => 28 | 128 => 48 | 129 => 49 | 302 => 39 | 303 => 40 | 304 => 41 | 305 => 42 | 306 => 43 | 307 => 44 | 308 => 45 | 309 => 46 | 310 => 47 | 333 => 61 | 329 => 62 | 330 => 63 | 334 => 64 | 335 => 65 | 336 => 66 | 344 => 80 | n => n, fun | 31 => 23 | 9 => 9 | 3 => 3 | 46 => 55 | 0 => 0 | 51 => 68 | 53 => 30 | 4 => 4 | 183 => 61 | 182 => 60 | 131 => 65 | 5 => 5 | 218 => 82 | 222 => 86 | 228 => 105 | 229 => 106 | n => n, fun | n => n⟩
theorem Tryd.lays190 : Go.Proofs.Lays.n190 Tryd.prog Tryd.lays190_ren := {
  mixed := by kernel_rfl
  f125 := Tryd.func29.trans (congrArg some (by kernel_rfl))
  f128 := Tryd.func48.trans (congrArg some (by kernel_rfl))
  f129 := Tryd.func49.trans (congrArg some (by kernel_rfl))
  f190 := Tryd.func11.trans (congrArg some (by kernel_rfl))
  f258 := Tryd.func28.trans (congrArg some (by kernel_rfl))
  f302 := Tryd.func39.trans (congrArg some (by kernel_rfl))
  f303 := Tryd.func40.trans (congrArg some (by kernel_rfl))
  f304 := Tryd.func41.trans (congrArg some (by kernel_rfl))
  f305 := Tryd.func42.trans (congrArg some (by kernel_rfl))
  f306 := Tryd.func43.trans (congrArg some (by kernel_rfl))
  f307 := Tryd.func44.trans (congrArg some (by kernel_rfl))
  f308 := Tryd.func45.trans (congrArg some (by kernel_rfl))
  f309 := Tryd.func46.trans (congrArg some (by kernel_rfl))
  f310 := Tryd.func47.trans (congrArg some (by kernel_rfl))
  f329 := Tryd.func62.trans (congrArg some (by kernel_rfl))
  f330 := Tryd.func63.trans (congrArg some (by kernel_rfl))
  f333 := Tryd.func61.trans (congrArg some (by kernel_rfl))
  f334 := Tryd.func64.trans (congrArg some (by kernel_rfl))
  f335 := Tryd.func65.trans (congrArg some (by kernel_rfl))
  f336 := Tryd.func66.trans (congrArg some (by kernel_rfl))
  f344 := Tryd.func80.trans (congrArg some (by kernel_rfl))
  t0 := Tryd.underlying0
  a0 := Tryd.isAgg0
  z0 := Tryd.sizeOf0
  v0 := Tryd.zeroValue0
  t3 := Tryd.underlying3
  a3 := Tryd.isAgg3
  z3 := Tryd.sizeOf3
  v3 := Tryd.zeroValue3
  t4 := Tryd.underlying4
  a4 := Tryd.isAgg4
  z4 := Tryd.sizeOf4
  v4 := Tryd.zeroValue4
  t5 := Tryd.underlying5
  a5 := Tryd.isAgg5
  z5 := Tryd.sizeOf5
  v5 := Tryd.zeroValue5
  t9 := Tryd.underlying9
  a9 := Tryd.isAgg9
  z9 := Tryd.sizeOf9
  v9 := Tryd.zeroValue9
  t31 := Tryd.underlying23
  a31 := Tryd.isAgg23
  z31 := Tryd.sizeOf23
  v31 := Tryd.zeroValue23
  t46 := Tryd.underlying55
  a46 := Tryd.isAgg55
  z46 := Tryd.sizeOf55
  v46 := Tryd.zeroValue55
  t51 := Tryd.underlying68
  a51 := Tryd.isAgg68
  z51 := Tryd.sizeOf68
  v51 := Tryd.zeroValue68
  t53 := Tryd.underlying30
  a53 := Tryd.isAgg30
  z53 := Tryd.sizeOf30
  v53 := Tryd.zeroValue30
  t131 := Tryd.underlying65
  a131 := Tryd.isAgg65
  z131 := Tryd.sizeOf65
  v131 := Tryd.zeroValue65
  t182 := Tryd.underlying60
  a182 := Tryd.isAgg60
  z182 := Tryd.sizeOf60
  v182 := Tryd.zeroValue60
  t183 := Tryd.underlying61
  a183 := Tryd.isAgg61
  z183 := Tryd.sizeOf61
  v183 := Tryd.zeroValue61
  t218 := Tryd.underlying82
  a218 := Tryd.isAgg82
  z218 := Tryd.sizeOf82
  v218 := Tryd.zeroValue82
  t222 := Tryd.underlying86
  a222 := Tryd.isAgg86
  z222 := Tryd.sizeOf86
  v222 := Tryd.zeroValue86
  t228 := Tryd.underlying105
  a228 := Tryd.isAgg105
  z228 := Tryd.sizeOf105
  v228 := Tryd.zeroValue105
  t229 := Tryd.underlying106
  a229 := Tryd.isAgg106
  z229 := Tryd.sizeOf106
  v229 := Tryd.zeroValue106 }
open Go.Sort Go.RowKit in
theorem Tryd.slices_Sort_string (blk off cap : Nat) (ss : List (List UInt8)) (w : World) (hH : Holds encStr w blk off ss.toArray) (hblk : blk < w.heap.size) (hsz : ss.length < 4611686018427387904) :
    Calls Tryd.prog 11 #[.slice (some ⟨blk, off, none⟩) ss.length cap] w fun e w' =>
      e = .returned (.tuple #[]) ∧ ∃ n os, w' = grow (putRow encStr (Sort.ahead w n) blk off (ss.mergeSort fun x y => decide (x ≤ y)).toArray) os := Any.slices_Sort_string Tryd.lays190 blk off cap ss w hH hblk hsz
open Go.RowKit Go.Sort in
/-- .. and plain. (LAID: no walk: one application.) -/
theorem Tryd.slices_Sort_string_none (p : Option Addr) (cap : Nat) (w : World) :
    Calls Tryd.prog 11 #[.slice p 0 cap] w fun e w' => e = .returned (.tuple #[]) ∧ w' = w := Any.slices_Sort_string_none Tryd.lays190 p cap w
end Go.Proofs
namespace Go.Proofs.YtdjniofefijokaaDoor.XT
open Go Go.RowKit Go.Sort Go.Proofs.YtdjniofefijokaaDoor.Sv
theorem srt_ex : ∃ g : List D → List D, g = sortT := ⟨_, rfl⟩
noncomputable def srtD : List D → List D := Classical.choose srt_ex
theorem srtD_eq : srtD = sortT := Classical.choose_spec srt_ex
theorem srtD_len (xs : List D) : (srtD xs).length = xs.length := by rw [srtD_eq]; exact sortT_len xs
noncomputable def sortsC : Con := rowC 9 .s [] (fun xs => xs.length < 4611686018427387904) srtD
theorem sortsC_ok {Γ : Gl} : RowOK Tryd.prog Γ 11 sortsC 9 .s [] := by
  unfold sortsC
  rw [srtD_eq]
  exact sort_rowT (fun d b c w h1 h2 h3 => Tryd.slices_Sort_string b 0 c d w h1 h2 h3) (fun p c w => Tryd.slices_Sort_string_none p c w)
theorem srt_map (l : List ByteArray) : srtD (l.map D.s) = (sortB l).map D.s := by
  rw [srtD_eq]
  unfold sortT sortB
  rw [List.map_map, List.map_map]
  rfl
theorem srt_terms (s : ByteArray) : ddD (srtD ((rawT s).map D.s)) = tmD s := by
  unfold ddD tmD termsL
  rw [srt_map, str_map, dd_ris ordS (sortB_sorted _) (sortB_mem _)]
/-- the last one of those that stand ahead -/
def lastO (p : Option ByteArray) (l : List ByteArray) : Option ByteArray := match l.getLast? with
  | some x => some x
  | none => p
theorem dd_snoc (x : ByteArray) : ∀ (l : List ByteArray) (p : Option ByteArray), dd p (l ++ [x]) = dd p l ++ (if lastO p l = some x then [] else [x])
  | [], p => by
    show dd p [x] = _
    rw [dd, dd]
    show (if p = some x then dd p [] else x :: dd (some x) []) = [] ++ (if p = some x then [] else [x])
    by_cases h : p = some x
    · rw [if_pos h, if_pos h]; rfl
    · rw [if_neg h, if_neg h]; rfl
  | y :: r, p => by
    have hl : lastO p (y :: r) = lastO (some y) r := by
      unfold lastO
      cases r with
      | nil => rfl
      | cons z q => rw [List.getLast?_cons_cons]; rfl
    have hl2 : p = some y → lastO p (y :: r) = lastO p r := by
      intro e; rw [hl, e]
    rw [List.cons_append, dd, dd]
    by_cases h : p = some y
    · rw [if_pos h, if_pos h, dd_snoc x r p, hl2 h]
    · rw [if_neg h, if_neg h, dd_snoc x r (some y), hl, List.cons_append]
/-- one more -/
theorem ddD_at {xs : List D} {j : Nat} (h : j < xs.length) : ddD (xs.take (j + 1)) = ddD (xs.take j) ++ (if 0 < j ∧ (nthD xs (j - 1)).str = (nthD xs j).str then [] else [D.s (nthD xs j).str]) := by
  have e : nthD xs j = xs[j] := nthD_get (List.getElem?_eq_getElem h)
  unfold ddD
  rw [List.take_succ_eq_append_getElem h, List.map_append, List.map_singleton, dd_snoc, List.map_append, e]
  congr 1
  have hl : lastO none ((xs.take j).map D.str) = if 0 < j then some (nthD xs (j - 1)).str else none := by
    unfold lastO
    by_cases k : 0 < j
    · have h1 : (xs.take j).getLast? = some (nthD xs (j - 1)) := by
        rw [List.getLast?_eq_getElem?, List.length_take, List.getElem?_take, if_pos (by omega), show min j xs.length - 1 = j - 1 by omega]
        exact get_nthD (by omega)
      rw [List.getLast?_map, h1, if_pos k]; rfl
    · have : j = 0 := by omega
      subst this; rfl
  rw [hl]
  by_cases k : 0 < j
  · rw [if_pos k]
    by_cases q : (nthD xs (j - 1)).str = xs[j].str
    · rw [if_pos (by rw [q]), if_pos ⟨k, q⟩]; rfl
    · rw [if_neg (fun z => q (Option.some.inj z)), if_neg (fun z => q z.2)]; rfl
  · rw [if_neg k, if_neg (by simp), if_neg (fun z => k z.1)]; rfl
theorem ddD_len {xs : List D} : ∀ {j : Nat}, j ≤ xs.length → (ddD (xs.take j)).length ≤ j
  | 0, _ => Nat.le_refl _
  | j + 1, h => by
    have ih := ddD_len (xs := xs) (j := j) (by omega)
    rw [ddD_at (by omega), List.length_append]
    split
    · simp; omega
    · simp; omega
/-- none is the same as the one ahead -/
theorem ddD_none {xs : List D} (hc : ∀ j, j < xs.length → D.s (nthD xs j).str = nthD xs j) : ∀ {k : Nat}, k ≤ xs.length → (∀ j, 0 < j → j < k → (nthD xs j).str ≠ (nthD xs (j - 1)).str) → ddD (xs.take k) = xs.take k
  | 0, _, _ => rfl
  | k + 1, h, hn => by
    rw [ddD_at (by omega), ddD_none hc (k := k) (by omega) fun j h1 h2 => hn j h1 (by omega), if_neg (fun z => hn k z.1 (by omega) z.2.symm), hc k (by omega), List.take_succ_eq_append_getElem (show k < xs.length by omega)]
    congr 2
    exact nthD_get (List.getElem?_eq_getElem (by omega))
theorem ddD_lt {xs : List D} {k : Nat} (h0 : (ddD (xs.take (k + 1))).length = k) : ∀ {j : Nat}, k + (j + 1) ≤ xs.length → (ddD (xs.take (k + (j + 1)))).length < k + (j + 1)
  | 0, _ => by rw [h0]; omega
  | j + 1, h => by
    have ih := ddD_lt h0 (j := j) (by omega)
    rw [show k + (j + 1 + 1) = (k + (j + 1)) + 1 by omega, ddD_at (by omega), List.length_append]
    split
    · simp; omega
    · simp; omega
theorem up_97 {c : Int} (h : (decide (65 ≤ c) && decide (c ≤ 90)) = true) : IntKind.u8.wrap (IntKind.u8.wrap (c + 97) - 65) = c + 32 := by
  rw [Bool.and_eq_true, decide_eq_true_iff, decide_eq_true_iff] at h
  rw [wrap8, wrap8]; omega
theorem str_min {R : List Int} {ys : List D} (h : ys.take R.length = dI R) : strOfD (List.take (min (R.length : Int) 64).toNat ys) = sL (R.take 64) := by
  have e : List.take (min (R.length : Int) 64).toNat ys = dI (R.take 64) := by
    have h1 : (min (R.length : Int) 64).toNat = min 64 R.length := by omega
    rw [h1, ← List.take_take, h, dI_take]
  rw [e, strOfD_dI]
theorem srt_can (l : List ByteArray) : ∀ j, j < (srtD (l.map D.s)).length → D.s (nthD (srtD (l.map D.s)) j).str = nthD (srtD (l.map D.s)) j := by
  rw [srt_map]
  intro j h
  rw [List.length_map] at h
  rw [nthD_smap h]; rfl
end Go.Proofs.YtdjniofefijokaaDoor.XT
