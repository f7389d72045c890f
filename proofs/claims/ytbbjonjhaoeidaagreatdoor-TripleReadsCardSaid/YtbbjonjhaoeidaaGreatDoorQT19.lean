/- Contracts, by the symbolic evaluator. -/
import Derived.Test.YtbbjonjhaoeidaaGreatDoorQT18
import Derived.Test.YtbbjonjhaoeidaaGreatDoorProg
import Derived.Test.YtbbjonjhaoeidaaGreatDoorQTK2
import Derived.Test.YtbbjonjhaoeidaaGreatDoorQH4
set_option linter.unusedVariables false
set_option linter.unusedSimpArgs false
namespace Go.Proofs.YtbbjonjhaoeidaaGreatDoor.XT
open Go Go.RowKit Go.Proofs.YtbbjonjhaoeidaaGreatDoor.Sv
set_option maxRecDepth 100000
/-- reading a text -/
def txE (s : ByteArray) : Int := if rnE s ≠ 0 then rnE s else if ((rnS s).size : Int) < rnV s then 20 else 0
def txV (s : ByteArray) : ByteArray := if txE s = 0 then (rnS s).extract 0 (rnV s).toNat else (ByteArray.mk #[])
def txR (s : ByteArray) : ByteArray := if txE s = 0 then (rnS s).extract (rnV s).toNat (rnS s).size else (ByteArray.mk #[])
/-- the pieces between blanks, the last whole -/
def cutS : Nat → ByteArray → List ByteArray
  | 0, s => [s]
  | f + 1, s => if idxB s < 0 then [s] else s.extract 0 (idxB s).toNat :: cutS f (s.extract ((idxB s).toNat + 1) s.size)
def dS (l : List ByteArray) : List D := l.map D.s
/-- reading a write -/
def tE1 (s : ByteArray) : ByteArray := rnS (tlS s)
def tE2 (s : ByteArray) : ByteArray := txR (tE1 s)
def tRdT (s : ByteArray) : D := .t [.i (rnV (tlS s)), .s (txV (tE1 s)), rdV (tE2 s)]
def tRdE (s : ByteArray) : Int := if s = (ByteArray.mk #[]) then 20 else if 1 < byteAt' s 0 then 21 else if rnE (tlS s) ≠ 0 then rnE (tlS s) else if txE (tE1 s) ≠ 0 then txE (tE1 s) else if rdE (tE2 s) ≠ 0 then rdE (tE2 s) else mayT (tRdT s)
def zW : D := .t [.b false, .t [.i 0, .s (ByteArray.mk #[]), zV]]
def tRdV (s : ByteArray) : D := if tRdE s = 0 then .t [.b (decide (byteAt' s 0 = 1)), tRdT s] else zW
def tRdR (s : ByteArray) : ByteArray := if tRdE s = 0 then rdR (tE2 s) else (ByteArray.mk #[])
theorem rnV_in64 (s : ByteArray) : 0 ≤ rnV s ∧ rnV s < 18446744073709551616 := by
  by_cases h : rnE s = 0
  · exact (rn_back h).1
  · rw [rnV, if_neg h]; decide
theorem extract_sL (s : ByteArray) (i j : Nat) : s.extract i j = sL (((bys s).drop i).take (j - i)) := by rw [← bys_extract, sL_bys]
theorem rn_size (s : ByteArray) : (rnS s).size ≤ s.size := by
  unfold rnS
  split
  · rw [ByteArray.size_extract]; omega
  · exact Nat.zero_le _
theorem tx_size (s : ByteArray) : (txR s).size ≤ s.size := by
  unfold txR
  split
  · have := rn_size s
    rw [ByteArray.size_extract]; omega
  · exact Nat.zero_le _
theorem txV_size (s : ByteArray) : (txV s).size ≤ s.size := by
  unfold txV
  split
  · have := rn_size s
    rw [ByteArray.size_extract]; omega
  · exact Nat.zero_le _
theorem tl_size (s : ByteArray) : (tlS s).size ≤ s.size := by rw [tlS, ByteArray.size_extract]; omega
theorem e1_size (s : ByteArray) : (tE1 s).size ≤ s.size := Nat.le_trans (rn_size _) (tl_size s)
theorem e2_size (s : ByteArray) : (tE2 s).size ≤ s.size := Nat.le_trans (tx_size _) (e1_size s)
theorem idx8 : ∀ l : List UInt8, (Lib.indexByte l 32 = -1 ∧ (32 : UInt8) ∉ l) ∨ ∃ p q, l = p ++ 32 :: q ∧ (32 : UInt8) ∉ p ∧ Lib.indexByte l 32 = (p.length : Int)
  | [] => .inl ⟨rfl, by simp⟩
  | b :: l => by
    by_cases hb : b = 32
    · subst hb; exact .inr ⟨[], l, rfl, by simp, by simp [Lib.indexByte]⟩
    · rcases idx8 l with ⟨h1, h2⟩ | ⟨p, q, h1, h2, h3⟩
      · exact .inl ⟨by simp [Lib.indexByte, hb, h1], by simp [h2, Ne.symm hb]⟩
      · refine .inr ⟨b :: p, q, by rw [h1]; rfl, by simp [h2, Ne.symm hb], ?_⟩
        have : ¬ ((p.length : Int) = -1) := by omega
        simp [Lib.indexByte, hb, h3, this]
theorem nums_blank {l : List UInt8} : (32 : Int) ∈ nums l → (32 : UInt8) ∈ l := by
  intro h
  obtain ⟨b, hb, e⟩ := List.mem_map.1 h
  have : b = 32 := UInt8.toNat_inj.1 (by show b.toNat = 32; omega)
  rw [← this]; exact hb
theorem idx_spec (s : ByteArray) : (idxB s = -1 ∧ (32 : Int) ∉ bys s) ∨ ∃ p q, bys s = p ++ 32 :: q ∧ (32 : Int) ∉ p ∧ idxB s = (p.length : Int) := by
  rcases idx8 s.data.toList with ⟨h1, h2⟩ | ⟨p, q, h1, h2, h3⟩
  · exact .inl ⟨h1, fun h => h2 (nums_blank h)⟩
  · refine .inr ⟨nums p, nums q, ?_, fun h => h2 (nums_blank h), by rw [idxB, h3, nums, List.length_map]⟩
    rw [bys_nums, h1]; simp [nums]
theorem mayT_put (u : Int) (t : ByteArray) (v : D) : mayT (.t [.i u, .s t, putF valT v []]) = mayT (.t [.i u, .s t, v]) := rfl
theorem nth_t1 (l : List D) : nthD (tailD l) 0 = nthD l 1 := by rcases l with _ | ⟨a, l⟩ <;> rfl
theorem nth_t2 (l : List D) : nthD (tailD (tailD l)) 0 = nthD l 2 := by rcases l with _ | ⟨a, _ | ⟨b, l⟩⟩ <;> rfl
theorem nth_t3 (l : List D) : nthD (tailD (tailD (tailD l))) 0 = nthD l 3 := by rcases l with _ | ⟨a, _ | ⟨b, _ | ⟨c, l⟩⟩⟩ <;> rfl
theorem nth_t4 (l : List D) : nthD (tailD (tailD (tailD (tailD l)))) 0 = nthD l 4 := by rcases l with _ | ⟨a, _ | ⟨b, _ | ⟨c, _ | ⟨d, l⟩⟩⟩⟩ <;> rfl
theorem cutS_nil {s : ByteArray} (h : s.size = 0) : ∀ f, cutS f s = [s]
  | 0 => rfl
  | f + 1 => by
    rcases idx_spec s with ⟨h1, _⟩ | ⟨p, q, h1, _, _⟩
    · rw [cutS, if_pos (by omega)]
    · have := congrArg List.length h1
      rw [bys_length, h, List.length_append, List.length_cons] at this
      omega
theorem idx_in {s : ByteArray} (h : ¬ idxB s < 0) : 0 ≤ idxB s ∧ idxB s + 1 ≤ s.size := by
  rcases idx_spec s with ⟨h1, _⟩ | ⟨p, q, h1, _, h3⟩
  · omega
  · have := congrArg List.length h1
    rw [bys_length, List.length_append, List.length_cons] at this
    omega
theorem dS_set {l : List ByteArray} {n : Nat} (r : ByteArray) (h : l.length < n) : setD (dS l ++ List.replicate (n - l.length) (D.s (ByteArray.mk #[]))) l.length (D.s r) = dS (l ++ [r]) ++ List.replicate (n - (l ++ [r]).length) (D.s (ByteArray.mk #[])) := by
  obtain ⟨k, hk⟩ : ∃ k, n - l.length = k + 1 := ⟨n - l.length - 1, by omega⟩
  have hl : (dS l).length = l.length := by simp [dS]
  rw [setD_eq (by rw [List.length_append, hl, List.length_replicate]; omega), List.set_append_right _ _ (by omega), hl, Nat.sub_self, hk, List.replicate_succ, List.set_cons_zero]
  have : n - (l ++ [r]).length = k := by rw [List.length_append]; simp only [List.length_cons, List.length_nil]; omega
  rw [this]; simp [dS]
theorem dS_take {l : List ByteArray} {n : Nat} (r : ByteArray) (h : l.length < n) : List.take (l.length + 1) (setD (dS l ++ List.replicate (n - l.length) (D.s (ByteArray.mk #[]))) l.length (D.s r)) = dS (l ++ [r]) := by
  rw [dS_set r h]
  exact List.take_left' (by simp [dS])
def txC : Con := ⟨[.d true .s], fun ds => (fun (a : D) => [a.str.size ≤ 9223372036854775807]) (nthD ds 0), [.d .s, .d .s, .d (.i .i64)], fun ds => (fun (a : D) => [.s (txV a.str), .s (txR a.str), .i (txE a.str)]) (nthD ds 0), fun ds => []⟩
def txC_an : Anns := fun _ _ => none
theorem txC_vc (a : D) : (a.str.size ≤ 9223372036854775807 ∧ bif decide (rnE a.str = 0) && decide (IntKind.u64.wrap (↑(rnS a.str).size : Int) < rnV a.str) then (ByteArray.mk #[]) = txV a.str ∧ (ByteArray.mk #[]) = txR a.str ∧ EqI 20 (txE a.str) else bif !decide (rnE a.str = 0) then (ByteArray.mk #[]) = txV a.str ∧ (ByteArray.mk #[]) = txR a.str ∧ rnE a.str = txE a.str else 0 ≤ rnV a.str ∧ rnV a.str ≤ (↑(rnS a.str).size : Int) ∧ 0 ≤ rnV a.str ∧ rnV a.str ≤ (↑(rnS a.str).size : Int) ∧ (rnS a.str).extract (Int.toNat 0) (rnV a.str).toNat = txV a.str ∧ (rnS a.str).extract (rnV a.str).toNat (rnS a.str).size = txR a.str ∧ EqI 0 (txE a.str)) = conGoal Tryz.prog (addS 10 rnC noS) txC_an 200 12 txC [a] := by kernel_rfl
theorem txC_ok : ConOK Tryz.prog gl 12 txC := con_of mo (addS_ok rnC_ok (noS_ok _)) (an := txC_an) 200 fun ds hl hp => by
  obtain ⟨a, rfl⟩ := len1 hl
  rw [← txC_vc]
  have p0 : a.str.size ≤ 9223372036854775807 := hp _ (.head _)
  obtain ⟨w0, w1⟩ := rnV_in64 a.str
  have hs := rn_size a.str
  have z0 : Int.toNat 0 = 0 := rfl
  have hw : IntKind.u64.wrap ((rnS a.str).size : Int) = ((rnS a.str).size : Int) := wrap64 (by omega) (by omega)
  rw [hw, z0]
  have bad : ∀ e : Int, txE a.str = e → e ≠ 0 → ((ByteArray.mk #[]) = txV a.str ∧ (ByteArray.mk #[]) = txR a.str ∧ e = txE a.str) := fun e h h0 => ⟨(if_neg (by rw [h]; exact h0)).symm, (if_neg (by rw [h]; exact h0)).symm, h.symm⟩
  refine ⟨p0, cond_of (fun c => ?_) (fun c => cond_of (fun d => ?_) (fun d => ?_))⟩
  · simp only [Bool.and_eq_true, decide_eq_true_eq] at c
    exact bad 20 (by rw [txE, if_neg (fun h => h c.1), if_pos c.2]) (by decide)
  · have d : rnE a.str ≠ 0 := by simpa using d
    exact bad _ (by rw [txE, if_pos d]) d
  · have d : rnE a.str = 0 := by simpa using d
    have c : ¬ ((rnS a.str).size : Int) < rnV a.str := by simpa [d] using c
    have hE : txE a.str = 0 := by rw [txE, if_neg (fun h => h d), if_neg c]
    rw [txV, if_pos hE, txR, if_pos hE, hE]
    exact ⟨w0, by omega, w0, by omega, rfl, rfl, rfl⟩
def tRdC : Con := ⟨[.d true .s], fun ds => (fun (a : D) => [a.str.size ≤ 9223372036854775807, (rkV (bys (tlS (tE2 a.str)))).length ≤ 140737488355326]) (nthD ds 0), [.d wrT, .d .s, .d (.i .i64)], fun ds => (fun (a : D) => [tRdV a.str, .s (tRdR a.str), .i (tRdE a.str)]) (nthD ds 0), fun ds => []⟩
def tRdC_an : Anns := fun _ _ => none
theorem tRdC_vc (a : D) : (bif decide (a.str = (ByteArray.mk #[])) then false = (nthD (tRdV a.str).tup 0).bool ∧ EqI 0 (nthD (nthD (tailD (tRdV a.str).tup) 0).tup 0).int ∧ (ByteArray.mk #[]) = (nthD (tailD (nthD (tailD (tRdV a.str).tup) 0).tup) 0).str ∧ EqI 0 (nthD (nthD (tailD (tailD (nthD (tailD (tRdV a.str).tup) 0).tup)) 0).tup 0).int ∧ false = (nthD (tailD (nthD (tailD (tailD (nthD (tailD (tRdV a.str).tup) 0).tup)) 0).tup) 0).bool ∧ EqI 0 (nthD (tailD (tailD (nthD (tailD (tailD (nthD (tailD (tRdV a.str).tup) 0).tup)) 0).tup)) 0).int ∧ (ByteArray.mk #[]) = (nthD (tailD (tailD (tailD (nthD (tailD (tailD (nthD (tailD (tRdV a.str).tup) 0).tup)) 0).tup))) 0).str ∧ EqI 0 (nthD (tailD (tailD (tailD (tailD (nthD (tailD (tailD (nthD (tailD (tRdV a.str).tup) 0).tup)) 0).tup)))) 0).int ∧ (ByteArray.mk #[]) = tRdR a.str ∧ EqI 20 (tRdE a.str) else Idx 0 a.str.size ∧ bif decide (1 < byteAt' a.str (Int.toNat 0)) then false = (nthD (tRdV a.str).tup 0).bool ∧ EqI 0 (nthD (nthD (tailD (tRdV a.str).tup) 0).tup 0).int ∧ (ByteArray.mk #[]) = (nthD (tailD (nthD (tailD (tRdV a.str).tup) 0).tup) 0).str ∧ EqI 0 (nthD (nthD (tailD (tailD (nthD (tailD (tRdV a.str).tup) 0).tup)) 0).tup 0).int ∧ false = (nthD (tailD (nthD (tailD (tailD (nthD (tailD (tRdV a.str).tup) 0).tup)) 0).tup) 0).bool ∧ EqI 0 (nthD (tailD (tailD (nthD (tailD (tailD (nthD (tailD (tRdV a.str).tup) 0).tup)) 0).tup)) 0).int ∧ (ByteArray.mk #[]) = (nthD (tailD (tailD (tailD (nthD (tailD (tailD (nthD (tailD (tRdV a.str).tup) 0).tup)) 0).tup))) 0).str ∧ EqI 0 (nthD (tailD (tailD (tailD (tailD (nthD (tailD (tailD (nthD (tailD (tRdV a.str).tup) 0).tup)) 0).tup)))) 0).int ∧ (ByteArray.mk #[]) = tRdR a.str ∧ EqI 21 (tRdE a.str) else Idx 0 a.str.size ∧ LeI 0 1 ∧ 1 ≤ (↑a.str.size : Int) ∧ LeI 0 1 ∧ 1 ≤ (↑a.str.size : Int) ∧ a.str.extract (Int.toNat 1) a.str.size = a.str.extract (Int.toNat 1) a.str.size ∧ (a.str.extract (Int.toNat 1) a.str.size).size ≤ 9223372036854775807 ∧ bif !decide (rnE (a.str.extract (Int.toNat 1) a.str.size) = 0) then false = (nthD (tRdV a.str).tup 0).bool ∧ EqI 0 (nthD (nthD (tailD (tRdV a.str).tup) 0).tup 0).int ∧ (ByteArray.mk #[]) = (nthD (tailD (nthD (tailD (tRdV a.str).tup) 0).tup) 0).str ∧ EqI 0 (nthD (nthD (tailD (tailD (nthD (tailD (tRdV a.str).tup) 0).tup)) 0).tup 0).int ∧ false = (nthD (tailD (nthD (tailD (tailD (nthD (tailD (tRdV a.str).tup) 0).tup)) 0).tup) 0).bool ∧ EqI 0 (nthD (tailD (tailD (nthD (tailD (tailD (nthD (tailD (tRdV a.str).tup) 0).tup)) 0).tup)) 0).int ∧ (ByteArray.mk #[]) = (nthD (tailD (tailD (tailD (nthD (tailD (tailD (nthD (tailD (tRdV a.str).tup) 0).tup)) 0).tup))) 0).str ∧ EqI 0 (nthD (tailD (tailD (tailD (tailD (nthD (tailD (tailD (nthD (tailD (tRdV a.str).tup) 0).tup)) 0).tup)))) 0).int ∧ (ByteArray.mk #[]) = tRdR a.str ∧ rnE (a.str.extract (Int.toNat 1) a.str.size) = tRdE a.str else I64 (0 + 1) ∧ (rnS (a.str.extract (Int.toNat 1) a.str.size)).size ≤ 9223372036854775807 ∧ bif !decide (txE (rnS (a.str.extract (Int.toNat 1) a.str.size)) = 0) then false = (nthD (tRdV a.str).tup 0).bool ∧ EqI 0 (nthD (nthD (tailD (tRdV a.str).tup) 0).tup 0).int ∧ (ByteArray.mk #[]) = (nthD (tailD (nthD (tailD (tRdV a.str).tup) 0).tup) 0).str ∧ EqI 0 (nthD (nthD (tailD (tailD (nthD (tailD (tRdV a.str).tup) 0).tup)) 0).tup 0).int ∧ false = (nthD (tailD (nthD (tailD (tailD (nthD (tailD (tRdV a.str).tup) 0).tup)) 0).tup) 0).bool ∧ EqI 0 (nthD (tailD (tailD (nthD (tailD (tailD (nthD (tailD (tRdV a.str).tup) 0).tup)) 0).tup)) 0).int ∧ (ByteArray.mk #[]) = (nthD (tailD (tailD (tailD (nthD (tailD (tailD (nthD (tailD (tRdV a.str).tup) 0).tup)) 0).tup))) 0).str ∧ EqI 0 (nthD (tailD (tailD (tailD (tailD (nthD (tailD (tailD (nthD (tailD (tRdV a.str).tup) 0).tup)) 0).tup)))) 0).int ∧ (ByteArray.mk #[]) = tRdR a.str ∧ txE (rnS (a.str.extract (Int.toNat 1) a.str.size)) = tRdE a.str else I64 (0 + 1 + 1) ∧ (txR (rnS (a.str.extract (Int.toNat 1) a.str.size))).size ≤ 9223372036854775807 ∧ (rkV (bys (tlS (txR (rnS (a.str.extract (Int.toNat 1) a.str.size)))))).length ≤ 140737488355326 ∧ bif !decide (rdE (txR (rnS (a.str.extract (Int.toNat 1) a.str.size))) = 0) then false = (nthD (tRdV a.str).tup 0).bool ∧ EqI 0 (nthD (nthD (tailD (tRdV a.str).tup) 0).tup 0).int ∧ (ByteArray.mk #[]) = (nthD (tailD (nthD (tailD (tRdV a.str).tup) 0).tup) 0).str ∧ EqI 0 (nthD (nthD (tailD (tailD (nthD (tailD (tRdV a.str).tup) 0).tup)) 0).tup 0).int ∧ false = (nthD (tailD (nthD (tailD (tailD (nthD (tailD (tRdV a.str).tup) 0).tup)) 0).tup) 0).bool ∧ EqI 0 (nthD (tailD (tailD (nthD (tailD (tailD (nthD (tailD (tRdV a.str).tup) 0).tup)) 0).tup)) 0).int ∧ (ByteArray.mk #[]) = (nthD (tailD (tailD (tailD (nthD (tailD (tailD (nthD (tailD (tRdV a.str).tup) 0).tup)) 0).tup))) 0).str ∧ EqI 0 (nthD (tailD (tailD (tailD (tailD (nthD (tailD (tailD (nthD (tailD (tRdV a.str).tup) 0).tup)) 0).tup)))) 0).int ∧ (ByteArray.mk #[]) = tRdR a.str ∧ rdE (txR (rnS (a.str.extract (Int.toNat 1) a.str.size))) = tRdE a.str else I64 (0 + 1 + 1 + 1) ∧ (txV (rnS (a.str.extract (Int.toNat 1) a.str.size))).size ≤ 9223372036854775807 ∧ 0 ≤ ((rdV (txR (rnS (a.str.extract (Int.toNat 1) a.str.size)))).fld 4).int ∧ bif !decide (mayT (D.t [D.i (rnV (a.str.extract (Int.toNat 1) a.str.size)), D.s (txV (rnS (a.str.extract (Int.toNat 1) a.str.size))), putF valT (rdV (txR (rnS (a.str.extract (Int.toNat 1) a.str.size)))) []]) = 0) then false = (nthD (tRdV a.str).tup 0).bool ∧ EqI 0 (nthD (nthD (tailD (tRdV a.str).tup) 0).tup 0).int ∧ (ByteArray.mk #[]) = (nthD (tailD (nthD (tailD (tRdV a.str).tup) 0).tup) 0).str ∧ EqI 0 (nthD (nthD (tailD (tailD (nthD (tailD (tRdV a.str).tup) 0).tup)) 0).tup 0).int ∧ false = (nthD (tailD (nthD (tailD (tailD (nthD (tailD (tRdV a.str).tup) 0).tup)) 0).tup) 0).bool ∧ EqI 0 (nthD (tailD (tailD (nthD (tailD (tailD (nthD (tailD (tRdV a.str).tup) 0).tup)) 0).tup)) 0).int ∧ (ByteArray.mk #[]) = (nthD (tailD (tailD (tailD (nthD (tailD (tailD (nthD (tailD (tRdV a.str).tup) 0).tup)) 0).tup))) 0).str ∧ EqI 0 (nthD (tailD (tailD (tailD (tailD (nthD (tailD (tailD (nthD (tailD (tRdV a.str).tup) 0).tup)) 0).tup)))) 0).int ∧ (ByteArray.mk #[]) = tRdR a.str ∧ mayT (D.t [D.i (rnV (a.str.extract (Int.toNat 1) a.str.size)), D.s (txV (rnS (a.str.extract (Int.toNat 1) a.str.size))), putF valT (rdV (txR (rnS (a.str.extract (Int.toNat 1) a.str.size)))) []]) = tRdE a.str else I64 (0 + 1 + 1 + 1 + 1) ∧ rdR (txR (rnS (a.str.extract (Int.toNat 1) a.str.size))) = rdR (txR (rnS (a.str.extract (Int.toNat 1) a.str.size))) ∧ decide (byteAt' a.str (Int.toNat 0) = 1) = (nthD (tRdV a.str).tup 0).bool ∧ rnV (a.str.extract (Int.toNat 1) a.str.size) = (nthD (nthD (tailD (tRdV a.str).tup) 0).tup 0).int ∧ txV (rnS (a.str.extract (Int.toNat 1) a.str.size)) = (nthD (tailD (nthD (tailD (tRdV a.str).tup) 0).tup) 0).str ∧ ((rdV (txR (rnS (a.str.extract (Int.toNat 1) a.str.size)))).fld 0).int = (nthD (nthD (tailD (tailD (nthD (tailD (tRdV a.str).tup) 0).tup)) 0).tup 0).int ∧ ((D.fld (rdV (txR (rnS (a.str.extract (Int.toNat 1) a.str.size)))) 1)).bool = (nthD (tailD (nthD (tailD (tailD (nthD (tailD (tRdV a.str).tup) 0).tup)) 0).tup) 0).bool ∧ ((D.fld (rdV (txR (rnS (a.str.extract (Int.toNat 1) a.str.size)))) 2)).int = (nthD (tailD (tailD (nthD (tailD (tailD (nthD (tailD (tRdV a.str).tup) 0).tup)) 0).tup)) 0).int ∧ ((rdV (txR (rnS (a.str.extract (Int.toNat 1) a.str.size)))).fld 3).str = (nthD (tailD (tailD (tailD (nthD (tailD (tailD (nthD (tailD (tRdV a.str).tup) 0).tup)) 0).tup))) 0).str ∧ ((rdV (txR (rnS (a.str.extract (Int.toNat 1) a.str.size)))).fld 4).int = (nthD (tailD (tailD (tailD (tailD (nthD (tailD (tailD (nthD (tailD (tRdV a.str).tup) 0).tup)) 0).tup)))) 0).int ∧ rdR (txR (rnS (a.str.extract (Int.toNat 1) a.str.size))) = tRdR a.str ∧ EqI 0 (tRdE a.str)) = conGoal Tryz.prog (addS 16 mayTC (addS 14 readC (addS 12 txC (addS 10 rnC noS)))) tRdC_an 200 4 tRdC [a] := by kernel_rfl
set_option maxHeartbeats 4000000 in
theorem tRdC_ok : ConOK Tryz.prog gl 4 tRdC := con_of mo (addS_ok mayTC_ok (addS_ok readC_ok (addS_ok txC_ok (addS_ok rnC_ok (noS_ok _))))) (an := tRdC_an) 200 fun ds hl hp => by
  obtain ⟨a, rfl⟩ := len1 hl
  rw [← tRdC_vc]
  have p0 : a.str.size ≤ 9223372036854775807 := hp _ (.head _)
  have p1 : (rkV (bys (tlS (tE2 a.str)))).length ≤ 140737488355326 := hp _ (.tail _ (.head _))
  have z0 : Int.toNat 0 = 0 := rfl
  have z1 : Int.toNat 1 = 1 := rfl
  rw [z0, z1]
  have ht : a.str.extract 1 a.str.size = tlS a.str := rfl
  rw [ht]
  have e1 : rnS (tlS a.str) = tE1 a.str := rfl
  rw [e1]
  have e2 : txR (tE1 a.str) = tE2 a.str := rfl
  rw [e2]
  have bad : ∀ e : Int, tRdE a.str = e → e ≠ 0 → (false = (nthD (tRdV a.str).tup 0).bool ∧ EqI 0 (nthD (nthD (tailD (tRdV a.str).tup) 0).tup 0).int ∧ (ByteArray.mk #[]) = (nthD (tailD (nthD (tailD (tRdV a.str).tup) 0).tup) 0).str ∧ EqI 0 (nthD (nthD (tailD (tailD (nthD (tailD (tRdV a.str).tup) 0).tup)) 0).tup 0).int ∧ false = (nthD (tailD (nthD (tailD (tailD (nthD (tailD (tRdV a.str).tup) 0).tup)) 0).tup) 0).bool ∧ EqI 0 (nthD (tailD (tailD (nthD (tailD (tailD (nthD (tailD (tRdV a.str).tup) 0).tup)) 0).tup)) 0).int ∧ (ByteArray.mk #[]) = (nthD (tailD (tailD (tailD (nthD (tailD (tailD (nthD (tailD (tRdV a.str).tup) 0).tup)) 0).tup))) 0).str ∧ EqI 0 (nthD (tailD (tailD (tailD (tailD (nthD (tailD (tailD (nthD (tailD (tRdV a.str).tup) 0).tup)) 0).tup)))) 0).int ∧ (ByteArray.mk #[]) = tRdR a.str ∧ e = tRdE a.str) := fun e h h0 => by
    have hV : tRdV a.str = zW := if_neg (by rw [h]; exact h0)
    have hR : tRdR a.str = (ByteArray.mk #[]) := if_neg (by rw [h]; exact h0)
    rw [hV, hR, h]; exact ⟨rfl, rfl, rfl, rfl, rfl, rfl, rfl, rfl, rfl, rfl⟩
  refine cond_of (fun c => ?_) (fun c => ?_)
  · exact bad 20 (if_pos (of_decide_eq_true c)) (by decide)
  have c := of_decide_eq_false c
  have hs : 0 < a.str.size := by rw [emS_size] at c; omega
  refine ⟨⟨by decide, by omega⟩, cond_of (fun c1 => ?_) (fun c1 => ?_)⟩
  · exact bad 21 (by rw [tRdE, if_neg c, if_pos (of_decide_eq_true c1)]) (by decide)
  have c1 := of_decide_eq_false c1
  refine ⟨⟨by decide, by omega⟩, by decide, by omega, by decide, by omega, rfl, Nat.le_trans (tl_size _) p0, cond_of (fun d => ?_) (fun d => ?_)⟩
  · have d : rnE (tlS a.str) ≠ 0 := by simpa using d
    exact bad _ (by rw [tRdE, if_neg c, if_neg c1, if_pos d]) d
  have d : ¬ rnE (tlS a.str) ≠ 0 := by simpa using d
  refine ⟨⟨by decide, by decide⟩, Nat.le_trans (e1_size _) p0, cond_of (fun f => ?_) (fun f => ?_)⟩
  · have f : txE (tE1 a.str) ≠ 0 := by simpa using f
    exact bad _ (by rw [tRdE, if_neg c, if_neg c1, if_neg d, if_pos f]) f
  have f : ¬ txE (tE1 a.str) ≠ 0 := by simpa using f
  refine ⟨⟨by decide, by decide⟩, Nat.le_trans (e2_size _) p0, p1, cond_of (fun g => ?_) (fun g => ?_)⟩
  · have g : rdE (tE2 a.str) ≠ 0 := by simpa using g
    exact bad _ (by rw [tRdE, if_neg c, if_neg c1, if_neg d, if_neg f, if_pos g]) g
  have g : ¬ rdE (tE2 a.str) ≠ 0 := by simpa using g
  have hk := (rd_back (s := tE2 a.str) (by simpa using g)).2.1
  rw [mayT_put]
  have hT : tRdT a.str = .t [.i (rnV (tlS a.str)), .s (txV (tE1 a.str)), rdV (tE2 a.str)] := by with_reducible rw [tRdT]
  have hE : tRdE a.str = mayT (tRdT a.str) := by rw [tRdE, if_neg c, if_neg c1, if_neg d, if_neg f, if_neg g]
  rw [hT] at hE
  refine ⟨⟨by decide, by decide⟩, Nat.le_trans (txV_size _) (Nat.le_trans (e1_size _) p0), hk.2.2.2.1, cond_of (fun m => ?_) (fun m => ?_)⟩
  · exact bad _ hE (by simpa using m)
  have m : mayT (.t [.i (rnV (tlS a.str)), .s (txV (tE1 a.str)), rdV (tE2 a.str)]) = 0 := by simpa using m
  have hV : tRdV a.str = .t [.b (decide (byteAt' a.str 0 = 1)), tRdT a.str] := if_pos (hE.trans m)
  have hR : tRdR a.str = rdR (tE2 a.str) := if_pos (hE.trans m)
  rw [hT] at hV
  rw [hV, hR, hE, m]
  generalize rdV (tE2 a.str) = V
  generalize rnV (tlS a.str) = u
  generalize txV (tE1 a.str) = t
  generalize rdR (tE2 a.str) = R
  exact ⟨⟨by decide, by decide⟩, rfl, rfl, rfl, rfl, rfl, (congrArg D.bool (nth_t1 V.tup)).symm, (congrArg D.int (nth_t2 V.tup)).symm, (congrArg D.str (nth_t3 V.tup)).symm, (congrArg D.int (nth_t4 V.tup)).symm, rfl, rfl⟩
def gspC : Con := ⟨[.d true .s, .d true .s, .d true (.i .i64), .d true (.i .i64)], fun ds => (fun (a : D) (b : D) (c : D) (d : D) => [b.str = ByteArray.mk #[32], c.int = 0, d.int = 4, a.str.size ≤ 9223372036854775806]) (nthD ds 0) (nthD ds 1) (nthD ds 2) (nthD ds 3), [.own 9 .s], fun ds => (fun (a : D) (b : D) (c : D) (d : D) => [.l (dS (cutS 3 a.str))]) (nthD ds 0) (nthD ds 1) (nthD ds 2) (nthD ds 3), fun ds => []⟩
def gspC_an : Anns := fun f i => match f, i with
  | 39, 11 => some fun A st => match A.get 9, A.get 3, A.get 0 with
    | some (.ow l n), some (.v (.int .i64 k)), some (.v (.string z)) => ⟨List ByteArray × ByteArray, fun g => [(0, .v (.string g.2)), (10, .v (.int .i64 g.1.length))], fun g => [(l, .q 9 .s (dS g.1 ++ List.replicate (n - g.1.length) (.s (ByteArray.mk #[]))))], fun g => cutS 3 z = g.1 ++ cutS (3 - g.1.length) g.2 ∧ g.2.size + g.1.length ≤ z.size ∧ (g.1.length : Int) ≤ k, fun g => n - g.1.length⟩
    | _, _, _ => LAnn.bad
  | _, _ => none
theorem gspC_vc (a b c d : D) : (I64 ((↑a.str.size : Int) + 1) ∧ 0 ≤ min 4 ((↑a.str.size : Int) + 1) ∧ min 4 ((↑a.str.size : Int) + 1) = min 4 ((↑a.str.size : Int) + 1) ∧ min 4 ((↑a.str.size : Int) + 1) * (↑1 : Int) ≤ 16777216 ∧ min 4 ((↑a.str.size : Int) + 1) * (↑16 : Int) ≤ 281474976710656 ∧ min 4 ((↑a.str.size : Int) + 1) ≤ 9223372036854775807 ∧ I64 (min 4 ((↑a.str.size : Int) + 1) - 1) ∧ ∃ (g : List ByteArray × ByteArray), a.str = g.snd ∧ EqI 0 (↑g.fst.length : Int) ∧ List.replicate (min 4 ((↑a.str.size : Int) + 1)).toNat (D.s (ByteArray.mk #[])) = dS g.fst ++ List.replicate ((min 4 ((↑a.str.size : Int) + 1)).toNat - g.fst.length) (D.s (ByteArray.mk #[])) ∧ (cutS 3 a.str = g.fst ++ cutS (3 - g.fst.length) g.snd ∧ g.snd.size + g.fst.length ≤ a.str.size ∧ (↑g.fst.length : Int) ≤ min 4 ((↑a.str.size : Int) + 1) - 1) ∧ ∀ (g : List ByteArray × ByteArray), cutS 3 a.str = g.fst ++ cutS (3 - g.fst.length) g.snd ∧ g.snd.size + g.fst.length ≤ a.str.size ∧ (↑g.fst.length : Int) ≤ min 4 ((↑a.str.size : Int) + 1) - 1 → bif decide ((↑g.fst.length : Int) < min 4 ((↑a.str.size : Int) + 1) - 1) then ByteArray.mk #[32] = ByteArray.mk #[32] ∧ bif decide (idxB g.snd < 0) then Idx (↑g.fst.length : Int) (min 4 ((↑a.str.size : Int) + 1)).toNat ∧ I64 ((↑g.fst.length : Int) + 1) ∧ 0 ≤ (↑g.fst.length : Int) + 1 ∧ (↑g.fst.length : Int) + 1 ≤ (↑(min 4 ((↑a.str.size : Int) + 1)).toNat : Int) ∧ List.take ((↑g.fst.length : Int) + 1).toNat (setD (dS g.fst ++ List.replicate ((min 4 ((↑a.str.size : Int) + 1)).toNat - g.fst.length) (D.s (ByteArray.mk #[]))) g.fst.length (D.s g.snd)) = dS (cutS 3 a.str) else I64 (idxB g.snd + 0) ∧ 0 ≤ idxB g.snd + 0 ∧ idxB g.snd + 0 ≤ (↑g.snd.size : Int) ∧ Idx (↑g.fst.length : Int) (min 4 ((↑a.str.size : Int) + 1)).toNat ∧ I64 (idxB g.snd + (↑(ByteArray.mk #[32]).size : Int)) ∧ 0 ≤ idxB g.snd + (↑(ByteArray.mk #[32]).size : Int) ∧ idxB g.snd + (↑(ByteArray.mk #[32]).size : Int) ≤ (↑g.snd.size : Int) ∧ I64 ((↑g.fst.length : Int) + 1) ∧ ∃ (g_1 : List ByteArray × ByteArray), g.snd.extract (idxB g.snd + (↑(ByteArray.mk #[32]).size : Int)).toNat g.snd.size = g_1.snd ∧ (↑g.fst.length : Int) + 1 = (↑g_1.fst.length : Int) ∧ setD (dS g.fst ++ List.replicate ((min 4 ((↑a.str.size : Int) + 1)).toNat - g.fst.length) (D.s (ByteArray.mk #[]))) g.fst.length (D.s (g.snd.extract (Int.toNat 0) (idxB g.snd + 0).toNat)) = dS g_1.fst ++ List.replicate ((min 4 ((↑a.str.size : Int) + 1)).toNat - g_1.fst.length) (D.s (ByteArray.mk #[])) ∧ (cutS 3 a.str = g_1.fst ++ cutS (3 - g_1.fst.length) g_1.snd ∧ g_1.snd.size + g_1.fst.length ≤ a.str.size ∧ (↑g_1.fst.length : Int) ≤ min 4 ((↑a.str.size : Int) + 1) - 1) ∧ (min 4 ((↑a.str.size : Int) + 1)).toNat - g_1.fst.length < (min 4 ((↑a.str.size : Int) + 1)).toNat - g.fst.length else Idx (↑g.fst.length : Int) (min 4 ((↑a.str.size : Int) + 1)).toNat ∧ I64 ((↑g.fst.length : Int) + 1) ∧ 0 ≤ (↑g.fst.length : Int) + 1 ∧ (↑g.fst.length : Int) + 1 ≤ (↑(min 4 ((↑a.str.size : Int) + 1)).toNat : Int) ∧ List.take ((↑g.fst.length : Int) + 1).toNat (setD (dS g.fst ++ List.replicate ((min 4 ((↑a.str.size : Int) + 1)).toNat - g.fst.length) (D.s (ByteArray.mk #[]))) g.fst.length (D.s g.snd)) = dS (cutS 3 a.str)) = conGoal Tryz.prog (addS 62 idxC noS) gspC_an 200 39 gspC [a, D.s (ByteArray.mk #[32]), D.i 0, D.i 4] := by kernel_rfl
set_option maxHeartbeats 4000000 in
theorem gspC_ok : ConOK Tryz.prog gl 39 gspC := con_of mo (addS_ok idxC_ok (noS_ok _)) (an := gspC_an) 200 fun ds hl hp => by
  obtain ⟨a, b, c, d, rfl⟩ := len4 hl
  have p0 : b.str = ByteArray.mk #[32] := hp _ (.head _)
  have p1 : c.int = 0 := hp _ (.tail _ (.head _))
  have p2 : d.int = 4 := hp _ (.tail _ (.tail _ (.head _)))
  have p3 : a.str.size ≤ 9223372036854775806 := hp _ (.tail _ (.tail _ (.tail _ (.head _))))
  have hat : conGoal Tryz.prog (addS 62 idxC noS) gspC_an 200 39 gspC [a, b, c, d] = conGoal Tryz.prog (addS 62 idxC noS) gspC_an 200 39 gspC [a, D.s (ByteArray.mk #[32]), D.i 0, D.i 4] := by
    unfold conGoal
    have e : startAs gspC.args [a, b, c, d] 0 = startAs gspC.args [a, D.s (ByteArray.mk #[32]), D.i 0, D.i 4] 0 := by
      show [_, AV.v (.string b.str), AV.v (.int .i64 c.int), AV.v (.int .i64 d.int)] = _
      rw [p0, p1, p2]; rfl
    rw [e]; rfl
  rw [hat, ← gspC_vc a b c d]
  have b1 : ((ByteArray.mk #[32]).size : Int) = 1 := rfl
  have z0 : Int.toNat 0 = 0 := rfl
  rw [b1, z0]
  have hmin : min 4 ((a.str.size : Int) + 1) = ((min 4 (a.str.size + 1) : Nat) : Int) := by omega
  rw [hmin]
  generalize hn : min 4 (a.str.size + 1) = n
  have n4 : n ≤ 4 := by omega
  have n0 : 1 ≤ n := by omega
  have ns : n ≤ a.str.size + 1 := by omega
  have nn : n = 4 ∨ n = a.str.size + 1 := by omega
  rw [Int.toNat_natCast]
  refine ⟨⟨by omega, by omega⟩, by omega, rfl, by omega, by omega, by omega, ⟨by omega, by omega⟩, ([], a.str), rfl, rfl, by simp [dS], ⟨rfl, by simp, by simp; omega⟩, ?_⟩
  rintro ⟨l, r⟩ ⟨h1, h2, h3⟩
  dsimp only at h1 h2 h3 ⊢
  have tn : ((l.length : Int) + 1).toNat = l.length + 1 := by omega
  rw [tn]
  have hl : l.length < n := by omega
  have fin : ∀ f, 3 - l.length = f → cutS f r = [r] → List.take (l.length + 1) (setD (dS l ++ List.replicate (n - l.length) (D.s (ByteArray.mk #[]))) l.length (D.s r)) = dS (cutS 3 a.str) := fun f hf hc => by
    rw [dS_take r hl, h1, hf, hc]
  refine cond_of (fun c => ⟨rfl, cond_of (fun d => ?_) (fun d => ?_)⟩) (fun c => ?_)
  · have c := of_decide_eq_true c
    obtain ⟨f, hf⟩ : ∃ f, 3 - l.length = f + 1 := ⟨2 - l.length, by omega⟩
    exact ⟨⟨by omega, by omega⟩, ⟨by omega, by omega⟩, by omega, by omega, fin _ hf (by rw [cutS, if_pos (of_decide_eq_true d)])⟩
  · have c := of_decide_eq_true c
    have d := of_decide_eq_false d
    obtain ⟨i0', i1⟩ := idx_in d
    obtain ⟨f, hf⟩ : ∃ f, 3 - l.length = f + 1 := ⟨2 - l.length, by omega⟩
    have hrs : (r.size : Int) ≤ 9223372036854775806 := by omega
    have t1 : (idxB r + 1).toNat = (idxB r).toNat + 1 := by omega
    rw [t1, Int.add_zero]
    refine ⟨⟨by omega, by omega⟩, by omega, by omega, ⟨by omega, by omega⟩, ⟨by omega, by omega⟩, by omega, by omega, ⟨by omega, by omega⟩, (l ++ [r.extract 0 (idxB r).toNat], r.extract ((idxB r).toNat + 1) r.size), rfl, by simp, dS_set _ hl, ⟨?_, ?_, ?_⟩, ?_⟩
    · have h3l : 3 - (l ++ [r.extract 0 (idxB r).toNat]).length = f := by simp; omega
      rw [h1, hf, cutS, if_neg d, List.append_assoc, h3l]; rfl
    · show (r.extract ((idxB r).toNat + 1) r.size).size + (l ++ [r.extract 0 (idxB r).toNat]).length ≤ _
      rw [ByteArray.size_extract, List.length_append]; simp only [List.length_cons, List.length_nil]; omega
    · show ((l ++ [r.extract 0 (idxB r).toNat]).length : Int) ≤ _
      rw [List.length_append]; simp only [List.length_cons, List.length_nil]; omega
    · show n - (l ++ [r.extract 0 (idxB r).toNat]).length < n - l.length
      rw [List.length_append]; simp only [List.length_cons, List.length_nil]; omega
  · have c := of_decide_eq_false c
    refine ⟨⟨by omega, by omega⟩, ⟨by omega, by omega⟩, by omega, by omega, fin _ rfl ?_⟩
    rcases nn with nn | nn
    · rw [show 3 - l.length = 0 by omega]; rfl
    · exact cutS_nil (by omega) _
end Go.Proofs.YtbbjonjhaoeidaaGreatDoor.XT
