/- Contracts, by the symbolic evaluator. -/
import Derived.Test.YtlfafkeamppakaaDoorQYJ
import Derived.Test.YtlfafkeamppakaaDoorProg
set_option linter.unusedVariables false
set_option linter.unusedSimpArgs false
namespace Go.Proofs.YtlfafkeamppakaaDoor.XT
open Go Go.RowKit Go.Proofs.YtlfafkeamppakaaDoor.Sv
set_option maxRecDepth 100000
def smN : List D → Nat
  | [] => 0
  | t :: r => 1 + (t.fld 1).str.size + smN r
theorem smN_app : ∀ a b : List D, smN (a ++ b) = smN a + smN b
  | [], b => by simp [smN]
  | t :: r, b => by rw [List.cons_append, smN, smN, smN_app r b]; omega
theorem smN_take (l : List D) (g : Nat) : smN (l.take g) ≤ smN l := by
  conv => rhs; rw [← List.take_append_drop g l]
  rw [smN_app]; omega
def smK (l : List D) : Bool := decide (l.length ≤ 400) && decide (smN (l.take 500) ≤ 20000)
theorem smK_of {l : List D} (h : smK l = true) : l.length ≤ 400 ∧ smN l ≤ 20000 := by
  simp only [smK, Bool.and_eq_true, decide_eq_true_eq] at h
  rw [List.take_of_length_le (by omega)] at h
  exact h
theorem smN_mem : ∀ {l : List D} {t : D}, t ∈ l → (t.fld 1).str.size ≤ smN l
  | t' :: r, t, h => by
    rw [smN]
    rcases List.mem_cons.1 h with rfl | h
    · omega
    · have := smN_mem h; omega
theorem jnT_len : ∀ l : List D, (jnT (l.map foL)).length ≤ 4 * smN l
  | [] => by simp [jnT]
  | t :: r => by
    have h1 := jnT_len r
    have h2 := foL_len t
    have e : jnT ((t :: r).map foL) = 32 :: foL t ++ jnT (r.map foL) := by simp [jnT]
    rw [e, smN, List.length_append, List.length_cons]; omega
theorem jnL_len (l : List D) : (jnL (l.map foL)).length ≤ 4 * smN l := by
  cases l with
  | nil => simp [jnL]
  | cons t r =>
    have h1 := jnT_len r
    have h2 := foL_len t
    rw [List.map_cons, jnL, smN, List.length_append]; omega
def cuTo (s : ByteArray) : List D × Nat × Int := cuT s
def lxcoC : Con := ⟨[.d true .s], fun ds => (fun (a : D) => []) (nthD ds 0), [.d (.l tokT), .d (.i .i64), .d (.i .i64)], fun ds => (fun (a : D) => [.l (cuTo a.str).1, .i ((cuTo a.str).2.1 : Int), .i (cuTo a.str).2.2]) (nthD ds 0), fun ds => []⟩
theorem lxcoC_ok : ConOK Tryd.prog gl 8 lxcoC := lxcC_ok
def lvC : Con := ⟨[], fun ds => [], [.d .b], fun ds => [.b true], fun ds => []⟩
def lvC_an : Anns := fun _ _ => none
theorem lvC_vc : (((decide (EqI (↑(cuTo (ByteArray.mk #[123, 109, 101, 40, 102, 117, 110, 99, 58, 32, 101, 113, 40, 110, 97, 109, 101, 44, 32, 34, 97, 92, 34, 98, 34, 41, 41, 125, 32, 35, 32, 120])).fst.length : Int) 13) && decide (EqI (↑(cuTo (ByteArray.mk #[123, 109, 101, 40, 102, 117, 110, 99, 58, 32, 101, 113, 40, 110, 97, 109, 101, 44, 32, 34, 97, 92, 34, 98, 34, 41, 41, 125, 32, 35, 32, 120])).snd.fst : Int) 32) && decide (EqI (cuTo (ByteArray.mk #[123, 109, 101, 40, 102, 117, 110, 99, 58, 32, 101, 113, 40, 110, 97, 109, 101, 44, 32, 34, 97, 92, 34, 98, 34, 41, 41, 125, 32, 35, 32, 120])).snd.snd 0)) = true → Idx 8 (cuTo (ByteArray.mk #[123, 109, 101, 40, 102, 117, 110, 99, 58, 32, 101, 113, 40, 110, 97, 109, 101, 44, 32, 34, 97, 92, 34, 98, 34, 41, 41, 125, 32, 35, 32, 120])).fst.length) ∧ ((decide (EqI (↑(cuTo (ByteArray.mk #[123, 109, 101, 40, 102, 117, 110, 99, 58, 32, 101, 113, 40, 110, 97, 109, 101, 44, 32, 34, 97, 92, 34, 98, 34, 41, 41, 125, 32, 35, 32, 120])).fst.length : Int) 13) && decide (EqI (↑(cuTo (ByteArray.mk #[123, 109, 101, 40, 102, 117, 110, 99, 58, 32, 101, 113, 40, 110, 97, 109, 101, 44, 32, 34, 97, 92, 34, 98, 34, 41, 41, 125, 32, 35, 32, 120])).snd.fst : Int) 32) && decide (EqI (cuTo (ByteArray.mk #[123, 109, 101, 40, 102, 117, 110, 99, 58, 32, 101, 113, 40, 110, 97, 109, 101, 44, 32, 34, 97, 92, 34, 98, 34, 41, 41, 125, 32, 35, 32, 120])).snd.snd 0) && decide (((nthD (cuTo (ByteArray.mk #[123, 109, 101, 40, 102, 117, 110, 99, 58, 32, 101, 113, 40, 110, 97, 109, 101, 44, 32, 34, 97, 92, 34, 98, 34, 41, 41, 125, 32, 35, 32, 120])).fst (Int.toNat 8)).fld 1).str = ByteArray.mk #[44])) = true → Idx 9 (cuTo (ByteArray.mk #[123, 109, 101, 40, 102, 117, 110, 99, 58, 32, 101, 113, 40, 110, 97, 109, 101, 44, 32, 34, 97, 92, 34, 98, 34, 41, 41, 125, 32, 35, 32, 120])).fst.length) ∧ ((decide (EqI (↑(cuTo (ByteArray.mk #[123, 109, 101, 40, 102, 117, 110, 99, 58, 32, 101, 113, 40, 110, 97, 109, 101, 44, 32, 34, 97, 92, 34, 98, 34, 41, 41, 125, 32, 35, 32, 120])).fst.length : Int) 13) && decide (EqI (↑(cuTo (ByteArray.mk #[123, 109, 101, 40, 102, 117, 110, 99, 58, 32, 101, 113, 40, 110, 97, 109, 101, 44, 32, 34, 97, 92, 34, 98, 34, 41, 41, 125, 32, 35, 32, 120])).snd.fst : Int) 32) && decide (EqI (cuTo (ByteArray.mk #[123, 109, 101, 40, 102, 117, 110, 99, 58, 32, 101, 113, 40, 110, 97, 109, 101, 44, 32, 34, 97, 92, 34, 98, 34, 41, 41, 125, 32, 35, 32, 120])).snd.snd 0) && decide (((nthD (cuTo (ByteArray.mk #[123, 109, 101, 40, 102, 117, 110, 99, 58, 32, 101, 113, 40, 110, 97, 109, 101, 44, 32, 34, 97, 92, 34, 98, 34, 41, 41, 125, 32, 35, 32, 120])).fst (Int.toNat 8)).fld 1).str = ByteArray.mk #[44]) && decide (((nthD (cuTo (ByteArray.mk #[123, 109, 101, 40, 102, 117, 110, 99, 58, 32, 101, 113, 40, 110, 97, 109, 101, 44, 32, 34, 97, 92, 34, 98, 34, 41, 41, 125, 32, 35, 32, 120])).fst (Int.toNat 9)).fld 1).str = ByteArray.mk #[97, 34, 98]) && decide (EqI (↑(cuTo (ByteArray.mk #[48, 53])).snd.fst : Int) 1) && decide (EqI (cuTo (ByteArray.mk #[48, 53])).snd.snd 250) && decide (EqI (↑(cuTo (ByteArray.mk #[34, 97])).snd.fst : Int) 2) && decide (EqI (cuTo (ByteArray.mk #[34, 97])).snd.snd 250) && decide (EqI (↑(cuTo (ByteArray.mk #[57, 50, 50, 51, 51, 55, 50, 48, 51, 54, 56, 53, 52, 55, 55, 53, 56, 48, 56])).snd.fst : Int) 18) && decide (EqI (cuTo (ByteArray.mk #[57, 50, 50, 51, 51, 55, 50, 48, 51, 54, 56, 53, 52, 55, 55, 53, 56, 48, 56])).snd.snd 250) && decide (EqI (cuTo (ByteArray.mk #[45, 53, 32, 45, 32, 53, 32, 48, 120, 49, 102, 32, 97, 46, 98])).snd.snd 0) && decide (EqI (↑(cuTo (ByteArray.mk #[45, 53, 32, 45, 32, 53, 32, 48, 120, 49, 102, 32, 97, 46, 98])).fst.length : Int) 5)) = true → Idx 0 (cuTo (ByteArray.mk #[45, 53, 32, 45, 32, 53, 32, 48, 120, 49, 102, 32, 97, 46, 98])).fst.length) ∧ ((decide (EqI (↑(cuTo (ByteArray.mk #[123, 109, 101, 40, 102, 117, 110, 99, 58, 32, 101, 113, 40, 110, 97, 109, 101, 44, 32, 34, 97, 92, 34, 98, 34, 41, 41, 125, 32, 35, 32, 120])).fst.length : Int) 13) && decide (EqI (↑(cuTo (ByteArray.mk #[123, 109, 101, 40, 102, 117, 110, 99, 58, 32, 101, 113, 40, 110, 97, 109, 101, 44, 32, 34, 97, 92, 34, 98, 34, 41, 41, 125, 32, 35, 32, 120])).snd.fst : Int) 32) && decide (EqI (cuTo (ByteArray.mk #[123, 109, 101, 40, 102, 117, 110, 99, 58, 32, 101, 113, 40, 110, 97, 109, 101, 44, 32, 34, 97, 92, 34, 98, 34, 41, 41, 125, 32, 35, 32, 120])).snd.snd 0) && decide (((nthD (cuTo (ByteArray.mk #[123, 109, 101, 40, 102, 117, 110, 99, 58, 32, 101, 113, 40, 110, 97, 109, 101, 44, 32, 34, 97, 92, 34, 98, 34, 41, 41, 125, 32, 35, 32, 120])).fst (Int.toNat 8)).fld 1).str = ByteArray.mk #[44]) && decide (((nthD (cuTo (ByteArray.mk #[123, 109, 101, 40, 102, 117, 110, 99, 58, 32, 101, 113, 40, 110, 97, 109, 101, 44, 32, 34, 97, 92, 34, 98, 34, 41, 41, 125, 32, 35, 32, 120])).fst (Int.toNat 9)).fld 1).str = ByteArray.mk #[97, 34, 98]) && decide (EqI (↑(cuTo (ByteArray.mk #[48, 53])).snd.fst : Int) 1) && decide (EqI (cuTo (ByteArray.mk #[48, 53])).snd.snd 250) && decide (EqI (↑(cuTo (ByteArray.mk #[34, 97])).snd.fst : Int) 2) && decide (EqI (cuTo (ByteArray.mk #[34, 97])).snd.snd 250) && decide (EqI (↑(cuTo (ByteArray.mk #[57, 50, 50, 51, 51, 55, 50, 48, 51, 54, 56, 53, 52, 55, 55, 53, 56, 48, 56])).snd.fst : Int) 18) && decide (EqI (cuTo (ByteArray.mk #[57, 50, 50, 51, 51, 55, 50, 48, 51, 54, 56, 53, 52, 55, 55, 53, 56, 48, 56])).snd.snd 250) && decide (EqI (cuTo (ByteArray.mk #[45, 53, 32, 45, 32, 53, 32, 48, 120, 49, 102, 32, 97, 46, 98])).snd.snd 0) && decide (EqI (↑(cuTo (ByteArray.mk #[45, 53, 32, 45, 32, 53, 32, 48, 120, 49, 102, 32, 97, 46, 98])).fst.length : Int) 5) && decide (EqI ((nthD (cuTo (ByteArray.mk #[45, 53, 32, 45, 32, 53, 32, 48, 120, 49, 102, 32, 97, 46, 98])).fst (Int.toNat 0)).fld 2).int (-5))) = true → Idx 1 (cuTo (ByteArray.mk #[45, 53, 32, 45, 32, 53, 32, 48, 120, 49, 102, 32, 97, 46, 98])).fst.length) ∧ ((decide (EqI (↑(cuTo (ByteArray.mk #[123, 109, 101, 40, 102, 117, 110, 99, 58, 32, 101, 113, 40, 110, 97, 109, 101, 44, 32, 34, 97, 92, 34, 98, 34, 41, 41, 125, 32, 35, 32, 120])).fst.length : Int) 13) && decide (EqI (↑(cuTo (ByteArray.mk #[123, 109, 101, 40, 102, 117, 110, 99, 58, 32, 101, 113, 40, 110, 97, 109, 101, 44, 32, 34, 97, 92, 34, 98, 34, 41, 41, 125, 32, 35, 32, 120])).snd.fst : Int) 32) && decide (EqI (cuTo (ByteArray.mk #[123, 109, 101, 40, 102, 117, 110, 99, 58, 32, 101, 113, 40, 110, 97, 109, 101, 44, 32, 34, 97, 92, 34, 98, 34, 41, 41, 125, 32, 35, 32, 120])).snd.snd 0) && decide (((nthD (cuTo (ByteArray.mk #[123, 109, 101, 40, 102, 117, 110, 99, 58, 32, 101, 113, 40, 110, 97, 109, 101, 44, 32, 34, 97, 92, 34, 98, 34, 41, 41, 125, 32, 35, 32, 120])).fst (Int.toNat 8)).fld 1).str = ByteArray.mk #[44]) && decide (((nthD (cuTo (ByteArray.mk #[123, 109, 101, 40, 102, 117, 110, 99, 58, 32, 101, 113, 40, 110, 97, 109, 101, 44, 32, 34, 97, 92, 34, 98, 34, 41, 41, 125, 32, 35, 32, 120])).fst (Int.toNat 9)).fld 1).str = ByteArray.mk #[97, 34, 98]) && decide (EqI (↑(cuTo (ByteArray.mk #[48, 53])).snd.fst : Int) 1) && decide (EqI (cuTo (ByteArray.mk #[48, 53])).snd.snd 250) && decide (EqI (↑(cuTo (ByteArray.mk #[34, 97])).snd.fst : Int) 2) && decide (EqI (cuTo (ByteArray.mk #[34, 97])).snd.snd 250) && decide (EqI (↑(cuTo (ByteArray.mk #[57, 50, 50, 51, 51, 55, 50, 48, 51, 54, 56, 53, 52, 55, 55, 53, 56, 48, 56])).snd.fst : Int) 18) && decide (EqI (cuTo (ByteArray.mk #[57, 50, 50, 51, 51, 55, 50, 48, 51, 54, 56, 53, 52, 55, 55, 53, 56, 48, 56])).snd.snd 250) && decide (EqI (cuTo (ByteArray.mk #[45, 53, 32, 45, 32, 53, 32, 48, 120, 49, 102, 32, 97, 46, 98])).snd.snd 0) && decide (EqI (↑(cuTo (ByteArray.mk #[45, 53, 32, 45, 32, 53, 32, 48, 120, 49, 102, 32, 97, 46, 98])).fst.length : Int) 5) && decide (EqI ((nthD (cuTo (ByteArray.mk #[45, 53, 32, 45, 32, 53, 32, 48, 120, 49, 102, 32, 97, 46, 98])).fst (Int.toNat 0)).fld 2).int (-5)) && decide (EqI ((nthD (cuTo (ByteArray.mk #[45, 53, 32, 45, 32, 53, 32, 48, 120, 49, 102, 32, 97, 46, 98])).fst (Int.toNat 1)).fld 0).int 5)) = true → Idx 3 (cuTo (ByteArray.mk #[45, 53, 32, 45, 32, 53, 32, 48, 120, 49, 102, 32, 97, 46, 98])).fst.length) ∧ (decide (EqI (↑(cuTo (ByteArray.mk #[123, 109, 101, 40, 102, 117, 110, 99, 58, 32, 101, 113, 40, 110, 97, 109, 101, 44, 32, 34, 97, 92, 34, 98, 34, 41, 41, 125, 32, 35, 32, 120])).fst.length : Int) 13) && decide (EqI (↑(cuTo (ByteArray.mk #[123, 109, 101, 40, 102, 117, 110, 99, 58, 32, 101, 113, 40, 110, 97, 109, 101, 44, 32, 34, 97, 92, 34, 98, 34, 41, 41, 125, 32, 35, 32, 120])).snd.fst : Int) 32) && decide (EqI (cuTo (ByteArray.mk #[123, 109, 101, 40, 102, 117, 110, 99, 58, 32, 101, 113, 40, 110, 97, 109, 101, 44, 32, 34, 97, 92, 34, 98, 34, 41, 41, 125, 32, 35, 32, 120])).snd.snd 0) && decide (((nthD (cuTo (ByteArray.mk #[123, 109, 101, 40, 102, 117, 110, 99, 58, 32, 101, 113, 40, 110, 97, 109, 101, 44, 32, 34, 97, 92, 34, 98, 34, 41, 41, 125, 32, 35, 32, 120])).fst (Int.toNat 8)).fld 1).str = ByteArray.mk #[44]) && decide (((nthD (cuTo (ByteArray.mk #[123, 109, 101, 40, 102, 117, 110, 99, 58, 32, 101, 113, 40, 110, 97, 109, 101, 44, 32, 34, 97, 92, 34, 98, 34, 41, 41, 125, 32, 35, 32, 120])).fst (Int.toNat 9)).fld 1).str = ByteArray.mk #[97, 34, 98]) && decide (EqI (↑(cuTo (ByteArray.mk #[48, 53])).snd.fst : Int) 1) && decide (EqI (cuTo (ByteArray.mk #[48, 53])).snd.snd 250) && decide (EqI (↑(cuTo (ByteArray.mk #[34, 97])).snd.fst : Int) 2) && decide (EqI (cuTo (ByteArray.mk #[34, 97])).snd.snd 250) && decide (EqI (↑(cuTo (ByteArray.mk #[57, 50, 50, 51, 51, 55, 50, 48, 51, 54, 56, 53, 52, 55, 55, 53, 56, 48, 56])).snd.fst : Int) 18) && decide (EqI (cuTo (ByteArray.mk #[57, 50, 50, 51, 51, 55, 50, 48, 51, 54, 56, 53, 52, 55, 55, 53, 56, 48, 56])).snd.snd 250) && decide (EqI (cuTo (ByteArray.mk #[45, 53, 32, 45, 32, 53, 32, 48, 120, 49, 102, 32, 97, 46, 98])).snd.snd 0) && decide (EqI (↑(cuTo (ByteArray.mk #[45, 53, 32, 45, 32, 53, 32, 48, 120, 49, 102, 32, 97, 46, 98])).fst.length : Int) 5) && decide (EqI ((nthD (cuTo (ByteArray.mk #[45, 53, 32, 45, 32, 53, 32, 48, 120, 49, 102, 32, 97, 46, 98])).fst (Int.toNat 0)).fld 2).int (-5)) && decide (EqI ((nthD (cuTo (ByteArray.mk #[45, 53, 32, 45, 32, 53, 32, 48, 120, 49, 102, 32, 97, 46, 98])).fst (Int.toNat 1)).fld 0).int 5) && decide (EqI ((nthD (cuTo (ByteArray.mk #[45, 53, 32, 45, 32, 53, 32, 48, 120, 49, 102, 32, 97, 46, 98])).fst (Int.toNat 3)).fld 0).int 3)) = true) = conGoal Tryd.prog (addS 8 lxcoC noS) lvC_an 200 7 lvC [] := by kernel_rfl
theorem lvC_ok : ConOK Tryd.prog gl 7 lvC := con_of mo (addS_ok lxcoC_ok (noS_ok _)) (an := lvC_an) 200 fun ds hl hp => by
  obtain rfl := len0 hl
  rw [← lvC_vc]
  decide +kernel
def smKo (l : List D) : Bool := smK l
def smNo (l : List D) : Nat := smN l
def lxsmC : Con := ⟨[.d true (.l tokT)], fun ds => (fun (a : D) => [a.list.length ≤ 1048576, ∀ t ∈ a.list, (t.fld 1).str.size ≤ 1048576]) (nthD ds 0), [.d .b], fun ds => (fun (a : D) => [.b (smKo a.list)]) (nthD ds 0), fun ds => []⟩
def lxsmC_an : Anns := fun f i => match f, i with
  | 13, 3 => some fun A st => match A.get 0 with
    | some (.dl _ _ xs) => ⟨Nat, fun g => [(4, .v (.int .i64 g)), (3, .v (.int .i64 (smNo (xs.take g) : Int)))], fun g => [], fun g => g ≤ xs.length ∧ g ≤ 500, fun g => xs.length - g⟩
    | _ => LAnn.bad
  | _, _ => none
theorem lxsmC_vc (a : D) : (∃ (g : Nat), EqI 0 (↑g : Int) ∧ EqI 0 (↑(smNo (List.take g a.list)) : Int) ∧ (g ≤ a.list.length ∧ g ≤ 500) ∧ ∀ (g : Nat), g ≤ a.list.length ∧ g ≤ 500 → bif decide ((↑g : Int) < (↑a.list.length : Int)) && decide ((↑g : Int) < 500) then I64 ((↑(smNo (List.take g a.list)) : Int) + 1) ∧ Idx (↑g : Int) a.list.length ∧ I64 ((↑(smNo (List.take g a.list)) : Int) + 1 + (↑((nthD a.list g).fld 1).str.size : Int)) ∧ I64 ((↑g : Int) + 1) ∧ ∃ (g_1 : Nat), (↑g : Int) + 1 = (↑g_1 : Int) ∧ (↑(smNo (List.take g a.list)) : Int) + 1 + (↑((nthD a.list g).fld 1).str.size : Int) = (↑(smNo (List.take g_1 a.list)) : Int) ∧ (g_1 ≤ a.list.length ∧ g_1 ≤ 500) ∧ a.list.length - g_1 < a.list.length - g else (decide ((↑a.list.length : Int) ≤ 400) && decide ((↑(smNo (List.take g a.list)) : Int) ≤ 20000)) = smKo a.list) = conGoal Tryd.prog noS lxsmC_an 200 13 lxsmC [a] := by kernel_rfl
theorem lxsmC_ok : ConOK Tryd.prog gl 13 lxsmC := con_of mo (noS_ok _) (an := lxsmC_an) 200 fun ds hl hp => by
  obtain ⟨a, rfl⟩ := len1 hl
  rw [← lxsmC_vc]
  have p0 : a.list.length ≤ 1048576 := hp _ (.head _)
  have p1 : ∀ t ∈ a.list, (t.fld 1).str.size ≤ 1048576 := hp _ (.tail _ (.head _))
  have e1 : ∀ l, smNo l = smN l := fun _ => rfl
  have e2 : smKo a.list = smK a.list := rfl
  simp only [e1, e2]
  generalize a.list = l at *
  have hb : ∀ l : List D, (∀ t ∈ l, (t.fld 1).str.size ≤ 1048576) → smN l ≤ l.length * 1048577 := fun l => by
    induction l with
    | nil => intro _; exact Nat.le_refl _
    | cons t r ih =>
      intro h
      have h1 := h t (List.mem_cons_self ..)
      have h2 := ih fun t ht => h t (List.mem_cons_of_mem _ ht)
      rw [smN, List.length_cons]; omega
  have hN := hb l p1
  refine ⟨0, rfl, rfl, ⟨Nat.zero_le _, Nat.zero_le _⟩, ?_⟩
  rintro g ⟨g1, g2⟩
  have ht := smN_take l g
  refine cond_of (fun c => ?_) (fun c => ?_)
  · simp only [Bool.and_eq_true, decide_eq_true_eq] at c
    have hg : g < l.length := by omega
    have hs := p1 _ (nth_mem hg)
    have e : smN (l.take (g + 1)) = smN (l.take g) + (1 + ((nthD l g).fld 1).str.size) := by
      rw [take_nth hg, smN_app]; rfl
    exact ⟨⟨by omega, by omega⟩, ⟨by omega, by omega⟩, ⟨by omega, by omega⟩, ⟨by omega, by omega⟩, g + 1, by omega, by rw [e]; omega, ⟨by omega, by omega⟩, by omega⟩
  · have e : smN (l.take g) = smN (l.take 500) ∨ ¬ l.length ≤ 400 := by
      have : ¬ (g < l.length ∧ g < 500) := fun h => by
        rw [decide_eq_true (show (g : Int) < (l.length : Int) by omega), decide_eq_true (show (g : Int) < 500 by omega)] at c; cases c
      by_cases h : l.length ≤ 400
      · left; rw [List.take_of_length_le (by omega), List.take_of_length_le (by omega)]
      · exact .inr h
    rcases e with e | e
    · rw [e, smK]
      congr 1
      · exact decide_eq_decide.2 (by omega)
      · exact decide_eq_decide.2 (by omega)
    · rw [smK, decide_eq_false (show ¬ (l.length : Int) ≤ 400 by omega), decide_eq_false e]; rfl
def lxFLC : Con := ⟨[.d true tokT, .d true .s, .d true (.l tokT)], fun ds => (fun (a : D) (b : D) (c : D) => [(a.fld 1).str.size ≤ 1048576, b.str.size ≤ 1048576, c.list.length ≤ 1048576, ∀ t ∈ c.list, (t.fld 1).str.size ≤ 1048576]) (nthD ds 0) (nthD ds 1) (nthD ds 2), [.d .b], fun ds => (fun (a : D) (b : D) (c : D) => [.b true]) (nthD ds 0) (nthD ds 1) (nthD ds 2), fun ds => []⟩
def lxFLC_an : Anns := fun _ _ => none
theorem lxFLC_vc (a b c : D) : (c.list.length ≤ 1048576 ∧ (∀ (t : D), t ∈ c.list → (t.fld 1).str.size ≤ 1048576) ∧ bif !smKo c.list || decide (5000 < (↑b.str.size : Int)) || decide (5000 < (↑(a.fld 1).str.size : Int)) then true = true else (a.fld 1).str.size ≤ 1099511627776 ∧ (a.fld 1).str.size ≤ 1099511627776 ∧ c.list.length ≤ 1099511627776 ∧ (∀ (t : D), t ∈ c.list → (t.fld 1).str.size ≤ 1099511627776) ∧ (jnL (List.map foL c.list)).length ≤ 140737488355328 ∧ c.list.length ≤ 1099511627776 ∧ (∀ (t : D), t ∈ c.list → (t.fld 1).str.size ≤ 1099511627776) ∧ (jnL (List.map foL c.list)).length ≤ 140737488355328 ∧ ((decide (foS a = foS a) && decide (foE a = foE a)) = true → b.str.size ≤ 1099511627776 ∧ b.str.size ≤ 1099511627776) ∧ (decide (foS a = foS a) && decide (foE a = foE a) && decide (sL (quL (bys b.str)) = sL (quL (bys b.str))) && decide (joS c.list = joS c.list) && decide (joE c.list = joE c.list)) = true) = conGoal Tryd.prog (addS 19 rfxC (addS 18 lxTC (addS 17 rfJC (addS 16 lxJC (addS 15 rfFoC (addS 14 lxfC (addS 13 lxsmC (addS 7 lvC noS)))))))) lxFLC_an 200 5 lxFLC [a, b, c] := by kernel_rfl
theorem lxFLC_ok : ConOK Tryd.prog gl 5 lxFLC := con_of mo (addS_ok rfxC_ok (addS_ok lxTC_ok (addS_ok rfJC_ok (addS_ok lxJC_ok (addS_ok rfFoC_ok (addS_ok lxfC_ok (addS_ok lxsmC_ok (addS_ok lvC_ok (noS_ok _))))))))) (an := lxFLC_an) 200 fun ds hl hp => by
  obtain ⟨a, b, c, rfl⟩ := len3 hl
  rw [← lxFLC_vc]
  have p0 : (a.fld 1).str.size ≤ 1048576 := hp _ (.head _)
  have p1 : b.str.size ≤ 1048576 := hp _ (.tail _ (.head _))
  have p2 : c.list.length ≤ 1048576 := hp _ (.tail _ (.tail _ (.head _)))
  have p3 : ∀ t ∈ c.list, (t.fld 1).str.size ≤ 1048576 := hp _ (.tail _ (.tail _ (.tail _ (.head _))))
  have e2 : smKo c.list = smK c.list := rfl
  rw [e2]
  refine ⟨p2, p3, cond_of (fun _ => rfl) (fun e => ?_)⟩
  simp only [Bool.or_eq_false_iff, Bool.not_eq_false', decide_eq_false_iff_not] at e
  obtain ⟨⟨e1, e3⟩, e4⟩ := e
  obtain ⟨s1, s2⟩ := smK_of e1
  have hj := jnL_len c.list
  have h40 : ∀ t ∈ c.list, (t.fld 1).str.size ≤ 1099511627776 := fun t ht => by have := p3 t ht; omega
  have hjl : (jnL (List.map foL c.list)).length ≤ 140737488355328 := by omega
  have q : ∀ x : ByteArray, decide (x = x) = true := fun x => decide_eq_true rfl
  have q' : ∀ x : Int, decide (x = x) = true := fun x => decide_eq_true rfl
  exact ⟨by omega, by omega, by omega, h40, hjl, by omega, h40, hjl, fun _ => ⟨by omega, by omega⟩, by simp only [q, q']; rfl⟩
end Go.Proofs.YtlfafkeamppakaaDoor.XT
