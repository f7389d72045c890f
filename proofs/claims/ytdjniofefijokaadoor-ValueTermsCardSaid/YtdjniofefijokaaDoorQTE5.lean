/- Contracts, by the symbolic evaluator. -/
import Derived.Test.YtdjniofefijokaaDoorQTE4
import Derived.Test.YtdjniofefijokaaDoorProg
set_option linter.unusedVariables false
set_option linter.unusedSimpArgs false
set_option linter.unusedSectionVars false
namespace Go.Proofs.YtdjniofefijokaaDoor.XT
open Go Go.RowKit Go.Proofs.YtdjniofefijokaaDoor.Sv
set_option maxRecDepth 100000
noncomputable def vtmLC : Con := ⟨[.d true .s], fun ds => [], [.d .b], fun ds => [.b true], fun ds => []⟩
noncomputable def vtmLC_an : Anns := fun f i => match f, i with
  | 3, 8 => some fun A st => match A.get 3 with
    | some (.dl _ _ xs) => ⟨Nat, fun g => [(5, .v (.int .i64 g))], fun _ => [], fun g => g ≤ xs.length, fun g => xs.length - g⟩
    | _ => LAnn.bad
  | _, _ => none
theorem vtmLC_vc (a : D) : (bif decide (16384 < (↑a.str.size : Int)) then true = true else a.str.size ≤ 16384 ∧ a.str.size ≤ 16384 ∧ bif !decide ((↑(tmD a.str).length : Int) = (↑(tmD a.str).length : Int)) then false = true else ∃ (g : Nat), EqI 0 (↑g : Int) ∧ g ≤ (tmD a.str).length ∧ ∀ (g : Nat), g ≤ (tmD a.str).length → bif decide ((↑g : Int) < (↑(tmD a.str).length : Int)) then Idx (↑g : Int) (tmD a.str).length ∧ (nthD (tmD a.str) g).str.size ≤ 16384 ∧ Idx (↑g : Int) (tmD a.str).length ∧ Idx (↑g : Int) (tmD a.str).length ∧ ((!decide ((nthD (tmD a.str) g).str = (nthD (tmD a.str) g).str) || !decide ((↑(tmD (nthD (tmD a.str) g).str).length : Int) = 1)) = false → Idx 0 (tmD (nthD (tmD a.str) g).str).length ∧ Idx (↑g : Int) (tmD a.str).length) ∧ bif !decide ((nthD (tmD a.str) g).str = (nthD (tmD a.str) g).str) || !decide ((↑(tmD (nthD (tmD a.str) g).str).length : Int) = 1) || !decide ((nthD (tmD (nthD (tmD a.str) g).str) (Int.toNat 0)).str = (nthD (tmD a.str) g).str) then false = true else I64 ((↑g : Int) + 1) ∧ ∃ (g_1 : Nat), (↑g : Int) + 1 = (↑g_1 : Int) ∧ g_1 ≤ (tmD a.str).length ∧ (tmD a.str).length - g_1 < (tmD a.str).length - g else true = true) = conGoal Tryd.prog (addS 6 rtermsC (addS 5 termsC (addS 4 aliveC noS))) vtmLC_an 200 3 vtmLC [a] := by kernel_rfl
theorem vtmLC_ok : ConOK Tryd.prog gl 3 vtmLC := con_of mo (addS_ok rtermsC_ok (addS_ok termsC_ok (addS_ok aliveC_ok (noS_ok _)))) (an := vtmLC_an) 200 fun ds hl hp => by
  obtain ⟨a, rfl⟩ := len1 hl
  rw [← vtmLC_vc]
  have hlen : (tmD a.str).length ≤ a.str.size + 1 := by unfold tmD; rw [List.length_map]; exact terms_len _
  refine cond_of (fun _ => rfl) (fun c => ?_)
  have c : a.str.size ≤ 16384 := by have := of_decide_eq_false c; omega
  refine ⟨c, c, ?_⟩
  rw [decide_eq_true (rfl : ((tmD a.str).length : Int) = _)]
  refine ⟨0, rfl, Nat.zero_le _, fun g hg => cond_of (fun d => ?_) (fun _ => rfl)⟩
  have d : g < (tmD a.str).length := by have := of_decide_eq_true d; omega
  have hL : (tmD a.str).length = (termsL a.str).length := by unfold tmD; rw [List.length_map]
  have hn : (nthD (tmD a.str) g).str = (termsL a.str)[g]'(by omega) := by
    have := nthD_smap (B := termsL a.str) (j := g) (by omega)
    unfold tmD; rw [this]; rfl
  have hok : OkT (nthD (tmD a.str) g).str := by rw [hn]; exact terms_mem (List.getElem_mem _)
  have hone := terms_one hok
  have hsz := ok_size hok
  generalize (nthD (tmD a.str) g).str = t at hone hsz ⊢
  have h1 : tmD t = [D.s t] := by unfold tmD; rw [hone]; rfl
  rw [h1]
  refine ⟨⟨by omega, by omega⟩, by omega, ⟨by omega, by omega⟩, ⟨by omega, by omega⟩, fun _ => ⟨⟨Int.le_refl _, (by show (0 : Int) < 1; omega)⟩, ⟨by omega, by omega⟩⟩, ?_⟩
  have e1 : (!decide (t = t) || !decide ((([D.s t].length : Nat) : Int) = 1) || !decide ((nthD [D.s t] (Int.toNat 0)).str = t)) = false := by
    rw [decide_eq_true (rfl : t = t), decide_eq_true (show ((([D.s t].length : Nat) : Int) = 1) from rfl), decide_eq_true (show (nthD [D.s t] (Int.toNat 0)).str = t from rfl)]; rfl
  rw [e1]
  exact ⟨⟨by omega, by omega⟩, g + 1, by omega, by omega, by omega⟩
end Go.Proofs.YtdjniofefijokaaDoor.XT
