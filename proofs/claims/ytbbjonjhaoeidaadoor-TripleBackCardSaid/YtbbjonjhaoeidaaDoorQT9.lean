/- Contracts, by the symbolic evaluator. -/
import Derived.Test.YtbbjonjhaoeidaaDoorQT8
import Derived.Test.YtbbjonjhaoeidaaDoorProg
set_option linter.unusedVariables false
set_option linter.unusedSimpArgs false
namespace Go.Proofs.YtbbjonjhaoeidaaDoor.XT
open Go Go.RowKit Go.Proofs.YtbbjonjhaoeidaaDoor.Sv
set_option maxRecDepth 100000
/-- never called -/
def usC : Con := ⟨[.d true .s], fun _ => [False], [.d .b], fun _ => [.b true], fun _ => []⟩
theorem usC_ok : ConOK Tryd.prog gl 117 usC := by
  intro F G w vs ds bs _ _ _ _ _ _ _ _ hp
  exact (hp False (List.mem_singleton.2 rfl)).elim
def lowC : Con := ⟨[.d true (.i .u8)], fun ds => [], [.d (.i .u8)], fun ds => (fun (a : D) => [.i (bor .u8 a.int 32)]) (nthD ds 0), fun ds => []⟩
def lowC_an : Anns := fun _ _ => none
theorem lowC_vc (a : D) : (bor IntKind.u8 a.int 32 = bor IntKind.u8 a.int 32) = conGoal Tryd.prog noS lowC_an 200 116 lowC [a] := by kernel_rfl
theorem lowC_ok : ConOK Tryd.prog gl 116 lowC := con_of mo (noS_ok _) (an := lowC_an) 200 fun ds hl hp => by
  obtain ⟨a, rfl⟩ := len1 hl
  rw [← lowC_vc]
  try rfl
def alive3C : Con := ⟨[], fun ds => [], [.d .b], fun ds => [.b true], fun ds => []⟩
def alive3C_an : Anns := fun _ _ => none
theorem alive3C_vc : ((LeI 0 4 ∧ LtI 4 256 ∧ I64 0 ∧ LeI 0 255 ∧ LtI 255 18446744073709551616) ∧ (decide (LeI (↑(ByteArray.mk #[48, 120]).size : Int) (↑(ByteArray.mk #[48, 120, 70, 70]).size : Int)) = true → LeI 0 (↑(ByteArray.mk #[48, 120]).size : Int) ∧ LeI (↑(ByteArray.mk #[48, 120]).size : Int) (↑(ByteArray.mk #[48, 120, 70, 70]).size : Int)) ∧ LeI 0 2 ∧ LeI 2 (↑(ByteArray.mk #[48, 120, 70, 70]).size : Int) ∧ LeI 0 (IntKind.u64.wrap 64) ∧ ((ByteArray.mk #[48, 120, 70, 70]).extract (Int.toNat 2) (ByteArray.mk #[48, 120, 70, 70]).size).size ≤ 140737488355328 ∧ Idx 0 (bytesD ((ByteArray.mk #[48, 120, 70, 70]).extract (Int.toNat 2) (ByteArray.mk #[48, 120, 70, 70]).size)).length ∧ I64 (0 + 1) ∧ Idx (0 + 1) (bytesD ((ByteArray.mk #[48, 120, 70, 70]).extract (Int.toNat 2) (ByteArray.mk #[48, 120, 70, 70]).size)).length ∧ I64 (0 + 1 + 1) ∧ (false = true → False) ∧ (LeI 0 4 ∧ LtI 4 256 ∧ I64 0 ∧ LeI 0 (IntKind.u64.wrap (IntKind.u64.wrap (IntKind.u64.wrap (IntKind.u64.wrap (0 * IntKind.u64.wrap 16) + IntKind.u64.wrap (IntKind.u8.wrap (IntKind.u8.wrap (bor IntKind.u8 (↑((ByteArray.mk #[48, 120, 70, 70]).data.extract (Int.toNat 2) 4)[0].toNat : Int) 32 - 97) + 10))) * IntKind.u64.wrap 16) + IntKind.u64.wrap (IntKind.u8.wrap (IntKind.u8.wrap (bor IntKind.u8 (↑((ByteArray.mk #[48, 120, 70, 70]).data.extract (Int.toNat 2) 4)[1].toNat : Int) 32 - 97) + 10)))) ∧ LtI (IntKind.u64.wrap (IntKind.u64.wrap (IntKind.u64.wrap (IntKind.u64.wrap (0 * IntKind.u64.wrap 16) + IntKind.u64.wrap (IntKind.u8.wrap (IntKind.u8.wrap (bor IntKind.u8 (↑((ByteArray.mk #[48, 120, 70, 70]).data.extract (Int.toNat 2) 4)[0].toNat : Int) 32 - 97) + 10))) * IntKind.u64.wrap 16) + IntKind.u64.wrap (IntKind.u8.wrap (IntKind.u8.wrap (bor IntKind.u8 (↑((ByteArray.mk #[48, 120, 70, 70]).data.extract (Int.toNat 2) 4)[1].toNat : Int) 32 - 97) + 10)))) 18446744073709551616) ∧ (LeI 0 3 ∧ LtI 3 256 ∧ I64 0 ∧ LeI 0 0 ∧ LtI 0 18446744073709551616) ∧ (decide (sL (valL (D.t [D.i 4, D.b false, D.i 0, D.s (ByteArray.mk #[]), D.i 255])) = ByteArray.mk #[48, 120, 102, 102]) && decide (EqI 0 0) && decide (EqI 30 30) && decide (sL (valB (D.t [D.i 3, D.b false, D.i 0, D.s (ByteArray.mk #[97]), D.i 0])) = ByteArray.mk #[3, 97, 0, 1]) && decide (EqI 0 0)) = true) = conGoal Tryd.prog (addS 27 vBC (addS 135 tzC (addS 117 usC (addS 116 lowC (addS 28 vTC noS))))) alive3C_an 200 29 alive3C [] := by kernel_rfl
theorem alive3C_ok : ConOK Tryd.prog gl 29 alive3C := con_of mo (addS_ok vBC_ok (addS_ok tzC_ok (addS_ok usC_ok (addS_ok lowC_ok (addS_ok vTC_ok (noS_ok _)))))) (an := alive3C_an) 200 fun ds hl hp => by
  obtain rfl := len0 hl
  rw [← alive3C_vc]
  decide +kernel
def vfrmLC : Con := ⟨[.d true valT], fun ds => (fun (a : D) => [okV a]) (nthD ds 0), [.d .b], fun ds => [.b true], fun ds => []⟩
def vfrmLC_an : Anns := fun _ _ => none
theorem vfrmLC_vc (a : D) : (0 ≤ (a.fld 4).int ∧ (0 ≤ (a.fld 0).int ∧ (a.fld 0).int < 256 ∧ I64 ((D.fld a 2)).int ∧ 0 ≤ (a.fld 4).int ∧ (a.fld 4).int < 18446744073709551616) ∧ (0 ≤ (a.fld 0).int ∧ (a.fld 0).int < 256 ∧ I64 ((D.fld a 2)).int ∧ 0 ≤ (a.fld 4).int ∧ (a.fld 4).int < 18446744073709551616) ∧ bif !mayV a then (decide (condI (mayV a) 0 30 = 30) && decide (condI (mayV a) 0 30 = 30) && decide (condI (mayV a) 0 30 = 30) && decide ((bif mayV a then sL (valB a) else (ByteArray.mk #[])) = (ByteArray.mk #[])) && decide ((bif mayV a then sL (valL a) else (ByteArray.mk #[])) = (ByteArray.mk #[])) && true) = true else ((decide (condI (mayV a) 0 30 = 0) && decide (condI (mayV a) 0 30 = 0) && decide (condI (mayV a) 0 30 = 0)) = true → (0 ≤ (a.fld 0).int ∧ (a.fld 0).int < 256 ∧ I64 ((D.fld a 2)).int ∧ 0 ≤ (a.fld 4).int ∧ (a.fld 4).int < 18446744073709551616) ∧ mayV a = true) ∧ ((decide (condI (mayV a) 0 30 = 0) && decide (condI (mayV a) 0 30 = 0) && decide (condI (mayV a) 0 30 = 0) && decide ((bif mayV a then sL (valB a) else (ByteArray.mk #[])) = sL (valB a))) = true → (0 ≤ (a.fld 0).int ∧ (a.fld 0).int < 256 ∧ I64 ((D.fld a 2)).int ∧ 0 ≤ (a.fld 4).int ∧ (a.fld 4).int < 18446744073709551616) ∧ mayV a = true) ∧ (decide (condI (mayV a) 0 30 = 0) && decide (condI (mayV a) 0 30 = 0) && decide (condI (mayV a) 0 30 = 0) && decide ((bif mayV a then sL (valB a) else (ByteArray.mk #[])) = sL (valB a)) && decide ((bif mayV a then sL (valL a) else (ByteArray.mk #[])) = sL (valL a)) && true) = true) = conGoal Tryd.prog (addS 31 rvTC (addS 30 rvBC (addS 29 alive3C (addS 28 vTC (addS 27 vBC (addS 26 mayVC (addS 25 rmayVC noS))))))) vfrmLC_an 200 6 vfrmLC [a] := by kernel_rfl
theorem vfrmLC_ok : ConOK Tryd.prog gl 6 vfrmLC := con_of mo (addS_ok rvTC_ok (addS_ok rvBC_ok (addS_ok alive3C_ok (addS_ok vTC_ok (addS_ok vBC_ok (addS_ok mayVC_ok (addS_ok rmayVC_ok (noS_ok _)))))))) (an := vfrmLC_an) 200 fun ds hl hp => by
  obtain ⟨a, rfl⟩ := len1 hl
  rw [← vfrmLC_vc]
  have p0 : okV a := hp _ (.head _)
  refine ⟨p0.2.2.2.1, p0, p0, ?_⟩
  cases hm : mayV a
  · simp [condI]
  · refine ⟨fun _ => ⟨p0, rfl⟩, fun _ => ⟨p0, rfl⟩, ?_⟩
    simp [condI]
end Go.Proofs.YtbbjonjhaoeidaaDoor.XT
