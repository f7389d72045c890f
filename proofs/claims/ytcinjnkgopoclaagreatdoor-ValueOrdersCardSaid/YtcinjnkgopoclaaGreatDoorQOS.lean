/- The library's sort of values, laid at this program (as the shelf's command wrote it for another); as a contract that turns a row. -/
import Derived.Ground.SlsfProg
import Derived.Shelf.SlSortCmp.NoneTotal
import Derived.Test.YtcinjnkgopoclaaGreatDoorQS28
import Derived.Test.YtcinjnkgopoclaaGreatDoorQOV
import Derived.Test.YtcinjnkgopoclaaGreatDoorQOC
import Derived.Test.YtcinjnkgopoclaaGreatDoorProg
set_option linter.unusedVariables false
set_option linter.unusedSimpArgs false
set_option linter.unusedSectionVars false
namespace Go.Proofs
open Go.Shelf
def Tryz.laysSlF06_f16_ren : Go.Shelf.Ren := ⟨fun | 6 => 16 | 15 => 38 | 14 => 37 | 28 => 61 | 29 => 62 | 20 => 53 | 21 => 54 | 22 => 55 | 23 => 56 | 24 => 57 | 25 => 58 | 26 => 59 | 27 => 60 | 46 => 74 | 47 => 75 | 48 => 76 | 49 => 77 | 50 => 78 | 57 => 92 | n => n, fun | 22 => 26 | 24 => 25 | 25 => 31 | 3 => 3 | 39 => 66 | 0 => 0 | 53 => 85 | 55 => 23 | 4 => 4 | 46 => 78 | 45 => 77 | 50 => 82 | 5 => 5 | 9 => 9 | 66 => 99 | 70 => 103 | 76 => 120 | 77 => 121 | n => n, fun | n => n⟩
theorem Tryz.laysSlF06_f16 : Go.Proofs.SlLaysF0.n6 Tryz.prog Tryz.laysSlF06_f16_ren := {
  mixed := by kernel_rfl
  f6 := ⟨Tryz.f16.name, by decide, Tryz.func16.trans (congrArg some (by kernel_rfl))⟩
  f14 := ⟨Tryz.f37.name, by decide, Tryz.func37.trans (congrArg some (by kernel_rfl))⟩
  f15 := Tryz.func38.trans (congrArg some (by kernel_rfl))
  f20 := ⟨Tryz.f53.name, by decide, Tryz.func53.trans (congrArg some (by kernel_rfl))⟩
  f21 := ⟨Tryz.f54.name, by decide, Tryz.func54.trans (congrArg some (by kernel_rfl))⟩
  f22 := ⟨Tryz.f55.name, by decide, Tryz.func55.trans (congrArg some (by kernel_rfl))⟩
  f23 := ⟨Tryz.f56.name, by decide, Tryz.func56.trans (congrArg some (by kernel_rfl))⟩
  f24 := ⟨Tryz.f57.name, by decide, Tryz.func57.trans (congrArg some (by kernel_rfl))⟩
  f25 := ⟨Tryz.f58.name, by decide, Tryz.func58.trans (congrArg some (by kernel_rfl))⟩
  f26 := ⟨Tryz.f59.name, by decide, Tryz.func59.trans (congrArg some (by kernel_rfl))⟩
  f27 := ⟨Tryz.f60.name, by decide, Tryz.func60.trans (congrArg some (by kernel_rfl))⟩
  f28 := Tryz.func61.trans (congrArg some (by kernel_rfl))
  f29 := Tryz.func62.trans (congrArg some (by kernel_rfl))
  f46 := ⟨Tryz.f74.name, by decide, Tryz.func74.trans (congrArg some (by kernel_rfl))⟩
  f47 := Tryz.func75.trans (congrArg some (by kernel_rfl))
  f48 := Tryz.func76.trans (congrArg some (by kernel_rfl))
  f49 := ⟨Tryz.f77.name, by decide, Tryz.func77.trans (congrArg some (by kernel_rfl))⟩
  f50 := ⟨Tryz.f78.name, by decide, Tryz.func78.trans (congrArg some (by kernel_rfl))⟩
  f57 := ⟨Tryz.f92.name, by decide, Tryz.func92.trans (congrArg some (by kernel_rfl))⟩
  t0 := Tryz.underlying0
  a0 := Tryz.isAgg0
  z0 := Tryz.sizeOf0
  v0 := Tryz.zeroValue0
  t3 := Tryz.underlying3
  a3 := Tryz.isAgg3
  z3 := Tryz.sizeOf3
  v3 := Tryz.zeroValue3
  t4 := Tryz.underlying4
  a4 := Tryz.isAgg4
  z4 := Tryz.sizeOf4
  v4 := Tryz.zeroValue4
  t5 := Tryz.underlying5
  a5 := Tryz.isAgg5
  z5 := Tryz.sizeOf5
  v5 := Tryz.zeroValue5
  t9 := Tryz.underlying9
  a9 := Tryz.isAgg9
  z9 := Tryz.sizeOf9
  v9 := Tryz.zeroValue9
  t22 := Tryz.underlying26
  a22 := Tryz.isAgg26
  z22 := Tryz.sizeOf26
  v22 := Tryz.zeroValue26
  t25 := Tryz.underlying31
  a25 := Tryz.isAgg31
  z25 := Tryz.sizeOf31
  v25 := Tryz.zeroValue31
  t39 := Tryz.underlying66
  a39 := Tryz.isAgg66
  z39 := Tryz.sizeOf66
  v39 := Tryz.zeroValue66
  t45 := Tryz.underlying77
  a45 := Tryz.isAgg77
  z45 := Tryz.sizeOf77
  v45 := Tryz.zeroValue77
  t46 := Tryz.underlying78
  a46 := Tryz.isAgg78
  z46 := Tryz.sizeOf78
  v46 := Tryz.zeroValue78
  t50 := Tryz.underlying82
  a50 := Tryz.isAgg82
  z50 := Tryz.sizeOf82
  v50 := Tryz.zeroValue82
  t53 := Tryz.underlying85
  a53 := Tryz.isAgg85
  z53 := Tryz.sizeOf85
  v53 := Tryz.zeroValue85
  t55 := Tryz.underlying23
  a55 := Tryz.isAgg23
  z55 := Tryz.sizeOf23
  v55 := Tryz.zeroValue23
  t66 := Tryz.underlying99
  a66 := Tryz.isAgg99
  z66 := Tryz.sizeOf99
  v66 := Tryz.zeroValue99
  t70 := Tryz.underlying103
  a70 := Tryz.isAgg103
  z70 := Tryz.sizeOf103
  v70 := Tryz.zeroValue103
  t76 := Tryz.underlying120
  a76 := Tryz.isAgg120
  z76 := Tryz.sizeOf120
  v76 := Tryz.zeroValue120
  t77 := Tryz.underlying121
  a77 := Tryz.isAgg121
  z77 := Tryz.sizeOf121
  v77 := Tryz.zeroValue121 }
end Go.Proofs
namespace Go.Proofs.YtcinjnkgopoclaaGreatDoor.XT
open Go Go.RowKit Go.Lib Go.Sort Go.Proofs.YtcinjnkgopoclaaGreatDoor.Sv Go.Proofs.YtcinjnkgopoclaaGreatDoor.W
set_option maxRecDepth 100000
theorem cS_eq (a b : ByteArray) : cS a b = cmpS a b := by
  have : (!(Op.bytesLess a.toList b.toList || a.toList == b.toList)) = ltS b a := by
    rw [← gtS a b]
    congr 2
    by_cases h : a = b
    · subst h; simp
    · have h' : ¬ a.toList = b.toList := fun e => h (toList_inj e)
      simp [h, h']
  unfold cS cmpS
  rw [this]
theorem cI_eq (a b : Int) : cI a b = cmpI a b := rfl
theorem tr_eq (b : Bool) : (if b = true then (1 : Int) else 0) = truI b := by cases b <;> rfl
theorem cmp_cf (x y : V) (W : World) : Calls Tryz.prog 11 #[.agg (encV x).toArray, .agg (encV y).toArray] W fun e w' => e = .returned (.int .i64 (cfV x y)) ∧ ∃ q os', w' = grow (W.drewN q) os' := by
  obtain ⟨k1, b1, n1, s1, u1⟩ := x
  obtain ⟨k2, b2, n2, s2, u2⟩ := y
  have h := Tryz.compare11 k1 k2 n1 n2 u1 u2 b1 b2 s1 s2 W _ _ _ _ _ _ _ (cI_eq _ _) (tr_eq _) (tr_eq _) (cI_eq _ _) (cI_eq _ _) (cS_eq _ _) (cI_eq _ _)
  have e : nz1 [cmpI k1 k2, cmpI (truI b1) (truI b2), cmpI n1 n2, cmpS s1 s2, cmpI u1 u2] = cfV (k1, b1, n1, s1, u1) (k2, b2, n2, s2, u2) := by
    unfold cfV lexC
    simp only [nz1]
    by_cases e : cmpI u1 u2 = 0
    · simp only [e, if_true]
    · simp only [e, if_false]
  rw [e] at h
  exact h
theorem cmp_lays (b size : Nat) (w : World) : CmpLays Tryz.prog 11 #[] encV 5 cfV b 0 size w := fun _ _ _ _ x y => cmp_cf x y _
theorem sortV_ok {Γ : Gl} : RowOK Tryz.prog Γ 16 (rowC 25 valT [11] (fun xs => xs.length < 4611686018427387904) (sortK ofV toV fun x y => !ltOf cfV y x)) 25 valT [11] := by
  refine sort_rowK (enc := encV) (k := 5) encV_len rfl encV_one rdV rdV' (fun d b c w hH hb hd => ?_) (fun p c w => ?_)
  · have eg : ∀ args w, (callFunc 11 args).run Tryz.prog w = .ok (.enter 11 args) w := enters_of Tryz.func11 (by kernel_rfl) rfl
    exact AnyQ.slices_SortFunc_total Tryz.laysSlF06_f16 5 Tryz.isAgg25 Tryz.sizeOf25 encV encV_len encV_one cfV goodV.swo 11 #[] b 0 c d w eg (cmp_lays b d.size w) hH hb hd goodV.tot
  · exact (AnyF.slices_SortFunc_none Tryz.laysSlF06_f16 p c (.func (.func 11) #[] #[]) w).mono fun e w' ⟨he, hw⟩ => ⟨he, #[], by rw [grow_empty, hw]⟩
end Go.Proofs.YtcinjnkgopoclaaGreatDoor.XT
