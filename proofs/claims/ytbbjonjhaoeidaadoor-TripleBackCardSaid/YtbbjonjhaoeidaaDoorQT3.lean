/- Contracts, by the symbolic evaluator. -/
import Derived.Test.YtbbjonjhaoeidaaDoorQT2
import Derived.Test.YtbbjonjhaoeidaaDoorProg
set_option linter.unusedVariables false
set_option linter.unusedSimpArgs false
namespace Go.Proofs.YtbbjonjhaoeidaaDoor.XT
open Go Go.RowKit Go.Proofs.YtbbjonjhaoeidaaDoor.Sv
set_option maxRecDepth 100000
abbrev ltS (x y : ByteArray) : Bool := Op.bytesLess x.toList y.toList
def cmpI (x y : Int) : Int := if x < y then -1 else if y < x then 1 else 0
def cmpS (x y : ByteArray) : Int := if ltS x y = true then -1 else if ltS y x = true then 1 else 0
theorem bl_irr : ∀ x : List UInt8, Op.bytesLess x x = false
  | [] => rfl
  | a :: x => by simp [Op.bytesLess, bl_irr x]
theorem bl_tot : ∀ {x y : List UInt8}, x ≠ y → Op.bytesLess x y = !Op.bytesLess y x
  | [], [], h => absurd rfl h
  | [], _ :: _, _ => by simp [Op.bytesLess]
  | _ :: _, [], _ => by simp [Op.bytesLess]
  | a :: x, b :: y, h => by
    simp only [Op.bytesLess]
    by_cases hab : a = b
    · subst hab
      have h' : x ≠ y := fun e => h (by rw [e])
      rw [bl_tot h']; simp
    · have h1 : ¬ b = a := fun e => hab e.symm
      rcases Nat.lt_or_ge a.toNat b.toNat with hl | hl
      · have hl1 : a < b := UInt8.lt_iff_toNat_lt.2 hl
        have hl2 : ¬ b < a := fun hh => by have := UInt8.lt_iff_toNat_lt.1 hh; omega
        simp [hl1, hl2, hab, h1]
      · have hne : a.toNat ≠ b.toNat := fun e => hab (UInt8.toNat_inj.1 e)
        have hl1 : b < a := UInt8.lt_iff_toNat_lt.2 (by omega)
        have hl2 : ¬ a < b := fun hh => by have := UInt8.lt_iff_toNat_lt.1 hh; omega
        simp [hl1, hl2, hab, h1]
theorem toList_inj {x y : ByteArray} (h : x.toList = y.toList) : x = y := by
  rw [ByteArray.toList_eq, ByteArray.toList_eq] at h
  exact ByteArray.ext (Array.ext' h)
theorem ltS_irr (x : ByteArray) : ltS x x = false := bl_irr _
theorem ltS_tot {x y : ByteArray} (h : x ≠ y) : ltS x y = !ltS y x := bl_tot fun e => h (toList_inj e)
theorem gtS (x y : ByteArray) : (!(ltS x y || decide (x = y))) = ltS y x := by
  by_cases h : x = y
  · subst h; simp [ltS_irr]
  · rw [ltS_tot (x := y) (y := x) (fun e => h e.symm)]; simp [h]
def truI (b : Bool) : Int := bif b then 1 else 0
def cmpV (a b : D) : Int := firstNZ [.i (cmpI ((D.int (D.fld a 0))) ((D.int (D.fld b 0)))), .i (cmpI (truI ((D.bool (D.fld a 1)))) (truI ((D.bool (D.fld b 1))))), .i (cmpI ((D.int (D.fld a 2))) ((D.int (D.fld b 2)))), .i (cmpS ((D.str (D.fld a 3))) ((D.str (D.fld b 3)))), .i (cmpI ((D.int (D.fld a 4))) ((D.int (D.fld b 4))))]
def eqV (a b : D) : Bool := decide ((D.int (D.fld a 0)) = (D.int (D.fld b 0))) && ((D.bool (D.fld a 1)) == (D.bool (D.fld b 1))) && decide ((D.int (D.fld a 2)) = (D.int (D.fld b 2))) && decide ((D.str (D.fld a 3)) = (D.str (D.fld b 3))) && decide ((D.int (D.fld a 4)) = (D.int (D.fld b 4)))
def rcmpV (a b : D) : Int := if eqV a b = true then 0 else if (if (D.int (D.fld a 0)) = (D.int (D.fld b 0)) then (!((D.bool (D.fld a 1))) && (D.bool (D.fld b 1)) || decide ((D.int (D.fld a 2)) < (D.int (D.fld b 2))) || ltS ((D.str (D.fld a 3))) ((D.str (D.fld b 3))) || decide ((D.int (D.fld a 4)) < (D.int (D.fld b 4)))) else decide ((D.int (D.fld a 0)) < (D.int (D.fld b 0)))) = true then -1 else 1
theorem cmpS_eq {x : ByteArray} : cmpS x x = 0 := by simp [cmpS, ltS_irr]
theorem cmpS_ne {x y : ByteArray} (h : x ≠ y) : cmpS x y = if ltS x y = true then -1 else 1 := by
  unfold cmpS
  by_cases e : ltS x y = true
  · rw [if_pos e, if_pos e]
  · have : ltS y x = true := by rw [ltS_tot (fun e => h e.symm)]; simpa using e
    rw [if_neg e, if_pos this, if_neg e]
theorem cmpI_eq {x : Int} : cmpI x x = 0 := by simp [cmpI]
theorem cmpI_ne {x y : Int} (h : x ≠ y) : cmpI x y = if x < y then -1 else 1 := by
  unfold cmpI
  split
  · rfl
  · rw [if_pos (by omega)]
/-- of values that may be, both orders are the same -/
theorem cmpV_may {a b : D} (ha : mayV a = true) (hb : mayV b = true) : cmpV a b = rcmpV a b := by
  have hS : ∀ {x y : ByteArray}, x = y → ltS x y = false := fun e => by rw [e]; exact ltS_irr _
  by_cases hk : (D.int (D.fld a 0)) = (D.int (D.fld b 0))
  · have e1 : cmpI ((D.int (D.fld a 0))) ((D.int (D.fld b 0))) = 0 := by rw [hk]; exact cmpI_eq
    simp only [cmpV, firstNZ, int_i, rcmpV, eqV, e1, if_true, hk]
    by_cases k1 : (D.int (D.fld b 0)) = 1
    · rw [mayV, if_pos (hk.trans k1)] at ha
      rw [mayV, if_pos k1] at hb
      simp only [Bool.and_eq_true, decide_eq_true_eq] at ha hb
      obtain ⟨⟨a1, a2⟩, a3⟩ := ha
      obtain ⟨⟨b1, b2⟩, b3⟩ := hb
      rw [a1, b1, a2, b2, a3, b3, cmpI_eq, cmpS_eq, ltS_irr]
      cases (D.bool (D.fld a 1)) <;> cases (D.bool (D.fld b 1)) <;> rfl
    by_cases k2 : (D.int (D.fld b 0)) = 2
    · rw [mayV, if_neg (by omega), if_pos (hk.trans k2)] at ha
      rw [mayV, if_neg k1, if_pos k2] at hb
      simp only [Bool.and_eq_true, decide_eq_true_eq, Bool.not_eq_true'] at ha hb
      obtain ⟨⟨a1, a2⟩, a3⟩ := ha
      obtain ⟨⟨b1, b2⟩, b3⟩ := hb
      rw [a1, b1, a2, b2, a3, b3, cmpI_eq, cmpI_eq, cmpS_eq, ltS_irr]
      by_cases e : (D.int (D.fld a 2)) = (D.int (D.fld b 2))
      · simp [e, cmpI_eq]
      · by_cases hl : (D.int (D.fld a 2)) < (D.int (D.fld b 2)) <;> simp [e, hl, cmpI_ne e]
    by_cases k3 : (D.int (D.fld b 0)) = 3
    · rw [mayV, if_neg (by omega), if_neg (by omega), if_pos (hk.trans k3)] at ha
      rw [mayV, if_neg k1, if_neg k2, if_pos k3] at hb
      simp only [Bool.and_eq_true, decide_eq_true_eq, Bool.not_eq_true'] at ha hb
      obtain ⟨⟨⟨a1, a2⟩, a3⟩, _⟩ := ha
      obtain ⟨⟨⟨b1, b2⟩, b3⟩, _⟩ := hb
      rw [a1, b1, a2, b2, a3, b3, cmpI_eq, cmpI_eq]
      by_cases e : (D.str (D.fld a 3)) = (D.str (D.fld b 3))
      · simp [e, cmpI_eq, cmpS_eq, ltS_irr]
      · by_cases hl : ltS ((D.str (D.fld a 3))) ((D.str (D.fld b 3))) = true
        · simp [e, hl, cmpS_ne e, cmpI_eq]
        · simp only [Bool.not_eq_true] at hl; simp [e, hl, cmpS_ne e, cmpI_eq]
    by_cases k4 : (D.int (D.fld b 0)) = 4
    · rw [mayV, if_neg (by omega), if_neg (by omega), if_neg (by omega), if_pos (hk.trans k4)] at ha
      rw [mayV, if_neg k1, if_neg k2, if_neg k3, if_pos k4] at hb
      simp only [Bool.and_eq_true, decide_eq_true_eq, Bool.not_eq_true'] at ha hb
      obtain ⟨⟨⟨a1, a2⟩, a3⟩, _⟩ := ha
      obtain ⟨⟨⟨b1, b2⟩, b3⟩, _⟩ := hb
      rw [a1, b1, a2, b2, a3, b3, cmpI_eq, cmpI_eq, cmpS_eq, ltS_irr]
      by_cases e : (D.int (D.fld a 4)) = (D.int (D.fld b 4))
      · simp [e, cmpI_eq]
      · by_cases hl : (D.int (D.fld a 4)) < (D.int (D.fld b 4)) <;> simp [e, hl, cmpI_ne e, cmpI_eq]
    · rw [mayV, if_neg k1, if_neg k2, if_neg k3, if_neg k4] at hb
      cases hb
  · have e1 := cmpI_ne hk
    simp only [cmpV, firstNZ, int_i, rcmpV, eqV, e1, hk]
    by_cases hl : (D.int (D.fld a 0)) < (D.int (D.fld b 0)) <;> simp [hl]
def cmpT (a b : D) : Int := firstNZ [.i (cmpS ((D.str (D.fld a 1))) ((D.str (D.fld b 1)))), .i (cmpI ((D.int (D.fld a 0))) ((D.int (D.fld b 0)))), .i (bif mayV ((D.fld a 2)) && mayV ((D.fld b 2)) then cmpV ((D.fld a 2)) ((D.fld b 2)) else 0)]
def rcmpT (a b : D) : Int := if (D.str (D.fld a 1)) ≠ (D.str (D.fld b 1)) then (if ltS ((D.str (D.fld a 1))) ((D.str (D.fld b 1))) = true then -1 else 1) else if (D.int (D.fld a 0)) ≠ (D.int (D.fld b 0)) then (if (D.int (D.fld a 0)) < (D.int (D.fld b 0)) then -1 else 1) else rcmpV ((D.fld a 2)) ((D.fld b 2))
theorem mayT_val {t : D} (h : mayT t = 0) : mayV ((D.fld t 2)) = true := by
  unfold mayT at h
  grind
theorem cmpT_may {a b : D} (ha : mayT a = 0) (hb : mayT b = 0) : cmpT a b = rcmpT a b := by
  have h1 := mayT_val ha
  have h2 := mayT_val hb
  simp only [cmpT, rcmpT, firstNZ, int_i, h1, h2, Bool.and_true, cond_true]
  by_cases hp : (D.str (D.fld a 1)) = (D.str (D.fld b 1))
  · rw [hp, cmpS_eq]
    by_cases hu : (D.int (D.fld a 0)) = (D.int (D.fld b 0))
    · rw [hu, cmpI_eq, cmpV_may h1 h2]
      by_cases h : rcmpV ((D.fld a 2)) ((D.fld b 2)) = 0 <;> simp [h]
    · by_cases hl : (D.int (D.fld a 0)) < (D.int (D.fld b 0)) <;> simp [hu, hl, cmpI_ne hu]
  · by_cases hl : ltS ((D.str (D.fld a 1))) ((D.str (D.fld b 1))) = true
    · simp [hp, hl, cmpS_ne hp]
    · simp only [Bool.not_eq_true] at hl; simp [hp, hl, cmpS_ne hp]
def cmpSC : Con := ⟨[.d true .s, .d true .s], fun ds => [], [.d (.i .i64)], fun ds => (fun (a : D) (b : D) => [.i (cmpS a.str b.str)]) (nthD ds 0) (nthD ds 1), fun ds => []⟩
def cmpSC_an : Anns := fun _ _ => none
theorem cmpSC_vc (a b : D) : (bif !decide (a.str = a.str) then bif !decide (b.str = b.str) then EqI 0 (cmpS a.str b.str) else EqI (-1) (cmpS a.str b.str) else bif !decide (b.str = b.str) then EqI 1 (cmpS a.str b.str) else bif Op.bytesLess a.str.toList b.str.toList then EqI (-1) (cmpS a.str b.str) else bif !(Op.bytesLess a.str.toList b.str.toList || decide (a.str = b.str)) then EqI 1 (cmpS a.str b.str) else EqI 0 (cmpS a.str b.str)) = conGoal Tryd.prog noS cmpSC_an 200 48 cmpSC [a, b] := by kernel_rfl
theorem cmpSC_ok : ConOK Tryd.prog gl 48 cmpSC := con_of mo (noS_ok _) (an := cmpSC_an) 200 fun ds hl hp => by
  obtain ⟨a, b, rfl⟩ := len2 hl
  rw [← cmpSC_vc]
  rw [gtS]; grind [cmpS]
def cmpUC : Con := ⟨[.d true (.i .u64), .d true (.i .u64)], fun ds => [], [.d (.i .i64)], fun ds => (fun (a : D) (b : D) => [.i (cmpI a.int b.int)]) (nthD ds 0) (nthD ds 1), fun ds => []⟩
def cmpUC_an : Anns := fun _ _ => none
theorem cmpUC_vc (a b : D) : (bif !decide (a.int = a.int) then bif !decide (b.int = b.int) then EqI 0 (cmpI a.int b.int) else EqI (-1) (cmpI a.int b.int) else bif !decide (b.int = b.int) then EqI 1 (cmpI a.int b.int) else bif decide (a.int < b.int) then EqI (-1) (cmpI a.int b.int) else bif decide (b.int < a.int) then EqI 1 (cmpI a.int b.int) else EqI 0 (cmpI a.int b.int)) = conGoal Tryd.prog noS cmpUC_an 200 49 cmpUC [a, b] := by kernel_rfl
theorem cmpUC_ok : ConOK Tryd.prog gl 49 cmpUC := con_of mo (noS_ok _) (an := cmpUC_an) 200 fun ds hl hp => by
  obtain ⟨a, b, rfl⟩ := len2 hl
  rw [← cmpUC_vc]
  grind [cmpI]
def cmpKC : Con := ⟨[.d true (.i .u8), .d true (.i .u8)], fun ds => [], [.d (.i .i64)], fun ds => (fun (a : D) (b : D) => [.i (cmpI a.int b.int)]) (nthD ds 0) (nthD ds 1), fun ds => []⟩
def cmpKC_an : Anns := fun _ _ => none
theorem cmpKC_vc (a b : D) : (bif !decide (a.int = a.int) then bif !decide (b.int = b.int) then EqI 0 (cmpI a.int b.int) else EqI (-1) (cmpI a.int b.int) else bif !decide (b.int = b.int) then EqI 1 (cmpI a.int b.int) else bif decide (a.int < b.int) then EqI (-1) (cmpI a.int b.int) else bif decide (b.int < a.int) then EqI 1 (cmpI a.int b.int) else EqI 0 (cmpI a.int b.int)) = conGoal Tryd.prog noS cmpKC_an 200 104 cmpKC [a, b] := by kernel_rfl
theorem cmpKC_ok : ConOK Tryd.prog gl 104 cmpKC := con_of mo (noS_ok _) (an := cmpKC_an) 200 fun ds hl hp => by
  obtain ⟨a, b, rfl⟩ := len2 hl
  rw [← cmpKC_vc]
  grind [cmpI]
def cmpIC : Con := ⟨[.d true (.i .i64), .d true (.i .i64)], fun ds => [], [.d (.i .i64)], fun ds => (fun (a : D) (b : D) => [.i (cmpI a.int b.int)]) (nthD ds 0) (nthD ds 1), fun ds => []⟩
def cmpIC_an : Anns := fun _ _ => none
theorem cmpIC_vc (a b : D) : (bif !decide (a.int = a.int) then bif !decide (b.int = b.int) then EqI 0 (cmpI a.int b.int) else EqI (-1) (cmpI a.int b.int) else bif !decide (b.int = b.int) then EqI 1 (cmpI a.int b.int) else bif decide (a.int < b.int) then EqI (-1) (cmpI a.int b.int) else bif decide (b.int < a.int) then EqI 1 (cmpI a.int b.int) else EqI 0 (cmpI a.int b.int)) = conGoal Tryd.prog noS cmpIC_an 200 105 cmpIC [a, b] := by kernel_rfl
theorem cmpIC_ok : ConOK Tryd.prog gl 105 cmpIC := con_of mo (noS_ok _) (an := cmpIC_an) 200 fun ds hl hp => by
  obtain ⟨a, b, rfl⟩ := len2 hl
  rw [← cmpIC_vc]
  grind [cmpI]
def cmpNC : Con := ⟨[.d true (.i .i64), .d true (.i .i64)], fun ds => [], [.d (.i .i64)], fun ds => (fun (a : D) (b : D) => [.i (cmpI a.int b.int)]) (nthD ds 0) (nthD ds 1), fun ds => []⟩
def cmpNC_an : Anns := fun _ _ => none
theorem cmpNC_vc (a b : D) : (bif !decide (a.int = a.int) then bif !decide (b.int = b.int) then EqI 0 (cmpI a.int b.int) else EqI (-1) (cmpI a.int b.int) else bif !decide (b.int = b.int) then EqI 1 (cmpI a.int b.int) else bif decide (a.int < b.int) then EqI (-1) (cmpI a.int b.int) else bif decide (b.int < a.int) then EqI 1 (cmpI a.int b.int) else EqI 0 (cmpI a.int b.int)) = conGoal Tryd.prog noS cmpNC_an 200 106 cmpNC [a, b] := by kernel_rfl
theorem cmpNC_ok : ConOK Tryd.prog gl 106 cmpNC := con_of mo (noS_ok _) (an := cmpNC_an) 200 fun ds hl hp => by
  obtain ⟨a, b, rfl⟩ := len2 hl
  rw [← cmpNC_vc]
  grind [cmpI]
def truC : Con := ⟨[.d true .b], fun ds => [], [.d (.i .i64)], fun ds => (fun (a : D) => [.i (truI a.bool)]) (nthD ds 0), fun ds => []⟩
def truC_an : Anns := fun _ _ => none
theorem truC_vc (a : D) : (bif a.bool then EqI 1 (truI a.bool) else EqI 0 (truI a.bool)) = conGoal Tryd.prog noS truC_an 200 51 truC [a] := by kernel_rfl
theorem truC_ok : ConOK Tryd.prog gl 51 truC := con_of mo (noS_ok _) (an := truC_an) 200 fun ds hl hp => by
  obtain ⟨a, rfl⟩ := len1 hl
  rw [← truC_vc]
  grind [truI]
def cmpVC : Con := ⟨[.d true valT, .d true valT], fun ds => [], [.d (.i .i64)], fun ds => (fun (a : D) (b : D) => [.i (cmpV a b)]) (nthD ds 0) (nthD ds 1), fun ds => []⟩
def cmpVC_an : Anns := fun _ _ => none
theorem cmpVC_vc (a b : D) : ((a.fld 0).int = (a.fld 0).int ∧ (b.fld 0).int = (b.fld 0).int ∧ ((D.fld a 1)).bool = ((D.fld a 1)).bool ∧ truI ((D.fld a 1)).bool = truI ((D.fld a 1)).bool ∧ ((D.fld b 1)).bool = ((D.fld b 1)).bool ∧ truI ((D.fld b 1)).bool = truI ((D.fld b 1)).bool ∧ ((D.fld a 2)).int = ((D.fld a 2)).int ∧ ((D.fld b 2)).int = ((D.fld b 2)).int ∧ (a.fld 3).str = (a.fld 3).str ∧ (b.fld 3).str = (b.fld 3).str ∧ (a.fld 4).int = (a.fld 4).int ∧ (b.fld 4).int = (b.fld 4).int ∧ [D.i (cmpI (a.fld 0).int (b.fld 0).int), D.i (cmpI (truI ((D.fld a 1)).bool) (truI ((D.fld b 1)).bool)), D.i (cmpI ((D.fld a 2)).int ((D.fld b 2)).int), D.i (cmpS (a.fld 3).str (b.fld 3).str), D.i (cmpI (a.fld 4).int (b.fld 4).int)].length < 4611686018427387904 ∧ firstNZ [D.i (cmpI (a.fld 0).int (b.fld 0).int), D.i (cmpI (truI ((D.fld a 1)).bool) (truI ((D.fld b 1)).bool)), D.i (cmpI ((D.fld a 2)).int ((D.fld b 2)).int), D.i (cmpS (a.fld 3).str (b.fld 3).str), D.i (cmpI (a.fld 4).int (b.fld 4).int)] = cmpV a b) = conGoal Tryd.prog (addS 47 orC (addS 49 cmpUC (addS 48 cmpSC (addS 106 cmpNC (addS 105 cmpIC (addS 51 truC (addS 104 cmpKC noS))))))) cmpVC_an 200 75 cmpVC [a, b] := by kernel_rfl
theorem cmpVC_ok : ConOK Tryd.prog gl 75 cmpVC := con_of mo (addS_ok orC_ok (addS_ok cmpUC_ok (addS_ok cmpSC_ok (addS_ok cmpNC_ok (addS_ok cmpIC_ok (addS_ok truC_ok (addS_ok cmpKC_ok (noS_ok _)))))))) (an := cmpVC_an) 200 fun ds hl hp => by
  obtain ⟨a, b, rfl⟩ := len2 hl
  rw [← cmpVC_vc]
  simp [cmpV]
def vCmpC : Con := ⟨[.d true valT, .d true valT], fun ds => (fun (a : D) (b : D) => [0 ≤ (D.int (D.fld a 4)), 0 ≤ (D.int (D.fld b 4))]) (nthD ds 0) (nthD ds 1), [.d (.i .i64), .d (.i .i64)], fun ds => (fun (a : D) (b : D) => [.i (bif mayV a && mayV b then cmpV a b else 0), .i (bif mayV a && mayV b then 0 else 30)]) (nthD ds 0) (nthD ds 1), fun ds => []⟩
def vCmpC_an : Anns := fun _ _ => none
theorem vCmpC_vc (a b : D) : (0 ≤ (a.fld 4).int ∧ ((!decide (condI (mayV a) 0 30 = 0)) = false → 0 ≤ (b.fld 4).int) ∧ bif !decide (condI (mayV a) 0 30 = 0) || !decide (condI (mayV b) 0 30 = 0) then EqI 0 (bif mayV a && mayV b then cmpV a b else 0) ∧ EqI 30 (condI (mayV a && mayV b) 0 30) else (cmpV a b = bif mayV a && mayV b then cmpV a b else 0) ∧ EqI 0 (condI (mayV a && mayV b) 0 30)) = conGoal Tryd.prog (addS 75 cmpVC (addS 26 mayVC noS)) vCmpC_an 200 36 vCmpC [a, b] := by kernel_rfl
theorem vCmpC_ok : ConOK Tryd.prog gl 36 vCmpC := con_of mo (addS_ok cmpVC_ok (addS_ok mayVC_ok (noS_ok _))) (an := vCmpC_an) 200 fun ds hl hp => by
  obtain ⟨a, b, rfl⟩ := len2 hl
  rw [← vCmpC_vc]
  have p0 : 0 ≤ (D.int (D.fld a 4)) := hp _ (.head _)
  have p1 : 0 ≤ (D.int (D.fld b 4)) := hp _ (.tail _ (.head _))
  simp only [condI, EqI, Bool.cond_eq_ite]; grind
def rcmpVC : Con := ⟨[.d true valT, .d true valT], fun ds => [], [.d (.i .i64)], fun ds => (fun (a : D) (b : D) => [.i (rcmpV a b)]) (nthD ds 0) (nthD ds 1), fun ds => []⟩
def rcmpVC_an : Anns := fun _ _ => none
theorem rcmpVC_vc (a b : D) : (bif decide ((a.fld 0).int = (b.fld 0).int) && (((D.fld a 1)).bool == ((D.fld b 1)).bool && (decide (((D.fld a 2)).int = ((D.fld b 2)).int) && (decide ((a.fld 3).str = (b.fld 3).str) && (decide ((a.fld 4).int = (b.fld 4).int) && true)))) then EqI 0 (rcmpV a b) else bif decide ((a.fld 0).int = (b.fld 0).int) then bif !((D.fld a 1)).bool && ((D.fld b 1)).bool || decide (((D.fld a 2)).int < ((D.fld b 2)).int) || Op.bytesLess (a.fld 3).str.toList (b.fld 3).str.toList || decide ((a.fld 4).int < (b.fld 4).int) then EqI (-1) (rcmpV a b) else EqI 1 (rcmpV a b) else bif decide ((a.fld 0).int < (b.fld 0).int) then EqI (-1) (rcmpV a b) else EqI 1 (rcmpV a b)) = conGoal Tryd.prog noS rcmpVC_an 200 50 rcmpVC [a, b] := by kernel_rfl
theorem rcmpVC_ok : ConOK Tryd.prog gl 50 rcmpVC := con_of mo (noS_ok _) (an := rcmpVC_an) 200 fun ds hl hp => by
  obtain ⟨a, b, rfl⟩ := len2 hl
  rw [← rcmpVC_vc]
  simp only [EqI, Bool.cond_eq_ite]; grind [rcmpV, eqV]
def tCmpC : Con := ⟨[.d true triT, .d true triT], fun ds => (fun (a : D) (b : D) => [((D.str (D.fld a 1))).size ≤ 9223372036854775807, 0 ≤ (D.int (D.fld ((D.fld a 2)) 4)), ((D.str (D.fld b 1))).size ≤ 9223372036854775807, 0 ≤ (D.int (D.fld ((D.fld b 2)) 4))]) (nthD ds 0) (nthD ds 1), [.d (.i .i64), .d (.i .i64)], fun ds => (fun (a : D) (b : D) => [.i (if mayT a ≠ 0 then 0 else if mayT b ≠ 0 then 0 else cmpT a b), .i (if mayT a ≠ 0 then mayT a else mayT b)]) (nthD ds 0) (nthD ds 1), fun ds => []⟩
def tCmpC_an : Anns := fun _ _ => none
theorem tCmpC_vc (a b : D) : ((a.fld 0).int = (a.fld 0).int ∧ ((D.fld a 1)).str = ((D.fld a 1)).str ∧ (((D.fld a 2)).fld 0).int = (((D.fld a 2)).fld 0).int ∧ ((D.fld (D.fld a 2) 1)).bool = ((D.fld (D.fld a 2) 1)).bool ∧ ((D.fld (D.fld a 2) 2)).int = ((D.fld (D.fld a 2) 2)).int ∧ (((D.fld a 2)).fld 3).str = (((D.fld a 2)).fld 3).str ∧ (((D.fld a 2)).fld 4).int = (((D.fld a 2)).fld 4).int ∧ ((D.fld a 1)).str.size ≤ 9223372036854775807 ∧ 0 ≤ (((D.fld a 2)).fld 4).int ∧ (b.fld 0).int = (b.fld 0).int ∧ ((D.fld b 1)).str = ((D.fld b 1)).str ∧ (((D.fld b 2)).fld 0).int = (((D.fld b 2)).fld 0).int ∧ ((D.fld (D.fld b 2) 1)).bool = ((D.fld (D.fld b 2) 1)).bool ∧ ((D.fld (D.fld b 2) 2)).int = ((D.fld (D.fld b 2) 2)).int ∧ (((D.fld b 2)).fld 3).str = (((D.fld b 2)).fld 3).str ∧ (((D.fld b 2)).fld 4).int = (((D.fld b 2)).fld 4).int ∧ ((D.fld b 1)).str.size ≤ 9223372036854775807 ∧ 0 ≤ (((D.fld b 2)).fld 4).int ∧ [D.i (mayT a), D.i (mayT b)].length < 4611686018427387904 ∧ bif !decide (firstNZ [D.i (mayT a), D.i (mayT b)] = 0) then EqI 0 (if mayT a ≠ 0 then 0 else if mayT b ≠ 0 then 0 else cmpT a b) ∧ firstNZ [D.i (mayT a), D.i (mayT b)] = if mayT a ≠ 0 then mayT a else mayT b else 0 ≤ (((D.fld a 2)).fld 4).int ∧ 0 ≤ (((D.fld b 2)).fld 4).int ∧ ((D.fld a 1)).str = ((D.fld a 1)).str ∧ ((D.fld b 1)).str = ((D.fld b 1)).str ∧ (a.fld 0).int = (a.fld 0).int ∧ (b.fld 0).int = (b.fld 0).int ∧ [D.i (cmpS ((D.fld a 1)).str ((D.fld b 1)).str), D.i (cmpI (a.fld 0).int (b.fld 0).int), D.i (bif mayV (D.fld a 2) && mayV (D.fld b 2) then cmpV (D.fld a 2) (D.fld b 2) else 0)].length < 4611686018427387904 ∧ (firstNZ [D.i (cmpS ((D.fld a 1)).str ((D.fld b 1)).str), D.i (cmpI (a.fld 0).int (b.fld 0).int), D.i (bif mayV (D.fld a 2) && mayV (D.fld b 2) then cmpV (D.fld a 2) (D.fld b 2) else 0)] = if mayT a ≠ 0 then 0 else if mayT b ≠ 0 then 0 else cmpT a b) ∧ EqI 0 (if mayT a ≠ 0 then mayT a else mayT b)) = conGoal Tryd.prog (addS 47 orC (addS 49 cmpUC (addS 48 cmpSC (addS 36 vCmpC (addS 39 firstC (addS 11 mayTC noS)))))) tCmpC_an 200 23 tCmpC [a, b] := by kernel_rfl
theorem tCmpC_ok : ConOK Tryd.prog gl 23 tCmpC := con_of mo (addS_ok orC_ok (addS_ok cmpUC_ok (addS_ok cmpSC_ok (addS_ok vCmpC_ok (addS_ok firstC_ok (addS_ok mayTC_ok (noS_ok _))))))) (an := tCmpC_an) 200 fun ds hl hp => by
  obtain ⟨a, b, rfl⟩ := len2 hl
  rw [← tCmpC_vc]
  have p0 : ((D.str (D.fld a 1))).size ≤ 9223372036854775807 := hp _ (.head _)
  have p1 : 0 ≤ (D.int (D.fld ((D.fld a 2)) 4)) := hp _ (.tail _ (.head _))
  have p2 : ((D.str (D.fld b 1))).size ≤ 9223372036854775807 := hp _ (.tail _ (.tail _ (.head _)))
  have p3 : 0 ≤ (D.int (D.fld ((D.fld b 2)) 4)) := hp _ (.tail _ (.tail _ (.tail _ (.head _))))
  simp only [cmpT, condI, EqI, firstNZ, int_i, Bool.cond_eq_ite]; grind
def rcmpTC : Con := ⟨[.d true triT, .d true triT], fun ds => [], [.d (.i .i64)], fun ds => (fun (a : D) (b : D) => [.i (rcmpT a b)]) (nthD ds 0) (nthD ds 1), fun ds => []⟩
def rcmpTC_an : Anns := fun _ _ => none
theorem rcmpTC_vc (a b : D) : (bif !decide (((D.fld a 1)).str = ((D.fld b 1)).str) then bif Op.bytesLess ((D.fld a 1)).str.toList ((D.fld b 1)).str.toList then EqI (-1) (rcmpT a b) else EqI 1 (rcmpT a b) else bif !decide ((a.fld 0).int = (b.fld 0).int) then bif decide ((a.fld 0).int < (b.fld 0).int) then EqI (-1) (rcmpT a b) else EqI 1 (rcmpT a b) else rcmpV (D.fld a 2) (D.fld b 2) = rcmpT a b) = conGoal Tryd.prog (addS 50 rcmpVC noS) rcmpTC_an 200 24 rcmpTC [a, b] := by kernel_rfl
theorem rcmpTC_ok : ConOK Tryd.prog gl 24 rcmpTC := con_of mo (addS_ok rcmpVC_ok (noS_ok _)) (an := rcmpTC_an) 200 fun ds hl hp => by
  obtain ⟨a, b, rfl⟩ := len2 hl
  rw [← rcmpTC_vc]
  simp only [EqI, Bool.cond_eq_ite]; grind [rcmpT]
end Go.Proofs.YtbbjonjhaoeidaaDoor.XT
