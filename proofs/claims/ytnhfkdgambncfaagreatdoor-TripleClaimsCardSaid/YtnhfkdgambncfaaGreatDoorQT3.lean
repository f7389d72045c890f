/- Contracts, by the symbolic evaluator. -/
import Derived.Test.YtnhfkdgambncfaaGreatDoorQT2
import Derived.Test.YtnhfkdgambncfaaGreatDoorProg
set_option linter.unusedVariables false
set_option linter.unusedSimpArgs false
set_option linter.unusedSectionVars false
namespace Go.Proofs.YtnhfkdgambncfaaGreatDoor.XT
open Go Go.RowKit Go.Proofs.YtnhfkdgambncfaaGreatDoor.Sv
set_option maxRecDepth 100000
abbrev ltS (x y : ByteArray) : Bool := Op.bytesLess x.toList y.toList
def cmpI (x y : Int) : Int := if x < y then -1 else if y < x then 1 else 0
def cmpS (x y : ByteArray) : Int := if ltS x y = true then -1 else if ltS y x = true then 1 else 0
theorem bl_irr : ∀ x : List UInt8, Op.bytesLess x x = false
  | [] => rfl
  | a :: x => by simp [Op.bytesLess, bl_irr x]
theorem bl_tot : ∀ {x y : List UInt8}, x ≠ y → Op.bytesLess x y = !Op.bytesLess y x
  | [], [], h => absurd rfl h
  | [], _ :: _, _ => by simp [Op.bytesLess]
  | _ :: _, [], _ => by simp [Op.bytesLess]
  | a :: x, b :: y, h => by
    simp only [Op.bytesLess]
    by_cases hab : a = b
    · subst hab
      have h' : x ≠ y := fun e => h (by rw [e])
      rw [bl_tot h']; simp
    · have h1 : ¬ b = a := fun e => hab e.symm
      rcases Nat.lt_or_ge a.toNat b.toNat with hl | hl
      · have hl1 : a < b := UInt8.lt_iff_toNat_lt.2 hl
        have hl2 : ¬ b < a := fun hh => by have := UInt8.lt_iff_toNat_lt.1 hh; omega
        simp [hl1, hl2, hab, h1]
      · have hne : a.toNat ≠ b.toNat := fun e => hab (UInt8.toNat_inj.1 e)
        have hl1 : b < a := UInt8.lt_iff_toNat_lt.2 (by omega)
        have hl2 : ¬ a < b := fun hh => by have := UInt8.lt_iff_toNat_lt.1 hh; omega
        simp [hl1, hl2, hab, h1]
theorem toList_inj {x y : ByteArray} (h : x.toList = y.toList) : x = y := by
  rw [ByteArray.toList_eq, ByteArray.toList_eq] at h
  exact ByteArray.ext (Array.ext' h)
theorem ltS_irr (x : ByteArray) : ltS x x = false := bl_irr _
theorem ltS_tot {x y : ByteArray} (h : x ≠ y) : ltS x y = !ltS y x := bl_tot fun e => h (toList_inj e)
theorem gtS (x y : ByteArray) : (!(ltS x y || decide (x = y))) = ltS y x := by
  by_cases h : x = y
  · subst h; simp [ltS_irr]
  · rw [ltS_tot (x := y) (y := x) (fun e => h e.symm)]; simp [h]
def truI (b : Bool) : Int := bif b then 1 else 0
def cmpV (a b : D) : Int := firstNZ [.i (cmpI ((D.int (D.fld a 0))) ((D.int (D.fld b 0)))), .i (cmpI (truI ((D.bool (D.fld a 1)))) (truI ((D.bool (D.fld b 1))))), .i (cmpI ((D.int (D.fld a 2))) ((D.int (D.fld b 2)))), .i (cmpS ((D.str (D.fld a 3))) ((D.str (D.fld b 3)))), .i (cmpI ((D.int (D.fld a 4))) ((D.int (D.fld b 4))))]
def eqV (a b : D) : Bool := decide ((D.int (D.fld a 0)) = (D.int (D.fld b 0))) && ((D.bool (D.fld a 1)) == (D.bool (D.fld b 1))) && decide ((D.int (D.fld a 2)) = (D.int (D.fld b 2))) && decide ((D.str (D.fld a 3)) = (D.str (D.fld b 3))) && decide ((D.int (D.fld a 4)) = (D.int (D.fld b 4)))
def rcmpV (a b : D) : Int := if eqV a b = true then 0 else if (if (D.int (D.fld a 0)) = (D.int (D.fld b 0)) then (!((D.bool (D.fld a 1))) && (D.bool (D.fld b 1)) || decide ((D.int (D.fld a 2)) < (D.int (D.fld b 2))) || ltS ((D.str (D.fld a 3))) ((D.str (D.fld b 3))) || decide ((D.int (D.fld a 4)) < (D.int (D.fld b 4)))) else decide ((D.int (D.fld a 0)) < (D.int (D.fld b 0)))) = true then -1 else 1
theorem cmpS_eq {x : ByteArray} : cmpS x x = 0 := by simp [cmpS, ltS_irr]
theorem cmpS_ne {x y : ByteArray} (h : x ≠ y) : cmpS x y = if ltS x y = true then -1 else 1 := by
  unfold cmpS
  by_cases e : ltS x y = true
  · rw [if_pos e, if_pos e]
  · have : ltS y x = true := by rw [ltS_tot (fun e => h e.symm)]; simpa using e
    rw [if_neg e, if_pos this, if_neg e]
theorem cmpI_eq {x : Int} : cmpI x x = 0 := by simp [cmpI]
theorem cmpI_ne {x y : Int} (h : x ≠ y) : cmpI x y = if x < y then -1 else 1 := by
  unfold cmpI
  split
  · rfl
  · rw [if_pos (by omega)]
/-- of values that may be, both orders are the same -/
theorem cmpV_may {a b : D} (ha : mayV a = true) (hb : mayV b = true) : cmpV a b = rcmpV a b := by
  have hS : ∀ {x y : ByteArray}, x = y → ltS x y = false := fun e => by rw [e]; exact ltS_irr _
  by_cases hk : (D.int (D.fld a 0)) = (D.int (D.fld b 0))
  · have e1 : cmpI ((D.int (D.fld a 0))) ((D.int (D.fld b 0))) = 0 := by rw [hk]; exact cmpI_eq
    simp only [cmpV, firstNZ, int_i, rcmpV, eqV, e1, if_true, hk]
    by_cases k1 : (D.int (D.fld b 0)) = 1
    · rw [mayV, if_pos (hk.trans k1)] at ha
      rw [mayV, if_pos k1] at hb
      simp only [Bool.and_eq_true, decide_eq_true_eq] at ha hb
      obtain ⟨⟨a1, a2⟩, a3⟩ := ha
      obtain ⟨⟨b1, b2⟩, b3⟩ := hb
      rw [a1, b1, a2, b2, a3, b3, cmpI_eq, cmpS_eq, ltS_irr]
      cases (D.bool (D.fld a 1)) <;> cases (D.bool (D.fld b 1)) <;> rfl
    by_cases k2 : (D.int (D.fld b 0)) = 2
    · rw [mayV, if_neg (by omega), if_pos (hk.trans k2)] at ha
      rw [mayV, if_neg k1, if_pos k2] at hb
      simp only [Bool.and_eq_true, decide_eq_true_eq, Bool.not_eq_true'] at ha hb
      obtain ⟨⟨a1, a2⟩, a3⟩ := ha
      obtain ⟨⟨b1, b2⟩, b3⟩ := hb
      rw [a1, b1, a2, b2, a3, b3, cmpI_eq, cmpI_eq, cmpS_eq, ltS_irr]
      by_cases e : (D.int (D.fld a 2)) = (D.int (D.fld b 2))
      · simp [e, cmpI_eq]
      · by_cases hl : (D.int (D.fld a 2)) < (D.int (D.fld b 2)) <;> simp [e, hl, cmpI_ne e]
    by_cases k3 : (D.int (D.fld b 0)) = 3
    · rw [mayV, if_neg (by omega), if_neg (by omega), if_pos (hk.trans k3)] at ha
      rw [mayV, if_neg k1, if_neg k2, if_pos k3] at hb
      simp only [Bool.and_eq_true, decide_eq_true_eq, Bool.not_eq_true'] at ha hb
      obtain ⟨⟨⟨a1, a2⟩, a3⟩, _⟩ := ha
      obtain ⟨⟨⟨b1, b2⟩, b3⟩, _⟩ := hb
      rw [a1, b1, a2, b2, a3, b3, cmpI_eq, cmpI_eq]
      by_cases e : (D.str (D.fld a 3)) = (D.str (D.fld b 3))
      · simp [e, cmpI_eq, cmpS_eq, ltS_irr]
      · by_cases hl : ltS ((D.str (D.fld a 3))) ((D.str (D.fld b 3))) = true
        · simp [e, hl, cmpS_ne e, cmpI_eq]
        · simp only [Bool.not_eq_true] at hl; simp [e, hl, cmpS_ne e, cmpI_eq]
    by_cases k4 : (D.int (D.fld b 0)) = 4
    · rw [mayV, if_neg (by omega), if_neg (by omega), if_neg (by omega), if_pos (hk.trans k4)] at ha
      rw [mayV, if_neg k1, if_neg k2, if_neg k3, if_pos k4] at hb
      simp only [Bool.and_eq_true, decide_eq_true_eq, Bool.not_eq_true'] at ha hb
      obtain ⟨⟨⟨a1, a2⟩, a3⟩, _⟩ := ha
      obtain ⟨⟨⟨b1, b2⟩, b3⟩, _⟩ := hb
      rw [a1, b1, a2, b2, a3, b3, cmpI_eq, cmpI_eq, cmpS_eq, ltS_irr]
      by_cases e : (D.int (D.fld a 4)) = (D.int (D.fld b 4))
      · simp [e, cmpI_eq]
      · by_cases hl : (D.int (D.fld a 4)) < (D.int (D.fld b 4)) <;> simp [e, hl, cmpI_ne e, cmpI_eq]
    · rw [mayV, if_neg k1, if_neg k2, if_neg k3, if_neg k4] at hb
      cases hb
  · have e1 := cmpI_ne hk
    simp only [cmpV, firstNZ, int_i, rcmpV, eqV, e1, hk]
    by_cases hl : (D.int (D.fld a 0)) < (D.int (D.fld b 0)) <;> simp [hl]
def cmpT (a b : D) : Int := firstNZ [.i (cmpS ((D.str (D.fld a 1))) ((D.str (D.fld b 1)))), .i (cmpI ((D.int (D.fld a 0))) ((D.int (D.fld b 0)))), .i (bif mayV ((D.fld a 2)) && mayV ((D.fld b 2)) then cmpV ((D.fld a 2)) ((D.fld b 2)) else 0)]
def rcmpT (a b : D) : Int := if (D.str (D.fld a 1)) ≠ (D.str (D.fld b 1)) then (if ltS ((D.str (D.fld a 1))) ((D.str (D.fld b 1))) = true then -1 else 1) else if (D.int (D.fld a 0)) ≠ (D.int (D.fld b 0)) then (if (D.int (D.fld a 0)) < (D.int (D.fld b 0)) then -1 else 1) else rcmpV ((D.fld a 2)) ((D.fld b 2))
theorem mayT_val {t : D} (h : mayT t = 0) : mayV ((D.fld t 2)) = true := by
  unfold mayT at h
  grind
theorem cmpT_may {a b : D} (ha : mayT a = 0) (hb : mayT b = 0) : cmpT a b = rcmpT a b := by
  have h1 := mayT_val ha
  have h2 := mayT_val hb
  simp only [cmpT, rcmpT, firstNZ, int_i, h1, h2, Bool.and_true, cond_true]
  by_cases hp : (D.str (D.fld a 1)) = (D.str (D.fld b 1))
  · rw [hp, cmpS_eq]
    by_cases hu : (D.int (D.fld a 0)) = (D.int (D.fld b 0))
    · rw [hu, cmpI_eq, cmpV_may h1 h2]
      by_cases h : rcmpV ((D.fld a 2)) ((D.fld b 2)) = 0 <;> simp [h]
    · by_cases hl : (D.int (D.fld a 0)) < (D.int (D.fld b 0)) <;> simp [hu, hl, cmpI_ne hu]
  · by_cases hl : ltS ((D.str (D.fld a 1))) ((D.str (D.fld b 1))) = true
    · simp [hp, hl, cmpS_ne hp]
    · simp only [Bool.not_eq_true] at hl; simp [hp, hl, cmpS_ne hp]
def truC : Con := ⟨[.d true .b], fun ds => [], [.d (.i .i64)], fun ds => (fun (a : D) => [.i (truI a.bool)]) (nthD ds 0), fun ds => []⟩
def truC_an : Anns := fun _ _ => none
theorem truC_vc (a : D) : (bif a.bool then EqI 1 (truI a.bool) else EqI 0 (truI a.bool)) = conGoal Tryz.prog noS truC_an 200 39 truC [a] := by kernel_rfl
theorem truC_ok : ConOK Tryz.prog gl 39 truC := con_of mo (noS_ok _) (an := truC_an) 200 fun ds hl hp => by
  obtain ⟨a, rfl⟩ := len1 hl
  rw [← truC_vc]
  grind [truI]
end Go.Proofs.YtnhfkdgambncfaaGreatDoor.XT
