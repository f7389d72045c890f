/- Values in their order: plain laws. -/
import Derived.Test.YtcinjnkgopoclaaGreatDoorQS28
import Derived.Test.YtcinjnkgopoclaaGreatDoorQS24
import Derived.Test.YtcinjnkgopoclaaGreatDoorQPU
set_option linter.unusedVariables false
set_option linter.unusedSimpArgs false
set_option linter.unusedSectionVars false
namespace Go.Proofs.YtcinjnkgopoclaaGreatDoor.XT
open Go Go.RowKit Go.Sort Go.Proofs.YtcinjnkgopoclaaGreatDoor.Sv
set_option maxRecDepth 100000
def valT : DT := .t [(.i .u8), .b, (.i .i64), .s, (.i .u64)]
def mayV (v : D) : Bool := if (D.int (D.fld v 0)) = 1 then decide ((D.int (D.fld v 2)) = 0) && decide ((D.str (D.fld v 3)) = (ByteArray.mk #[])) && decide ((D.int (D.fld v 4)) = 0) else if (D.int (D.fld v 0)) = 2 then !((D.bool (D.fld v 1))) && decide ((D.str (D.fld v 3)) = (ByteArray.mk #[])) && decide ((D.int (D.fld v 4)) = 0) else if (D.int (D.fld v 0)) = 3 then !((D.bool (D.fld v 1))) && decide ((D.int (D.fld v 2)) = 0) && decide ((D.int (D.fld v 4)) = 0) && decide ((((D.str (D.fld v 3))).size : Int) ≤ 4096) else if (D.int (D.fld v 0)) = 4 then !((D.bool (D.fld v 1))) && decide ((D.int (D.fld v 2)) = 0) && decide ((D.str (D.fld v 3)) = (ByteArray.mk #[])) && decide (0 < (D.int (D.fld v 4))) else false

def firstNZ : List D → Int
  | [] => 0
  | d :: r => if d.int = 0 then firstNZ r else d.int
theorem firstNZ_drop {xs : List D} {k : Nat} (h : k < xs.length) : firstNZ (xs.drop k) = if (nthD xs k).int = 0 then firstNZ (xs.drop (k + 1)) else (nthD xs k).int := by
  rw [List.drop_eq_getElem_cons h, firstNZ]
  have : xs[k] = nthD xs k := by
    have := get_nthD h
    rw [List.getElem?_eq_getElem h] at this
    exact Option.some.inj this
  rw [this]

abbrev ltS (x y : ByteArray) : Bool := Op.bytesLess x.toList y.toList
def cmpI (x y : Int) : Int := if x < y then -1 else if y < x then 1 else 0
def cmpS (x y : ByteArray) : Int := if ltS x y = true then -1 else if ltS y x = true then 1 else 0
theorem bl_irr : ∀ x : List UInt8, Op.bytesLess x x = false
  | [] => rfl
  | a :: x => by simp [Op.bytesLess, bl_irr x]
theorem bl_tot : ∀ {x y : List UInt8}, x ≠ y → Op.bytesLess x y = !Op.bytesLess y x
  | [], [], h => absurd rfl h
  | [], _ :: _, _ => by simp [Op.bytesLess]
  | _ :: _, [], _ => by simp [Op.bytesLess]
  | a :: x, b :: y, h => by
    simp only [Op.bytesLess]
    by_cases hab : a = b
    · subst hab
      have h' : x ≠ y := fun e => h (by rw [e])
      rw [bl_tot h']; simp
    · have h1 : ¬ b = a := fun e => hab e.symm
      rcases Nat.lt_or_ge a.toNat b.toNat with hl | hl
      · have hl1 : a < b := UInt8.lt_iff_toNat_lt.2 hl
        have hl2 : ¬ b < a := fun hh => by have := UInt8.lt_iff_toNat_lt.1 hh; omega
        simp [hl1, hl2, hab, h1]
      · have hne : a.toNat ≠ b.toNat := fun e => hab (UInt8.toNat_inj.1 e)
        have hl1 : b < a := UInt8.lt_iff_toNat_lt.2 (by omega)
        have hl2 : ¬ a < b := fun hh => by have := UInt8.lt_iff_toNat_lt.1 hh; omega
        simp [hl1, hl2, hab, h1]
theorem toList_inj {x y : ByteArray} (h : x.toList = y.toList) : x = y := by
  rw [ByteArray.toList_eq, ByteArray.toList_eq] at h
  exact ByteArray.ext (Array.ext' h)
theorem ltS_irr (x : ByteArray) : ltS x x = false := bl_irr _
theorem ltS_tot {x y : ByteArray} (h : x ≠ y) : ltS x y = !ltS y x := bl_tot fun e => h (toList_inj e)
theorem gtS (x y : ByteArray) : (!(ltS x y || decide (x = y))) = ltS y x := by
  by_cases h : x = y
  · subst h; simp [ltS_irr]
  · rw [ltS_tot (x := y) (y := x) (fun e => h e.symm)]; simp [h]
def truI (b : Bool) : Int := bif b then 1 else 0
def cmpV (a b : D) : Int := firstNZ [.i (cmpI ((D.int (D.fld a 0))) ((D.int (D.fld b 0)))), .i (cmpI (truI ((D.bool (D.fld a 1)))) (truI ((D.bool (D.fld b 1))))), .i (cmpI ((D.int (D.fld a 2))) ((D.int (D.fld b 2)))), .i (cmpS ((D.str (D.fld a 3))) ((D.str (D.fld b 3)))), .i (cmpI ((D.int (D.fld a 4))) ((D.int (D.fld b 4))))]
def eqV (a b : D) : Bool := decide ((D.int (D.fld a 0)) = (D.int (D.fld b 0))) && ((D.bool (D.fld a 1)) == (D.bool (D.fld b 1))) && decide ((D.int (D.fld a 2)) = (D.int (D.fld b 2))) && decide ((D.str (D.fld a 3)) = (D.str (D.fld b 3))) && decide ((D.int (D.fld a 4)) = (D.int (D.fld b 4)))
def rcmpV (a b : D) : Int := if eqV a b = true then 0 else if (if (D.int (D.fld a 0)) = (D.int (D.fld b 0)) then (!((D.bool (D.fld a 1))) && (D.bool (D.fld b 1)) || decide ((D.int (D.fld a 2)) < (D.int (D.fld b 2))) || ltS ((D.str (D.fld a 3))) ((D.str (D.fld b 3))) || decide ((D.int (D.fld a 4)) < (D.int (D.fld b 4)))) else decide ((D.int (D.fld a 0)) < (D.int (D.fld b 0)))) = true then -1 else 1
theorem cmpS_eq {x : ByteArray} : cmpS x x = 0 := by simp [cmpS, ltS_irr]
theorem cmpS_ne {x y : ByteArray} (h : x ≠ y) : cmpS x y = if ltS x y = true then -1 else 1 := by
  unfold cmpS
  by_cases e : ltS x y = true
  · rw [if_pos e, if_pos e]
  · have : ltS y x = true := by rw [ltS_tot (fun e => h e.symm)]; simpa using e
    rw [if_neg e, if_pos this, if_neg e]
theorem cmpI_eq {x : Int} : cmpI x x = 0 := by simp [cmpI]
theorem cmpI_ne {x y : Int} (h : x ≠ y) : cmpI x y = if x < y then -1 else 1 := by
  unfold cmpI
  split
  · rfl
  · rw [if_pos (by omega)]
/-- of values that may be, both orders are the same -/
theorem cmpV_may {a b : D} (ha : mayV a = true) (hb : mayV b = true) : cmpV a b = rcmpV a b := by
  have hS : ∀ {x y : ByteArray}, x = y → ltS x y = false := fun e => by rw [e]; exact ltS_irr _
  by_cases hk : (D.int (D.fld a 0)) = (D.int (D.fld b 0))
  · have e1 : cmpI ((D.int (D.fld a 0))) ((D.int (D.fld b 0))) = 0 := by rw [hk]; exact cmpI_eq
    simp only [cmpV, firstNZ, int_i, rcmpV, eqV, e1, if_true, hk]
    by_cases k1 : (D.int (D.fld b 0)) = 1
    · rw [mayV, if_pos (hk.trans k1)] at ha
      rw [mayV, if_pos k1] at hb
      simp only [Bool.and_eq_true, decide_eq_true_eq] at ha hb
      obtain ⟨⟨a1, a2⟩, a3⟩ := ha
      obtain ⟨⟨b1, b2⟩, b3⟩ := hb
      rw [a1, b1, a2, b2, a3, b3, cmpI_eq, cmpS_eq, ltS_irr]
      cases (D.bool (D.fld a 1)) <;> cases (D.bool (D.fld b 1)) <;> rfl
    by_cases k2 : (D.int (D.fld b 0)) = 2
    · rw [mayV, if_neg (by omega), if_pos (hk.trans k2)] at ha
      rw [mayV, if_neg k1, if_pos k2] at hb
      simp only [Bool.and_eq_true, decide_eq_true_eq, Bool.not_eq_true'] at ha hb
      obtain ⟨⟨a1, a2⟩, a3⟩ := ha
      obtain ⟨⟨b1, b2⟩, b3⟩ := hb
      rw [a1, b1, a2, b2, a3, b3, cmpI_eq, cmpI_eq, cmpS_eq, ltS_irr]
      by_cases e : (D.int (D.fld a 2)) = (D.int (D.fld b 2))
      · simp [e, cmpI_eq]
      · by_cases hl : (D.int (D.fld a 2)) < (D.int (D.fld b 2)) <;> simp [e, hl, cmpI_ne e]
    by_cases k3 : (D.int (D.fld b 0)) = 3
    · rw [mayV, if_neg (by omega), if_neg (by omega), if_pos (hk.trans k3)] at ha
      rw [mayV, if_neg k1, if_neg k2, if_pos k3] at hb
      simp only [Bool.and_eq_true, decide_eq_true_eq, Bool.not_eq_true'] at ha hb
      obtain ⟨⟨⟨a1, a2⟩, a3⟩, _⟩ := ha
      obtain ⟨⟨⟨b1, b2⟩, b3⟩, _⟩ := hb
      rw [a1, b1, a2, b2, a3, b3, cmpI_eq, cmpI_eq]
      by_cases e : (D.str (D.fld a 3)) = (D.str (D.fld b 3))
      · simp [e, cmpI_eq, cmpS_eq, ltS_irr]
      · by_cases hl : ltS ((D.str (D.fld a 3))) ((D.str (D.fld b 3))) = true
        · simp [e, hl, cmpS_ne e, cmpI_eq]
        · simp only [Bool.not_eq_true] at hl; simp [e, hl, cmpS_ne e, cmpI_eq]
    by_cases k4 : (D.int (D.fld b 0)) = 4
    · rw [mayV, if_neg (by omega), if_neg (by omega), if_neg (by omega), if_pos (hk.trans k4)] at ha
      rw [mayV, if_neg k1, if_neg k2, if_neg k3, if_pos k4] at hb
      simp only [Bool.and_eq_true, decide_eq_true_eq, Bool.not_eq_true'] at ha hb
      obtain ⟨⟨⟨a1, a2⟩, a3⟩, _⟩ := ha
      obtain ⟨⟨⟨b1, b2⟩, b3⟩, _⟩ := hb
      rw [a1, b1, a2, b2, a3, b3, cmpI_eq, cmpI_eq, cmpS_eq, ltS_irr]
      by_cases e : (D.int (D.fld a 4)) = (D.int (D.fld b 4))
      · simp [e, cmpI_eq]
      · by_cases hl : (D.int (D.fld a 4)) < (D.int (D.fld b 4)) <;> simp [e, hl, cmpI_ne e, cmpI_eq]
    · rw [mayV, if_neg k1, if_neg k2, if_neg k3, if_neg k4] at hb
      cases hb
  · have e1 := cmpI_ne hk
    simp only [cmpV, firstNZ, int_i, rcmpV, eqV, e1, hk]
    by_cases hl : (D.int (D.fld a 0)) < (D.int (D.fld b 0)) <;> simp [hl]
theorem bl_lt : ∀ x y : List UInt8, Op.bytesLess x y = decide (x < y)
  | [], [] => by simp [Op.bytesLess]
  | [], b :: y => by simp [Op.bytesLess]
  | a :: x, [] => by simp [Op.bytesLess]
  | a :: x, b :: y => by
    have ih := bl_lt x y
    simp only [Op.bytesLess, ih, List.cons_lt_cons_iff]
    by_cases h1 : a < b
    · simp [h1]
    · by_cases h2 : a = b
      · subst h2; simp [h1]
      · have h3 : b < a := by
          have := UInt8.lt_iff_toNat_lt (a := a) (b := b)
          have h4 : ¬ a.toNat = b.toNat := fun e => h2 (UInt8.toNat_inj.1 e)
          exact UInt8.lt_iff_toNat_lt.2 (by have h5 : ¬ a.toNat < b.toNat := fun k => h1 (UInt8.lt_iff_toNat_lt.2 k); omega)
        simp [h1, h2, h3]

theorem ltS_tr {x y z : ByteArray} (h1 : ltS x y = true) (h2 : ltS y z = true) : ltS x z = true := by
  rw [ltS, bl_lt, decide_eq_true_iff] at *
  exact List.lt_trans h1 h2
/-! ### A comparison that parts all -/
structure Good {α : Type} (c : α → α → Int) : Prop where
  eq0 : ∀ x y, c x y = 0 ↔ x = y
  anti : ∀ x y, c x y < 0 ↔ 0 < c y x
  tr : ∀ x y z, c x y < 0 → c y z < 0 → c x z < 0
theorem goodI : Good cmpI where
  eq0 x y := by unfold cmpI; (repeat' split) <;> omega
  anti x y := by unfold cmpI; (repeat' split) <;> omega
  tr x y z := by unfold cmpI; (repeat' split) <;> omega
theorem goodB : Good fun x y : Bool => cmpI (truI x) (truI y) where
  eq0 x y := by cases x <;> cases y <;> decide
  anti x y := by cases x <;> cases y <;> decide
  tr x y z := by cases x <;> cases y <;> cases z <;> decide
theorem goodS : Good cmpS where
  eq0 x y := by
    constructor
    · intro h
      apply Classical.byContradiction
      intro hne
      rw [cmpS_ne hne] at h
      split at h <;> omega
    · rintro rfl; exact cmpS_eq
  anti x y := by
    by_cases h : x = y
    · subst h; rw [cmpS_eq]
    · rw [cmpS_ne h, cmpS_ne (fun e => h e.symm), ltS_tot h]
      cases ltS y x <;> simp
  tr x y z h1 h2 := by
    have k : ∀ {a b}, cmpS a b < 0 → ltS a b = true := by
      intro a b h
      unfold cmpS at h
      split at h
      · assumption
      · split at h <;> omega
    unfold cmpS
    rw [if_pos (ltS_tr (k h1) (k h2))]
    omega
def lexC {α β : Type} (c : α → α → Int) (d : β → β → Int) (x y : α × β) : Int := if c x.1 y.1 = 0 then d x.2 y.2 else c x.1 y.1
theorem Good.lex {α β : Type} {c : α → α → Int} {d : β → β → Int} (hc : Good c) (hd : Good d) : Good (lexC c d) where
  eq0 x y := by
    obtain ⟨a, b⟩ := x; obtain ⟨a', b'⟩ := y
    unfold lexC
    simp only [Prod.mk.injEq]
    by_cases h : c a a' = 0
    · rw [if_pos h, hd.eq0]; exact ⟨fun k => ⟨(hc.eq0 _ _).1 h, k⟩, fun k => k.2⟩
    · rw [if_neg h]; exact ⟨fun k => absurd k h, fun k => absurd ((hc.eq0 _ _).2 k.1) h⟩
  anti x y := by
    obtain ⟨a, b⟩ := x; obtain ⟨a', b'⟩ := y
    unfold lexC
    by_cases h : c a a' = 0
    · have e := (hc.eq0 _ _).1 h
      subst e
      simp only [h, if_true]; exact hd.anti _ _
    · have h' : ¬ c a' a = 0 := fun k => h ((hc.eq0 _ _).2 ((hc.eq0 _ _).1 k).symm)
      simp only [h, h', if_false]; exact hc.anti _ _
  tr x y z h1 h2 := by
    obtain ⟨a, b⟩ := x; obtain ⟨a', b'⟩ := y; obtain ⟨a2, b2⟩ := z
    unfold lexC at *
    simp only at *
    by_cases h : c a a' = 0
    · have e := (hc.eq0 _ _).1 h
      subst e
      rw [if_pos h] at h1
      by_cases k : c a a2 = 0
      · rw [if_pos k] at h2 ⊢; exact hd.tr _ _ _ h1 h2
      · rw [if_neg k] at h2 ⊢; exact h2
    · rw [if_neg h] at h1
      by_cases k : c a' a2 = 0
      · have e := (hc.eq0 _ _).1 k
        subst e
        rw [if_neg h]; exact h1
      · rw [if_neg k] at h2
        have := hc.tr _ _ _ h1 h2
        rw [if_neg (by omega)]; exact this
theorem Good.irr {α : Type} {c : α → α → Int} (h : Good c) (x : α) : c x x = 0 := (h.eq0 _ _).2 rfl
theorem Good.swo {α : Type} {c : α → α → Int} (h : Good c) : SWO (ltOf c) where
  irrefl x := by simp [ltOf, h.irr]
  trans x y z h1 h2 := by simp only [ltOf, decide_eq_true_eq] at *; exact h.tr _ _ _ h1 h2
  ntrans x y z h1 h2 := by
    simp only [ltOf, decide_eq_false_iff_not] at *
    intro h3
    by_cases e1 : c x y = 0
    · rw [(h.eq0 _ _).1 e1] at h3; exact h2 h3
    · have h4 : c y x < 0 := (h.anti _ _).2 (by omega)
      exact h2 (h.tr _ _ _ h4 h3)
theorem Good.tot {α : Type} {c : α → α → Int} (h : Good c) (x y : α) (h1 : ltOf c x y = false) (h2 : ltOf c y x = false) : x = y := by
  simp only [ltOf, decide_eq_false_iff_not] at *
  refine (h.eq0 _ _).1 ?_
  have := h.anti y x
  omega
theorem Good.ord {α : Type} {c : α → α → Int} (h : Good c) : Ord1 (ltOf c) where
  irr := h.swo.irrefl
  tr := h.swo.trans
  tot x y hne := by
    cases h1 : ltOf c x y with
    | true => exact .inl rfl
    | false =>
      cases h2 : ltOf c y x with
      | true => exact .inr rfl
      | false => exact absurd (h.tot x y h1 h2) hne
/-- sorted by the library, runs of equals dropped: each put into its place in a rising list -/
theorem Good.sort_ris {α : Type} [DecidableEq α] {c : α → α → Int} (h : Good c) (xs : List α) : dd none (xs.mergeSort fun x y => !ltOf c y x) = risL (ltOf c) xs := by
  refine dd_ris h.ord ?_ fun a => List.mem_mergeSort
  have := List.pairwise_mergeSort (le := fun x y => !ltOf c y x) (fun a b d h1 h2 => ?_) (fun a b => ?_) xs
  · exact this.imp fun k => by simpa using k
  · simp only [Bool.not_eq_true'] at *; exact h.swo.ntrans _ _ _ h2 h1
  · cases h1 : ltOf c b a with
    | false => rfl
    | true =>
      cases h2 : ltOf c a b with
      | false => rfl
      | true => have := h.swo.trans _ _ _ h1 h2; rw [h.swo.irrefl] at this; cases this
/-! ### A value -/
abbrev V := Int × Bool × Int × ByteArray × Int
def encV (v : V) : List Value := [.int .u8 v.1, .bool v.2.1, .int .i64 v.2.2.1, .string v.2.2.2.1, .int .u64 v.2.2.2.2]
def ofV (d : D) : V := ((D.int (D.fld d 0)), (D.bool (D.fld d 1)), (D.int (D.fld d 2)), (D.str (D.fld d 3)), (D.int (D.fld d 4)))
def toV (v : V) : D := .t [.i v.1, .b v.2.1, .i v.2.2.1, .s v.2.2.2.1, .i v.2.2.2.2]
theorem of_toV (v : V) : ofV (toV v) = v := rfl
def cfV : V → V → Int := lexC cmpI (lexC (fun x y => cmpI (truI x) (truI y)) (lexC cmpI (lexC cmpS cmpI)))
theorem goodV : Good cfV := goodI.lex (goodB.lex (goodI.lex (goodS.lex goodI)))
theorem cmpV_cf (a b : D) : cmpV a b = cfV (ofV a) (ofV b) := by
  unfold cmpV cfV lexC ofV
  simp only [firstNZ, int_i]
  by_cases e : cmpI ((D.int (D.fld a 4))) ((D.int (D.fld b 4))) = 0
  · simp only [e, if_true]
  · simp only [e, if_false]
theorem encV_len (v : V) : (encV v).length = 5 := rfl
theorem encV_one (v : V) : ∀ x ∈ encV v, x.oneCell' = true := by
  intro x hx
  simp only [encV, List.mem_cons, List.not_mem_nil, or_false] at hx
  rcases hx with rfl | rfl | rfl | rfl | rfl <;> rfl
theorem rdV (F : Fz) (x : D) (l : List Value) (h : Sv.Rd F valT x l) : l = encV (ofV x) := by
  simp only [valT, Sv.Rd, Sv.Rds, nthD_tail] at h
  obtain ⟨_, _, rfl, rfl, _, _, rfl, rfl, _, _, rfl, rfl, _, _, rfl, rfl, _, _, rfl, rfl, rfl⟩ := h
  rfl
theorem rdV' (F : Fz) (v : V) : Sv.Rd F valT (toV v) (encV v) := by
  simp only [valT, Sv.Rd, Sv.Rds]
  exact ⟨_, _, rfl, rfl, _, _, rfl, rfl, _, _, rfl, rfl, _, _, rfl, rfl, [_], [], rfl, rfl, rfl⟩
end Go.Proofs.YtcinjnkgopoclaaGreatDoor.XT
