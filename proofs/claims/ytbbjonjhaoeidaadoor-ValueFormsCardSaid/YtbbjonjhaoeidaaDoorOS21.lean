/- Tools for contracts: data of a type; conditions. Program-agnostic. -/
import Derived.Test.YtbbjonjhaoeidaaDoorOS20
set_option linter.unusedVariables false
set_option linter.unusedSimpArgs false
namespace Go.Proofs.YtbbjonjhaoeidaaDoor.Sv
open Go.RowKit Go.Proofs.YtbbjonjhaoeidaaDoor.W
variable {Γ : Gl}

theorem cond_of {b : Bool} {p q : Prop} (h : b = true → p) (k : b = false → q) : cond b p q := by cases b; exact k rfl; exact h rfl
def LAnn.bad : LAnn := ⟨Unit, fun _ => [], fun _ => [], fun _ => False, fun _ => 0⟩
theorem len0 {ds : List D} (h : ds.length = 0) : ds = [] := List.eq_nil_of_length_eq_zero h
theorem len1 {ds : List D} (h : ds.length = 1) : ∃ a, ds = [a] := List.length_eq_one_iff.1 h
theorem len2 {ds : List D} (h : ds.length = 2) : ∃ a b, ds = [a, b] := by
  match ds, h with
  | [a, b], _ => exact ⟨a, b, rfl⟩
theorem len3 {ds : List D} (h : ds.length = 3) : ∃ a b c, ds = [a, b, c] := by
  match ds, h with
  | [a, b, c], _ => exact ⟨a, b, c, rfl⟩
theorem len4 {ds : List D} (h : ds.length = 4) : ∃ a b c d, ds = [a, b, c, d] := by
  match ds, h with
  | [a, b, c, d], _ => exact ⟨a, b, c, d, rfl⟩
theorem len5 {ds : List D} (h : ds.length = 5) : ∃ a b c d e, ds = [a, b, c, d, e] := by
  match ds, h with
  | [a, b, c, d, e], _ => exact ⟨a, b, c, d, e, rfl⟩
theorem int_i (n : Int) : (D.i n).int = n := rfl
theorem bool_b (x : Bool) : (D.b x).bool = x := rfl
theorem str_s (x : ByteArray) : (D.s x).str = x := rfl
theorem list_l (x : List D) : (D.l x).list = x := rfl
/-- relations of numbers that are closed -/
abbrev condI (b : Bool) (x y : Int) : Int := cond b x y
abbrev EqI (a b : Int) : Prop := a = b
abbrev LeI (a b : Int) : Prop := a ≤ b
abbrev LtI (a b : Int) : Prop := a < b
mutual
/-- a datum, made anew of its parts -/
def etaD : DT → D → D
  | .i _, d => .i d.int
  | .b, d => .b d.bool
  | .s, d => .s d.str
  | .l _, d => .l d.list
  | .t fs, d => .t (etaDs fs d 0)
def etaDs : List DT → D → Nat → List D
  | [], _, _ => []
  | t :: r, d, j => etaD t (d.fld j) :: etaDs r d (j + 1)
end
def putFs : List D → List (Nat × D) → List D
  | xs, [] => xs
  | xs, (j, x) :: r => putFs (setD xs j x) r
/-- a struct's datum with some parts changed -/
def putF (t : DT) (a : D) (l : List (Nat × D)) : D := match t with
  | .t fs => .t (putFs (etaDs fs a 0) l)
  | _ => a
/-- a program of whose variables nothing need be known -/
def Gl.none : Gl := ⟨0, fun _ => True, fun _ _ => Nat.zero_le _, fun _ _ _ _ _ => trivial⟩
/-- no contract at all -/
def noS : Sums := fun _ => none
theorem noS_ok (P : Program) : SumsOK P Γ noS := fun _ _ h => by cases h
def addS (f : FuncId) (c : Con) (S : Sums) : Sums := fun g => bif Nat.beq g f then some c else S g
theorem addS_ok {P : Program} {f : FuncId} {c : Con} {S : Sums} (h : ConOK P Γ f c) (k : SumsOK P Γ S) : SumsOK P Γ (addS f c S) := fun g d hg => by
  unfold addS at hg
  cases hb : Nat.beq g f with
  | true => rw [hb] at hg; cases hg; rw [beq_t hb]; exact h
  | false => rw [hb] at hg; exact k g d hg
mutual
/-- a datum of a type, whose numbers are in range -/
def WT : DT → D → Prop
  | .i k, d => inK k d.int
  | .b, _ => True
  | .s, d => d.str.size ≤ 9223372036854775807
  | .l e, d => d.list.length ≤ 9223372036854775807 ∧ ∀ x ∈ d.list, WT e x
  | .t fs, d => WTs fs d.tup
def WTs : List DT → List D → Prop
  | [], _ => True
  | t :: r, ds => WT t (nthD ds 0) ∧ WTs r (tailD ds)
end
theorem WT.elem {e : DT} {xs : List D} (h : ∀ x ∈ xs, WT e x) {i : Nat} (hi : i < xs.length) : WT e (nthD xs i) := h _ (List.mem_of_getElem? (get_nthD hi))
end Go.Proofs.YtbbjonjhaoeidaaDoor.Sv
