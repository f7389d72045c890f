/- What came in, as the laws' contracts ask for it. -/
import Derived.Test.YtnhfkdgambncfaaGreatDoorQTO5
set_option linter.unusedVariables false
set_option linter.unusedSimpArgs false
set_option linter.unusedSectionVars false
namespace Go.Proofs.YtnhfkdgambncfaaGreatDoor.XT
open Go Go.RowKit Go.Proofs.YtnhfkdgambncfaaGreatDoor.Sv Go.Proofs.YtnhfkdgambncfaaGreatDoor.W
theorem inK64 {n : Int} (h : inK .u64 n) : inU n := by
  have h1 : (0 : Int) ≤ n := h.1
  have h2 : n ≤ (18446744073709551615 : Int) := h.2
  omega
theorem inKi64 {n : Int} (h : inK .i64 n) : I64 n := by
  have h1 : (-9223372036854775808 : Int) ≤ n := h.1
  have h2 : n ≤ (9223372036854775807 : Int) := h.2
  omega
theorem inK8 {n : Int} (h : inK .u8 n) : 0 ≤ n ∧ n < 256 := by
  have h1 : (0 : Int) ≤ n := h.1
  have h2 : n ≤ (255 : Int) := h.2
  omega
theorem fld_eq (d : D) (k : Nat) : d.fld k = nthD d.tup k := rfl
theorem gt_val {B : Nat} {d : D} (h : GT B valT d) : okV d ∧ ((D.str (D.fld d 3))).size ≤ B := by
  simp only [valT, GT, GTs, nthD_tail] at h
  obtain ⟨h1, -, h3, h4, h5, -⟩ := h
  exact ⟨⟨(inK8 h1).1, (inK8 h1).2, inKi64 h3, inK64 h5⟩, h4⟩
theorem gt_tri {B : Nat} {d : D} (h : GT B triT d) : inU ((D.int (D.fld d 0))) ∧ ((D.str (D.fld d 1))).size ≤ B ∧ okV ((D.fld d 2)) ∧ ((D.str (D.fld ((D.fld d 2)) 3))).size ≤ B := by
  simp only [triT, GT, GTs, nthD_tail] at h
  obtain ⟨h1, h2, h3, -⟩ := h
  exact ⟨inK64 h1, h2, gt_val h3⟩
theorem gt_tri' {B : Nat} (hB : B ≤ 9223372036854775807) {d : D} (h : GT B triT d) : okT d := by
  obtain ⟨h1, h2, h3, _⟩ := gt_tri h
  exact ⟨h1, Nat.le_trans h2 hB, h3⟩
theorem gt_wr {B : Nat} {d : D} (h : GT B wrT d) : GT B triT ((D.fld d 1)) := by
  simp only [wrT, GT, GTs, nthD_tail] at h
  exact h.2.1
theorem gt_sch {B : Nat} {d : D} (h : GT B schT d) : ((D.str (D.fld d 0))).size ≤ B := by
  simp only [schT, GT, GTs, nthD_tail] at h
  exact h.1
theorem rb : reachBytes ≤ 9223372036854775807 := by decide
theorem gt_list {B : Nat} {e : DT} {d : D} (h : GT B (.l e) d) : d.list.length ≤ B ∧ ∀ x ∈ d.list, GT B e x := by
  simpa only [GT] using h
theorem clm_pre (ds : List D) (hl : ds.length = 4) (hg : GTs reachBytes [.l schT, .l wrT, .l .s, .l .s] ds) : ∀ p ∈ claimsLC.pre ds, p := by
  match ds, hl with
  | [a, b, c, d], _ =>
  obtain ⟨h1, h2, h3, h4, -⟩ := hg
  have rbb : reachBytes < 4611686018427387904 := by decide
  intro p hp
  simp only [claimsLC, nthD, List.mem_cons, List.not_mem_nil, or_false] at hp
  rcases hp with rfl | rfl | rfl | rfl | rfl | rfl
  · exact Nat.lt_of_le_of_lt (gt_list h1).1 rbb
  · exact Nat.lt_of_le_of_lt (gt_list h2).1 rbb
  · exact Nat.lt_of_le_of_lt (gt_list h3).1 rbb
  · exact Nat.lt_of_le_of_lt (gt_list h4).1 rbb
  · exact fun s hs => Nat.le_trans (gt_sch ((gt_list h1).2 s hs)) rb
  · exact fun x hx => gt_tri' rb (gt_wr ((gt_list h2).2 x hx))
end Go.Proofs.YtnhfkdgambncfaaGreatDoor.XT
