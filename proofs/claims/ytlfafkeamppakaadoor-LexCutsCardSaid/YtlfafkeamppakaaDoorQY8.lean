/- Contracts, by the symbolic evaluator. -/
import Derived.Test.YtlfafkeamppakaaDoorQY3
import Derived.Test.YtlfafkeamppakaaDoorProg
import Derived.Test.YtlfafkeamppakaaDoorQY7
import Derived.Test.YtlfafkeamppakaaDoorQYN
set_option linter.unusedVariables false
set_option linter.unusedSimpArgs false
namespace Go.Proofs.YtlfafkeamppakaaDoor.XT
open Go Go.RowKit Go.Proofs.YtlfafkeamppakaaDoor.Sv
set_option maxRecDepth 100000
structure NmI (L : List Int) (j : Nat) (n : Int) : Prop where
  h : nmI L j n
theorem lxn_body {s : ByteArray} {p q : Nat} (hs : s.size ≤ 1099511627776) (hpq : p ≤ q) (h0 : (bdL ((bys s).drop p)).getD 0 0 ≠ 48) (k : Nat) (n : Int) (hg : q ≤ k ∧ k ≤ s.size ∧ NmI ((bys s).drop p) (k - p) n) :
    (decide ((k : Int) < (s.size : Int)) = true → Idx (k : Int) s.size) ∧ bif decide ((k : Int) < (s.size : Int)) && dgC (byteAt' s k) then s = s ∧ (k : Int) = (k : Int) ∧ I64 ((k : Int) + 1) ∧ 0 ≤ (p : Int) ∧ (p : Int) ≤ (k : Int) + 1 ∧ (k : Int) + 1 ≤ (s.size : Int) ∧ EqI 10 10 ∧ EqI 64 64 ∧ (s.extract (p : Int).toNat ((k : Int) + 1).toNat).size ≤ 281474976710656 ∧ bif piX (s.extract (p : Int).toNat ((k : Int) + 1).toNat) then s = s ∧ (k : Int) = (p : Int) + (nmK ((bys s).drop p) : Int) ∧ EqI 0 (nmV ((bys s).drop p)) ∧ false = nmO ((bys s).drop p) else I64 ((k : Int) + 1) ∧ ∃ (g_1 : Nat × Int), piV (s.extract (p : Int).toNat ((k : Int) + 1).toNat) = g_1.snd ∧ s = s ∧ (k : Int) + 1 = (g_1.fst : Int) ∧ (q ≤ g_1.fst ∧ g_1.fst ≤ s.size ∧ NmI ((bys s).drop p) (g_1.fst - p) g_1.snd) ∧ s.size - g_1.fst < s.size - k else 0 ≤ (k : Int) ∧ (k : Int) ≤ (s.size : Int) ∧ s.size ≤ 1099511627776 ∧ s = s ∧ (k : Int) = (p : Int) + (nmK ((bys s).drop p) : Int) ∧ n = nmV ((bys s).drop p) ∧ aloL (rst (.t [.s s, .i (k : Int)])) = nmO ((bys s).drop p) := by
  obtain ⟨k1, k2, ⟨hI⟩⟩ := hg
  have ek : ((bys s).drop p).drop (k - p) = (bys s).drop k := by rw [List.drop_drop]; congr 1; omega
  refine ⟨fun h => ⟨by omega, by have := of_decide_eq_true h; omega⟩, cond_of (fun d => ?_) (fun d => ?_)⟩
  · simp only [Bool.and_eq_true, decide_eq_true_eq] at d
    have hk : k < s.size := by omega
    have e1 : ((p : Nat) : Int).toNat = p := rfl
    have e2 : ((k : Int) + 1).toNat = k + 1 := rfl
    rw [e1, e2]
    have hx := nmI_next (s := s.extract p (k + 1)) (fun c hc => bys_all_in _ c (List.mem_of_mem_drop hc)) hI h0 (by rw [ek, bys_drop hk]) d.2 (by rw [bys_extract]; congr 1; omega)
    refine ⟨rfl, rfl, ⟨by omega, by omega⟩, by omega, by omega, by omega, rfl, rfl, by rw [extract_size _ _ _ (by omega)]; omega, cond_of (fun e => ?_) (fun e => ?_)⟩
    · obtain ⟨x1, x2, x3⟩ := hx.2 e
      exact ⟨rfl, by omega, x2.symm, x3.symm⟩
    · exact ⟨⟨by omega, by omega⟩, (k + 1, _), rfl, rfl, rfl, ⟨by simp only; omega, by simp only; omega, ⟨by have := hx.1 e; rw [show k + 1 - p = k - p + 1 by omega]; exact this⟩⟩, by simp only; omega⟩
  · obtain ⟨x1, x2, x3⟩ := nmI_end hI h0 (fun c r hc => by
      rw [ek] at hc
      by_cases hk : k < s.size
      · rw [bys_drop hk] at hc
        rw [decide_eq_true (show (k : Int) < (s.size : Int) by omega), Bool.true_and] at d
        rw [← (List.cons.inj hc).1]; exact d
      · rw [bys_end (by omega)] at hc; cases hc)
    rw [ek] at x3
    exact ⟨by omega, by omega, hs, rfl, by omega, x1, x3⟩
def lxnC : Con := ⟨[.box 51 [.s, (.i .i64)]], fun ds => (fun (a : D) => [0 ≤ (D.int (D.fld a 1)), (D.int (D.fld a 1)) ≤ ((D.str (D.fld a 0))).size, ((D.str (D.fld a 0))).size ≤ 1099511627776, (D.int (D.fld a 1)) < ((D.str (D.fld a 0))).size, dgC ((rst a).getD 0 0) = true ∨ (rst a).getD 0 0 = 45 ∧ dgC ((rst a).getD 1 0) = true]) (nthD ds 0), [.d (.i .i64), .d .b], fun ds => (fun (a : D) => [.i (nmV (rst a)), .b (nmO (rst a))]) (nthD ds 0), fun ds => (fun (a : D) => [.t [.s ((D.str (D.fld a 0))), .i ((D.int (D.fld a 1)) + nmK (rst a))]]) (nthD ds 0)⟩
def lxnC_an : Anns := fun f i => match f, i with
  | 37, 10 => some fun A st => match A.get 4, st.h.get 0 with
    | some (.v (.int _ f)), some (.c t [.v (.string s), .v (.int _ p)]) => ⟨Nat × Int, fun g => [(5, .v (.int .i64 g.2))], fun g => [(0, .c t [.v (.string s), .v (.int .i64 g.1)])], fun g => p.toNat ≤ g.1 ∧ g.1 ≤ s.size ∧ NmI ((bys s).drop f.toNat) (g.1 - f.toNat) g.2, fun g => s.size - g.1⟩
    | _, _ => LAnn.bad
  | _, _ => none
theorem lxnC_vc (a : D) : (0 ≤ (a.fld 1).int ∧ (a.fld 1).int ≤ (↑(a.fld 0).str.size : Int) ∧ (a.fld 0).str.size ≤ 1099511627776 ∧ LeI 0 0 ∧ LeI 0 1 ∧ bif decide ((rst (D.t [D.s (a.fld 0).str, D.i (a.fld 1).int])).getD (Int.toNat 0) 0 = 45) then I64 ((a.fld 1).int + 1) ∧ 0 ≤ (a.fld 1).int + 1 ∧ (a.fld 1).int + 1 ≤ (↑(a.fld 0).str.size : Int) ∧ (a.fld 0).str.size ≤ 1099511627776 ∧ LeI 0 0 ∧ LeI 0 1 ∧ bif decide ((rst (D.t [D.s (a.fld 0).str, D.i ((a.fld 1).int + 1)])).getD (Int.toNat 0) 0 = 48) then (a.fld 0).str = (a.fld 0).str ∧ (a.fld 1).int + 1 = (a.fld 1).int + (↑(nmK (rst a)) : Int) ∧ EqI 0 (nmV (rst a)) ∧ false = nmO (rst a) else 0 ≤ (a.fld 1).int + 1 ∧ (a.fld 1).int + 1 ≤ (↑(a.fld 0).str.size : Int) ∧ (a.fld 0).str.size ≤ 1099511627776 ∧ LeI 0 0 ∧ LeI 0 1 ∧ bif decide ((rst (D.t [D.s (a.fld 0).str, D.i ((a.fld 1).int + 1)])).getD (Int.toNat 0) 0 = 48) then I64 ((a.fld 1).int + 1 + 1) ∧ 0 ≤ (a.fld 1).int + 1 + 1 ∧ (a.fld 1).int + 1 + 1 ≤ (↑(a.fld 0).str.size : Int) ∧ (a.fld 0).str.size ≤ 1099511627776 ∧ (a.fld 0).str = (a.fld 0).str ∧ (a.fld 1).int + 1 + 1 = (a.fld 1).int + (↑(nmK (rst a)) : Int) ∧ EqI 0 (nmV (rst a)) ∧ aloL (rst (D.t [D.s (a.fld 0).str, D.i ((a.fld 1).int + 1 + 1)])) = nmO (rst a) else ∃ (g : Nat × Int), EqI 0 g.snd ∧ (a.fld 0).str = (a.fld 0).str ∧ (a.fld 1).int + 1 = (↑g.fst : Int) ∧ (((a.fld 1).int + 1).toNat ≤ g.fst ∧ g.fst ≤ (a.fld 0).str.size ∧ NmI (List.drop (a.fld 1).int.toNat (bys (a.fld 0).str)) (g.fst - (a.fld 1).int.toNat) g.snd) ∧ ∀ (g : Nat × Int), ((a.fld 1).int + 1).toNat ≤ g.fst ∧ g.fst ≤ (a.fld 0).str.size ∧ NmI (List.drop (a.fld 1).int.toNat (bys (a.fld 0).str)) (g.fst - (a.fld 1).int.toNat) g.snd → (decide ((↑g.fst : Int) < (↑(a.fld 0).str.size : Int)) = true → Idx (↑g.fst : Int) (a.fld 0).str.size) ∧ bif decide ((↑g.fst : Int) < (↑(a.fld 0).str.size : Int)) && dgC (byteAt' (a.fld 0).str g.fst) then (a.fld 0).str = (a.fld 0).str ∧ (↑g.fst : Int) = (↑g.fst : Int) ∧ I64 ((↑g.fst : Int) + 1) ∧ 0 ≤ (a.fld 1).int ∧ (a.fld 1).int ≤ (↑g.fst : Int) + 1 ∧ (↑g.fst : Int) + 1 ≤ (↑(a.fld 0).str.size : Int) ∧ EqI 10 10 ∧ EqI 64 64 ∧ ((a.fld 0).str.extract (a.fld 1).int.toNat ((↑g.fst : Int) + 1).toNat).size ≤ 281474976710656 ∧ bif piX ((a.fld 0).str.extract (a.fld 1).int.toNat ((↑g.fst : Int) + 1).toNat) then (a.fld 0).str = (a.fld 0).str ∧ (↑g.fst : Int) = (a.fld 1).int + (↑(nmK (rst a)) : Int) ∧ EqI 0 (nmV (rst a)) ∧ false = nmO (rst a) else I64 ((↑g.fst : Int) + 1) ∧ ∃ (g_1 : Nat × Int), piV ((a.fld 0).str.extract (a.fld 1).int.toNat ((↑g.fst : Int) + 1).toNat) = g_1.snd ∧ (a.fld 0).str = (a.fld 0).str ∧ (↑g.fst : Int) + 1 = (↑g_1.fst : Int) ∧ (((a.fld 1).int + 1).toNat ≤ g_1.fst ∧ g_1.fst ≤ (a.fld 0).str.size ∧ NmI (List.drop (a.fld 1).int.toNat (bys (a.fld 0).str)) (g_1.fst - (a.fld 1).int.toNat) g_1.snd) ∧ (a.fld 0).str.size - g_1.fst < (a.fld 0).str.size - g.fst else 0 ≤ (↑g.fst : Int) ∧ (↑g.fst : Int) ≤ (↑(a.fld 0).str.size : Int) ∧ (a.fld 0).str.size ≤ 1099511627776 ∧ (a.fld 0).str = (a.fld 0).str ∧ (↑g.fst : Int) = (a.fld 1).int + (↑(nmK (rst a)) : Int) ∧ g.snd = nmV (rst a) ∧ aloL (rst (D.t [D.s (a.fld 0).str, D.i (↑g.fst : Int)])) = nmO (rst a) else 0 ≤ (a.fld 1).int ∧ (a.fld 1).int ≤ (↑(a.fld 0).str.size : Int) ∧ (a.fld 0).str.size ≤ 1099511627776 ∧ LeI 0 0 ∧ LeI 0 1 ∧ bif decide ((rst (D.t [D.s (a.fld 0).str, D.i (a.fld 1).int])).getD (Int.toNat 0) 0 = 48) then I64 ((a.fld 1).int + 1) ∧ 0 ≤ (a.fld 1).int + 1 ∧ (a.fld 1).int + 1 ≤ (↑(a.fld 0).str.size : Int) ∧ (a.fld 0).str.size ≤ 1099511627776 ∧ (a.fld 0).str = (a.fld 0).str ∧ (a.fld 1).int + 1 = (a.fld 1).int + (↑(nmK (rst a)) : Int) ∧ EqI 0 (nmV (rst a)) ∧ aloL (rst (D.t [D.s (a.fld 0).str, D.i ((a.fld 1).int + 1)])) = nmO (rst a) else ∃ (g : Nat × Int), EqI 0 g.snd ∧ (a.fld 0).str = (a.fld 0).str ∧ (a.fld 1).int = (↑g.fst : Int) ∧ ((a.fld 1).int.toNat ≤ g.fst ∧ g.fst ≤ (a.fld 0).str.size ∧ NmI (List.drop (a.fld 1).int.toNat (bys (a.fld 0).str)) (g.fst - (a.fld 1).int.toNat) g.snd) ∧ ∀ (g : Nat × Int), (a.fld 1).int.toNat ≤ g.fst ∧ g.fst ≤ (a.fld 0).str.size ∧ NmI (List.drop (a.fld 1).int.toNat (bys (a.fld 0).str)) (g.fst - (a.fld 1).int.toNat) g.snd → (decide ((↑g.fst : Int) < (↑(a.fld 0).str.size : Int)) = true → Idx (↑g.fst : Int) (a.fld 0).str.size) ∧ bif decide ((↑g.fst : Int) < (↑(a.fld 0).str.size : Int)) && dgC (byteAt' (a.fld 0).str g.fst) then (a.fld 0).str = (a.fld 0).str ∧ (↑g.fst : Int) = (↑g.fst : Int) ∧ I64 ((↑g.fst : Int) + 1) ∧ 0 ≤ (a.fld 1).int ∧ (a.fld 1).int ≤ (↑g.fst : Int) + 1 ∧ (↑g.fst : Int) + 1 ≤ (↑(a.fld 0).str.size : Int) ∧ EqI 10 10 ∧ EqI 64 64 ∧ ((a.fld 0).str.extract (a.fld 1).int.toNat ((↑g.fst : Int) + 1).toNat).size ≤ 281474976710656 ∧ bif piX ((a.fld 0).str.extract (a.fld 1).int.toNat ((↑g.fst : Int) + 1).toNat) then (a.fld 0).str = (a.fld 0).str ∧ (↑g.fst : Int) = (a.fld 1).int + (↑(nmK (rst a)) : Int) ∧ EqI 0 (nmV (rst a)) ∧ false = nmO (rst a) else I64 ((↑g.fst : Int) + 1) ∧ ∃ (g_1 : Nat × Int), piV ((a.fld 0).str.extract (a.fld 1).int.toNat ((↑g.fst : Int) + 1).toNat) = g_1.snd ∧ (a.fld 0).str = (a.fld 0).str ∧ (↑g.fst : Int) + 1 = (↑g_1.fst : Int) ∧ ((a.fld 1).int.toNat ≤ g_1.fst ∧ g_1.fst ≤ (a.fld 0).str.size ∧ NmI (List.drop (a.fld 1).int.toNat (bys (a.fld 0).str)) (g_1.fst - (a.fld 1).int.toNat) g_1.snd) ∧ (a.fld 0).str.size - g_1.fst < (a.fld 0).str.size - g.fst else 0 ≤ (↑g.fst : Int) ∧ (↑g.fst : Int) ≤ (↑(a.fld 0).str.size : Int) ∧ (a.fld 0).str.size ≤ 1099511627776 ∧ (a.fld 0).str = (a.fld 0).str ∧ (↑g.fst : Int) = (a.fld 1).int + (↑(nmK (rst a)) : Int) ∧ g.snd = nmV (rst a) ∧ aloL (rst (D.t [D.s (a.fld 0).str, D.i (↑g.fst : Int)])) = nmO (rst a)) = conGoal Tryd.prog (addS 52 piEC (addS 32 lxdC (addS 51 lxaC (addS 30 lxkC noS)))) lxnC_an 200 37 lxnC [a] := by kernel_rfl
set_option maxHeartbeats 2000000 in
theorem lxnC_ok : ConOK Tryd.prog gl 37 lxnC := con_of mo (addS_ok piEC_ok (addS_ok lxdC_ok (addS_ok lxaC_ok (addS_ok lxkC_ok (noS_ok _))))) (an := lxnC_an) 200 fun ds hl hp => by
  obtain ⟨a, rfl⟩ := len1 hl
  rw [← lxnC_vc]
  have p0 : 0 ≤ (D.int (D.fld a 1)) := hp _ (.head _)
  have p1 : (D.int (D.fld a 1)) ≤ ((D.str (D.fld a 0))).size := hp _ (.tail _ (.head _))
  have p2 : ((D.str (D.fld a 0))).size ≤ 1099511627776 := hp _ (.tail _ (.tail _ (.head _)))
  have p3 : (D.int (D.fld a 1)) < ((D.str (D.fld a 0))).size := hp _ (.tail _ (.tail _ (.tail _ (.head _))))
  have p4 : dgC ((rst a).getD 0 0) = true ∨ (rst a).getD 0 0 = 45 ∧ dgC ((rst a).getD 1 0) = true := hp _ (.tail _ (.tail _ (.tail _ (.tail _ (.head _)))))
  obtain ⟨p, hp⟩ := Int.eq_ofNat_of_zero_le p0
  rw [hp] at p1 p3
  have hL : rst a = (bys ((D.str (D.fld a 0)))).drop p := by rw [rst, hp, Int.toNat_natCast]
  have z : ∀ q : Nat, (rst (.t [.s ((D.str (D.fld a 0))), .i (q : Int)])).getD (Int.toNat 0) 0 = ((bys ((D.str (D.fld a 0)))).drop q).getD 0 0 := fun q => rfl
  have z1 : (rst (.t [.s ((D.str (D.fld a 0))), .i ((p : Int) + 1)])).getD (Int.toNat 0) 0 = ((bys ((D.str (D.fld a 0)))).drop (p + 1)).getD 0 0 := rfl
  rw [hL] at p4
  rw [hp, hL, z, z1]
  generalize (D.str (D.fld a 0)) = s at *
  have bz : ∀ {L : List Int}, (bdL L).getD 0 0 = 48 → nmV L = 0 ∧ nmK L = 1 ∧ nmO L = (!ngL L && aloL (L.drop 1)) := fun h => ⟨if_pos h, if_pos h, if_pos h⟩
  refine ⟨by omega, by omega, p2, by decide, by decide, cond_of (fun c => ?_) (fun c => ?_)⟩
  · have c := of_decide_eq_true c
    have hng : ngL ((bys s).drop p) = true := decide_eq_true c
    have hb : bdL ((bys s).drop p) = (bys s).drop (p + 1) := by rw [bdL, if_pos hng, List.drop_drop]
    have ho : ofL ((bys s).drop p) = 1 := if_pos hng
    refine ⟨⟨by omega, by omega⟩, by omega, by omega, p2, by decide, by decide, cond_of (fun d => ?_) (fun d => ?_)⟩
    · have d := of_decide_eq_true d
      obtain ⟨b1, b2, b3⟩ := bz (L := (bys s).drop p) (by rw [hb]; exact d)
      rw [b1, b2, b3, hng]
      exact ⟨rfl, rfl, rfl, rfl⟩
    · refine ⟨by omega, by omega, p2, by decide, by decide, cond_of (fun d' => ?_) (fun d' => ?_)⟩
      · rw [d'] at d; cases d
      have d := of_decide_eq_false d
      refine ⟨(p + 1, 0), rfl, rfl, rfl, ⟨by simp only; omega, by simp only; omega, ⟨?_⟩⟩, fun ⟨k, n⟩ hg => ?_⟩
      · have := nmI_zero ((bys s).drop p)
        rw [ho] at this
        have e : p + 1 - p = 1 := by omega
        rw [← e] at this
        exact this
      · exact lxn_body (q := p + 1) p2 (by omega) (by rw [hb]; exact d) k n hg
  · have c := of_decide_eq_false c
    have hng : ngL ((bys s).drop p) = false := decide_eq_false c
    have hb : bdL ((bys s).drop p) = (bys s).drop p := by rw [bdL, if_neg (by rw [hng]; decide)]
    have ho : ofL ((bys s).drop p) = 0 := if_neg (by rw [hng]; decide)
    refine ⟨by omega, by omega, p2, by decide, by decide, cond_of (fun d => ?_) (fun d => ?_)⟩
    · have d := of_decide_eq_true d
      obtain ⟨b1, b2, b3⟩ := bz (L := (bys s).drop p) (by rw [hb]; exact d)
      rw [b1, b2, b3, hng, List.drop_drop]
      exact ⟨⟨by omega, by omega⟩, by omega, by omega, p2, rfl, rfl, rfl, rfl⟩
    · have d := of_decide_eq_false d
      refine ⟨(p, 0), rfl, rfl, rfl, ⟨by simp only; omega, by simp only; omega, ⟨?_⟩⟩, fun ⟨k, n⟩ hg => ?_⟩
      · have := nmI_zero ((bys s).drop p)
        rw [ho] at this
        have e : p - p = 0 := by omega
        rw [← e] at this
        exact this
      · exact lxn_body (q := p) p2 (by omega) (by rw [hb]; exact d) k n hg
end Go.Proofs.YtlfafkeamppakaaDoor.XT
