/- The code's and the document's value of any text: the same. -/
import Derived.Test.YtbbjonjhaoeidaaGreatDoorQTU
set_option linter.unusedVariables false
set_option linter.unusedSimpArgs false
namespace Go.Proofs.YtbbjonjhaoeidaaGreatDoor.XT
open Go Go.RowKit Go.Proofs.YtbbjonjhaoeidaaGreatDoor.Sv
theorem dcS_bad {s : ByteArray} (hn : ngB s = false) {c : Int} {r : List Int} (hb : bys s = c :: r) (hd : dcV (c :: r) 0 = -1) : inB s = false := by
  have e : bdS s = s := by rw [bdS, if_neg (by rw [hn]; decide)]
  have h : dcS s = -1 := by
    unfold dcS
    rw [e]
    split
    · rfl
    · rw [hb, hd]
  rw [inB, if_pos h]
theorem not_tf_int {n : Int} (h : I64 n) : ¬ (sL (itoL n) = ByteArray.mk #[116, 114, 117, 101] ∨ sL (itoL n) = ByteArray.mk #[102, 97, 108, 115, 101]) := by
  have hb := bys_sL (itoL_byte h)
  rintro (e | e)
  · have e2 : itoL n = [116, 114, 117, 101] := by rw [← hb, e]; rfl
    rcases itoL_in h 116 (by rw [e2]; simp) with h | h <;> omega
  · have e2 : itoL n = [102, 97, 108, 115, 101] := by rw [← hb, e]; rfl
    rcases itoL_in h 102 (by rw [e2]; simp) with h | h <;> omega
theorem not_tf_hex {u : Int} (h : 0 ≤ u) : ¬ (sL (hexT u) = ByteArray.mk #[116, 114, 117, 101] ∨ sL (hexT u) = ByteArray.mk #[102, 97, 108, 115, 101]) := by
  have hb := bys_sL (hexT_in h)
  rintro (e | e)
  · have e2 : hexT u = [116, 114, 117, 101] := by rw [← hb, e]; rfl
    rw [hexT] at e2; exact absurd (List.cons.inj e2).1 (by decide)
  · have e2 : hexT u = [102, 97, 108, 115, 101] := by rw [← hb, e]; rfl
    rw [hexT] at e2; exact absurd (List.cons.inj e2).1 (by decide)
theorem not_tf_quo (t : ByteArray) : ¬ (sL (quoL (bys t)) = ByteArray.mk #[116, 114, 117, 101] ∨ sL (quoL (bys t)) = ByteArray.mk #[102, 97, 108, 115, 101]) := by
  obtain ⟨q1, q2⟩ := quo_head (bys_all_in t)
  rintro (e | e) <;> rw [e] at q1 <;> exact absurd q1 (by decide)
theorem decL_head {n : Int} (h0 : 0 ≤ n) (h1 : n < 10 ^ 20) : (decL 20 n).getD 0 0 ≠ 45 := by
  have hl : 0 < (decL 20 n).length := List.length_pos_iff.2 (decL_ne 19 n)
  have hm : (decL 20 n).getD 0 0 ∈ decL 20 n := by
    rw [List.getD_eq_getElem?_getD, List.getElem?_eq_getElem hl]; exact List.getElem_mem hl
  have := decL_in 20 n h0 h1 _ hm
  omega
theorem rcV_int {n : Int} (h : I64 n) : rcV (sL (itoL n)) = .t [.i 2, .b false, .i n, .s (ByteArray.mk #[]), .i 0] := by
  have hb := bys_sL (itoL_byte h)
  have h1 := h.1
  have h2 := h.2
  have p20 : (9223372036854775809 : Int) < 10 ^ 20 := by decide
  have p19 : (9223372036854775809 : Int) < 10 ^ (18 + 1) := by decide
  have hl : 0 < (itoL n).length := by
    unfold itoL; split
    · simp
    · exact List.length_pos_iff.2 (decL_ne 19 _)
  have key : dcS (sL (itoL n)) = (if n < 0 then -n else n) ∧ ngB (sL (itoL n)) = decide (n < 0) := by
    have hs : 0 < ((sL (itoL n)).size : Int) := by rw [sL_size]; omega
    have hbyte := byteAt_sL (itoL_byte h) hl
    have hng : ngB (sL (itoL n)) = decide ((itoL n).getD 0 0 = 45) := by
      rw [ngB, decide_eq_true hs, hbyte, Bool.true_and]
    by_cases hn : n < 0
    · have ei : itoL n = 45 :: decL 20 (-n) := if_pos hn
      have hn' : ngB (sL (itoL n)) = true := by rw [hng, ei]; rfl
      have hbd : bdS (sL (itoL n)) = sL (decL 20 (-n)) := by
        rw [bdS, if_pos hn', extract_end, hb, ei]; rfl
      have hin : ∀ c ∈ decL 20 (-n), 0 ≤ c ∧ c < 256 := fun c hc => by
        have := decL_in 20 (-n) (by omega) (by omega) c hc; omega
      have hlen := decL_len 18 20 (-n) (by omega) (by omega)
      refine ⟨?_, by rw [hn', decide_eq_true hn]⟩
      unfold dcS
      rw [hbd, if_pos hn, if_neg, bys_sL hin]
      · have := dc_dec 19 (-n) [] (by omega) (by omega)
        rw [List.append_nil] at this
        exact this
      · rintro (e | e)
        · have : decL 20 (-n) = [] := by rw [← bys_sL hin, e]; rfl
          exact decL_ne 19 _ this
        · rw [sL_size] at e; omega
    · have ei : itoL n = decL 20 n := if_neg hn
      have hn' : ngB (sL (itoL n)) = false := by
        rw [hng, ei, decide_eq_false (decL_head (by omega) (by omega))]
      have hbd : bdS (sL (itoL n)) = sL (decL 20 n) := by
        rw [bdS, if_neg (by rw [hn']; decide), ei]
      have hin : ∀ c ∈ decL 20 n, 0 ≤ c ∧ c < 256 := fun c hc => by
        have := decL_in 20 n (by omega) (by omega) c hc; omega
      have hlen := decL_len 18 20 n (by omega) (by omega)
      refine ⟨?_, by rw [hn', decide_eq_false hn]⟩
      unfold dcS
      rw [hbd, if_neg hn, if_neg, bys_sL hin]
      · have := dc_dec 19 n [] (by omega) (by omega)
        rw [List.append_nil] at this
        exact this
      · rintro (e | e)
        · have : decL 20 n = [] := by rw [← bys_sL hin, e]; rfl
          exact decL_ne 19 _ this
        · rw [sL_size] at e; omega
  obtain ⟨k1, k2⟩ := key
  have hne : ¬ dcS (sL (itoL n)) = -1 := by rw [k1]; split <;> omega
  have hw : ∀ y : Int, IntKind.u64.wrap y = y % 18446744073709551616 := fun y => by simp only [IntKind.wrap, IntKind.signed, IntKind.bits]; simp
  have hv : inV (sL (itoL n)) = n := by
    rw [inV, if_neg hne, k2, k1]
    by_cases hn : n < 0
    · rw [decide_eq_true hn, if_pos rfl, if_pos hn, hw, wrapI]; omega
    · rw [decide_eq_false hn, if_neg (by decide), if_neg hn, wrapI]; omega
  have hB : inB (sL (itoL n)) = true := by rw [inB, if_neg hne, hv, decide_eq_true rfl]
  rw [rcV, if_neg (not_tf_int h), if_pos hB, hv]
theorem rcV_hex {u : Int} (h : inU u) (h0 : 0 < u) : rcV (sL (hexT u)) = .t [.i 4, .b false, .i 0, .s (ByteArray.mk #[]), .i u] := by
  have hin := hexT_in h.1
  have hb := bys_sL hin
  have hl : 0 < (hexT u).length := by simp [hexT]
  have hsz : (sL (hexT u)).size = 2 + nh u := by rw [sL_size, hexT, List.length_cons, List.length_cons, hexL_length]; omega
  have hnh := nh_le u
  have hng : ngB (sL (hexT u)) = false := by
    have e : byteAt' (sL (hexT u)) 0 = 48 := by rw [byteAt_sL hin hl]; rfl
    rw [ngB, e]; simp
  have hB : ¬ inB (sL (hexT u)) = true := by
    rw [dcS_bad hng hb (by rfl)]; decide
  have hx : hxS (sL (hexT u)) = u := by
    unfold hxS
    rw [if_neg, hb]
    · have := hx_hex (nh u) u [] h.1 (lt_nh h)
      rw [List.append_nil] at this
      exact this
    · rintro (e | e | e)
      · omega
      · omega
      · refine e ?_
        have e2 : bys ((sL (hexT u)).extract 0 2) = [48, 120] := by rw [bys_extract, hb]; rfl
        rw [← sL_bys ((sL (hexT u)).extract 0 2), e2]; rfl
  have hr : ruV (sL (hexT u)) = u := by rw [ruV, hx, if_neg (by omega), if_pos rfl]
  rw [rcV, if_neg (not_tf_hex h.1), if_neg hB, hr, if_pos h0]
theorem rcV_quo (t : ByteArray) : rcV (sL (quoL (bys t))) = .t [.i 3, .b false, .i 0, .s t, .i 0] := by
  have hin := bys_all_in t
  have hb := bys_sL (quoL_in hin)
  obtain ⟨q1, q2⟩ := quo_head hin
  have hng : ngB (sL (quoL (bys t))) = false := by rw [ngB, q1]; simp
  have hB : ¬ inB (sL (quoL (bys t))) = true := by
    rw [dcS_bad hng hb (by rfl)]; decide
  have hx : hxS (sL (quoL (bys t))) = -1 := by
    unfold hxS
    refine if_pos (.inr (.inr fun e => ?_))
    have e2 : bys ((sL (quoL (bys t))).extract 0 2) = [48, 120] := by rw [e]; rfl
    rw [bys_extract, hb, quoL] at e2
    simp at e2
  have hr : ¬ 0 < ruV (sL (quoL (bys t))) := by rw [ruV, if_pos hx]; decide
  have hlast : byteAt' (sL (quoL (bys t))) ((sL (quoL (bys t))).size - 1) = 34 := by
    rw [byteAt_sL (quoL_in hin) (by rw [← sL_size]; omega), sL_size, quoL]
    simp [List.getD_eq_getElem?_getD]
  have hH : rqH (sL (quoL (bys t))) = true := by
    rw [rqH, q1, hlast, decide_eq_false (by omega)]; rfl
  have hlen : ((bys t).flatMap escB).length ≤ (sL (quoL (bys t))).size := by
    rw [sL_size, quoL]; simp only [List.length_cons, List.length_append, List.length_nil]; omega
  obtain ⟨r1, r2⟩ := rq_esc (bys t) _ hin hlen
  have hO : rqO (sL (quoL (bys t))) = true := by rw [rqO, hH, inn_quo hin, r1]; rfl
  have hS : rqS (sL (quoL (bys t))) = t := by rw [rqS, if_pos hO, inn_quo hin, r2, sL_bys]
  have hK : rqK (sL (quoL (bys t))) = true := by rw [rqK, hO, hS, decide_eq_true rfl]; rfl
  rw [rcV, if_neg (not_tf_quo t), if_neg hB, if_neg hr, if_pos hK, hS]
end Go.Proofs.YtbbjonjhaoeidaaGreatDoor.XT
