/- strconv.ParseInt, with whether its error is one. -/
import Derived.Test.YtlfafkeamppakaaDoorQY5
set_option linter.unusedVariables false
set_option linter.unusedSimpArgs false
namespace Go.Proofs.YtlfafkeamppakaaDoor.XT
open Go Go.RowKit Go.Proofs.YtlfafkeamppakaaDoor.Sv Go.Proofs.YtlfafkeamppakaaDoor.W
theorem outs_er {G : Fz} {w : World} {b : Bool} {ds : List D} {v : Value} (h : (b = false ∧ v = .nilIface) ∨ (b = true ∧ ∃ u p, v = .iface u p)) : OutsRd G w [.er] (.b b :: ds) [v] [] :=
  ⟨v, [], [v], [], [], rfl, rfl, by rcases h with ⟨_, rfl⟩ | ⟨_, u, p, rfl⟩ <;> simp [Val, RK.isAgg], ⟨rfl, v, rfl, h⟩, rfl, rfl⟩
/-- is it no number? -/
def piX (s : ByteArray) : Bool := match Lib.parseIntB 64 s.data.toList with | .ok _ => false | _ => true
def piEC : Con := ⟨[.d true .s, .d true (.i .i64), .d true (.i .i64)], fun ds => [(nthD ds 1).int = 10, (nthD ds 2).int = 64, (nthD ds 0).str.size ≤ 281474976710656], [.d (.i .i64), .er], fun ds => [.i (piV (nthD ds 0).str), .b (piX (nthD ds 0).str)], fun _ => []⟩
theorem piEC_ok : ConOK Tryd.prog gl 52 piEC := any_ok (fun ds => ⟨_, rfl⟩) fun w ds vs e hg hp => by
  cases e
  have h1 : (nthD ds 1).int = 10 := hp _ (by simp [piEC])
  have h2 : (nthD ds 2).int = 64 := hp _ (by simp [piEC])
  have h3 : (nthD ds 0).str.size ≤ 281474976710656 := hp _ (by simp [piEC])
  have e1 : (nthD (tailD ds) 0).int = 10 := by rw [nthD_tail]; exact h1
  have e2 : (nthD (tailD (tailD ds)) 0).int = 64 := by rw [nthD_tail, nthD_tail]; exact h2
  rw [e1, e2]
  obtain ⟨u, p, _, hs⟩ := gl_syn hg
  obtain ⟨u', p', _, hr⟩ := gl_rng hg
  rcases h : Lib.parseIntB 64 (nthD ds 0).str.data.toList with v | _ | _
  ·
    refine fnc_of (Tryd.strconv_ParseInt_10_at64_ok (nthD ds 0).str (by omega) v h w) ?_
    rintro e w' ⟨rfl, hw⟩
    refine ⟨_, rfl, ?_, [.int .i64 v, .nilIface], rfl, fun G => ?_⟩
    · rcases hw with rfl | ⟨t, rfl⟩
      · exact Ext.refl _ _
      · exact ext_bytes w 5 t
    · have : piEC.out ds = [.i v, .b false] := by simp only [piEC, piV, piX, h]
      rw [this]
      exact outs_int (outs_er (.inl ⟨rfl, rfl⟩))
  ·
    refine fnc_of (Tryd.strconv_ParseInt_10_at64_syntax_var (nthD ds 0).str h3 h u p w hs) ?_
    rintro e w' ⟨N, rfl, _, _, hb⟩
    refine ⟨_, rfl, Ext.of_below hb, [.int .i64 0, _], rfl, fun G => ?_⟩
    have : piEC.out ds = [.i 0, .b true] := by simp only [piEC, piV, piX, h]
    rw [this]
    exact outs_int (outs_er (.inr ⟨rfl, _, _, rfl⟩))
  ·
    refine fnc_of (Tryd.strconv_ParseInt_10_at64_range_var (nthD ds 0).str h3 h u' p' w hr) ?_
    rintro e w' ⟨N, rfl, _, _, hb⟩
    refine ⟨_, rfl, Ext.of_below hb, [.int .i64 (Lib.intSat 64 (nthD ds 0).str.data.toList), _], rfl, fun G => ?_⟩
    have : piEC.out ds = [.i (Lib.intSat 64 (nthD ds 0).str.data.toList), .b true] := by simp only [piEC, piV, piX, h]
    rw [this]
    exact outs_int (outs_er (.inr ⟨rfl, _, _, rfl⟩))
end Go.Proofs.YtlfafkeamppakaaDoor.XT
