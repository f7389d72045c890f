/- Contracts of strconv's errors and of ParseInt, out of the shelf's: the error is some cell. -/
import Derived.Test.YtlfafkeamppakaaDoorQY4
set_option linter.unusedVariables false
set_option linter.unusedSimpArgs false
namespace Go.Proofs
open Go.Shelf Go.RowKit
theorem Tryd.syntaxErr (fn s : ByteArray) (tp : TypeId) (p : Value) (w : World) (hlim : s.size ≤ 281474976710656) (hv : w.cell? ⟨1, 0, none⟩ = some (.iface tp p)) :
    Calls Tryd.prog 66 #[.string fn, .string s] w fun e w' => ∃ N, e = .returned (.pointer (some ⟨N, 0, none⟩)) ∧ w.heap.size ≤ N ∧ w'.heap[N]? = some (.cells #[.string fn, .string s, .iface tp p] 104 (0, 0)) ∧ Below w.heap.size w w' :=
  Any.strconv_syntaxError { Tryd.laysC174 with } fn s _ w hlim hv (.inr ⟨tp, p, rfl⟩)
theorem Tryd.rangeErr (fn s : ByteArray) (tp : TypeId) (p : Value) (w : World) (hlim : s.size ≤ 281474976710656) (hv : w.cell? ⟨2, 0, none⟩ = some (.iface tp p)) :
    Calls Tryd.prog 67 #[.string fn, .string s] w fun e w' => ∃ N, e = .returned (.pointer (some ⟨N, 0, none⟩)) ∧ w.heap.size ≤ N ∧ w'.heap[N]? = some (.cells #[.string fn, .string s, .iface tp p] 104 (0, 0)) ∧ Below w.heap.size w w' :=
  Any.strconv_rangeError { Tryd.laysC174 with } fn s _ w hlim hv (.inr ⟨tp, p, rfl⟩)
end Go.Proofs
namespace Go.Proofs.YtlfafkeamppakaaDoor.XT
open Go Go.RowKit Go.Proofs.YtlfafkeamppakaaDoor.Sv Go.Proofs.YtlfafkeamppakaaDoor.W
set_option maxRecDepth 100000
theorem any_ok {Γ : Gl} {P : Program} {f : FuncId} {c : Con} (ha : ∀ ds, ∃ us, argVs c.args ds = some us)
    (h : ∀ (w : World) (ds : List D) (vs : List Value), argVs c.args ds = some vs → Γ.ok w → (∀ p ∈ c.pre ds, p) → Fnc P f vs.toArray w fun v w' => Ext [] w w' ∧ ∃ rs, v = tupV rs ∧ ∀ G, OutsRd G w' c.res (c.out ds) rs []) : ConOK P Γ f c := by
  intro F G w vs ds bs hg _ hF hGF hnd hbF hargs hlen hpre
  obtain ⟨us, hus⟩ := ha ds
  obtain ⟨rfl, rfl⟩ := args_scal _ _ _ _ _ hargs hus
  refine Fnc.mono (h w ds _ hus hg hpre) ?_
  rintro v w' ⟨hx, rs, rfl, ho⟩
  exact ⟨G, [], rs, hx, Sub.refl _, fun b o hb => Ext.keepB hx (hF b o (hGF b o hb)) (by simp), fun b h1 h2 => absurd h1 h2, List.nodup_nil, by simp, ho G, rfl, boxes_scal _ ds _ _ hus⟩
theorem outs_any {G : Fz} {w : World} {ds : List D} {v : Value} (h : v.oneCell' = true) : OutsRd G w [.any] ds [v] [] := ⟨v, [], [v], [], [], rfl, rfl, by simp [Val, RK.isAgg], ⟨rfl, v, rfl, h⟩, rfl, rfl⟩
theorem outs_int {G : Fz} {w : World} {k : IntKind} {ks : List RK} {n : Int} {ds : List D} {vs : List Value} (h : OutsRd G w ks ds vs []) : OutsRd G w (.d (.i k) :: ks) (.i n :: ds) (.int k n :: vs) [] := ⟨_, vs, [.int k n], [], [], rfl, rfl, by simp [Val, RK.isAgg, DT.isT], ⟨rfl, by simp only [Rd, nthD, D.int]⟩, h⟩
theorem ext_bytes (w : World) (e : TypeId) (s : ByteArray) : Ext [] w (Lib.bytesWorld w e s) := by
  unfold Lib.bytesWorld World.freeze
  split
  · exact (Ext.drew w (w.drawn + 1)).trans (Ext.alloc _ _)
  · refine ⟨rfl, rfl, rfl, ?_, fun k hk _ => ?_⟩
    · show w.heap.size ≤ ((w.heap.push _).modify _ _).size
      simp
    · show ((w.heap.push _).modify w.heap.size _)[k]? = w.heap[k]?
      rw [Array.getElem?_modify, if_neg (by omega), Array.getElem?_push, if_neg (by omega)]
theorem gl_syn {w : World} (h : GlOK w) : ∃ u p, w.cell? ⟨1, 0, none⟩ = some (.iface u p) ∧ w.var? Tryd.prog "strconv.ErrSyntax" = some #[.iface u p] := by
  obtain ⟨u, p, t, ht⟩ := h.syn
  have hg : Tryd.prog.globalNamed "strconv.ErrSyntax" = some 1 := by kernel_rfl
  exact ⟨u, p, by simp [World.cell?, ht], by unfold World.var?; rw [hg]; simp [ht]⟩
theorem gl_rng {w : World} (h : GlOK w) : ∃ u p, w.cell? ⟨2, 0, none⟩ = some (.iface u p) ∧ w.var? Tryd.prog "strconv.ErrRange" = some #[.iface u p] := by
  obtain ⟨u, p, t, ht⟩ := h.rng
  have hg : Tryd.prog.globalNamed "strconv.ErrRange" = some 2 := by kernel_rfl
  exact ⟨u, p, by simp [World.cell?, ht], by unfold World.var?; rw [hg]; simp [ht]⟩
def synC : Con := ⟨[.d true .s, .d true .s], fun ds => [(nthD ds 1).str.size ≤ 281474976710656], [.any], fun _ => [.i 0], fun _ => []⟩
theorem synC_ok : ConOK Tryd.prog gl 66 synC := any_ok (fun ds => ⟨_, rfl⟩) fun w ds vs e hg hp => by
  cases e
  have h1 : (nthD ds 1).str.size ≤ 281474976710656 := hp _ (by simp [synC])
  obtain ⟨u, p, hc, _⟩ := gl_syn hg
  rw [nthD_tail]
  refine fnc_of (Tryd.syntaxErr _ _ u p w h1 hc) ?_
  rintro e w' ⟨N, rfl, _, _, hb⟩
  exact ⟨_, rfl, Ext.of_below hb, [_], rfl, fun G => outs_any rfl⟩
def rngC : Con := ⟨[.d true .s, .d true .s], fun ds => [(nthD ds 1).str.size ≤ 281474976710656], [.any], fun _ => [.i 0], fun _ => []⟩
theorem rngC_ok : ConOK Tryd.prog gl 67 rngC := any_ok (fun ds => ⟨_, rfl⟩) fun w ds vs e hg hp => by
  cases e
  have h1 : (nthD ds 1).str.size ≤ 281474976710656 := hp _ (by simp [rngC])
  obtain ⟨u, p, hc, _⟩ := gl_rng hg
  rw [nthD_tail]
  refine fnc_of (Tryd.rangeErr _ _ u p w h1 hc) ?_
  rintro e w' ⟨N, rfl, _, _, hb⟩
  exact ⟨_, rfl, Ext.of_below hb, [_], rfl, fun G => outs_any rfl⟩
/-- ParseInt's number, in any case -/
def piV (s : ByteArray) : Int := match Lib.parseIntB 64 s.data.toList with | .ok v => v | Lib.NumEnd.syntax => 0 | .range => Lib.intSat 64 s.data.toList
def piC : Con := ⟨[.d true .s, .d true (.i .i64), .d true (.i .i64)], fun ds => [(nthD ds 1).int = 10, (nthD ds 2).int = 64, (nthD ds 0).str.size ≤ 281474976710656], [.d (.i .i64), .any], fun ds => [.i (piV (nthD ds 0).str), .i 0], fun _ => []⟩
theorem piC_ok : ConOK Tryd.prog gl 52 piC := any_ok (fun ds => ⟨_, rfl⟩) fun w ds vs e hg hp => by
  cases e
  have h1 : (nthD ds 1).int = 10 := hp _ (by simp [piC])
  have h2 : (nthD ds 2).int = 64 := hp _ (by simp [piC])
  have h3 : (nthD ds 0).str.size ≤ 281474976710656 := hp _ (by simp [piC])
  have e1 : (nthD (tailD ds) 0).int = 10 := by rw [nthD_tail]; exact h1
  have e2 : (nthD (tailD (tailD ds)) 0).int = 64 := by rw [nthD_tail, nthD_tail]; exact h2
  rw [e1, e2]
  obtain ⟨u, p, _, hs⟩ := gl_syn hg
  obtain ⟨u', p', _, hr⟩ := gl_rng hg
  rcases h : Lib.parseIntB 64 (nthD ds 0).str.data.toList with v | _ | _
  ·
    refine fnc_of (Tryd.strconv_ParseInt_10_at64_ok (nthD ds 0).str (by omega) v h w) ?_
    rintro e w' ⟨rfl, hw⟩
    refine ⟨_, rfl, ?_, [.int .i64 v, .nilIface], rfl, fun G => ?_⟩
    · rcases hw with rfl | ⟨t, rfl⟩
      · exact Ext.refl _ _
      · exact ext_bytes w 5 t
    · have : piC.out ds = [.i v, .i 0] := by simp only [piC, piV, h]
      rw [this]
      exact outs_int (outs_any rfl)
  ·
    refine fnc_of (Tryd.strconv_ParseInt_10_at64_syntax_var (nthD ds 0).str h3 h u p w hs) ?_
    rintro e w' ⟨N, rfl, _, _, hb⟩
    refine ⟨_, rfl, Ext.of_below hb, [.int .i64 0, _], rfl, fun G => ?_⟩
    have : piC.out ds = [.i 0, .i 0] := by simp only [piC, piV, h]
    rw [this]
    exact outs_int (outs_any rfl)
  ·
    refine fnc_of (Tryd.strconv_ParseInt_10_at64_range_var (nthD ds 0).str h3 h u' p' w hr) ?_
    rintro e w' ⟨N, rfl, _, _, hb⟩
    refine ⟨_, rfl, Ext.of_below hb, [.int .i64 (Lib.intSat 64 (nthD ds 0).str.data.toList), _], rfl, fun G => ?_⟩
    have : piC.out ds = [.i (Lib.intSat 64 (nthD ds 0).str.data.toList), .i 0] := by simp only [piC, piV, h]
    rw [this]
    exact outs_int (outs_any rfl)
end Go.Proofs.YtlfafkeamppakaaDoor.XT
