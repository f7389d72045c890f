/- Contracts of the library's functions, out of the shelf's. -/
import Derived.Test.YtnhfkdgambncfaaGreatDoorQT0
import Derived.Test.YtnhfkdgambncfaaGreatDoorQH1
set_option linter.unusedVariables false
set_option linter.unusedSimpArgs false
set_option linter.unusedSectionVars false
namespace Go.Proofs.YtnhfkdgambncfaaGreatDoor.XT
open Go Go.RowKit Go.Proofs.YtnhfkdgambncfaaGreatDoor.Sv Go.Proofs.YtnhfkdgambncfaaGreatDoor.W
set_option maxRecDepth 100000
theorem fnc_of {f : FuncId} {args : Array Value} {w : World} {R : Value → World → Prop} {Q : Ending → World → Prop} (h : Calls Tryz.prog f args w Q) (k : ∀ e w', Q e w' → ∃ v, e = .returned v ∧ R v w') : Fnc Tryz.prog f args w R := Calls.mono h k
theorem ext_grow (w : World) (k : Nat) (os : Array Obj) : Ext [] w (Go.Sort.grow (w.drewN k) os) := by
  refine ⟨rfl, rfl, rfl, ?_, fun b hb _ => ?_⟩
  · simp [Go.Sort.grow, World.drewN]
  · have hb' : b < (w.drewN k).heap.size := hb
    show (w.heap ++ os)[b]? = _
    rw [Array.getElem?_append_left hb]
theorem gl_pow {w : World} (h : GlOK w) : Lib.TabIs Tryz.prog w "internal/strconv.uint64pow10" .u64 Lib.pow10Tab := by
  obtain ⟨t, ht⟩ := h.pow
  have hg : Tryz.prog.globalNamed "internal/strconv.uint64pow10" = some 0 := by kernel_rfl
  unfold Lib.TabIs World.var?
  rw [hg]
  simp only [Option.bind_some, ht]
  rfl
theorem gl_len {w : World} (h : GlOK w) : ∃ m, w.cell? ⟨1, 0, none⟩ = some (.int .i64 m) := by
  obtain ⟨m, t, ht⟩ := h.len
  exact ⟨m, by simp [World.cell?, ht]⟩
theorem gl_tz {w : World} (h : GlOK w) : TabAt 5 Lib.deBruijn64tab w := by
  obtain ⟨t, ht⟩ := h.tz
  intro j hj
  have : (numCells .u8 (Lib.deBruijn64tab.map Int.ofNat))[j]? = some (.int .u8 (Lib.deBruijn64tab.getD j 0 : Nat)) := by
    simp [numCells, hj]
  simp [World.cell?, ht, this]
/-! ### strconv.FormatInt at base 10 -/
def itoS (n : Int) : ByteArray := ⟨(Lib.itoa n).toArray⟩
def fmtIC : Con := ⟨[.d true (.i .i64), .d true (.i .i64)], fun ds => [(nthD ds 1).int = 10, -9223372036854775808 ≤ (nthD ds 0).int, (nthD ds 0).int ≤ 9223372036854775807], [.d .s], fun ds => [.s (itoS (nthD ds 0).int)], fun _ => []⟩
theorem fmtIC_ok : ConOK Tryz.prog gl 51 fmtIC := scal_ok rfl (fun ds => ⟨_, rfl⟩) fun w ds vs e hg hp => by
  cases e
  have h1 : (nthD ds 1).int = 10 := hp _ (by simp [fmtIC])
  have h2 : -9223372036854775808 ≤ (nthD ds 0).int := hp _ (by simp [fmtIC])
  have h3 : (nthD ds 0).int ≤ 9223372036854775807 := hp _ (by simp [fmtIC])
  have e1 : (nthD (tailD ds) 0).int = 10 := by rw [nthD_tail]; exact h1
  rw [e1]
  refine fnc_of (Tryz.strconv_FormatInt_10 (nthD ds 0).int h2 h3 w (gl_pow hg)) ?_
  rintro e w' ⟨rfl, k, os, rfl⟩
  exact ⟨_, rfl, rfl, ext_grow w k os⟩
/-! ### strconv.FormatBool -/
def fmtBC : Con := ⟨[.d true .b], fun _ => [], [.d .s], fun ds => [.s ⟨(Lib.formatBool (nthD ds 0).bool).toArray⟩], fun _ => []⟩
theorem fmtBC_ok : ConOK Tryz.prog gl 50 fmtBC := scal_ok rfl (fun ds => ⟨_, rfl⟩) fun w ds vs e hg hp => by
  cases e
  refine fnc_of (Tryz.strconv_FormatBool (nthD ds 0).bool w) ?_
  rintro e w' ⟨rfl, rfl⟩
  exact ⟨_, rfl, rfl, Ext.refl _ _⟩
/-! ### bits.TrailingZeros -/
def tzC : Con := ⟨[.d true (.i .u64)], fun ds => [0 ≤ (nthD ds 0).int, (nthD ds 0).int < 18446744073709551616], [.d (.i .i64)], fun ds => [.i (Lib.ctz 64 (nthD ds 0).int.toNat)], fun _ => []⟩
theorem tzC_ok : ConOK Tryz.prog gl 100 tzC := scal_ok rfl (fun ds => ⟨_, rfl⟩) fun w ds vs e hg hp => by
  cases e
  have h1 : 0 ≤ (nthD ds 0).int := hp _ (by simp [tzC])
  have h2 : (nthD ds 0).int < 18446744073709551616 := hp _ (by simp [tzC])
  have e1 : (nthD ds 0).int = (((nthD ds 0).int.toNat : Nat) : Int) := by omega
  have := Tryz.bits_TrailingZeros (nthD ds 0).int.toNat (by omega) w (fun _ => gl_tz hg)
  rw [← e1] at this
  refine fnc_of this ?_
  rintro e w' ⟨rfl, rfl⟩
  exact ⟨_, rfl, rfl, Ext.refl _ _⟩
/-! ### strings.ReplaceAll -/
def replS (s old new : ByteArray) : ByteArray := ⟨(Lib.replaceAll s.data.toList old.data.toList new.data.toList).toArray⟩
def replC : Con := ⟨[.d true .s, .d true .s, .d true .s], fun ds => [(nthD ds 0).str.size < 4294967281, 1 ≤ (nthD ds 1).str.size, (nthD ds 0).str.size + Lib.countB (nthD ds 0).str (nthD ds 1).str * (nthD ds 2).str.size ≤ 140737488355328], [.d .s], fun ds => [.s (replS (nthD ds 0).str (nthD ds 1).str (nthD ds 2).str)], fun _ => []⟩
theorem replC_ok : ConOK Tryz.prog gl 38 replC := scal_ok rfl (fun ds => ⟨_, rfl⟩) fun w ds vs e hg hp => by
  cases e
  have h1 : (nthD ds 0).str.size < 4294967281 := hp _ (by simp [replC])
  have h2 : 1 ≤ (nthD ds 1).str.size := hp _ (by simp [replC])
  have h3 : (nthD ds 0).str.size + Lib.countB (nthD ds 0).str (nthD ds 1).str * (nthD ds 2).str.size ≤ 140737488355328 := hp _ (by simp [replC])
  obtain ⟨m, hm⟩ := gl_len hg
  rw [nthD_tail, nthD_tail, nthD_tail]
  refine fnc_of (Tryz.strings_ReplaceAll _ _ _ m w h1 hm h2 h3) ?_
  rintro e w' ⟨rfl, hb⟩
  exact ⟨_, rfl, rfl, Ext.of_below hb⟩
/-! ### strings.Join -/
def joinS (xs : List D) (sep : ByteArray) : ByteArray := ⟨(Lib.join (xs.map fun x => x.str.data.toList) sep.data.toList).toArray⟩
def joinC : Con := ⟨[.d false (.l .s), .d true .s], fun ds => [(nthD ds 0).list.length ≤ 140737488355328, (joinS (nthD ds 0).list (nthD ds 1).str).size ≤ 140737488355328], [.d .s], fun ds => [.s (joinS (nthD ds 0).list (nthD ds 1).str)], fun _ => []⟩
theorem joinC_ok : ConOK Tryz.prog gl 33 joinC := by
  intro F G w vs ds bs hg _ hF hGF hnd hbF hargs hlen hpre
  obtain ⟨v, vs', rfl, ⟨cs, h1, h2⟩, h3⟩ := hargs
  obtain ⟨v', vs'', rfl, ⟨cs', h1', h2'⟩, rfl, rfl⟩ := h3
  simp only [Rd] at h1'
  subst h1'
  simp only [Val, DT.isT, cond_false] at h2'
  cases h2'
  simp only [Rd, cond_false] at h1
  obtain ⟨v0, hcs, hs⟩ := h1
  subst hcs
  simp only [Val, DT.isT, cond_false] at h2
  obtain rfl : v = v0 := by cases h2; rfl
  have p1 : (nthD ds 0).list.length ≤ 140737488355328 := hpre _ (by simp [joinC])
  have p2 : (joinS (nthD ds 0).list (nthD ds 1).str).size ≤ 140737488355328 := hpre _ (by simp [joinC])
  have fin : Fnc Tryz.prog 33 #[v, .string (nthD (tailD ds) 0).str] w fun u w' => u = .string (joinS (nthD ds 0).list (nthD ds 1).str) ∧ Ext [] w w' := by
    rw [nthD_tail]
    have none_ : ∀ a, (nthD ds 0).list = [] → v = .slice a 0 0 → Fnc Tryz.prog 33 #[v, .string (nthD ds (0 + 1)).str] w fun u w' => u = .string (joinS (nthD ds 0).list (nthD ds 1).str) ∧ Ext [] w w' := by
      intro a he hv
      rw [he, hv]
      refine fnc_of (Tryz.strings_Join_none a 0 (nthD ds 1).str w) ?_
      rintro e w' ⟨rfl, rfl⟩
      exact ⟨_, rfl, rfl, Ext.refl _ _⟩
    rcases hs with ⟨he, hv | ⟨a, hv⟩⟩ | ⟨b, k, c, rfl, hlc, hcm, hq⟩
    · exact none_ none he hv
    · exact none_ (some a) he hv
    · by_cases hz : (nthD ds 0).list.length = 0
      · have he : (nthD ds 0).list = [] := List.eq_nil_of_length_eq_zero hz
        rw [he]
        refine fnc_of (Tryz.strings_Join_none (some ⟨b, k, none⟩) c (nthD ds 1).str w) ?_
        rintro e w' ⟨rfl, rfl⟩
        exact ⟨_, rfl, rfl, Ext.refl _ _⟩
      · have hbk : b < w.heap.size := by
          obtain ⟨cs, _, ⟨arr, et, fz, hb, _⟩, _⟩ := hq 0 _ (get_nthD (by omega))
          exact (Array.getElem?_eq_some_iff.1 (hF b _ hb)).1
        have hj := Tryz.strings_Join b k c ((nthD ds 0).list.map D.str) (nthD ds 1).str w (fun j x hx => by
          rw [List.getElem?_map] at hx
          cases hd : (nthD ds 0).list[j]? with
          | none => rw [hd] at hx; cases hx
          | some d =>
            rw [hd] at hx
            simp only [Option.map_some, Option.some.injEq] at hx
            subst hx
            obtain ⟨cs, _, ⟨arr, et, fz, hb, hc⟩, hrd⟩ := hq j d hd
            have hrd : cs = [.string d.str] := hrd
            subst hrd
            have h5 := hc 0 _ rfl
            simp only [DT.sz, Nat.mul_one, Nat.add_zero] at h5
            simp [World.cell?, hF b _ hb, h5]) hbk (by rw [List.length_map]; exact p1) (by rw [List.length_map]; exact hlc) (by
              rw [List.map_map]
              have h6 : (joinS (nthD ds 0).list (nthD ds 1).str).size = (Lib.join ((nthD ds 0).list.map fun x => x.str.data.toList) (nthD ds 1).str.data.toList).length := by simp [joinS, ByteArray.size]
              rw [h6] at p2
              exact p2)
        rw [List.length_map] at hj
        refine fnc_of hj ?_
        rintro e w' ⟨rfl, hb⟩
        refine ⟨_, rfl, ?_, Ext.of_below hb⟩
        rw [List.map_map]
        rfl
  refine Fnc.mono fin ?_
  rintro u w' ⟨rfl, hx⟩
  exact ⟨G, [], [_], hx, Sub.refl _, fun b o hb => Ext.keepB hx (hF b o (hGF b o hb)) (by simp), fun b h1 h2 => absurd h1 h2, List.nodup_nil, by simp, ⟨_, [], [_], [], [], rfl, rfl, rfl, ⟨rfl, rfl⟩, ⟨rfl, rfl⟩⟩, rfl, trivial⟩
end Go.Proofs.YtnhfkdgambncfaaGreatDoor.XT
