/- slices.Clone of values: a row that is made. -/
import Derived.Test.YtcinjnkgopoclaaGreatDoorQS24
import Derived.Test.YtcinjnkgopoclaaGreatDoorQOV
import Derived.Test.YtcinjnkgopoclaaGreatDoorProg
set_option linter.unusedVariables false
set_option linter.unusedSimpArgs false
set_option linter.unusedSectionVars false
namespace Go.Proofs.YtcinjnkgopoclaaGreatDoor.XT
open Go Go.RowKit Go.Proofs.YtcinjnkgopoclaaGreatDoor.Sv Go.Proofs.YtcinjnkgopoclaaGreatDoor.W
set_option maxRecDepth 100000
noncomputable section
def sqL : Code → Code
  | .seq x _ => x
  | c => c
def sqR : Code → Code
  | .seq _ y => y
  | c => c
def noAn : Anns := fun _ _ => none
def ksC : List AK := [.d false (.l valT)]
def cloneC : Con := ⟨[.d false (.l valT)], fun ds => [(nthD ds 0).list.length ≤ 1000000], [.own 25 valT], fun ds => [.l (nthD ds 0).list], fun _ => []⟩
def rest15 : Code := sqR (sqR (Tryz.f15.body.getD .skip))
def g15 (a : D) : Prop := evCode Tryz.prog noS noAn 60 15 8 rest15 (putTs [0] (startAs ksC [a] 0)) (startSt ksC [a] ⟨[.nil], 0⟩) (segF Tryz.f15.results.toList Tryz.prog ksC [] [.own 25 valT] [.l a.list])
end
theorem g15_vc (a : D) : ((0 + a.list.length) * 40 ≤ 140737488355328 ∧ 0 + a.list.length ≤ 9223372036854775807 ∧ List.take (0 + a.list.length) ([] ++ a.list) = a.list) = g15 a := by kernel_rfl
theorem u26 : Tryz.prog.underlying 26 = some (.slice 25) := by kernel_rfl
theorem cloneC_ok {Γ : Gl} (hm : Tryz.prog.follows .mixedOrders = true) : ConOK Tryz.prog Γ 15 cloneC := by
  intro F G w vs ds bs hgl hgb hF hGF hnd hbF hargs hlen hpre
  obtain ⟨a, rfl⟩ := len1 hlen
  have p0 : a.list.length ≤ 1000000 := hpre _ (.head _)
  have hargs0 := hargs
  obtain ⟨v, vs', rfl, ⟨cs, hrd, hval⟩, rfl, rfl⟩ := hargs
  simp only [Rd, nthD, cond_false] at hrd
  obtain ⟨v1, rfl, hs⟩ := hrd
  simp only [Val, DT.isT, cond_false] at hval
  cases hval
  obtain ⟨aa, c, hsh, _⟩ := hs.shape
  refine Fnc.of_WP (n := 8) (fn := Tryz.f15) Tryz.func15 rfl Tryz.ntmps15 (by simp) ?_
  intro E hE
  have h0 : E 0 = v := hE 0 (by simp)
  refine WP.seq ?_
  refine WP.region ?_
  refine WL.v (u := .slice none 0 0) (Sure.none rfl) rfl (V.assign rfl rfl) ?_
  refine WL.nil ?_
  refine WP.seq ?_
  refine WP.seq ?_
  refine WP.region ?_
  refine WL.v (u := v) (Sure.none rfl) rfl (V.move (x := .tmp 0) rfl h0) ?_
  refine WL.v (u := .bool (nilB v)) (Sure.none rfl) rfl (V.eqNil (x := .tmp 3) rfl u26 rfl hsh rfl) ?_
  refine WL.nil ?_
  refine WP.cond (t := nilB v) rfl (fun hn => ?_) (fun hn => ?_)
  · have hv : v = .slice none 0 0 ∧ a.list = [] := by
      rcases hs with ⟨h1, rfl | ⟨b, rfl⟩⟩ | ⟨b, k, c2, rfl, _⟩
      · exact ⟨rfl, h1⟩
      · cases hn
      · cases hn
    refine WP.seq ?_
    refine WP.region ?_
    refine WL.v (u := .slice none 0 0) (Sure.none rfl) rfl (V.assign rfl rfl) ?_
    refine WL.nil ?_
    refine WP.ret ?_
    refine resOf.c1 rfl (v := .slice none 0 0) rfl ?_
    refine ⟨G, [], [.slice none 0 0], Ext.refl _ _, Sub.refl _, fun b o h => hF b o (hGF b o h), fun b h1 h2 => absurd h1 h2, List.nodup_nil, by simp, ?_, rfl, trivial⟩
    refine ⟨_, [], [.slice none 0 0], [], [], rfl, rfl, rfl, ?_, rfl, rfl⟩
    simp only [cloneC, RkRd, nthD]
    exact ⟨_, rfl, .inl ⟨.inl rfl, hv.2, rfl⟩⟩
  · refine WP.skip ?_
    have hg : g15 a := by
      rw [← g15_vc]
      refine ⟨by omega, by omega, by simp⟩
    unfold g15 at hg
    exact seg_fin (fn := Tryz.f15) (ks := ksC) (ds := [a]) (ts := [0]) (res := [.own 25 valT]) (es := []) (out := [.l a.list]) hm (noS_ok _) 60 15 rest15 hgl hgb hF hGF hnd hbF hargs0 ⟨_, _, rfl, h0, rfl⟩ hg (fun v w' h => h)
end Go.Proofs.YtcinjnkgopoclaaGreatDoor.XT
