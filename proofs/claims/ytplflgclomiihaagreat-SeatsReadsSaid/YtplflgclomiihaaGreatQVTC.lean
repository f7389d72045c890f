/- Contracts. -/
import Derived.Test.YtplflgclomiihaaGreatQS23x
import Derived.Test.YtplflgclomiihaaGreatQW5x
import Derived.Test.YtplflgclomiihaaGreatProg
set_option linter.unusedVariables false
set_option linter.unusedSimpArgs false
namespace Go.Proofs.YtplflgclomiihaaGreat.XT
open Go Go.RowKit Go.Proofs.YtplflgclomiihaaGreat.Sv Go.Proofs.YtplflgclomiihaaGreat.W
set_option maxRecDepth 100000
noncomputable section
def sqL:Code → Code
 | .seq x _=>x
 | c=>c
def sqR:Code → Code
 | .seq _ y=>y
 | c=>c
def noAn:Anns:=fun _ _=>none
def ksC:List AK:=[.d false (.l (.i .i64))]
def cloneC:Con:=⟨[.d false (.l (.i .i64))],fun ds=>[(nthD ds 0).list.length ≤ 17592186044416],[.own 3 (.i .i64)],fun ds=>[.l (nthD ds 0).list],fun _=>[]⟩
def rest59:Code:=sqR (sqR (Tryz.f42.body.getD .skip))
def g59 (a:D):Prop:=evCode Tryz.prog noS noAn 60 42 8 rest59 (putTs [0] (startAs ksC [a] 0)) (startSt ksC [a] ⟨[.nil],0⟩) (segF Tryz.f42.results.toList Tryz.prog ksC [] [.own 3 (.i .i64)] [.l a.list])
end
theorem g59_vc (a:D):((0 + a.list.length) * 8 ≤ 140737488355328∧0 + a.list.length ≤ 9223372036854775807∧List.take (0 + a.list.length) ([] ++ a.list)=a.list)=g59 a:=by kernel_rfl
theorem u22:Tryz.prog.underlying 22=some (.slice 3):=by kernel_rfl
theorem cloneC_ok {Γ : Gl} (hm : Tryz.prog.follows .mixedOrders = true) : ConOK Tryz.prog Γ 42 cloneC := by
  intro F G w vs ds bs hgl hgb hF hGF hnd hbF hargs hlen hpre
  obtain ⟨a, rfl⟩ := len1 hlen
  have p0 : a.list.length ≤ 17592186044416 := hpre _ (.head _)
  have hargs0 := hargs
  obtain ⟨v, vs', rfl, ⟨cs, hrd, hval⟩, rfl, rfl⟩ := hargs
  simp only [Rd, nthD, cond_false] at hrd
  obtain ⟨v1, rfl, hs⟩ := hrd
  simp only [Val, DT.isT, cond_false] at hval
  cases hval
  obtain ⟨aa, c, hsh, _⟩ := hs.shape
  refine Fnc.of_WP (n := 8) (fn := Tryz.f42) Tryz.func42 rfl Tryz.ntmps42 (by simp) ?_
  intro E hE
  have h0 : E 0 = v := hE 0 (by simp)
  refine WP.seq ?_
  refine WP.region ?_
  refine WL.v (u := .slice none 0 0) (Sure.none rfl) rfl (V.assign rfl rfl) ?_
  refine WL.nil ?_
  refine WP.seq ?_
  refine WP.seq ?_
  refine WP.region ?_
  refine WL.v (u := v) (Sure.none rfl) rfl (V.move (x := .tmp 0) rfl h0) ?_
  refine WL.v (u := .bool (nilB v)) (Sure.none rfl) rfl (V.eqNil (x := .tmp 3) rfl u22 rfl hsh rfl) ?_
  refine WL.nil ?_
  refine WP.cond (t := nilB v) rfl (fun hn => ?_) (fun hn => ?_)
  · have hv : v = .slice none 0 0 ∧ a.list = [] := by
      rcases hs with ⟨h1, rfl | ⟨b, rfl⟩⟩ | ⟨b, k, c2, rfl, _⟩
      · exact ⟨rfl, h1⟩
      · cases hn
      · cases hn
    refine WP.seq ?_
    refine WP.region ?_
    refine WL.v (u := .slice none 0 0) (Sure.none rfl) rfl (V.assign rfl rfl) ?_
    refine WL.nil ?_
    refine WP.ret ?_
    refine resOf.c1 rfl (v := .slice none 0 0) rfl ?_
    refine ⟨G, [], [.slice none 0 0], Ext.refl _ _, Sub.refl _, fun b o h => hF b o (hGF b o h), fun b h1 h2 => absurd h1 h2, List.nodup_nil, by simp, ?_, rfl, trivial⟩
    refine ⟨_, [], [.slice none 0 0], [], [], rfl, rfl, rfl, ?_, rfl, rfl⟩
    simp only [cloneC, RkRd, nthD]
    exact ⟨_, rfl, .inl ⟨.inl rfl, hv.2, rfl⟩⟩
  · refine WP.skip ?_
    have hg : g59 a := by
      rw [← g59_vc]
      refine ⟨by omega, by omega, by simp⟩
    unfold g59 at hg
    exact seg_fin (fn := Tryz.f42) (ks := ksC) (ds := [a]) (ts := [0]) (res := [.own 3 (.i .i64)]) (es := []) (out := [.l a.list]) hm (noS_ok _) 60 42 rest59 hgl hgb hF hGF hnd hbF hargs0 ⟨_, _, rfl, h0, rfl⟩ hg (fun v w' h => h)
end Go.Proofs.YtplflgclomiihaaGreat.XT
