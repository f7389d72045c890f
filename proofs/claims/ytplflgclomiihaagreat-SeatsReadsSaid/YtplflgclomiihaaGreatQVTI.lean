/- Contracts. -/
import Derived.Test.YtplflgclomiihaaGreatQVTH
set_option linter.unusedVariables false
set_option linter.unusedSimpArgs false
namespace Go.Proofs.YtplflgclomiihaaGreat.XT
open Go Go.RowKit Go.Proofs.YtplflgclomiihaaGreat.Sv Go.Proofs.YtplflgclomiihaaGreat.W
set_option maxRecDepth 100000
theorem us102:Tryz.prog.underlying 26=some (.slice 57):=by kernel_rfl
def ks102:List AK:=[.d false (.l (.t [(.i .i64),(.i .u64),(.i .u64)]))]
def clone102C:Con:=⟨[.d false (.l (.t [(.i .i64),(.i .u64),(.i .u64)]))],fun ds=>[(nthD ds 0).list.length ≤ 1099511627776],[.own 57 (.t [(.i .i64),(.i .u64),(.i .u64)])],fun ds=>[.l (nthD ds 0).list],fun _=>[]⟩
noncomputable def rest102:Code:=sqR (sqR (Tryz.f79.body.getD .skip))
noncomputable def g102 (a:D):Prop:=evCode Tryz.prog noS noAn 60 79 8 rest102 (putTs [0] (startAs ks102 [a] 0)) (startSt ks102 [a] ⟨[.nil],0⟩) (segF Tryz.f79.results.toList Tryz.prog ks102 [] [.own 57 (.t [(.i .i64),(.i .u64),(.i .u64)])] [.l a.list])
theorem g102_vc (a:D):((0 + a.list.length) * 24 ≤ 140737488355328∧0 + a.list.length ≤ 9223372036854775807∧List.take (0 + a.list.length) ([] ++ a.list)=a.list)=g102 a:=by kernel_rfl
theorem clone102C_ok {Γ : Gl} (hm : Tryz.prog.follows .mixedOrders = true) : ConOK Tryz.prog Γ 79 clone102C := by
  intro F G w vs ds bs hgl hgb hF hGF hnd hbF hargs hlen hpre
  obtain ⟨a, rfl⟩ := len1 hlen
  have p0 : a.list.length ≤ 1099511627776 := hpre _ (.head _)
  have hargs0 := hargs
  obtain ⟨v, vs', rfl, ⟨cs, hrd, hval⟩, rfl, rfl⟩ := hargs
  simp only [Rd, nthD, cond_false] at hrd
  obtain ⟨v1, rfl, hs⟩ := hrd
  simp only [Val, DT.isT, cond_false] at hval
  cases hval
  obtain ⟨aa, c, hsh, _⟩ := hs.shape
  refine Fnc.of_WP (n := 8) (fn := Tryz.f79) Tryz.func79 rfl Tryz.ntmps79 (by simp) ?_
  intro E hE
  have h0 : E 0 = v := hE 0 (by simp)
  refine WP.seq ?_
  refine WP.region ?_
  refine WL.v (u := .slice none 0 0) (Sure.none rfl) rfl (V.assign rfl rfl) ?_
  refine WL.nil ?_
  refine WP.seq ?_
  refine WP.seq ?_
  refine WP.region ?_
  refine WL.v (u := v) (Sure.none rfl) rfl (V.move (x := .tmp 0) rfl h0) ?_
  refine WL.v (u := .bool (nilB v)) (Sure.none rfl) rfl (V.eqNil (x := .tmp 3) rfl us102 rfl hsh rfl) ?_
  refine WL.nil ?_
  refine WP.cond (t := nilB v) rfl (fun hn => ?_) (fun hn => ?_)
  · have hv : v = .slice none 0 0 ∧ a.list = [] := by
      rcases hs with ⟨h1, rfl | ⟨b, rfl⟩⟩ | ⟨b, k, c2, rfl, _⟩
      · exact ⟨rfl, h1⟩
      · cases hn
      · cases hn
    refine WP.seq ?_
    refine WP.region ?_
    refine WL.v (u := .slice none 0 0) (Sure.none rfl) rfl (V.assign rfl rfl) ?_
    refine WL.nil ?_
    refine WP.ret ?_
    refine resOf.c1 rfl (v := .slice none 0 0) rfl ?_
    refine ⟨G, [], [.slice none 0 0], Ext.refl _ _, Sub.refl _, fun b o h => hF b o (hGF b o h), fun b h1 h2 => absurd h1 h2, List.nodup_nil, by simp, ?_, rfl, trivial⟩
    refine ⟨_, [], [.slice none 0 0], [], [], rfl, rfl, rfl, ?_, rfl, rfl⟩
    simp only [clone102C, RkRd, nthD]
    exact ⟨_, rfl, .inl ⟨.inl rfl, hv.2, rfl⟩⟩
  · refine WP.skip ?_
    have hg : g102 a := by
      rw [← g102_vc]
      refine ⟨by omega, by omega, by simp⟩
    unfold g102 at hg
    exact seg_fin (fn := Tryz.f79) (ks := ks102) (ds := [a]) (ts := [0]) (res := [.own 57 (.t [(.i .i64), (.i .u64), (.i .u64)])]) (es := []) (out := [.l a.list]) hm (noS_ok _) 60 79 rest102 hgl hgb hF hGF hnd hbF hargs0 ⟨_, _, rfl, h0, rfl⟩ hg (fun v w' h => h)
theorem us103:Tryz.prog.underlying 25=some (.slice 88):=by kernel_rfl
def ks103:List AK:=[.d true (.l entT)]
def clone103C:Con:=⟨[.d true (.l entT)],fun ds=>[(nthD ds 0).list.length ≤ 1099511627776],[.own 88 entT],fun ds=>[.l (nthD ds 0).list],fun _=>[]⟩
noncomputable def rest103:Code:=sqR (sqR (Tryz.f89.body.getD .skip))
noncomputable def g103 (a:D):Prop:=evCode Tryz.prog noS noAn 60 89 8 rest103 (putTs [0] (startAs ks103 [a] 0)) (startSt ks103 [a] ⟨[.nil],0⟩) (segF Tryz.f89.results.toList Tryz.prog ks103 [] [.own 88 entT] [.l a.list])
theorem g103_vc (a:D):((0 + a.list.length) * 56 ≤ 140737488355328∧0 + a.list.length ≤ 9223372036854775807∧List.take (0 + a.list.length) ([] ++ a.list)=a.list)=g103 a:=by kernel_rfl
theorem clone103C_ok {Γ : Gl} (hm : Tryz.prog.follows .mixedOrders = true) : ConOK Tryz.prog Γ 89 clone103C := by
  intro F G w vs ds bs hgl hgb hF hGF hnd hbF hargs hlen hpre
  obtain ⟨a, rfl⟩ := len1 hlen
  have p0 : a.list.length ≤ 1099511627776 := hpre _ (.head _)
  have hargs0 := hargs
  obtain ⟨v, vs', rfl, ⟨cs, hrd, hval⟩, rfl, rfl⟩ := hargs
  simp only [Rd, nthD, cond_true] at hrd
  obtain ⟨v1, rfl, hs⟩ := hrd
  simp only [Val, DT.isT, cond_false] at hval
  cases hval
  obtain ⟨aa, c, hsh, _⟩ := hs.shape
  refine Fnc.of_WP (n := 8) (fn := Tryz.f89) Tryz.func89 rfl Tryz.ntmps89 (by simp) ?_
  intro E hE
  have h0 : E 0 = v := hE 0 (by simp)
  refine WP.seq ?_
  refine WP.region ?_
  refine WL.v (u := .slice none 0 0) (Sure.none rfl) rfl (V.assign rfl rfl) ?_
  refine WL.nil ?_
  refine WP.seq ?_
  refine WP.seq ?_
  refine WP.region ?_
  refine WL.v (u := v) (Sure.none rfl) rfl (V.move (x := .tmp 0) rfl h0) ?_
  refine WL.v (u := .bool (nilB v)) (Sure.none rfl) rfl (V.eqNil (x := .tmp 3) rfl us103 rfl hsh rfl) ?_
  refine WL.nil ?_
  refine WP.cond (t := nilB v) rfl (fun hn => ?_) (fun hn => ?_)
  · have hv : v = .slice none 0 0 ∧ a.list = [] := by
      rcases hs with ⟨h1, rfl | ⟨b, rfl⟩⟩ | ⟨b, k, c2, rfl, _⟩
      · exact ⟨rfl, h1⟩
      · cases hn
      · cases hn
    refine WP.seq ?_
    refine WP.region ?_
    refine WL.v (u := .slice none 0 0) (Sure.none rfl) rfl (V.assign rfl rfl) ?_
    refine WL.nil ?_
    refine WP.ret ?_
    refine resOf.c1 rfl (v := .slice none 0 0) rfl ?_
    refine ⟨G, [], [.slice none 0 0], Ext.refl _ _, Sub.refl _, fun b o h => hF b o (hGF b o h), fun b h1 h2 => absurd h1 h2, List.nodup_nil, by simp, ?_, rfl, trivial⟩
    refine ⟨_, [], [.slice none 0 0], [], [], rfl, rfl, rfl, ?_, rfl, rfl⟩
    simp only [clone103C, RkRd, nthD]
    exact ⟨_, rfl, .inl ⟨.inl rfl, hv.2, rfl⟩⟩
  · refine WP.skip ?_
    have hg : g103 a := by
      rw [← g103_vc]
      refine ⟨by omega, by omega, by simp⟩
    unfold g103 at hg
    exact seg_fin (fn := Tryz.f89) (ks := ks103) (ds := [a]) (ts := [0]) (res := [.own 88 entT]) (es := []) (out := [.l a.list]) hm (noS_ok _) 60 89 rest103 hgl hgb hF hGF hnd hbF hargs0 ⟨_, _, rfl, h0, rfl⟩ hg (fun v w' h => h)
theorem us104:Tryz.prog.underlying 27=some (.slice 54):=by kernel_rfl
def ks104:List AK:=[.d true (.l (.t [(.i .u64),(.i .u64),(.l (.i .i64))]))]
def clone104C:Con:=⟨[.d true (.l (.t [(.i .u64),(.i .u64),(.l (.i .i64))]))],fun ds=>[(nthD ds 0).list.length ≤ 1099511627776],[.own 54 (.t [(.i .u64),(.i .u64),(.l (.i .i64))])],fun ds=>[.l (nthD ds 0).list],fun _=>[]⟩
noncomputable def rest104:Code:=sqR (sqR (Tryz.f80.body.getD .skip))
noncomputable def g104 (a:D):Prop:=evCode Tryz.prog noS noAn 60 80 8 rest104 (putTs [0] (startAs ks104 [a] 0)) (startSt ks104 [a] ⟨[.nil],0⟩) (segF Tryz.f80.results.toList Tryz.prog ks104 [] [.own 54 (.t [(.i .u64),(.i .u64),(.l (.i .i64))])] [.l a.list])
theorem g104_vc (a:D):((0 + a.list.length) * 40 ≤ 140737488355328∧0 + a.list.length ≤ 9223372036854775807∧List.take (0 + a.list.length) ([] ++ a.list)=a.list)=g104 a:=by kernel_rfl
theorem clone104C_ok {Γ : Gl} (hm : Tryz.prog.follows .mixedOrders = true) : ConOK Tryz.prog Γ 80 clone104C := by
  intro F G w vs ds bs hgl hgb hF hGF hnd hbF hargs hlen hpre
  obtain ⟨a, rfl⟩ := len1 hlen
  have p0 : a.list.length ≤ 1099511627776 := hpre _ (.head _)
  have hargs0 := hargs
  obtain ⟨v, vs', rfl, ⟨cs, hrd, hval⟩, rfl, rfl⟩ := hargs
  simp only [Rd, nthD, cond_true] at hrd
  obtain ⟨v1, rfl, hs⟩ := hrd
  simp only [Val, DT.isT, cond_false] at hval
  cases hval
  obtain ⟨aa, c, hsh, _⟩ := hs.shape
  refine Fnc.of_WP (n := 8) (fn := Tryz.f80) Tryz.func80 rfl Tryz.ntmps80 (by simp) ?_
  intro E hE
  have h0 : E 0 = v := hE 0 (by simp)
  refine WP.seq ?_
  refine WP.region ?_
  refine WL.v (u := .slice none 0 0) (Sure.none rfl) rfl (V.assign rfl rfl) ?_
  refine WL.nil ?_
  refine WP.seq ?_
  refine WP.seq ?_
  refine WP.region ?_
  refine WL.v (u := v) (Sure.none rfl) rfl (V.move (x := .tmp 0) rfl h0) ?_
  refine WL.v (u := .bool (nilB v)) (Sure.none rfl) rfl (V.eqNil (x := .tmp 3) rfl us104 rfl hsh rfl) ?_
  refine WL.nil ?_
  refine WP.cond (t := nilB v) rfl (fun hn => ?_) (fun hn => ?_)
  · have hv : v = .slice none 0 0 ∧ a.list = [] := by
      rcases hs with ⟨h1, rfl | ⟨b, rfl⟩⟩ | ⟨b, k, c2, rfl, _⟩
      · exact ⟨rfl, h1⟩
      · cases hn
      · cases hn
    refine WP.seq ?_
    refine WP.region ?_
    refine WL.v (u := .slice none 0 0) (Sure.none rfl) rfl (V.assign rfl rfl) ?_
    refine WL.nil ?_
    refine WP.ret ?_
    refine resOf.c1 rfl (v := .slice none 0 0) rfl ?_
    refine ⟨G, [], [.slice none 0 0], Ext.refl _ _, Sub.refl _, fun b o h => hF b o (hGF b o h), fun b h1 h2 => absurd h1 h2, List.nodup_nil, by simp, ?_, rfl, trivial⟩
    refine ⟨_, [], [.slice none 0 0], [], [], rfl, rfl, rfl, ?_, rfl, rfl⟩
    simp only [clone104C, RkRd, nthD]
    exact ⟨_, rfl, .inl ⟨.inl rfl, hv.2, rfl⟩⟩
  · refine WP.skip ?_
    have hg : g104 a := by
      rw [← g104_vc]
      refine ⟨by omega, by omega, by simp⟩
    unfold g104 at hg
    exact seg_fin (fn := Tryz.f80) (ks := ks104) (ds := [a]) (ts := [0]) (res := [.own 54 (.t [(.i .u64), (.i .u64), (.l (.i .i64))])]) (es := []) (out := [.l a.list]) hm (noS_ok _) 60 80 rest104 hgl hgb hF hGF hnd hbF hargs0 ⟨_, _, rfl, h0, rfl⟩ hg (fun v w' h => h)
end Go.Proofs.YtplflgclomiihaaGreat.XT
