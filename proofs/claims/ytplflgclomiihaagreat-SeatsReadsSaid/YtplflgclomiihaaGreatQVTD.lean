/- Contracts. -/
import Derived.Test.YtplflgclomiihaaGreatQVTB
set_option linter.unusedVariables false
set_option linter.unusedSimpArgs false
namespace Go.Proofs.YtplflgclomiihaaGreat.XT
open Go Go.RowKit Go.Proofs.YtplflgclomiihaaGreat.Sv Go.Proofs.YtplflgclomiihaaGreat.W
set_option maxRecDepth 100000
theorem termB_in {a:D} {i:Int} (h:termB a i=true) (p0:(a.fld 10).list.length < 4611686018427387904) (p1:U64 (a.fld 6).int) (p2:U64 i):(a.fld 6).int ≤ i∧i - (a.fld 6).int ≤ (a.fld 10).list.length:=by
 have c':(a.fld 6).int ≤ i∧i ≤ ((lastIf (D.int (D.fld a 6)) (D.list (D.fld a 10)))):=by simpa [termB] using h
 refine ⟨c'.1,?_⟩
 have hlen:U64 ((a.fld 10).list.length:Int):=⟨by omega,by omega⟩
 have h2:=c'.2
 unfold lastIf at h2
 split at h2
 ·omega
 ·rw [u64_id hlen] at h2
  obtain ⟨q,hq⟩:=u64_eq ((a.fld 6).int + (a.fld 10).list.length)
  have:=u64_in ((a.fld 6).int + (a.fld 10).list.length)
  have hq0:0 ≤ q:=by omega
  omega
theorem gP_vc (a b:D):((a.fld 10).list.length < 4611686018427387904∧(0 ≤ (a.fld 6).int∧(a.fld 6).int ≤ 18446744073709551615)∧(0 ≤ b.int∧b.int ≤ 18446744073709551615)∧bif !termB a b.int then []=mems a b.int else 0 ≤ IntKind.u64.wrap (b.int - (a.fld 6).int)∧IntKind.u64.wrap (b.int - (a.fld 6).int) ≤ (↑(a.fld 10).list.length:Int)∧bif termB a b.int then (a.fld 0).int=(a.fld 0).int∧(a.fld 1).list=(a.fld 1).list∧(a.fld 2).int=(a.fld 2).int∧(a.fld 3).int=(a.fld 3).int∧(a.fld 4).int=(a.fld 4).int∧(a.fld 5).int=(a.fld 5).int∧(a.fld 6).int=(a.fld 6).int∧(a.fld 7).int=(a.fld 7).int∧(a.fld 8).list=(a.fld 8).list∧(a.fld 9).str=(a.fld 9).str∧(a.fld 10).list=(a.fld 10).list∧(a.fld 11).int=(a.fld 11).int∧(a.fld 12).int=(a.fld 12).int∧(a.fld 13).int=(a.fld 13).int∧(a.fld 14).list=(a.fld 14).list∧(a.fld 15).list=(a.fld 15).list∧(a.fld 16).int=(a.fld 16).int∧(a.fld 17).list=(a.fld 17).list∧(a.fld 8).list=(a.fld 8).list∧List.take (IntKind.u64.wrap (b.int - (a.fld 6).int) - 0).toNat (a.fld 10).list=upTo a b.int else False)=gP a b:=by kernel_rfl
theorem gP_ok {a b:D} (p0:(a.fld 10).list.length < 4611686018427387904) (p1:U64 (a.fld 6).int) (p2:U64 b.int):gP a b:=by
 rw [← gP_vc]
 refine ⟨p0,p1,p2,cond_of (fun h=>?_) (fun h=>?_)⟩
 ·have h:termB a b.int=false:=by simpa using h
  rw [mems,h]; rfl
 ·have h:termB a b.int=true:=by simpa using h
  obtain ⟨h1,h2⟩:=termB_in h p0 p1 p2
  have hw:IntKind.u64.wrap (b.int - (a.fld 6).int)=b.int - (a.fld 6).int:=u64_id ⟨by omega,by omega⟩
  rw [hw]
  refine ⟨by omega,by omega,?_⟩
  simp [upTo,h]
theorem gB1_vc (l e:D):(bif decide ((e.fld 1).int=2) then False else l.list=l.list∧(e.fld 0).int=(e.fld 0).int∧(e.fld 1).int=(e.fld 1).int∧(e.fld 2).str=(e.fld 2).str∧(e.fld 3).list=(e.fld 3).list)=gB1 l e:=by kernel_rfl
theorem gB2_vc (l e:D):(bif decide ((e.fld 1).int=2) then (e.fld 3).list=(e.fld 3).list∧(e.fld 0).int=(e.fld 0).int∧(e.fld 1).int=(e.fld 1).int∧(e.fld 2).str=(e.fld 2).str∧(e.fld 3).list=(e.fld 3).list else False)=gB2 l e:=by kernel_rfl
theorem gB1_ok {l e:D} (h:¬ (e.fld 1).int=2):gB1 l e:=by
 rw [← gB1_vc,decide_eq_false h]
 exact ⟨rfl,rfl,rfl,rfl,rfl⟩
theorem gB2_ok {l e:D} (h:(e.fld 1).int=2):gB2 l e:=by
 rw [← gB2_vc,decide_eq_true h]
 exact ⟨rfl,rfl,rfl,rfl,rfl⟩
theorem gE_vc (l:D):(l.list.length ≤ 17592186044416∧0 ≤ (↑l.list.length:Int)∧(↑l.list.length:Int) ≤ (↑l.list.length:Int)∧(↑l.list.length:Int)=(↑l.list.length:Int)∧List.take l.list.length l.list=l.list)=gE l:=by kernel_rfl
theorem gE_ok {l:D} (h:l.list.length ≤ 17592186044416):gE l:=by
 rw [← gE_vc]
 exact ⟨h,by omega,by omega,rfl,by simp⟩
theorem q25:Plain Tryz.prog 25:=plain_of (d:=.slice 88) (by kernel_rfl) rfl
theorem v25:Tryz.prog.underlying 25=some (.slice 88):=by kernel_rfl
theorem d90:Sized Tryz.prog 88 4:=by unfold Sized; kernel_rfl
theorem f90:Aggr Tryz.prog 88 4:=⟨by
 have h:∃ fs,Tryz.prog.underlying 88=some (.struct fs):=⟨_,Tryz.underlying88⟩
 obtain ⟨fs,h⟩:=h
 exact ⟨_,h,.inl ⟨fs,rfl⟩⟩,d90⟩
theorem o90:W.Zero Tryz.prog 88 (.agg #[.int .u64 0,.int .u8 0,.string (ByteArray.mk #[]),.slice none 0 0]):=by unfold W.Zero; kernel_rfl
theorem iterBack {w : World} {b l : Nat} {v : Value} {G1 : Fz} {xs : List D} {I : Nat → World → Prop} {J : World → Prop} (hle : xs.length ≤ 9223372036854775807) (hsl : Slc G1 4 (fun x us => Rd G1 entT x us) xs v)
    (hI : I xs.length w) (keep : ∀ k w', I k w' → (∀ b o, G1 b = some o → w'.heap[b]? = some o) ∧ Box w' b 25 [v] ∧ ∃ r : Loop, Blk w' l (.loop r) ∧ r.params.size = 2)
    (round : ∀ k w' cs r, k < xs.length → I (k + 1) w' → Rd G1 entT (nthD xs k) cs → Blk w' l (.loop r) →
      RoundIn (Fr none) 0 Tryz.prog l r.fn ((r.params.zip #[.int .i64 (k : Int), .agg cs.toArray]).foldl (fun tmps (x : Nat × Value) => tmps.setIfInBounds x.1 x.2) r.tmps) r.assign r.body w' fun e w'' => ∃ u, e = .returned u ∧ ((u = .bool true ∧ I k w'') ∨ (u = .bool false ∧ J w''))) :
    Fnc Tryz.prog 95 #[.func (.yield l) #[] #[], .pointer (some ⟨b, 0, none⟩)] w (fun _ w' => I 0 w' ∨ J w') := by
  obtain ⟨_, hbox, _⟩ := keep _ _ hI
  obtain ⟨aa, cc, hv, _⟩ := hsl.shape
  refine Fnc.of_WP (n := 19) Tryz.func95 rfl Tryz.ntmps95 (by simp) ?_
  intro E hE
  have h0 : E 0 = .func (.yield l) #[] #[] := hE 0 (by simp)
  have h1 : E 1 = .pointer (some ⟨b, 0, none⟩) := hE 1 (by simp)
  clear hE
  refine WP.seq ?_
  refine WP.region ?_
  refine WL.v (u := v) (Sure.none rfl) rfl (V.load (x := .tmp 1) rfl q25 h1 (hbox.cell rfl)) ?_
  refine WL.v (u := .int .i64 (xs.length : Int)) (Sure.none rfl) rfl (V.lenSlice (x := .tmp 4) rfl rfl v25 hv) ?_
  refine WL.v (u := .int .i64 ((xs.length : Int) - 1)) (Sure.none rfl) rfl (V.arith (x := .tmp 5) rfl rfl rfl rfl (wrap_i64 (by omega) (by omega))) ?_
  refine WL.v (u := .int .i64 ((xs.length : Int) - 1)) (Sure.none rfl) rfl (V.assign (x := .tmp 6) rfl rfl) ?_
  refine WL.nil ?_
  refine WP.block ?_
  refine WP.loop (σ := Nat) (fun j E w' => E 0 = .func (.yield l) #[] #[] ∧ E 1 = .pointer (some ⟨b, 0, none⟩) ∧ E 3 = .int .i64 ((j : Int) - 1) ∧ j ≤ xs.length ∧ I j w') (fun j => j) xs.length ?_ ?_
  · exact ⟨h0, h1, rfl, Nat.le_refl _, hI⟩
  · rintro j E w2 ⟨g0, g1, g3, hj, hIj⟩
    obtain ⟨hfz2, hbox2, r, hlr, hpar⟩ := keep _ _ hIj
    refine WP.seq ?_
    refine WP.seq ?_
    refine WP.region ?_
    refine WL.v (u := .int .i64 ((j : Int) - 1)) (Sure.none rfl) rfl (V.move (x := .tmp 3) rfl g3) ?_
    refine WL.v (u := .bool (decide ((j : Int) - 1 ≥ 0))) (Sure.none rfl) rfl (V.cmp (x := .tmp 7) rfl rfl rfl rfl) ?_
    refine WL.nil ?_
    refine WP.cond (t := decide ((j : Int) - 1 ≥ 0)) rfl (fun hc => ?_) (fun hc => ?_)
    · replace hc := of_decide_eq_true hc
      obtain ⟨m, rfl⟩ : ∃ m, j = m + 1 := ⟨j - 1, by omega⟩
      have g3' : E 3 = .int .i64 (m : Int) := by rw [g3]; exact int_eq (by omega)
      have hlt : m < xs.length := by omega
      obtain ⟨bb, kk, c2, cs, hv2, hl4, hat, hr⟩ := hsl.elem hlt
      refine WP.skip ?_
      refine WP.seq ?_
      refine WP.block ?_
      refine WP.seq ?_
      refine WP.region ?_
      refine WL.v (u := .func (.yield l) #[] #[]) (Sure.none rfl) rfl (V.move (x := .tmp 0) rfl g0) ?_
      refine WL.v (u := .int .i64 (m : Int)) (Sure.none rfl) rfl (V.move (x := .tmp 3) rfl g3') ?_
      refine WL.v (u := v) (Sure.none rfl) rfl (V.load (x := .tmp 1) rfl q25 g1 (hbox2.cell rfl)) ?_
      refine WL.v (u := .int .i64 (m : Int)) (Sure.none rfl) rfl (V.move (x := .tmp 3) rfl g3') ?_
      refine WL.v (u := .pointer (some ⟨bb, kk + m * 4, none⟩)) (Sure.none rfl) rfl (V.indexAddr (x := .tmp 13) (i := .tmp 14) (m := m) (j := (m : Int)) rfl v25 d90 hv2 rfl rfl hlt) ?_
      refine WL.v (u := .agg cs.toArray) (Sure.none rfl) rfl (V.loadAgg (x := .tmp 15) (cs := cs) rfl f90 rfl (hat.at hfz2) hl4) ?_
      refine WL.yield2 (g := .tmp 11) (x := .tmp 12) (y := .tmp 16) (u := .int .i64 (m : Int)) (v := .agg cs.toArray) (Sure.none rfl) rfl rfl rfl rfl rfl hlr hpar (RoundIn.mono (round m w2 cs r hlt hIj hr hlr) ?_)
      rintro e w3 ⟨u, rfl, hu⟩
      refine ⟨u, rfl, ?_⟩
      rcases hu with ⟨rfl, hI3⟩ | ⟨rfl, hD⟩
      · refine WL.v (u := .bool false) (Sure.none rfl) rfl (V.not (x := .tmp 17) (b := true) rfl rfl) ?_
        refine WL.nil ?_
        refine WP.cond_false rfl ?_
        refine WP.skip ?_
        refine WP.region ?_
        refine WL.v (u := .int .i64 (m : Int)) (Sure.none rfl) rfl (V.move (x := .tmp 3) rfl g3') ?_
        refine WL.v (u := .int .i64 ((m : Int) - 1)) (Sure.none rfl) rfl (V.arith (x := .tmp 9) rfl rfl rfl rfl (wrap_i64 (by omega) (by omega))) ?_
        refine WL.v (u := .int .i64 ((m : Int) - 1)) (Sure.none rfl) rfl (V.assign (x := .tmp 10) rfl rfl) ?_
        refine WL.nil ?_
        exact ⟨m, ⟨g0, g1, rfl, by omega, hI3⟩, Nat.lt_succ_self m⟩
      · refine WL.v (u := .bool true) (Sure.none rfl) rfl (V.not (x := .tmp 17) (b := false) rfl rfl) ?_
        refine WL.nil ?_
        refine WP.cond_true rfl ?_
        refine WP.ret ?_
        refine resOf.none rfl ?_
        exact .inr hD
    · replace hc := of_decide_eq_false hc
      obtain rfl : j = 0 := by omega
      refine WP.exit ?_
      refine resOf.none (fn := Tryz.f95) (P := Tryz.prog) (R := fun _ w' => I 0 w' ∨ J w') rfl ?_
      exact .inl hIj
end Go.Proofs.YtplflgclomiihaaGreat.XT
