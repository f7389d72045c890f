/- Contracts. -/
import Derived.Test.YtplflgclomiihaaGreatQVTT
import Derived.Test.YtplflgclomiihaaGreatQS25
set_option linter.unusedVariables false
set_option linter.unusedSimpArgs false
namespace Go.Proofs.YtplflgclomiihaaGreat.XT
open Go Go.RowKit Go.Proofs.YtplflgclomiihaaGreat.Sv Go.Proofs.YtplflgclomiihaaGreat.W
set_option maxRecDepth 100000
theorem nthD_tail:∀ (ds:List D) (j:Nat),nthD (tailD ds) j=nthD ds (j + 1)
 | [],j=>by cases j <;> rfl
 | _ :: _,_=>rfl
theorem gcs_get {B:Nat}:∀ {ts:List DT} {ds:List D} {j:Nat} {t:DT},GCs B ts ds → ts[j]?=some t → GC B t (nthD ds j)
 | [],_,j,_,_,h=>by simp at h
 | t :: r,ds,0,u,h,e=>by
  simp only [List.getElem?_cons_zero,Option.some.injEq] at e
  subst e
  simp only [GCs] at h
  exact h.1
 | t :: r,ds,j + 1,u,h,e=>by
  simp only [GCs] at h
  have:=gcs_get (ts:=r) (j:=j) h.2 (by simpa using e)
  rwa [nthD_tail] at this
theorem gc_u64 {B:Nat} {d:D} (h:GC B (.i .u64) d):U64 d.int:=by
 simp only [GC] at h
 have e1:IntKind.min .u64=0:=rfl
 have e2:IntKind.max .u64=18446744073709551615:=rfl
 have h1:=h.1.1; have h2:=h.1.2
 exact ⟨by omega,by omega⟩
theorem gc_u8 {B:Nat} {d:D} (h:GC B (.i .u8) d):0 ≤ d.int:=by
 simp only [GC] at h
 have e1:IntKind.min .u8=0:=rfl
 have h1:=h.1.1
 omega
theorem gc_ints {d:D} (h:GC reachBytes (.l (.i .i64)) d):d.list.length ≤ 17592186044416∧∀ x ∈ d.list,D.i x.int=x:=by
 simp only [GC] at h
 have e1:DT.by (.i .i64)=8:=rfl
 have e2:reachBytes=140737488351232:=rfl
 have h1:=h.1
 rw [e1,e2] at h1
 exact ⟨by omega,fun x hx=>(h.2.1 x hx).2⟩
theorem fitE_of {e:D} (h:GC reachBytes entT e):FitE e:=by
 have he:=GC.eta _ _ h
 unfold entT at h
 simp only [GC] at h
 exact ⟨he,(gc_ints (gcs_get (j:=3) h.1 rfl)).1,gc_u64 (gcs_get (j:=0) h.1 rfl),gc_u8 (gcs_get (j:=1) h.1 rfl)⟩
theorem fitR_of {e:D} (h:GC reachBytes rdT e):FitR e:=by
 have he:=GC.eta _ _ h
 unfold rdT at h
 simp only [GC] at h
 exact ⟨he,(gc_ints (gcs_get (j:=2) h.1 rfl)).1⟩
theorem gc_elems {t:DT} {d:D} (h:GC reachBytes (.l t) d):∀ x ∈ d.list,GC reachBytes t x:=by
 simp only [GC] at h
 exact h.2.1
theorem fitP_of {a:D} (h:GC reachBytes peerT a) (h10:(a.fld 10).list.length ≤ 1000000) (h15:(a.fld 15).list.length ≤ 1000000) (h17:(a.fld 17).list.length ≤ 1000000):FitP a:=by
 unfold peerT at h
 simp only [GC] at h
 have g:=h.1
 exact ⟨(gc_ints (gcs_get (j:=1) g rfl)).1,(gc_ints (gcs_get (j:=8) g rfl)).1,(gc_ints (gcs_get (j:=14) g rfl)).1,h10,h15,h17,
  fun e he=>fitE_of (gc_elems (gcs_get (j:=10) g rfl) e he),fun e he=>fitR_of (gc_elems (gcs_get (j:=17) g rfl) e he),fun e he=>GC.eta folT _ (gc_elems (gcs_get (j:=15) g rfl) e he),
  (gc_ints (gcs_get (j:=1) g rfl)).2,(gc_ints (gcs_get (j:=14) g rfl)).2,gc_u64 (gcs_get (j:=6) g rfl),gc_u64 (gcs_get (j:=7) g rfl),gc_u64 (gcs_get (j:=2) g rfl),gc_u64 (gcs_get (j:=16) g rfl),gc_u64 (gcs_get (j:=11) g rfl),gc_u8 (gcs_get (j:=4) g rfl)⟩
theorem fol_U {a:D} (h:GC reachBytes peerT a):∀ f ∈ (a.fld 15).list,U64 (f.fld 2).int:=by
 unfold peerT at h
 simp only [GC] at h
 intro f hf
 have k:GC reachBytes folT f:=gc_elems (gcs_get (j:=15) h.1 rfl) f hf
 unfold folT at k
 simp only [GC] at k
 exact gc_u64 (gcs_get (j:=2) k.1 rfl)
end Go.Proofs.YtplflgclomiihaaGreat.XT
