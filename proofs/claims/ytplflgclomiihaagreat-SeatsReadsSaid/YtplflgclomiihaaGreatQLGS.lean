/- Contracts. -/
import Derived.Ground.SlsfProg
import Derived.Shelf.SlSortCmp.NoneTotal
import Derived.Test.YtplflgclomiihaaGreatQS26
import Derived.Test.YtplflgclomiihaaGreatQVTC
import Derived.Test.YtplflgclomiihaaGreatProg
set_option linter.unusedVariables false
set_option linter.unusedSimpArgs false
namespace Go.Proofs
open Go.Shelf
def Tryz.laysSlF6_f98_ren:Go.Shelf.Ren:=⟨fun | 6=>77 | 15=>92 | 14=>91 | 28=>104 | 29=>105 | 20=>96 | 21=>97 | 22=>98 | 23=>99 | 24=>100 | 25=>101 | 26=>102 | 27=>103 | 46=>115 | 47=>116 | 48=>117 | 49=>118 | 50=>119 | 57=>124 | n=>n,fun | 22=>99 | 24=>23 | 25=>101 | 3=>3 | 39=>113 | 0=>0 | 53=>125 | 55=>23 | 4=>4 | 46=>118 | 45=>117 | 50=>122 | 5=>5 | 9=>9 | 66=>133 | 70=>137 | 76=>141 | 77=>142 | n=>n,fun | n=>n⟩
theorem Tryz.laysSlF6_f98:Go.Proofs.SlLaysF.n6 Tryz.prog Tryz.laysSlF6_f98_ren:={
 mixed:=by kernel_rfl
 f6:=⟨Tryz.f77.name,by decide,Tryz.func77.trans (congrArg some (by kernel_rfl))⟩
 f14:=⟨Tryz.f91.name,by decide,Tryz.func91.trans (congrArg some (by kernel_rfl))⟩
 f15:=Tryz.func92.trans (congrArg some (by kernel_rfl))
 f20:=⟨Tryz.f96.name,by decide,Tryz.func96.trans (congrArg some (by kernel_rfl))⟩
 f21:=⟨Tryz.f97.name,by decide,Tryz.func97.trans (congrArg some (by kernel_rfl))⟩
 f22:=⟨Tryz.f98.name,by decide,Tryz.func98.trans (congrArg some (by kernel_rfl))⟩
 f23:=⟨Tryz.f99.name,by decide,Tryz.func99.trans (congrArg some (by kernel_rfl))⟩
 f24:=⟨Tryz.f100.name,by decide,Tryz.func100.trans (congrArg some (by kernel_rfl))⟩
 f25:=⟨Tryz.f101.name,by decide,Tryz.func101.trans (congrArg some (by kernel_rfl))⟩
 f26:=⟨Tryz.f102.name,by decide,Tryz.func102.trans (congrArg some (by kernel_rfl))⟩
 f27:=⟨Tryz.f103.name,by decide,Tryz.func103.trans (congrArg some (by kernel_rfl))⟩
 f28:=Tryz.func104.trans (congrArg some (by kernel_rfl))
 f29:=Tryz.func105.trans (congrArg some (by kernel_rfl))
 f46:=⟨Tryz.f115.name,by decide,Tryz.func115.trans (congrArg some (by kernel_rfl))⟩
 f47:=Tryz.func116.trans (congrArg some (by kernel_rfl))
 f48:=Tryz.func117.trans (congrArg some (by kernel_rfl))
 f49:=⟨Tryz.f118.name,by decide,Tryz.func118.trans (congrArg some (by kernel_rfl))⟩
 f50:=⟨Tryz.f119.name,by decide,Tryz.func119.trans (congrArg some (by kernel_rfl))⟩
 f57:=⟨Tryz.f124.name,by decide,Tryz.func124.trans (congrArg some (by kernel_rfl))⟩
 t0:=Tryz.underlying0
 a0:=Tryz.isAgg0
 z0:=Tryz.sizeOf0
 v0:=Tryz.zeroValue0
 t3:=Tryz.underlying3
 a3:=Tryz.isAgg3
 z3:=Tryz.sizeOf3
 v3:=Tryz.zeroValue3
 t4:=Tryz.underlying4
 a4:=Tryz.isAgg4
 z4:=Tryz.sizeOf4
 v4:=Tryz.zeroValue4
 t5:=Tryz.underlying5
 a5:=Tryz.isAgg5
 z5:=Tryz.sizeOf5
 v5:=Tryz.zeroValue5
 t9:=Tryz.underlying9
 a9:=Tryz.isAgg9
 z9:=Tryz.sizeOf9
 v9:=Tryz.zeroValue9
 t22:=Tryz.underlying99
 a22:=Tryz.isAgg99
 z22:=Tryz.sizeOf99
 v22:=Tryz.zeroValue99
 a24:=Tryz.isAgg23
 z24:=Tryz.sizeOf23
 t25:=Tryz.underlying101
 a25:=Tryz.isAgg101
 z25:=Tryz.sizeOf101
 v25:=Tryz.zeroValue101
 t39:=Tryz.underlying113
 a39:=Tryz.isAgg113
 z39:=Tryz.sizeOf113
 v39:=Tryz.zeroValue113
 t45:=Tryz.underlying117
 a45:=Tryz.isAgg117
 z45:=Tryz.sizeOf117
 v45:=Tryz.zeroValue117
 t46:=Tryz.underlying118
 a46:=Tryz.isAgg118
 z46:=Tryz.sizeOf118
 v46:=Tryz.zeroValue118
 t50:=Tryz.underlying122
 a50:=Tryz.isAgg122
 z50:=Tryz.sizeOf122
 v50:=Tryz.zeroValue122
 t53:=Tryz.underlying125
 a53:=Tryz.isAgg125
 z53:=Tryz.sizeOf125
 v53:=Tryz.zeroValue125
 t55:=Tryz.underlying23
 a55:=Tryz.isAgg23
 z55:=Tryz.sizeOf23
 v55:=Tryz.zeroValue23
 t66:=Tryz.underlying133
 a66:=Tryz.isAgg133
 z66:=Tryz.sizeOf133
 v66:=Tryz.zeroValue133
 t70:=Tryz.underlying137
 a70:=Tryz.isAgg137
 z70:=Tryz.sizeOf137
 v70:=Tryz.zeroValue137
 t76:=Tryz.underlying141
 a76:=Tryz.isAgg141
 z76:=Tryz.sizeOf141
 v76:=Tryz.zeroValue141
 t77:=Tryz.underlying142
 a77:=Tryz.isAgg142
 z77:=Tryz.sizeOf142
 v77:=Tryz.zeroValue142 }
def Tryz.laysSlF06_f98_ren:Go.Shelf.Ren:=⟨fun | 6=>77 | 15=>92 | 14=>91 | 28=>104 | 29=>105 | 20=>96 | 21=>97 | 22=>98 | 23=>99 | 24=>100 | 25=>101 | 26=>102 | 27=>103 | 46=>115 | 47=>116 | 48=>117 | 49=>118 | 50=>119 | 57=>124 | n=>n,fun | 22=>99 | 24=>23 | 25=>101 | 3=>3 | 39=>113 | 0=>0 | 53=>125 | 55=>23 | 4=>4 | 46=>118 | 45=>117 | 50=>122 | 5=>5 | 9=>9 | 66=>133 | 70=>137 | 76=>141 | 77=>142 | n=>n,fun | n=>n⟩
theorem Tryz.laysSlF06_f98:Go.Proofs.SlLaysF0.n6 Tryz.prog Tryz.laysSlF06_f98_ren:={
 mixed:=by kernel_rfl
 f6:=⟨Tryz.f77.name,by decide,Tryz.func77.trans (congrArg some (by kernel_rfl))⟩
 f14:=⟨Tryz.f91.name,by decide,Tryz.func91.trans (congrArg some (by kernel_rfl))⟩
 f15:=Tryz.func92.trans (congrArg some (by kernel_rfl))
 f20:=⟨Tryz.f96.name,by decide,Tryz.func96.trans (congrArg some (by kernel_rfl))⟩
 f21:=⟨Tryz.f97.name,by decide,Tryz.func97.trans (congrArg some (by kernel_rfl))⟩
 f22:=⟨Tryz.f98.name,by decide,Tryz.func98.trans (congrArg some (by kernel_rfl))⟩
 f23:=⟨Tryz.f99.name,by decide,Tryz.func99.trans (congrArg some (by kernel_rfl))⟩
 f24:=⟨Tryz.f100.name,by decide,Tryz.func100.trans (congrArg some (by kernel_rfl))⟩
 f25:=⟨Tryz.f101.name,by decide,Tryz.func101.trans (congrArg some (by kernel_rfl))⟩
 f26:=⟨Tryz.f102.name,by decide,Tryz.func102.trans (congrArg some (by kernel_rfl))⟩
 f27:=⟨Tryz.f103.name,by decide,Tryz.func103.trans (congrArg some (by kernel_rfl))⟩
 f28:=Tryz.func104.trans (congrArg some (by kernel_rfl))
 f29:=Tryz.func105.trans (congrArg some (by kernel_rfl))
 f46:=⟨Tryz.f115.name,by decide,Tryz.func115.trans (congrArg some (by kernel_rfl))⟩
 f47:=Tryz.func116.trans (congrArg some (by kernel_rfl))
 f48:=Tryz.func117.trans (congrArg some (by kernel_rfl))
 f49:=⟨Tryz.f118.name,by decide,Tryz.func118.trans (congrArg some (by kernel_rfl))⟩
 f50:=⟨Tryz.f119.name,by decide,Tryz.func119.trans (congrArg some (by kernel_rfl))⟩
 f57:=⟨Tryz.f124.name,by decide,Tryz.func124.trans (congrArg some (by kernel_rfl))⟩
 t0:=Tryz.underlying0
 a0:=Tryz.isAgg0
 z0:=Tryz.sizeOf0
 v0:=Tryz.zeroValue0
 t3:=Tryz.underlying3
 a3:=Tryz.isAgg3
 z3:=Tryz.sizeOf3
 v3:=Tryz.zeroValue3
 t4:=Tryz.underlying4
 a4:=Tryz.isAgg4
 z4:=Tryz.sizeOf4
 v4:=Tryz.zeroValue4
 t5:=Tryz.underlying5
 a5:=Tryz.isAgg5
 z5:=Tryz.sizeOf5
 v5:=Tryz.zeroValue5
 t9:=Tryz.underlying9
 a9:=Tryz.isAgg9
 z9:=Tryz.sizeOf9
 v9:=Tryz.zeroValue9
 t22:=Tryz.underlying99
 a22:=Tryz.isAgg99
 z22:=Tryz.sizeOf99
 v22:=Tryz.zeroValue99
 t25:=Tryz.underlying101
 a25:=Tryz.isAgg101
 z25:=Tryz.sizeOf101
 v25:=Tryz.zeroValue101
 t39:=Tryz.underlying113
 a39:=Tryz.isAgg113
 z39:=Tryz.sizeOf113
 v39:=Tryz.zeroValue113
 t45:=Tryz.underlying117
 a45:=Tryz.isAgg117
 z45:=Tryz.sizeOf117
 v45:=Tryz.zeroValue117
 t46:=Tryz.underlying118
 a46:=Tryz.isAgg118
 z46:=Tryz.sizeOf118
 v46:=Tryz.zeroValue118
 t50:=Tryz.underlying122
 a50:=Tryz.isAgg122
 z50:=Tryz.sizeOf122
 v50:=Tryz.zeroValue122
 t53:=Tryz.underlying125
 a53:=Tryz.isAgg125
 z53:=Tryz.sizeOf125
 v53:=Tryz.zeroValue125
 t55:=Tryz.underlying23
 a55:=Tryz.isAgg23
 z55:=Tryz.sizeOf23
 v55:=Tryz.zeroValue23
 t66:=Tryz.underlying133
 a66:=Tryz.isAgg133
 z66:=Tryz.sizeOf133
 v66:=Tryz.zeroValue133
 t70:=Tryz.underlying137
 a70:=Tryz.isAgg137
 z70:=Tryz.sizeOf137
 v70:=Tryz.zeroValue137
 t76:=Tryz.underlying141
 a76:=Tryz.isAgg141
 z76:=Tryz.sizeOf141
 v76:=Tryz.zeroValue141
 t77:=Tryz.underlying142
 a77:=Tryz.isAgg142
 z77:=Tryz.sizeOf142
 v77:=Tryz.zeroValue142 }
open Go.RowKit Go.Lib Go.Sort in
theorem Tryz.slices_SortFunc_none {α : Type} [Inhabited α] (p : Option Addr) (cap : Nat) (fv : Value) (w : World) :
    Calls Tryz.prog 77 #[.slice p 0 cap, fv] w fun e w' => e = .returned (.tuple #[]) ∧ w' = w := AnyF.slices_SortFunc_none Tryz.laysSlF06_f98 p cap fv w
open Go.RowKit Go.Lib Go.Sort in
theorem Tryz.slices_SortFunc_total {α : Type} [Inhabited α] (enc : α → Value) (h1 : OneCell enc) (cf : α → α → Int) (hO : SWO (ltOf cf)) (g : Nat) (cb : Array Value) (blk off cap : Nat) (d : Array α) (w : World) (eg : ∀ args w, (callFunc g args).run Tryz.prog w = .ok (.enter g args) w) (hcmp : CmpLays1 Tryz.prog g cb enc cf blk off d.size w) (hH : Holds enc w blk off d) (hblk : blk < w.heap.size) (hsz : d.size < 4611686018427387904) (hT : ∀ x y, (ltOf cf) x y = false → (ltOf cf) y x = false → x = y) :
    Calls Tryz.prog 77 #[.slice (some ⟨blk, off, none⟩) d.size cap, .func (.func g) #[] cb] w fun e w' =>
      e = .returned (.tuple #[]) ∧ ∃ n os, w' = sortWorld enc w blk off n (d.toList.mergeSort fun x y => !(ltOf cf) y x).toArray os := Any.slices_SortFunc_total Tryz.laysSlF6_f98 enc h1 cf hO g cb blk off cap d w eg hcmp hH hblk hsz hT
end Go.Proofs
namespace Go.Proofs.YtplflgclomiihaaGreat.XT
open Go Go.RowKit Go.Lib Go.Sort Go.Proofs.YtplflgclomiihaaGreat.Sv Go.Proofs.YtplflgclomiihaaGreat.W
set_option maxRecDepth 100000
def cfU (x y:Int):Int:=bif decide (y < x) then -1 else bif decide (x < y) then 1 else 0
theorem ltU (x y:Int):ltOf cfU x y=decide (y < x):=by
 unfold ltOf cfU
 by_cases h1:y < x
 ·simp [h1]
 ·by_cases h2:x < y <;> simp [h1,h2]
theorem swoU:SWO (ltOf cfU) where
 irrefl x:=by rw [ltU]; simp
 trans x y z h1 h2:=by rw [ltU] at *; simp at *; omega
 ntrans x y z h1 h2:=by rw [ltU] at *; simp at *; omega
theorem totU (x y:Int) (h1:ltOf cfU x y=false) (h2:ltOf cfU y x=false):x=y:=by rw [ltU] at *; simp at *; omega
theorem geU:(fun x y:Int=>!ltOf cfU y x)=fun x y=>decide (y ≤ x):=by
 funext x y
 rw [ltU]
 by_cases h:y ≤ x
 ·have h':¬ x < y:=by omega
  simp [h,h']
 ·have h':x < y:=by omega
  simp [h,h']
theorem cmp_walk (x y:Int) (w:World):Fnc Tryz.prog 78 #[.int .u64 x,.int .u64 y] w fun r w'=>r=.int .i64 (cfU x y)∧w'=w:=by
 refine Fnc.of_WP (n:=13) (fn:=Tryz.f78) Tryz.func78 rfl Tryz.ntmps78 (by simp) ?_
 intro E hE
 have h0:E 0=.int .u64 x:=hE 0 (by simp)
 have h1:E 1=.int .u64 y:=hE 1 (by simp)
 refine WP.sr ?_
 refine WL.v (u:=.int .i64 0) (Sure.none rfl) rfl (V.assign rfl rfl) ?_
 refine WL.nil ?_
 refine WP.seq ?_
 refine WP.block ?_
 refine WP.sr ?_
 refine WL.v (u:=.int .u64 x) (Sure.none rfl) rfl (V.move (x:=.tmp 0) rfl h0) ?_
 refine WL.v (u:=.int .u64 y) (Sure.none rfl) rfl (V.move (x:=.tmp 1) rfl h1) ?_
 refine WL.v (u:=.bool (decide (y < x))) (Sure.none rfl) rfl (V.cmp (x:=.tmp 6) (y:=.tmp 7) (a:=x) (b:=y) rfl rfl rfl rfl) ?_
 refine WL.v (u:=.bool (decide (y < x))) (Sure.none rfl) rfl (V.assign (x:=.tmp 8) rfl rfl) ?_
 refine WL.nil ?_
 refine WP.condp (t:=y < x) rfl (fun hlt=>?_) (fun hlt=>?_)
 ·refine WP.sr ?_
  refine WL.v (u:=.int .i64 (-1)) (Sure.none rfl) rfl (V.assign rfl rfl) ?_
  refine WL.nil ?_
  refine WP.ret ?_
  refine resOf.c1 rfl (v:=.int .i64 (-1)) rfl ?_
  exact ⟨by unfold cfU; rw [decide_eq_true hlt]; rfl,rfl⟩
 refine WP.sr ?_
 refine WL.v (u:=.int .u64 x) (Sure.none rfl) rfl (V.move (x:=.tmp 0) rfl h0) ?_
 refine WL.v (u:=.int .u64 y) (Sure.none rfl) rfl (V.move (x:=.tmp 1) rfl h1) ?_
 refine WL.v (u:=.bool (decide (x < y))) (Sure.none rfl) rfl (V.cmp (x:=.tmp 10) (y:=.tmp 11) (a:=x) (b:=y) rfl rfl rfl rfl) ?_
 refine WL.v (u:=.bool (decide (x < y))) (Sure.none rfl) rfl (V.assign (x:=.tmp 12) rfl rfl) ?_
 refine WL.nil ?_
 refine WP.condp (t:=x < y) rfl (fun hgt=>?_) (fun hgt=>?_)
 ·refine WP.sr ?_
  refine WL.v (u:=.int .i64 1) (Sure.none rfl) rfl (V.assign rfl rfl) ?_
  refine WL.nil ?_
  refine WP.ret ?_
  refine resOf.c1 rfl (v:=.int .i64 1) rfl ?_
  exact ⟨by unfold cfU; rw [decide_eq_false hlt,decide_eq_true hgt]; rfl,rfl⟩
 refine WP.skip ?_
 refine WP.sr ?_
 refine WL.v (u:=.int .i64 0) (Sure.none rfl) rfl (V.assign rfl rfl) ?_
 refine WL.nil ?_
 refine WP.ret ?_
 refine resOf.c1 rfl (v:=.int .i64 0) rfl ?_
 exact ⟨by unfold cfU; rw [decide_eq_false hlt,decide_eq_false hgt]; rfl,rfl⟩
theorem cmp_lays (b size:Nat) (w:World):CmpLays1 Tryz.prog 78 #[] (Value.int .u64) cfU b 0 size w:=by
 intro m os dk hs x y
 refine Calls.mono (cmp_walk x y _) ?_
 rintro e w' ⟨v,rfl,rfl,rfl⟩
 exact ⟨rfl,0,#[],by rw [grow_empty]; rfl⟩
theorem sort_ok {Γ:Gl}:RowOK Tryz.prog Γ 77 (rowC 23 (.i .u64) [78] (fun xs=>xs.length < 4611686018427387904) (sortI fun x y=>decide (y ≤ x))) 23 (.i .u64) [78]:=by
 refine sort_row (fun d b c w hH hb hd=>?_) (fun p c w=>?_)
 ·have eg:∀ args w,(callFunc 78 args).run Tryz.prog w=.ok (.enter 78 args) w:=enters_of Tryz.func78 (by kernel_rfl) rfl
  have hS:=Tryz.slices_SortFunc_total (Value.int .u64) (fun _=>rfl) cfU swoU 78 #[] b 0 c d w eg (cmp_lays b d.size w) hH hb hd totU
  rw [geU] at hS
  exact hS
 ·exact (Tryz.slices_SortFunc_none (α:=Int) p c (.func (.func 78) #[] #[]) w).mono fun e w' ⟨he,hw⟩=>⟨he,#[],by rw [grow_empty,hw]⟩
end Go.Proofs.YtplflgclomiihaaGreat.XT
