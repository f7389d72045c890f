/- Contracts. -/
import Derived.Ground.SlsfProg
import Derived.Shelf.SlSortCmp.NoneTotal
import Derived.Test.YtplflgclomiihaaQS26
import Derived.Test.YtplflgclomiihaaQVTC
import Derived.Test.YtplflgclomiihaaProg
set_option linter.unusedVariables false
set_option linter.unusedSimpArgs false
namespace Go.Proofs
open Go.Shelf
def Try.laysSlF6_f98_ren:Go.Shelf.Ren:=⟨fun | 6=>98 | 15=>121 | 14=>120 | 28=>134 | 29=>135 | 20=>126 | 21=>127 | 22=>128 | 23=>129 | 24=>130 | 25=>131 | 26=>132 | 27=>133 | 46=>137 | 47=>138 | 48=>139 | 49=>140 | 50=>141 | 57=>142 | n=>n,fun | 22=>138 | 24=>25 | 25=>140 | 3=>3 | 39=>143 | 0=>0 | 53=>168 | 55=>25 | 4=>4 | 46=>161 | 45=>160 | 50=>165 | 5=>5 | 9=>9 | 66=>171 | 70=>174 | 76=>176 | 77=>177 | n=>n,fun | n=>n⟩
theorem Try.laysSlF6_f98:Go.Proofs.SlLaysF.n6 Try.prog Try.laysSlF6_f98_ren:={
 mixed:=by kernel_rfl
 f6:=⟨Try.f98.name,by decide,Try.func98.trans (congrArg some (by kernel_rfl))⟩
 f14:=⟨Try.f120.name,by decide,Try.func120.trans (congrArg some (by kernel_rfl))⟩
 f15:=Try.func121.trans (congrArg some (by kernel_rfl))
 f20:=⟨Try.f126.name,by decide,Try.func126.trans (congrArg some (by kernel_rfl))⟩
 f21:=⟨Try.f127.name,by decide,Try.func127.trans (congrArg some (by kernel_rfl))⟩
 f22:=⟨Try.f128.name,by decide,Try.func128.trans (congrArg some (by kernel_rfl))⟩
 f23:=⟨Try.f129.name,by decide,Try.func129.trans (congrArg some (by kernel_rfl))⟩
 f24:=⟨Try.f130.name,by decide,Try.func130.trans (congrArg some (by kernel_rfl))⟩
 f25:=⟨Try.f131.name,by decide,Try.func131.trans (congrArg some (by kernel_rfl))⟩
 f26:=⟨Try.f132.name,by decide,Try.func132.trans (congrArg some (by kernel_rfl))⟩
 f27:=⟨Try.f133.name,by decide,Try.func133.trans (congrArg some (by kernel_rfl))⟩
 f28:=Try.func134.trans (congrArg some (by kernel_rfl))
 f29:=Try.func135.trans (congrArg some (by kernel_rfl))
 f46:=⟨Try.f137.name,by decide,Try.func137.trans (congrArg some (by kernel_rfl))⟩
 f47:=Try.func138.trans (congrArg some (by kernel_rfl))
 f48:=Try.func139.trans (congrArg some (by kernel_rfl))
 f49:=⟨Try.f140.name,by decide,Try.func140.trans (congrArg some (by kernel_rfl))⟩
 f50:=⟨Try.f141.name,by decide,Try.func141.trans (congrArg some (by kernel_rfl))⟩
 f57:=⟨Try.f142.name,by decide,Try.func142.trans (congrArg some (by kernel_rfl))⟩
 t0:=Try.underlying0
 a0:=Try.isAgg0
 z0:=Try.sizeOf0
 v0:=Try.zeroValue0
 t3:=Try.underlying3
 a3:=Try.isAgg3
 z3:=Try.sizeOf3
 v3:=Try.zeroValue3
 t4:=Try.underlying4
 a4:=Try.isAgg4
 z4:=Try.sizeOf4
 v4:=Try.zeroValue4
 t5:=Try.underlying5
 a5:=Try.isAgg5
 z5:=Try.sizeOf5
 v5:=Try.zeroValue5
 t9:=Try.underlying9
 a9:=Try.isAgg9
 z9:=Try.sizeOf9
 v9:=Try.zeroValue9
 t22:=Try.underlying138
 a22:=Try.isAgg138
 z22:=Try.sizeOf138
 v22:=Try.zeroValue138
 a24:=Try.isAgg25
 z24:=Try.sizeOf25
 t25:=Try.underlying140
 a25:=Try.isAgg140
 z25:=Try.sizeOf140
 v25:=Try.zeroValue140
 t39:=Try.underlying143
 a39:=Try.isAgg143
 z39:=Try.sizeOf143
 v39:=Try.zeroValue143
 t45:=Try.underlying160
 a45:=Try.isAgg160
 z45:=Try.sizeOf160
 v45:=Try.zeroValue160
 t46:=Try.underlying161
 a46:=Try.isAgg161
 z46:=Try.sizeOf161
 v46:=Try.zeroValue161
 t50:=Try.underlying165
 a50:=Try.isAgg165
 z50:=Try.sizeOf165
 v50:=Try.zeroValue165
 t53:=Try.underlying168
 a53:=Try.isAgg168
 z53:=Try.sizeOf168
 v53:=Try.zeroValue168
 t55:=Try.underlying25
 a55:=Try.isAgg25
 z55:=Try.sizeOf25
 v55:=Try.zeroValue25
 t66:=Try.underlying171
 a66:=Try.isAgg171
 z66:=Try.sizeOf171
 v66:=Try.zeroValue171
 t70:=Try.underlying174
 a70:=Try.isAgg174
 z70:=Try.sizeOf174
 v70:=Try.zeroValue174
 t76:=Try.underlying176
 a76:=Try.isAgg176
 z76:=Try.sizeOf176
 v76:=Try.zeroValue176
 t77:=Try.underlying177
 a77:=Try.isAgg177
 z77:=Try.sizeOf177
 v77:=Try.zeroValue177 }
def Try.laysSlF06_f98_ren:Go.Shelf.Ren:=⟨fun | 6=>98 | 15=>121 | 14=>120 | 28=>134 | 29=>135 | 20=>126 | 21=>127 | 22=>128 | 23=>129 | 24=>130 | 25=>131 | 26=>132 | 27=>133 | 46=>137 | 47=>138 | 48=>139 | 49=>140 | 50=>141 | 57=>142 | n=>n,fun | 22=>138 | 24=>25 | 25=>140 | 3=>3 | 39=>143 | 0=>0 | 53=>168 | 55=>25 | 4=>4 | 46=>161 | 45=>160 | 50=>165 | 5=>5 | 9=>9 | 66=>171 | 70=>174 | 76=>176 | 77=>177 | n=>n,fun | n=>n⟩
theorem Try.laysSlF06_f98:Go.Proofs.SlLaysF0.n6 Try.prog Try.laysSlF06_f98_ren:={
 mixed:=by kernel_rfl
 f6:=⟨Try.f98.name,by decide,Try.func98.trans (congrArg some (by kernel_rfl))⟩
 f14:=⟨Try.f120.name,by decide,Try.func120.trans (congrArg some (by kernel_rfl))⟩
 f15:=Try.func121.trans (congrArg some (by kernel_rfl))
 f20:=⟨Try.f126.name,by decide,Try.func126.trans (congrArg some (by kernel_rfl))⟩
 f21:=⟨Try.f127.name,by decide,Try.func127.trans (congrArg some (by kernel_rfl))⟩
 f22:=⟨Try.f128.name,by decide,Try.func128.trans (congrArg some (by kernel_rfl))⟩
 f23:=⟨Try.f129.name,by decide,Try.func129.trans (congrArg some (by kernel_rfl))⟩
 f24:=⟨Try.f130.name,by decide,Try.func130.trans (congrArg some (by kernel_rfl))⟩
 f25:=⟨Try.f131.name,by decide,Try.func131.trans (congrArg some (by kernel_rfl))⟩
 f26:=⟨Try.f132.name,by decide,Try.func132.trans (congrArg some (by kernel_rfl))⟩
 f27:=⟨Try.f133.name,by decide,Try.func133.trans (congrArg some (by kernel_rfl))⟩
 f28:=Try.func134.trans (congrArg some (by kernel_rfl))
 f29:=Try.func135.trans (congrArg some (by kernel_rfl))
 f46:=⟨Try.f137.name,by decide,Try.func137.trans (congrArg some (by kernel_rfl))⟩
 f47:=Try.func138.trans (congrArg some (by kernel_rfl))
 f48:=Try.func139.trans (congrArg some (by kernel_rfl))
 f49:=⟨Try.f140.name,by decide,Try.func140.trans (congrArg some (by kernel_rfl))⟩
 f50:=⟨Try.f141.name,by decide,Try.func141.trans (congrArg some (by kernel_rfl))⟩
 f57:=⟨Try.f142.name,by decide,Try.func142.trans (congrArg some (by kernel_rfl))⟩
 t0:=Try.underlying0
 a0:=Try.isAgg0
 z0:=Try.sizeOf0
 v0:=Try.zeroValue0
 t3:=Try.underlying3
 a3:=Try.isAgg3
 z3:=Try.sizeOf3
 v3:=Try.zeroValue3
 t4:=Try.underlying4
 a4:=Try.isAgg4
 z4:=Try.sizeOf4
 v4:=Try.zeroValue4
 t5:=Try.underlying5
 a5:=Try.isAgg5
 z5:=Try.sizeOf5
 v5:=Try.zeroValue5
 t9:=Try.underlying9
 a9:=Try.isAgg9
 z9:=Try.sizeOf9
 v9:=Try.zeroValue9
 t22:=Try.underlying138
 a22:=Try.isAgg138
 z22:=Try.sizeOf138
 v22:=Try.zeroValue138
 t25:=Try.underlying140
 a25:=Try.isAgg140
 z25:=Try.sizeOf140
 v25:=Try.zeroValue140
 t39:=Try.underlying143
 a39:=Try.isAgg143
 z39:=Try.sizeOf143
 v39:=Try.zeroValue143
 t45:=Try.underlying160
 a45:=Try.isAgg160
 z45:=Try.sizeOf160
 v45:=Try.zeroValue160
 t46:=Try.underlying161
 a46:=Try.isAgg161
 z46:=Try.sizeOf161
 v46:=Try.zeroValue161
 t50:=Try.underlying165
 a50:=Try.isAgg165
 z50:=Try.sizeOf165
 v50:=Try.zeroValue165
 t53:=Try.underlying168
 a53:=Try.isAgg168
 z53:=Try.sizeOf168
 v53:=Try.zeroValue168
 t55:=Try.underlying25
 a55:=Try.isAgg25
 z55:=Try.sizeOf25
 v55:=Try.zeroValue25
 t66:=Try.underlying171
 a66:=Try.isAgg171
 z66:=Try.sizeOf171
 v66:=Try.zeroValue171
 t70:=Try.underlying174
 a70:=Try.isAgg174
 z70:=Try.sizeOf174
 v70:=Try.zeroValue174
 t76:=Try.underlying176
 a76:=Try.isAgg176
 z76:=Try.sizeOf176
 v76:=Try.zeroValue176
 t77:=Try.underlying177
 a77:=Try.isAgg177
 z77:=Try.sizeOf177
 v77:=Try.zeroValue177 }
open Go.RowKit Go.Lib Go.Sort in
theorem Try.slices_SortFunc_none {α : Type} [Inhabited α] (p : Option Addr) (cap : Nat) (fv : Value) (w : World) :
    Calls Try.prog 98 #[.slice p 0 cap, fv] w fun e w' => e = .returned (.tuple #[]) ∧ w' = w := AnyF.slices_SortFunc_none Try.laysSlF06_f98 p cap fv w
open Go.RowKit Go.Lib Go.Sort in
theorem Try.slices_SortFunc_total {α : Type} [Inhabited α] (enc : α → Value) (h1 : OneCell enc) (cf : α → α → Int) (hO : SWO (ltOf cf)) (g : Nat) (cb : Array Value) (blk off cap : Nat) (d : Array α) (w : World) (eg : ∀ args w, (callFunc g args).run Try.prog w = .ok (.enter g args) w) (hcmp : CmpLays1 Try.prog g cb enc cf blk off d.size w) (hH : Holds enc w blk off d) (hblk : blk < w.heap.size) (hsz : d.size < 4611686018427387904) (hT : ∀ x y, (ltOf cf) x y = false → (ltOf cf) y x = false → x = y) :
    Calls Try.prog 98 #[.slice (some ⟨blk, off, none⟩) d.size cap, .func (.func g) #[] cb] w fun e w' =>
      e = .returned (.tuple #[]) ∧ ∃ n os, w' = sortWorld enc w blk off n (d.toList.mergeSort fun x y => !(ltOf cf) y x).toArray os := Any.slices_SortFunc_total Try.laysSlF6_f98 enc h1 cf hO g cb blk off cap d w eg hcmp hH hblk hsz hT
end Go.Proofs
namespace Go.Proofs.Ytplflgclomiihaa.XT
open Go Go.RowKit Go.Lib Go.Sort Go.Proofs.Ytplflgclomiihaa.Sv Go.Proofs.Ytplflgclomiihaa.W
set_option maxRecDepth 100000
def cfU (x y:Int):Int:=bif decide (y < x) then -1 else bif decide (x < y) then 1 else 0
theorem ltU (x y:Int):ltOf cfU x y=decide (y < x):=by
 unfold ltOf cfU
 by_cases h1:y < x
 ·simp [h1]
 ·by_cases h2:x < y <;> simp [h1,h2]
theorem swoU:SWO (ltOf cfU) where
 irrefl x:=by rw [ltU]; simp
 trans x y z h1 h2:=by rw [ltU] at *; simp at *; omega
 ntrans x y z h1 h2:=by rw [ltU] at *; simp at *; omega
theorem totU (x y:Int) (h1:ltOf cfU x y=false) (h2:ltOf cfU y x=false):x=y:=by rw [ltU] at *; simp at *; omega
theorem geU:(fun x y:Int=>!ltOf cfU y x)=fun x y=>decide (y ≤ x):=by
 funext x y
 rw [ltU]
 by_cases h:y ≤ x
 ·have h':¬ x < y:=by omega
  simp [h,h']
 ·have h':x < y:=by omega
  simp [h,h']
theorem cmp_walk (x y:Int) (w:World):Fnc Try.prog 99 #[.int .u64 x,.int .u64 y] w fun r w'=>r=.int .i64 (cfU x y)∧w'=w:=by
 refine Fnc.of_WP (n:=13) (fn:=Try.f99) Try.func99 rfl Try.ntmps99 (by simp) ?_
 intro E hE
 have h0:E 0=.int .u64 x:=hE 0 (by simp)
 have h1:E 1=.int .u64 y:=hE 1 (by simp)
 refine WP.sr ?_
 refine WL.v (u:=.int .i64 0) (Sure.none rfl) rfl (V.assign rfl rfl) ?_
 refine WL.nil ?_
 refine WP.seq ?_
 refine WP.block ?_
 refine WP.sr ?_
 refine WL.v (u:=.int .u64 x) (Sure.none rfl) rfl (V.move (x:=.tmp 0) rfl h0) ?_
 refine WL.v (u:=.int .u64 y) (Sure.none rfl) rfl (V.move (x:=.tmp 1) rfl h1) ?_
 refine WL.v (u:=.bool (decide (y < x))) (Sure.none rfl) rfl (V.cmp (x:=.tmp 6) (y:=.tmp 7) (a:=x) (b:=y) rfl rfl rfl rfl) ?_
 refine WL.v (u:=.bool (decide (y < x))) (Sure.none rfl) rfl (V.assign (x:=.tmp 8) rfl rfl) ?_
 refine WL.nil ?_
 refine WP.condp (t:=y < x) rfl (fun hlt=>?_) (fun hlt=>?_)
 ·refine WP.sr ?_
  refine WL.v (u:=.int .i64 (-1)) (Sure.none rfl) rfl (V.assign rfl rfl) ?_
  refine WL.nil ?_
  refine WP.ret ?_
  refine resOf.c1 rfl (v:=.int .i64 (-1)) rfl ?_
  exact ⟨by unfold cfU; rw [decide_eq_true hlt]; rfl,rfl⟩
 refine WP.sr ?_
 refine WL.v (u:=.int .u64 x) (Sure.none rfl) rfl (V.move (x:=.tmp 0) rfl h0) ?_
 refine WL.v (u:=.int .u64 y) (Sure.none rfl) rfl (V.move (x:=.tmp 1) rfl h1) ?_
 refine WL.v (u:=.bool (decide (x < y))) (Sure.none rfl) rfl (V.cmp (x:=.tmp 10) (y:=.tmp 11) (a:=x) (b:=y) rfl rfl rfl rfl) ?_
 refine WL.v (u:=.bool (decide (x < y))) (Sure.none rfl) rfl (V.assign (x:=.tmp 12) rfl rfl) ?_
 refine WL.nil ?_
 refine WP.condp (t:=x < y) rfl (fun hgt=>?_) (fun hgt=>?_)
 ·refine WP.sr ?_
  refine WL.v (u:=.int .i64 1) (Sure.none rfl) rfl (V.assign rfl rfl) ?_
  refine WL.nil ?_
  refine WP.ret ?_
  refine resOf.c1 rfl (v:=.int .i64 1) rfl ?_
  exact ⟨by unfold cfU; rw [decide_eq_false hlt,decide_eq_true hgt]; rfl,rfl⟩
 refine WP.skip ?_
 refine WP.sr ?_
 refine WL.v (u:=.int .i64 0) (Sure.none rfl) rfl (V.assign rfl rfl) ?_
 refine WL.nil ?_
 refine WP.ret ?_
 refine resOf.c1 rfl (v:=.int .i64 0) rfl ?_
 exact ⟨by unfold cfU; rw [decide_eq_false hlt,decide_eq_false hgt]; rfl,rfl⟩
theorem cmp_lays (b size:Nat) (w:World):CmpLays1 Try.prog 99 #[] (Value.int .u64) cfU b 0 size w:=by
 intro m os dk hs x y
 refine Calls.mono (cmp_walk x y _) ?_
 rintro e w' ⟨v,rfl,rfl,rfl⟩
 exact ⟨rfl,0,#[],by rw [grow_empty]; rfl⟩
theorem sort_ok {Γ:Gl}:RowOK Try.prog Γ 98 (rowC 25 (.i .u64) [99] (fun xs=>xs.length < 4611686018427387904) (sortI fun x y=>decide (y ≤ x))) 25 (.i .u64) [99]:=by
 refine sort_row (fun d b c w hH hb hd=>?_) (fun p c w=>?_)
 ·have eg:∀ args w,(callFunc 99 args).run Try.prog w=.ok (.enter 99 args) w:=enters_of Try.func99 (by kernel_rfl) rfl
  have hS:=Try.slices_SortFunc_total (Value.int .u64) (fun _=>rfl) cfU swoU 99 #[] b 0 c d w eg (cmp_lays b d.size w) hH hb hd totU
  rw [geU] at hS
  exact hS
 ·exact (Try.slices_SortFunc_none (α:=Int) p c (.func (.func 99) #[] #[]) w).mono fun e w' ⟨he,hw⟩=>⟨he,#[],by rw [grow_empty,hw]⟩
end Go.Proofs.Ytplflgclomiihaa.XT
