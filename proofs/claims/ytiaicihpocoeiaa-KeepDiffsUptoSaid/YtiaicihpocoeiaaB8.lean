/- My texts, cut to what this claim needs and merged. -/
import Derived.Test.YtiaicihpocoeiaaB7
import Derived.Test.YtiaicihpocoeiaaB2
namespace Go.Proofs.Ytiaicihpocoeiaa.X1
open T W Go.RowKit
set_option maxRecDepth 100000
set_option maxHeartbeats 400000
theorem u91:Try.prog.underlying 91 = some (.slice 5):=by kernel_rfl
theorem u5:Try.prog.underlying 5 = some (.int .u8):=by kernel_rfl
theorem u9:Try.prog.underlying 9 = some (.string):=by kernel_rfl
theorem u23:Try.prog.underlying 23 = some (.int .u64):=by kernel_rfl
theorem u3:Try.prog.underlying 3 = some (.int .i64):=by kernel_rfl
theorem u90:Try.prog.underlying 90 = some (.int .u64):=by kernel_rfl
theorem s5:Sized Try.prog 5 1:=by unfold Sized; kernel_rfl
theorem e5:Elem Try.prog 5 (.int .u8 (0)) 1 1:=by unfold Elem; kernel_rfl
theorem cl62:Callable Try.prog 62:=⟨Try.f62,Try.func62,by kernel_rfl,rfl⟩
theorem mo:Try.prog.follows .mixedOrders = true:=by kernel_rfl
theorem u89:Try.prog.underlying 89 = some (.array 9 5):=by kernel_rfl
theorem z89:W.Zero Try.prog 89 (.agg #[.int .u8 (0),.int .u8 (0),.int .u8 (0),.int .u8 (0),.int .u8 (0),.int .u8 (0),.int .u8 (0),.int .u8 (0),.int .u8 (0)]):=by unfold W.Zero; kernel_rfl
def byteOf (x:Int) (i:Nat):Int:=IntKind.u8.wrap (bshr .u64 x (8 * (i:Int)))
def fixK (x:Int) (m k:Nat):List Int:=(List.range m).map fun j=>if m - 1 - j < k then byteOf x (m - 1 - j) else 0
def fixedL (x:Int) (m:Nat):List Int:=(List.range m).map fun j=>byteOf x (m - 1 - j)
theorem fixK_len (x:Int) (m k:Nat):(fixK x m k).length = m:=by simp [fixK]
theorem fixK_zero (x:Int) (m:Nat):List.replicate m 0 = fixK x m 0:=by
 apply List.ext_getElem
 ·simp [fixK]
 ·intro i h1 h2; simp [fixK]
theorem fixK_set {x:Int} {m k:Nat} (h:k < m):(fixK x m k).set (m - 1 - k) (byteOf x k) = fixK x m (k + 1):=by
 apply List.ext_getElem
 ·simp [fixK]
 ·intro i h1 h2
  have hi:i < m:=by simpa [fixK] using h2
  rw [List.getElem_set]
  simp only [fixK,List.getElem_map,List.getElem_range]
  by_cases e:m - 1 - k = i
  ·rw [if_pos e,if_pos (by omega)]
   have:m - 1 - i = k:=by omega
   rw [this]
  ·rw [if_neg e]
   by_cases h3:m - 1 - i < k
   ·rw [if_pos h3,if_pos (by omega)]
   ·rw [if_neg h3,if_neg (by omega)]
theorem fixK_all (x:Int) (m:Nat):fixK x m m = fixedL x m:=by
 apply List.ext_getElem
 ·simp [fixK,fixedL]
 ·intro i h1 h2
  have hi:i < m:=by simpa [fixK] using h1
  simp only [fixK,fixedL,List.getElem_map,List.getElem_range]
  rw [if_pos (by omega)]
theorem ref_Fixed {w:World} {x:Int} {m:Nat} (hm:m ≤ 8):Fnc Try.prog 62 #[.int .u64 x,.int .i64 (m:Int)] w (fun v w'=>v = .string (strOfNums (fixedL x m)) ∧ Ext [] w w'):=by
 refine Fnc.of_WP (n:=28) Try.func62 rfl Try.ntmps62 (by simp) ?_
 intro E hE
 have h0:E 0 = .int .u64 x:=hE 0 (by simp)
 have h1:E 1 = .int .i64 (m:Int):=hE 1 (by simp)
 clear hE
 refine WP.sr ?_
 refine WL.z (.string (ByteArray.mk #[])) (V.assign rfl rfl) ?_
 refine WL.nil ?_
 refine WP.sr ?_
 refine WL.z (.int .i64 (m:Int)) (V.move (x:=.tmp 1) rfl h1) ?_
 refine WL.makeBytes (x:=.tmp 7) (y:=.tmp 7) (Sure.none rfl) rfl rfl u91 e5 rfl rfl (by omega) rfl (fun b w2 Ad hge hb=>?_)
 refine WL.z (.slice (some ⟨b,0,none⟩) m m) (V.assign (x:=.tmp 8) rfl rfl) ?_
 refine WL.nil ?_
 rw [fixK_zero x m] at hb
 refine WP.seq ?_
 refine WP.sr ?_
 refine WL.z (.int .i64 0) (V.assign rfl rfl) ?_
 refine WL.nil ?_
 refine WP.block ?_
 refine WP.loop (σ:=Nat) (fun k E w'=>E 0 = .int .u64 x ∧ E 1 = .int .i64 (m:Int) ∧ E 5 = .slice (some ⟨b,0,none⟩) m m ∧ E 6 = .int .i64 (k:Int) ∧ k ≤ m ∧ Box w' b 5 (nrow .u8 (fixK x m k) []) ∧ Ext [b] w2 w') (fun k=>m - k) 0 ?_ ?_
 ·exact ⟨h0,h1,rfl,rfl,Nat.zero_le _,hb,Ext.refl _ _⟩
 ·rintro k E w3 ⟨g0,g1,g5,g6,hk,Ab,Ac⟩
  refine WP.seq ?_
  refine WP.sr ?_
  refine WL.z (.int .i64 (k:Int)) (V.move (x:=.tmp 6) rfl g6) ?_
  refine WL.z (.int .i64 (m:Int)) (V.move (x:=.tmp 1) rfl g1) ?_
  refine WL.z (.bool (decide ((k:Int) < (m:Int)))) (V.cmp rfl rfl rfl rfl) ?_
  refine WL.nil ?_
  refine WP.condp (t:=(k:Int) < (m:Int)) rfl (fun hc=>?_) (fun hc=>?_)
  ·have hkm:k < m:=by omega
   refine WP.skip ?_
   refine WP.seq ?_
   refine WP.block ?_
   refine WP.region ?_
   refine WL.z (.slice (some ⟨b,0,none⟩) m m) (V.move (x:=.tmp 5) rfl g5) ?_
   refine WL.z (.int .i64 (m:Int)) (V.move (x:=.tmp 1) rfl g1) ?_
   refine WL.z (.int .i64 ((m:Int) - 1)) (V.arith rfl rfl rfl rfl (wrap_i64 (by omega) (by omega))) ?_
   refine WL.z (.int .i64 (k:Int)) (V.move (x:=.tmp 6) rfl g6) ?_
   refine WL.z (.int .i64 (((m - 1 - k:Nat):Int))) (V.arith (r:=(m:Int) - 1 - (k:Int)) rfl rfl rfl rfl ((wrap_i64 (by omega) (by omega)).trans (by omega))) ?_
   refine WL.z (.int .u64 x) (V.move (x:=.tmp 0) rfl g0) ?_
   refine WL.z (.int .i64 (k:Int)) (V.move (x:=.tmp 6) rfl g6) ?_
   refine WL.z (.int .i64 (8 * (k:Int))) (V.arith rfl rfl rfl rfl (wrap_i64 (by omega) (by omega))) ?_
   refine WL.z (.int .u64 (8 * (k:Int))) (V.convInt rfl u3 u90 rfl (wrap_u64 (by omega) (by omega))) ?_
   refine WL.z (.int .u64 (bshr .u64 x (8 * (k:Int)))) (V.shift rfl rfl rfl (by omega) rfl) ?_
   refine WL.z (.int .u8 (byteOf x k)) (V.convInt rfl u23 u5 rfl rfl) ?_
   refine WL.z (.pointer (some ⟨b,0 + (m - 1 - k) * 1,none⟩)) (V.indexAddr (m:=m - 1 - k) (j:=((m - 1 - k:Nat):Int)) rfl u91 s5 rfl rfl rfl (by omega)) ?_
   refine WL.store (Sure.none rfl) rfl rfl s5 rfl rfl rfl Ab (by rw [nrow_len,fixK_len]; omega) (fun w4 Ae Aa=>?_)
   replace Aa:Box w4 b 5 ((nrow .u8 (fixK x m k) []).set (0 + (m - 1 - k) * 1) (.int .u8 (byteOf x k))):=Aa
   rw [show 0 + (m - 1 - k) * 1 = m - 1 - k from by omega,nrow_set (by rw [fixK_len]; omega),fixK_set hkm] at Aa
   refine WL.nil ?_
   refine WP.region ?_
   refine WL.z (.int .i64 (k:Int)) (V.move (x:=.tmp 6) rfl g6) ?_
   refine WL.z (.int .i64 ((k:Int) + 1)) (V.arith rfl rfl rfl rfl (wrap_i64 (by omega) (by omega))) ?_
   refine WL.z (.int .i64 ((k:Int) + 1)) (V.assign rfl rfl) ?_
   refine WL.nil ?_
   exact ⟨k + 1,⟨g0,g1,g5,int_eq (by omega),hkm,Aa,Ac.trans Ae⟩,by omega⟩
  ·have hkm:k = m:=by omega
   rw [hkm,fixK_all] at Ab
   refine WP.exit ?_
   refine WP.sr ?_
   refine WL.z (.slice (some ⟨b,0,none⟩) m m) (V.move (x:=.tmp 5) rfl g5) ?_
   refine WL.z (.string (strOfNums (fixedL x m))) (V.bytesStr rfl u91 u5 u9 rfl Ab (by simp [fixedL])) ?_
   refine WL.z (.string (strOfNums (fixedL x m))) (V.assign rfl rfl) ?_
   refine WL.nil ?_
   refine WP.ret ?_
   refine resOf.c1 rfl (v:=.string (strOfNums (fixedL x m))) rfl ?_
   exact ⟨rfl,Ext.skip Ad Ac (by intro y hy; simp at hy; omega)⟩
def numL (x:Int):Nat:=(List.range 8).findIdx (fun (i:Nat)=>decide (bshr .u64 x (8 * (i:Int)) = 0))
theorem numL_le (x:Int):numL x ≤ 8:=by
 have:=List.findIdx_le_length (p:=fun i:Nat=>decide (bshr .u64 x (8 * (i:Int)) = 0)) (xs:=List.range 8)
 simpa [numL] using this
theorem numL_at {x:Int} {k:Nat} (hk:k ≤ 8) (h:∀ j,j < k → bshr .u64 x (8 * (j:Int)) ≠ 0) (he:k = 8 ∨ bshr .u64 x (8 * (k:Int)) = 0):numL x = k:=by
 rcases Nat.lt_or_ge k 8 with h8 | h8
 ·have hk':bshr .u64 x (8 * (k:Int)) = 0:=he.resolve_left (by omega)
  rw [numL,(List.findIdx_eq (by simpa using h8)).2]
  refine ⟨by simpa using hk',fun j hj=>?_⟩
  simpa using h j hj
 ·obtain rfl:k = 8:=by omega
  rw [numL]
  have:(List.range 8).findIdx (fun i:Nat=>decide (bshr .u64 x (8 * (i:Int)) = 0)) = (List.range 8).length:=by
   rw [List.findIdx_eq_length]
   intro i hi
   simpa using h i (by simpa using hi)
  simpa using this
def numB (x:Int):ByteArray:=strOfNums ((numL x:Int) :: fixedL x (numL x))
theorem strOf_app (a b:List Int):strOfNums a ++ strOfNums b = strOfNums (a ++ b):=by
 apply ByteArray.ext
 simp [strOfNums,ByteArray.data_append]
theorem numB_size (x:Int):(numB x).size ≤ 9:=by
 have:=numL_le x
 simp only [numB,strOfNums_size,List.length_cons,fixedL,List.length_map,List.length_range]; omega
theorem bs_step {x:Int} {k:Nat} (h:∀ j,j < k → bshr .u64 x (8 * (j:Int)) ≠ 0) (hk:bshr .u64 x (8 * (k:Int)) ≠ 0):∀ j,j < k + 1 → bshr .u64 x (8 * (j:Int)) ≠ 0:=fun j hj=>by
 rcases Nat.lt_or_ge j k with h1 | h1
 ·exact h j h1
 ·obtain rfl:j = k:=by omega
  exact hk
theorem num_app {x:Int} {k:Nat} (h:numL x = k):strOfNums [(k:Int)] ++ strOfNums (fixedL x k) = numB x:=by subst h; rw [strOf_app]; rfl
theorem strs_size {x:Int} {k:Nat} (h:k ≤ 8):(strOfNums [(k:Int)]).size + (strOfNums (fixedL x k)).size ≤ 9:=by
 rw [strOfNums_size,strOfNums_size]; simp only [fixedL,List.length_map,List.length_range,List.length_cons,List.length_nil]; omega
set_option maxHeartbeats 2000000 in
theorem ref_Num {w:World} (x:Int):Fnc Try.prog 29 #[.int .u64 (x)] w (fun v w'=>v = .string (numB x) ∧ Ext [] w w'):=by
 refine Fnc.of_WP (n:=24) Try.func29 rfl Try.ntmps29 (by simp) ?_
 intro E hE
 have h0:E 0 = .int .u64 (x):=hE 0 (by simp)
 clear hE
 refine WP.sr ?_
 refine WL.m rfl ?_
 refine WL.nil ?_
 refine WP.sr ?_
 refine WL.m rfl ?_
 refine WL.nil ?_
 refine WP.seq ?_
 refine WP.block ?_
 refine WP.loop (σ:=Nat) (fun k E1 w2=>E1 0 = .int .u64 (x) ∧ E1 2 = .string (ByteArray.mk #[]) ∧ E1 3 = .int .i64 ((k:Int)) ∧ Ext [] w w2 ∧ k ≤ 8 ∧ ∀ j,j < k → bshr .u64 x (8 * (j:Int)) ≠ 0) (fun k=>8 - k) (0) ?_ ?_
 ·exact ⟨h0,rfl,(int_eq (by omega)),(Ext.refl _ _),(by omega),(fun j hj=>by omega)⟩
 rintro k E1 w2 ⟨Ab,Ae,Aa,Ag,Al,Am⟩
 have Ad:Ext [] w w2:=Ag
 refine WP.seq ?_
 refine WP.sr ?_
 refine WL.m rfl ?_
 refine WL.z (.bool (decide ((k:Int) < 8))) (V.cmp (x:=.tmp 4) rfl Aa rfl rfl) ?_
 refine WL.vbp (c:=(k:Int) < 8) (Sure.none rfl) rfl (V.move rfl rfl) (fun Ah=>?_) (fun Ah=>?_)
 rotate_left
 ·refine WL.skips [(6,some false)] [(13,some false)] (kc (some false) rfl kn) (by kernel_rfl) (fun An hK11 Ac=>?_)
  refine WP.cond_false (hK11 13 (some false) rfl) ?_
  refine WP.exit ?_
  refine WP.seq ?_
  have hnl:numL x = k:=numL_at (by omega) (by assumption) (by grind)
  refine WP.anyMk [fun v _=>v = (.int .i64 (k:Int):Value),fun v _=>v = (.int .u8 (k:Int):Value),fun v w=>∃ g,v = .slice (some ⟨g,0,none⟩) 1 1 ∧ Box w g 5 (nrow .u8 [(k:Int)] []),fun v _=>v = .string (strOfNums [(k:Int)]),fun v _=>v = (.int .u64 x:Value),fun v _=>v = (.int .i64 (k:Int):Value),fun v _=>v = .string (strOfNums (fixedL x k)),fun v _=>v = .string (numB x),fun v _=>v = .string (numB x)] mo (by kernel_rfl) (by kernel_rfl) (by kernel_rfl) ⟨Stab.eq _,Stab.eq _,fun v w w' hx ⟨g,e,hb⟩=>⟨g,e,hb.ext hx (by simp)⟩,Stab.eq _,Stab.eq _,Stab.eq _,Stab.eq _,Stab.eq _,Stab.eq _,trivial⟩ ⟨?_,?_,?_,?_,?_,?_,?_,?_,?_,trivial⟩ ?_
  ·intro E' w' hw hE hp
   exact .inr ⟨Sure.none rfl,.inl ⟨_,_,(V.move (x:=.tmp 3) rfl ((hE 3 (by kernel_rfl)).trans ((Ac 3 rfl).trans Aa))).x,Ext.refl _ _,rfl⟩⟩
  ·intro E' w' hw hE hp
   have q0:E' 16 = (.int .i64 (k:Int):Value):=hp 0 (by kernel_rfl)
   exact .inr ⟨Sure.none rfl,.inl ⟨_,_,(V.convInt (x:=.tmp 16) rfl u3 u5 q0 (wrap_u8 (by omega) (by omega))).x,Ext.refl _ _,rfl⟩⟩
  ·intro E' w' hw hE hp
   have q1:E' 17 = (.int .u8 (k:Int):Value):=hp 1 (by kernel_rfl)
   exact .inr ⟨Sure.none rfl,.inl ⟨_,_,X.buildSlice (cs:=[.int .u8 (k:Int)]) rfl u91 e5 (by show 1 * 1 ≤ 1024; decide) (by rw [show (#[(0,Operand.tmp 17)]:Array (Nat × Operand)).map (fun x=>(x.1,ev E' x.2)) = #[(0,.int .u8 (k:Int))] from map1 (by show (0,E' 17) = _; rw [q1])]; kernel_rfl),Ext.alloc _ _,⟨_,rfl,Blk.new _ _⟩⟩⟩
  ·intro E' w' hw hE hp
   have q2:∃ g,E' 18 = .slice (some ⟨g,0,none⟩) 1 1 ∧ Box w' g 5 (nrow .u8 [(k:Int)] []):=hp 2 (by kernel_rfl)
   obtain ⟨g,e,hb⟩:=q2
   exact .inr ⟨Sure.none rfl,.inl ⟨_,_,(V.bytesStr (x:=.tmp 18) rfl u91 u5 u9 e hb rfl).x,Ext.refl _ _,rfl⟩⟩
  ·intro E' w' hw hE hp
   exact .inr ⟨Sure.none rfl,.inl ⟨_,_,(V.move (x:=.tmp 0) rfl ((hE 0 (by kernel_rfl)).trans ((Ac 0 rfl).trans Ab))).x,Ext.refl _ _,rfl⟩⟩
  ·intro E' w' hw hE hp
   exact .inr ⟨Sure.none rfl,.inl ⟨_,_,(V.move (x:=.tmp 3) rfl ((hE 3 (by kernel_rfl)).trans ((Ac 3 rfl).trans Aa))).x,Ext.refl _ _,rfl⟩⟩
  ·intro E' w' hw hE hp
   have q4:E' 20 = (.int .u64 x:Value):=hp 4 (by kernel_rfl)
   have q5:E' 21 = (.int .i64 (k:Int):Value):=hp 5 (by kernel_rfl)
   exact .inr ⟨Sure.none rfl,.inr ⟨_,_,C.call2 (x:=.tmp 20) (y:=.tmp 21) rfl cl62 q4 q5,Fnc.mono (ref_Fixed (by omega)) (fun v w'' h=>⟨h.2,h.1⟩)⟩⟩
  ·intro E' w' hw hE hp
   have q3:E' 19 = (.string (strOfNums [(k:Int)]):Value):=hp 3 (by kernel_rfl)
   have q6:E' 22 = (.string (strOfNums (fixedL x k)):Value):=hp 6 (by kernel_rfl)
   have hz:=strs_size (x:=x) (k:=k) (by omega)
   exact .inr ⟨Sure.none rfl,.inl ⟨_,_,(V.sadd (x:=.tmp 19) (y:=.tmp 22) rfl q3 q6 (by omega)).x,Ext.refl _ _,congrArg Value.string (num_app hnl)⟩⟩
  ·intro E' w' hw hE hp
   have q7:E' 23 = (.string (numB x):Value):=hp 7 (by kernel_rfl)
   exact .inr ⟨Sure.none rfl,.inl ⟨_,_,(V.assign (x:=.tmp 23) rfl q7).x,Ext.refl _ _,rfl⟩⟩
  ·intro E4 Ai hw hE hp
   have h2n:E4 2 = (.string (numB x):Value):=hp 8 (of_decide_eq_true (by kernel_rfl))
   have Af:Ext [] w Ai:=Ad.trans hw
   refine WP.ret ?_
   refine resOf.c1 rfl (v:=.string (numB x)) h2n ?_
   exact ⟨(str_eq (by rfl)),Af⟩
 refine WL.my rfl rfl ?_
 refine WL.my rfl rfl ?_
 refine WL.y (.int .i64 (8 * (k:Int))) rfl (V.arith (y:=.tmp 8) rfl rfl Aa rfl (wrap_i64 (by omega) (by omega))) ?_
 refine WL.y (.int .u64 (8 * (k:Int))) rfl (V.convInt rfl u3 u90 rfl (wrap_u64 (by omega) (by omega))) ?_
 refine WL.y (.int .u64 (bshr .u64 x (8 * (k:Int)))) rfl (V.shift (x:=.tmp 7) rfl Ab rfl (by omega) rfl) ?_
 refine WL.y (.bool (decide ((bshr .u64 x (8 * (k:Int))) ≠ 0))) rfl (V.cmp rfl rfl rfl rfl) ?_
 refine WL.k (a:=true) rfl rfl ?_
 refine WL.nil ?_
 refine WP.condp (t:=(bshr .u64 x (8 * (k:Int))) ≠ 0) rfl (fun Aj=>?_) (fun Aj=>?_)
 ·refine WP.skip ?_
  refine WP.block ?_
  refine WP.region ?_
  refine WL.m rfl ?_
  refine WL.z (.int .i64 ((k:Int) + 1)) (V.arith (x:=.tmp 14) rfl Aa rfl rfl (wrap_i64 (by omega) (by omega))) ?_
  refine WL.m rfl ?_
  refine WL.nil ?_
  exact ⟨k + 1,⟨Ab,Ae,(int_eq (by omega)),Ad,(by omega),(bs_step (by assumption) (by assumption))⟩,(by omega)⟩
 refine WP.exit ?_
 refine WP.seq ?_
 have hnl:numL x = k:=numL_at (by omega) (by assumption) (by grind)
 refine WP.anyMk [fun v _=>v = (.int .i64 (k:Int):Value),fun v _=>v = (.int .u8 (k:Int):Value),fun v w=>∃ g,v = .slice (some ⟨g,0,none⟩) 1 1 ∧ Box w g 5 (nrow .u8 [(k:Int)] []),fun v _=>v = .string (strOfNums [(k:Int)]),fun v _=>v = (.int .u64 x:Value),fun v _=>v = (.int .i64 (k:Int):Value),fun v _=>v = .string (strOfNums (fixedL x k)),fun v _=>v = .string (numB x),fun v _=>v = .string (numB x)] mo (by kernel_rfl) (by kernel_rfl) (by kernel_rfl) ⟨Stab.eq _,Stab.eq _,fun v w w' hx ⟨g,e,hb⟩=>⟨g,e,hb.ext hx (by simp)⟩,Stab.eq _,Stab.eq _,Stab.eq _,Stab.eq _,Stab.eq _,Stab.eq _,trivial⟩ ⟨?_,?_,?_,?_,?_,?_,?_,?_,?_,trivial⟩ ?_
 ·intro E' w' hw hE hp
  exact .inr ⟨Sure.none rfl,.inl ⟨_,_,(V.move (x:=.tmp 3) rfl ((hE 3 (by kernel_rfl)).trans Aa)).x,Ext.refl _ _,rfl⟩⟩
 ·intro E' w' hw hE hp
  have q0:E' 16 = (.int .i64 (k:Int):Value):=hp 0 (by kernel_rfl)
  exact .inr ⟨Sure.none rfl,.inl ⟨_,_,(V.convInt (x:=.tmp 16) rfl u3 u5 q0 (wrap_u8 (by omega) (by omega))).x,Ext.refl _ _,rfl⟩⟩
 ·intro E' w' hw hE hp
  have q1:E' 17 = (.int .u8 (k:Int):Value):=hp 1 (by kernel_rfl)
  exact .inr ⟨Sure.none rfl,.inl ⟨_,_,X.buildSlice (cs:=[.int .u8 (k:Int)]) rfl u91 e5 (by show 1 * 1 ≤ 1024; decide) (by rw [show (#[(0,Operand.tmp 17)]:Array (Nat × Operand)).map (fun x=>(x.1,ev E' x.2)) = #[(0,.int .u8 (k:Int))] from map1 (by show (0,E' 17) = _; rw [q1])]; kernel_rfl),Ext.alloc _ _,⟨_,rfl,Blk.new _ _⟩⟩⟩
 ·intro E' w' hw hE hp
  have q2:∃ g,E' 18 = .slice (some ⟨g,0,none⟩) 1 1 ∧ Box w' g 5 (nrow .u8 [(k:Int)] []):=hp 2 (by kernel_rfl)
  obtain ⟨g,e,hb⟩:=q2
  exact .inr ⟨Sure.none rfl,.inl ⟨_,_,(V.bytesStr (x:=.tmp 18) rfl u91 u5 u9 e hb rfl).x,Ext.refl _ _,rfl⟩⟩
 ·intro E' w' hw hE hp
  exact .inr ⟨Sure.none rfl,.inl ⟨_,_,(V.move (x:=.tmp 0) rfl ((hE 0 (by kernel_rfl)).trans Ab)).x,Ext.refl _ _,rfl⟩⟩
 ·intro E' w' hw hE hp
  exact .inr ⟨Sure.none rfl,.inl ⟨_,_,(V.move (x:=.tmp 3) rfl ((hE 3 (by kernel_rfl)).trans Aa)).x,Ext.refl _ _,rfl⟩⟩
 ·intro E' w' hw hE hp
  have q4:E' 20 = (.int .u64 x:Value):=hp 4 (by kernel_rfl)
  have q5:E' 21 = (.int .i64 (k:Int):Value):=hp 5 (by kernel_rfl)
  exact .inr ⟨Sure.none rfl,.inr ⟨_,_,C.call2 (x:=.tmp 20) (y:=.tmp 21) rfl cl62 q4 q5,Fnc.mono (ref_Fixed (by omega)) (fun v w'' h=>⟨h.2,h.1⟩)⟩⟩
 ·intro E' w' hw hE hp
  have q3:E' 19 = (.string (strOfNums [(k:Int)]):Value):=hp 3 (by kernel_rfl)
  have q6:E' 22 = (.string (strOfNums (fixedL x k)):Value):=hp 6 (by kernel_rfl)
  have hz:=strs_size (x:=x) (k:=k) (by omega)
  exact .inr ⟨Sure.none rfl,.inl ⟨_,_,(V.sadd (x:=.tmp 19) (y:=.tmp 22) rfl q3 q6 (by omega)).x,Ext.refl _ _,congrArg Value.string (num_app hnl)⟩⟩
 ·intro E' w' hw hE hp
  have q7:E' 23 = (.string (numB x):Value):=hp 7 (by kernel_rfl)
  exact .inr ⟨Sure.none rfl,.inl ⟨_,_,(V.assign (x:=.tmp 23) rfl q7).x,Ext.refl _ _,rfl⟩⟩
 ·intro E4 w7 hw hE hp
  have h2n:E4 2 = (.string (numB x):Value):=hp 8 (of_decide_eq_true (by kernel_rfl))
  have Ak:Ext [] w w7:=Ad.trans hw
  refine WP.ret ?_
  refine resOf.c1 rfl (v:=.string (numB x)) h2n ?_
  exact ⟨(str_eq (by rfl)),Ak⟩
theorem bshr_nat (a m:Nat) (hm:m ≤ 64):bshr .u64 (a:Int) (m:Int) = ((a / 2 ^ m:Nat):Int):=by
 have h1:min ((m:Int).toNat) IntKind.u64.bits = m:=by simp [IntKind.bits]; omega
 rw [bshr,h1,Int.ofNat_fdiv]
 simp
theorem bshr_step {x:Int} {k:Nat} (h0:0 ≤ x) (hk:k < 8):bshr .u64 (bshr .u64 x (8 * (k:Int))) 8 = bshr .u64 x (8 * (((k + 1:Nat)):Int)):=by
 obtain ⟨a,rfl⟩:=Int.eq_ofNat_of_zero_le h0
 have e1:(8 * (k:Int)) = ((8 * k:Nat):Int):=by omega
 have e2:(8 * ((k + 1:Nat):Int)) = ((8 * k + 8:Nat):Int):=by omega
 have e3:(8:Int) = ((8:Nat):Int):=rfl
 rw [e1,e2,bshr_nat a _ (by omega),e3,bshr_nat _ _ (by omega),bshr_nat a _ (by omega),Nat.div_div_eq_div_mul,← Nat.pow_add]
theorem bshr_none {x:Int} (h0:0 ≤ x):bshr .u64 x (8 * ((0:Nat):Int)) = x:=by
 obtain ⟨a,rfl⟩:=Int.eq_ofNat_of_zero_le h0
 have e1:(8 * ((0:Nat):Int)) = ((0:Nat):Int):=by omega
 rw [e1,bshr_nat a _ (by omega)]; simp
theorem bshr_top {x:Int} (h:0 ≤ x ∧ x < 18446744073709551616):bshr .u64 x (8 * ((8:Nat):Int)) = 0:=by
 obtain ⟨a,rfl⟩:=Int.eq_ofNat_of_zero_le h.1
 have e1:(8 * ((8:Nat):Int)) = ((64:Nat):Int):=by omega
 rw [e1,bshr_nat a _ (by omega),Nat.div_eq_of_lt (by omega)]; rfl
def numRow (x:Int) (k i:Nat):List Int:=(List.range 9).map fun j=>if j = 0 then (k:Int) else if i < j ∧ j ≤ k then byteOf x (k - j) else 0
theorem numRow_len (x:Int) (k i:Nat):(numRow x k i).length = 9:=by simp [numRow]
theorem numRow_start (x:Int) (k:Nat):(List.replicate 9 (0:Int)).set 0 (k:Int) = numRow x k k:=by
 apply List.ext_getElem
 ·simp [numRow]
 ·intro i h1 h2
  rw [List.getElem_set]
  simp only [numRow,List.getElem_map,List.getElem_range,List.getElem_replicate]
  by_cases e:i = 0
  ·rw [if_pos e.symm,if_pos e]
  ·rw [if_neg (fun h=>e h.symm),if_neg e,if_neg (by omega)]
theorem numRow_step {x:Int} {k i:Nat} (hi:i < k) (hk:k ≤ 8):(numRow x k (i + 1)).set (i + 1) (byteOf x (k - (i + 1))) = numRow x k i:=by
 apply List.ext_getElem
 ·simp [numRow]
 ·intro j h1 h2
  rw [List.getElem_set]
  simp only [numRow,List.getElem_map,List.getElem_range]
  by_cases e:i + 1 = j
  ·subst e
   rw [if_pos rfl,if_neg (by omega),if_pos (by omega)]
  ·rw [if_neg e]
   by_cases e0:j = 0
   ·rw [if_pos e0,if_pos e0]
   ·rw [if_neg e0,if_neg e0]
    by_cases h3:i + 1 < j ∧ j ≤ k
    ·rw [if_pos h3,if_pos (by omega)]
    ·rw [if_neg h3,if_neg (by omega)]
theorem numRow_end {x:Int} {k:Nat} (hk:k ≤ 8):(numRow x k 0).take (k + 1) = (k:Int) :: fixedL x k:=by
 apply List.ext_getElem
 ·simp [numRow,fixedL]; omega
 ·intro j h1 h2
  rw [List.getElem_take]
  simp only [numRow,List.getElem_map,List.getElem_range]
  have hj:j < k + 1:=by simp [fixedL] at h2; omega
  cases j with
  | zero=>rfl
  | succ j =>
   rw [if_neg (by omega),if_pos (by omega)]
   simp only [List.getElem_cons_succ,fixedL,List.getElem_map,List.getElem_range]
   congr 1; omega
theorem code_Num {w : World} (x : Int) (hx : 0 ≤ x ∧ x < 18446744073709551616) : Fnc Try.prog 24 #[.int .u64 x] w (fun v w' => v = .string (numB x) ∧ Ext [] w w') := by
  refine Fnc.of_WP (n := 32) Try.func24 rfl Try.ntmps24 (by simp) ?_
  intro E hE
  have h0 : E 0 = .int .u64 x := hE 0 (by simp)
  clear hE
  refine WP.sr ?_
  refine WL.z (.string (ByteArray.mk #[])) (V.assign rfl rfl) ?_
  refine WL.nil ?_
  refine WP.sr ?_
  refine WL.alloc (cs := nrow .u8 (List.replicate 9 0) []) (Sure.none rfl) rfl rfl z89 rfl (fun b w2 Af he hb => ?_)
  refine WL.nil ?_
  refine WP.sr ?_
  refine WL.z (.int .i64 0) (V.assign rfl rfl) ?_
  refine WL.nil ?_
  refine WP.seq ?_
  refine WP.sr ?_
  refine WL.z (.int .u64 x) (V.move (x := .tmp 0) rfl h0) ?_
  refine WL.z (.int .u64 x) (V.assign rfl rfl) ?_
  refine WL.nil ?_
  refine WP.block ?_
  refine WP.loop (σ := Nat) (fun k E w' => E 0 = .int .u64 x ∧ E 3 = .pointer (some ⟨b, 0, none⟩) ∧ E 4 = .int .i64 (k : Int) ∧ E 5 = .int .u64 (bshr .u64 x (8 * (k : Int))) ∧ k ≤ 8 ∧ (∀ j, j < k → bshr .u64 x (8 * (j : Int)) ≠ 0) ∧ w' = w2) (fun k => 8 - k) 0 ?_ ?_
  · exact ⟨h0, rfl, rfl, (int_eq (bshr_none hx.1).symm), by omega, fun j hj => by omega, rfl⟩
  · rintro k E w3 ⟨g0, g3, g4, g5, hk, hall, rfl⟩
    refine WP.seq ?_
    refine WP.sr ?_
    refine WL.z (.int .u64 (bshr .u64 x (8 * (k : Int)))) (V.move (x := .tmp 5) rfl g5) ?_
    refine WL.z (.bool (decide (bshr .u64 x (8 * (k : Int)) ≠ 0))) (V.cmp rfl rfl rfl rfl) ?_
    refine WL.nil ?_
    refine WP.condp (t := bshr .u64 x (8 * (k : Int)) ≠ 0) rfl (fun hc => ?_) (fun hc => ?_)
    · have Ad : k < 8 := by
        rcases Nat.lt_or_ge k 8 with h | h
        · exact h
        · obtain rfl : k = 8 := by omega
          exact absurd (bshr_top hx) hc
      refine WP.skip ?_
      refine WP.seq ?_
      refine WP.block ?_
      refine WP.region ?_
      refine WL.z (.int .i64 (k : Int)) (V.move (x := .tmp 4) rfl g4) ?_
      refine WL.z (.int .i64 ((k : Int) + 1)) (V.arith rfl rfl rfl rfl (wrap_i64 (by omega) (by omega))) ?_
      refine WL.z (.int .i64 ((k : Int) + 1)) (V.assign rfl rfl) ?_
      refine WL.nil ?_
      refine WP.region ?_
      refine WL.z (.int .u64 (bshr .u64 x (8 * (k : Int)))) (V.move (x := .tmp 5) rfl g5) ?_
      refine WL.z (.int .u64 (bshr .u64 (bshr .u64 x (8 * (k : Int))) 8)) (V.shift rfl rfl rfl (by omega) rfl) ?_
      refine WL.z (.int .u64 (bshr .u64 (bshr .u64 x (8 * (k : Int))) 8)) (V.assign rfl rfl) ?_
      refine WL.nil ?_
      exact ⟨k + 1, ⟨g0, g3, int_eq (by omega), int_eq (bshr_step hx.1 Ad), Ad, bs_step hall hc, rfl⟩, by omega⟩
    · have hz : bshr .u64 x (8 * (k : Int)) = 0 := by omega
      have hnl : numL x = k := numL_at hk hall (.inr hz)
      refine WP.exit ?_
      refine WP.sr ?_
      refine WL.z (.int .i64 (k : Int)) (V.move (x := .tmp 4) rfl g4) ?_
      refine WL.z (.int .u8 (k : Int)) (V.convInt rfl u3 u5 rfl (wrap_u8 (by omega) (by omega))) ?_
      refine WL.z (.pointer (some ⟨b, 0 + 0 * 1, none⟩)) (V.indexArr (x := .tmp 3) (m := 0) (j := 0) rfl u89 s5 (by decide) g3 rfl rfl (by decide)) ?_
      refine WL.store (Sure.none rfl) rfl rfl s5 rfl rfl rfl hb (by rw [nrow_len]; simp) (fun w4 Ag Aa => ?_)
      replace Aa : Box w4 b 89 ((nrow .u8 (List.replicate 9 0) []).set 0 (.int .u8 (k : Int))) := Aa
      rw [nrow_set (by simp), numRow_start x k] at Aa
      refine WL.nil ?_
      refine WP.seq ?_
      refine WP.sr ?_
      refine WL.z (.int .i64 (k : Int)) (V.move (x := .tmp 4) rfl g4) ?_
      refine WL.z (.int .i64 (k : Int)) (V.assign rfl rfl) ?_
      refine WL.nil ?_
      refine WP.block ?_
      refine WP.loop (σ := Nat) (fun i E w' => E 0 = .int .u64 (bshr .u64 x (8 * ((k - i : Nat) : Int))) ∧ E 3 = .pointer (some ⟨b, 0, none⟩) ∧ E 4 = .int .i64 (k : Int) ∧ E 6 = .int .i64 (i : Int) ∧ i ≤ k ∧ Box w' b 89 (nrow .u8 (numRow x k i) []) ∧ Ext [b] w3 w') (fun i => i) k ?_ ?_
      · refine ⟨?_, g3, g4, rfl, Nat.le_refl _, Aa, Ag⟩
        rw [Nat.sub_self, bshr_none hx.1]; exact g0
      · rintro i E w5 ⟨f0, f3, f4, f6, hi, Ac, Ae⟩
        refine WP.seq ?_
        refine WP.sr ?_
        refine WL.z (.int .i64 (i : Int)) (V.move (x := .tmp 6) rfl f6) ?_
        refine WL.z (.bool (decide ((i : Int) > 0))) (V.cmp rfl rfl rfl rfl) ?_
        refine WL.nil ?_
        refine WP.condp (t := (i : Int) > 0) rfl (fun hc => ?_) (fun hc => ?_)
        · obtain ⟨i, rfl⟩ : ∃ j, i = j + 1 := ⟨i - 1, by omega⟩
          refine WP.skip ?_
          refine WP.seq ?_
          refine WP.block ?_
          refine WP.sr ?_
          refine WL.z (.int .i64 ((i + 1 : Nat) : Int)) (V.move (x := .tmp 6) rfl f6) ?_
          refine WL.z (.int .u64 (bshr .u64 x (8 * ((k - (i + 1) : Nat) : Int)))) (V.move (x := .tmp 0) rfl f0) ?_
          refine WL.z (.int .u8 (byteOf x (k - (i + 1)))) (V.convInt rfl u23 u5 rfl rfl) ?_
          refine WL.z (.pointer (some ⟨b, 0 + (i + 1) * 1, none⟩)) (V.indexArr (x := .tmp 3) (m := i + 1) (j := ((i + 1 : Nat) : Int)) rfl u89 s5 (by decide) f3 rfl rfl (by omega)) ?_
          refine WL.store (Sure.none rfl) rfl rfl s5 rfl rfl rfl Ac (by rw [nrow_len, numRow_len]; simp; omega) (fun w6 Ah Ab => ?_)
          replace Ab : Box w6 b 89 ((nrow .u8 (numRow x k (i + 1)) []).set (0 + (i + 1) * 1) (.int .u8 (byteOf x (k - (i + 1))))) := Ab
          rw [show 0 + (i + 1) * 1 = i + 1 from by omega, nrow_set (by rw [numRow_len]; omega), numRow_step (by omega) hk] at Ab
          refine WL.nil ?_
          refine WP.region ?_
          refine WL.z (.int .u64 (bshr .u64 x (8 * ((k - (i + 1) : Nat) : Int)))) (V.move (x := .tmp 0) rfl f0) ?_
          refine WL.z (.int .u64 (bshr .u64 (bshr .u64 x (8 * ((k - (i + 1) : Nat) : Int))) 8)) (V.shift rfl rfl rfl (by omega) rfl) ?_
          refine WL.z (.int .u64 (bshr .u64 (bshr .u64 x (8 * ((k - (i + 1) : Nat) : Int))) 8)) (V.assign rfl rfl) ?_
          refine WL.nil ?_
          refine WP.region ?_
          refine WL.z (.int .i64 ((i + 1 : Nat) : Int)) (V.move (x := .tmp 6) rfl f6) ?_
          refine WL.z (.int .i64 (i : Int)) (V.arith (r := ((i + 1 : Nat) : Int) - 1) rfl rfl rfl rfl ((wrap_i64 (by omega) (by omega)).trans (by omega))) ?_
          refine WL.z (.int .i64 (i : Int)) (V.assign rfl rfl) ?_
          refine WL.nil ?_
          refine ⟨i, ⟨?_, f3, f4, rfl, by omega, Ab, Ae.trans Ah⟩, by omega⟩
          have e := bshr_step (x := x) (k := k - (i + 1)) hx.1 (by omega)
          rw [show k - (i + 1) + 1 = k - i from by omega] at e
          exact int_eq e
        · obtain rfl : i = 0 := by omega
          rw [nrow_split (k + 1), numRow_end hk] at Ac
          refine WP.exit ?_
          refine WP.sr ?_
          refine WL.z (.int .i64 (k : Int)) (V.move (x := .tmp 4) rfl f4) ?_
          refine WL.z (.int .i64 ((k + 1 : Nat) : Int)) (V.arith (r := (k : Int) + 1) rfl rfl rfl rfl ((wrap_i64 (by omega) (by omega)).trans (by omega))) ?_
          refine WL.z (.slice (some ⟨b, 0, none⟩) (k + 1) 9) (V.sliceArr (x := .tmp 3) (y := .tmp 29) rfl u89 s5 f3 rfl (by omega)) ?_
          refine WL.z (.string (strOfNums ((k : Int) :: fixedL x k))) (V.bytesStr rfl u91 u5 u9 rfl Ac (by simp [fixedL])) ?_
          refine WL.z (.string (strOfNums ((k : Int) :: fixedL x k))) (V.assign rfl rfl) ?_
          refine WL.nil ?_
          refine WP.ret ?_
          refine resOf.c1 rfl (v := .string (strOfNums ((k : Int) :: fixedL x k))) rfl ?_
          refine ⟨?_, Ext.skip Af Ae (by intro y hy; simp at hy; omega)⟩
          rw [numB, hnl]
end Go.Proofs.Ytiaicihpocoeiaa.X1
namespace Go.Proofs.Ytiaicihpocoeiaa.X1
open T W Go.RowKit
set_option maxRecDepth 100000
set_option maxHeartbeats 400000
theorem cl24:Callable Try.prog 24:=⟨Try.f24,Try.func24,by kernel_rfl,rfl⟩
theorem cl29:Callable Try.prog 29:=⟨Try.f29,Try.func29,by kernel_rfl,rfl⟩
theorem u22:Try.prog.underlying 22 = some (.slice 3):=by kernel_rfl
theorem s3:Sized Try.prog 3 1:=by unfold Sized; kernel_rfl
theorem p3:Plain Try.prog 3:=⟨.int .i64,by kernel_rfl,by intros; simp,by intros; simp⟩
def textB (s:ByteArray):ByteArray:=numB (s.size:Int) ++ s
def numsK (l:List Int):Nat → ByteArray
  | 0=>numB (l.length:Int)
  | k + 1=>numsK l k ++ numB (l.getD k 0)
def numbersB (l:List Int):ByteArray:=numsK l l.length
theorem numsK_size (l:List Int):∀ k,(numsK l k).size ≤ 9 * (k + 1)
 | 0=>numB_size _
 | k + 1=>by
  have h1:=numsK_size l k
  have h2:=numB_size (l.getD k 0)
  simp only [numsK,ByteArray.size_append]; omega
theorem numbersB_size (l:List Int):(numbersB l).size ≤ 9 * (l.length + 1):=numsK_size l _
theorem textB_size (s:ByteArray):(textB s).size ≤ 9 + s.size:=by
 have:=numB_size (s.size:Int)
 simp only [textB,ByteArray.size_append]; omega
def entB (e:EntryD):ByteArray:=numB e.Term ++ strOfNums [e.Kind] ++ textB e.Data ++ numbersB e.Members
theorem entB_size (e:EntryD):(entB e).size ≤ 19 + e.Data.size + 9 * (e.Members.length + 1):=by
 have h1:=numB_size e.Term
 have h2:(strOfNums [e.Kind]).size = 1:=strOfNums_size _
 have h3:=textB_size e.Data
 have h4:=numbersB_size e.Members
 simp only [entB,ByteArray.size_append]; omega
theorem code_Text {w:World} (s:ByteArray) (hs:s.size ≤ 1073741824):Fnc Try.prog 53 #[.string (s)] w (fun v w'=>v = .string (textB s) ∧ Ext [] w w'):=by
 have hzn:=numB_size (s.size:Int)
 refine Fnc.of_WP (n:=9) Try.func53 rfl Try.ntmps53 (by simp) ?_
 intro E hE
 have h0:E 0 = .string (s):=hE 0 (by simp)
 clear hE
 refine WP.sr ?_
 refine WL.m rfl ?_
 refine WL.nil ?_
 refine WP.sr ?_
 refine WL.m rfl ?_
 refine WL.z (.int .i64 (((s).size:Int))) (V.lenString (x:=.tmp 3) rfl rfl u9 h0) ?_
 refine WL.z (.int .u64 (((s).size:Int))) (V.convInt rfl u3 u23 rfl (wrap_u64 (by omega) (by omega))) ?_
 refine WL.c (Sure.none rfl) rfl (C.call1 rfl cl24 rfl) (Fnc.mono (code_Num ((s).size:Int) (by omega)) ?_)
 rintro _ w1 ⟨rfl,Aa⟩
 have Ab:Ext [] w w1:=Aa
 refine WL.m rfl ?_
 refine WL.z (.string ((numB ((s).size:Int)) ++ s)) (V.sadd (y:=.tmp 7) rfl rfl h0 (by first | omega | (simp only [ByteArray.size_append]; omega))) ?_
 refine WL.m rfl ?_
 refine WL.nil ?_
 refine WP.ret ?_
 refine resOf.c1 rfl (v:=.string ((numB ((s).size:Int)) ++ s)) rfl ?_
 exact ⟨(str_eq (by rfl)),Ab⟩
theorem ref_Text {w:World} (s:ByteArray) (hs:s.size ≤ 1073741824):Fnc Try.prog 63 #[.string (s)] w (fun v w'=>v = .string (textB s) ∧ Ext [] w w'):=by
 have hzn:=numB_size (s.size:Int)
 refine Fnc.of_WP (n:=9) Try.func63 rfl Try.ntmps63 (by simp) ?_
 intro E hE
 have h0:E 0 = .string (s):=hE 0 (by simp)
 clear hE
 refine WP.sr ?_
 refine WL.m rfl ?_
 refine WL.nil ?_
 refine WP.sr ?_
 refine WL.m rfl ?_
 refine WL.z (.int .i64 (((s).size:Int))) (V.lenString (x:=.tmp 3) rfl rfl u9 h0) ?_
 refine WL.z (.int .u64 (((s).size:Int))) (V.convInt rfl u3 u23 rfl (wrap_u64 (by omega) (by omega))) ?_
 refine WL.c (Sure.none rfl) rfl (C.call1 rfl cl29 rfl) (Fnc.mono (ref_Num ((s).size:Int)) ?_)
 rintro _ w1 ⟨rfl,Aa⟩
 have Ab:Ext [] w w1:=Aa
 refine WL.m rfl ?_
 refine WL.z (.string ((numB ((s).size:Int)) ++ s)) (V.sadd (y:=.tmp 7) rfl rfl h0 (by first | omega | (simp only [ByteArray.size_append]; omega))) ?_
 refine WL.m rfl ?_
 refine WL.nil ?_
 refine WP.ret ?_
 refine resOf.c1 rfl (v:=.string ((numB ((s).size:Int)) ++ s)) rfl ?_
 exact ⟨(str_eq (by rfl)),Ab⟩
theorem ref_numbers {w:World} {X:List Nat} {v_l:Value} {l:List Int} (h_l:Sl (intR .i64) X w v_l l) (hl:l.length ≤ 1073741824) (hnn:∀ j,j < l.length → 0 ≤ l.getD j 0):Fnc Try.prog 64 #[v_l] w (fun v w'=>v = .string (numbersB l) ∧ Ext [] w w'):=by
 refine Fnc.of_WP (n:=24) Try.func64 rfl Try.ntmps64 (by simp) ?_
 intro E hE
 have h0:E 0 = v_l:=hE 0 (by simp)
 clear hE
 refine WP.sr ?_
 refine WL.m rfl ?_
 refine WL.nil ?_
 refine WP.sr ?_
 refine WL.m rfl ?_
 obtain ⟨a1,c2,Ai⟩:=h_l.shape
 refine WL.z (.int .i64 (((l).length:Int))) (V.lenSlice (x:=.tmp 5) rfl rfl u22 (Eq.trans (b:=v_l) h0 Ai)) ?_
 refine WL.z (.int .u64 (((l).length:Int))) (V.convInt rfl u3 u23 rfl (wrap_u64 (by omega) (by omega))) ?_
 refine WL.c (Sure.none rfl) rfl (C.call1 rfl cl29 rfl) (Fnc.mono (ref_Num ((l).length:Int)) ?_)
 rintro _ w4 ⟨rfl,Ap⟩
 have Aq:Ext [] w w4:=Ap
 refine WL.m rfl ?_
 refine WL.nil ?_
 refine WP.seq ?_
 refine WP.sr ?_
 refine WL.m rfl ?_
 refine WL.nil ?_
 refine WP.block ?_
 refine WP.loop (σ:=Nat) (fun k E7 w8=>E7 0 = v_l ∧ E7 2 = .string (ByteArray.mk #[]) ∧ E7 3 = .string (numsK l k) ∧ E7 4 = .int .i64 ((k:Int)) ∧ Ext [] w4 w8 ∧ k ≤ l.length) (fun k=>l.length - k) (0) ?_ ?_
 ·exact ⟨h0,rfl,(str_eq (by rfl)),(int_eq (by omega)),(Ext.refl _ _),(by omega)⟩
 rintro k E7 w8 ⟨Aa,Ag,Ac,Ab,Ae,Ar⟩
 have Af:Ext [] w w8:=Aq.trans Ae
 have Aj:Ext [] w4 w8:=Ae
 have hzk:=numsK_size l k
 have hzn:=numB_size (l.getD k 0)
 have Ax:=hnn k
 refine WP.seq ?_
 refine WP.sr ?_
 refine WL.m rfl ?_
 refine WL.m rfl ?_
 refine WL.z (.int .i64 (((l).length:Int))) (V.lenSlice (x:=.tmp 10) rfl rfl u22 (Eq.trans (b:=v_l) Aa Ai)) ?_
 refine WL.z (.bool (decide ((k:Int) < ((l).length:Int)))) (V.cmp (x:=.tmp 9) rfl Ab rfl rfl) ?_
 refine WL.nil ?_
 refine WP.condp (t:=(k:Int) < ((l).length:Int)) rfl (fun Ak=>?_) (fun Ak=>?_)
 rotate_left
 ·refine WP.exit ?_
  refine WP.sr ?_
  refine WL.m rfl ?_
  refine WL.m rfl ?_
  refine WL.nil ?_
  refine WP.ret ?_
  refine resOf.c1 rfl (v:=.string (numsK l k)) Ac ?_
  exact ⟨(str_eq (by (have hke:k = l.length:=(by omega)); subst hke; rfl)),Af⟩
 refine WP.skip ?_
 refine WP.seq ?_
 refine WP.block ?_
 refine WP.region ?_
 refine WL.m rfl ?_
 refine WL.m rfl ?_
 refine WL.m rfl ?_
 have hlt22:k < (l).length:=by first | omega | (simp at *; omega)
 obtain ⟨As,Au,c16,Aw,Al,hnb19,Am,Ah⟩:=(h_l.ext (Ext.pre Af)).get (i:=k) (x:=(l.getD k 0)) (getD_some hlt22 _)
 obtain ⟨rfl,Ad⟩:=Am
 have Ad:=inK_i64 Ad
 refine WL.z (.pointer (some ⟨As,Au + k * 1,none⟩)) (V.indexAddr (x:=.tmp 16) (i:=.tmp 17) (m:=k) (j:=(k:Int)) rfl u22 s3 (Eq.trans (b:=v_l) Aa Al) Ab rfl hlt22) ?_
 refine WL.z (.int .i64 ((l.getD k 0))) (V.load rfl p3 rfl (Ah.cell (j:=0) rfl)) ?_
 refine WL.z (.int .u64 ((l.getD k 0))) (V.convInt rfl u3 u23 rfl (wrap_u64 (by omega) (by omega))) ?_
 refine WL.c (Sure.none rfl) rfl (C.call1 rfl cl29 rfl) (Fnc.mono (ref_Num (l.getD k 0)) ?_)
 rintro _ Av ⟨rfl,An⟩
 have Ao:Ext [] w4 Av:=Aj.trans An
 refine WL.z (.string ((numsK l k) ++ (numB (l.getD k 0)))) (V.sadd (x:=.tmp 15) rfl Ac rfl (by first | omega | (simp only [ByteArray.size_append]; omega))) ?_
 refine WL.m rfl ?_
 refine WL.nil ?_
 refine WP.region ?_
 refine WL.m rfl ?_
 refine WL.z (.int .i64 ((k:Int) + 1)) (V.arith (x:=.tmp 13) rfl Ab rfl rfl (wrap_i64 (by omega) (by omega))) ?_
 refine WL.m rfl ?_
 refine WL.nil ?_
 exact ⟨k + 1,⟨Aa,Ag,(str_eq (by rfl)),(int_eq (by omega)),Ao,(by omega)⟩,(by omega)⟩
end Go.Proofs.Ytiaicihpocoeiaa.X1
namespace Go.Proofs.Ytiaicihpocoeiaa.X1
open T W Go.RowKit
set_option maxRecDepth 100000
set_option maxHeartbeats 400000
theorem fl48_0:FieldOf Try.prog 48 0 23 0 1:=fld (by kernel_rfl)
theorem p23:Plain Try.prog 23:=⟨.int .u64,by kernel_rfl,by intros; simp,by intros; simp⟩
theorem fl48_1:FieldOf Try.prog 48 1 46 1 1:=fld (by kernel_rfl)
theorem p46:Plain Try.prog 46:=⟨.int .u8,by kernel_rfl,by intros; simp,by intros; simp⟩
theorem fl48_2:FieldOf Try.prog 48 2 9 2 1:=fld (by kernel_rfl)
theorem p9:Plain Try.prog 9:=⟨.string,by kernel_rfl,by intros; simp,by intros; simp⟩
theorem cl63:Callable Try.prog 63:=⟨Try.f63,Try.func63,by kernel_rfl,rfl⟩
theorem fl48_3:FieldOf Try.prog 48 3 22 3 1:=fld (by kernel_rfl)
theorem p22:Plain Try.prog 22:=⟨.slice 3,by kernel_rfl,by intros; simp,by intros; simp⟩
theorem cl64:Callable Try.prog 64:=⟨Try.f64,Try.func64,by kernel_rfl,rfl⟩
set_option maxHeartbeats 2000000 in
theorem ref_EntryBytes {w:World} {X:List Nat} {e:EntryD} {c_e:List Value} (h_e:entryR.rd X w c_e e) (hd:e.Data.size ≤ 1073741824) (hl:e.Members.length ≤ 1073741824) (hnn:∀ j,j < e.Members.length → 0 ≤ e.Members.getD j 0):Fnc Try.prog 36 #[.agg c_e.toArray] w (fun v w'=>v = .string (entB e) ∧ Ext [] w w'):=by
 obtain ⟨v1,rfl,Ap,Aq⟩:=h_e
 obtain ⟨A8,A9,Ba⟩:=(show EntryD.InR e from Aq)
 have Bd:=numB_size e.Term
 have Be:(strOfNums [e.Kind]).size = 1:=strOfNums_size _
 have Bf:=textB_size e.Data
 have Bg:=numbersB_size e.Members
 refine Fnc.of_WP (n:=19) Try.func36 rfl Try.ntmps36 (by simp) ?_
 intro E hE
 have h0:E 0 = .agg #[.int .u64 (e.Term),.int .u8 (e.Kind),.string (e.Data),v1]:=hE 0 (by simp)
 clear hE
 refine WP.sr ?_
 refine WL.box (x:=.tmp 0) (cs:=[.int .u64 (e.Term),.int .u8 (e.Kind),.string (e.Data),v1]) (Sure.none rfl) rfl rfl h0 rfl (fun b8 w9 Ac Bb Aa=>?_)
 have Ad:=(Sl.new (b:=b8) nz1 Ap (by omega)).ext (Ext.any Ac)
 have Ae:Ext [b8] _ _:=(Ext.refl _ _).trans (Ext.any Ac)
 have Ab:w.heap.size ≤ b8:=by have:=Nat.le_refl w.heap.size; omega
 refine WL.m rfl ?_
 refine WL.nil ?_
 refine WP.seq ?_
 refine WP.anyMk [fun v _=>v = (.pointer (some ⟨b8,0,none⟩):Value),fun v _=>v = (.int .u64 (e.Term):Value),fun v _=>v = (.string (numB e.Term):Value),fun v _=>v = (.pointer (some ⟨b8,1,none⟩):Value),fun v _=>v = (.int .u8 (e.Kind):Value),fun v w=>∃ g,v = .slice (some ⟨g,0,none⟩) 1 1 ∧ Box w g 5 (nrow .u8 [e.Kind] []),fun v _=>v = (.string (strOfNums [e.Kind]):Value),fun v _=>v = (.string ((numB e.Term) ++ (strOfNums [e.Kind])):Value),fun v _=>v = (.pointer (some ⟨b8,2,none⟩):Value),fun v _=>v = (.string (e.Data):Value),fun v _=>v = (.string (textB e.Data):Value),fun v _=>v = (.string (((numB e.Term) ++ (strOfNums [e.Kind])) ++ (textB e.Data)):Value),fun v _=>v = (.pointer (some ⟨b8,3,none⟩):Value),fun v _=>v = (v1:Value),fun v _=>v = (.string (numbersB e.Members):Value),fun v _=>v = (.string ((((numB e.Term) ++ (strOfNums [e.Kind])) ++ (textB e.Data)) ++ (numbersB e.Members)):Value),fun v _=>v = (.string ((((numB e.Term) ++ (strOfNums [e.Kind])) ++ (textB e.Data)) ++ (numbersB e.Members)):Value)] mo (by kernel_rfl) (by kernel_rfl) (by kernel_rfl) ⟨Stab.eq _,Stab.eq _,Stab.eq _,Stab.eq _,Stab.eq _,fun v w w' hx ⟨g,e,hb⟩=>⟨g,e,hb.ext hx (by simp)⟩,Stab.eq _,Stab.eq _,Stab.eq _,Stab.eq _,Stab.eq _,Stab.eq _,Stab.eq _,Stab.eq _,Stab.eq _,Stab.eq _,Stab.eq _,trivial⟩ ⟨?_,?_,?_,?_,?_,?_,?_,?_,?_,?_,?_,?_,?_,?_,?_,?_,?_,trivial⟩ ?_
 ·intro E' w' hw hE hp
  exact .inr ⟨(Sure.none rfl),.inl ⟨.pointer (some ⟨b8,0,none⟩),w',OpV.x (by exact V.fieldAddr (x:=.tmp 1) rfl fl48_0 ((hE 1 (by kernel_rfl)).trans rfl)),Ext.refl _ _,rfl⟩⟩
 ·intro E' w' hw hE hp
  have Ar:E' 3 = (.pointer (some ⟨b8,0,none⟩):Value):=hp 0 (by kernel_rfl)
  exact .inr ⟨(Sure.none rfl),.inl ⟨.int .u64 (e.Term),w',OpV.x (by exact V.load (x:=.tmp 3) rfl p23 Ar ((Aa.ext hw (by simp)).cell rfl)),Ext.refl _ _,rfl⟩⟩
 ·intro E' w' hw hE hp
  have As:E' 4 = (.int .u64 (e.Term):Value):=hp 1 (by kernel_rfl)
  exact .inr ⟨(Sure.none rfl),.inr ⟨_,_,C.call1 (x:=.tmp 4) rfl cl29 As,Fnc.mono (ref_Num e.Term) (fun v w'' h=>⟨h.2,h.1⟩)⟩⟩
 ·intro E' w' hw hE hp
  exact .inr ⟨(Sure.none rfl),.inl ⟨.pointer (some ⟨b8,1,none⟩),w',OpV.x (by exact V.fieldAddr (x:=.tmp 1) rfl fl48_1 ((hE 1 (by kernel_rfl)).trans rfl)),Ext.refl _ _,rfl⟩⟩
 ·intro E' w' hw hE hp
  have Au:E' 6 = (.pointer (some ⟨b8,1,none⟩):Value):=hp 3 (by kernel_rfl)
  exact .inr ⟨(Sure.none rfl),.inl ⟨.int .u8 (e.Kind),w',OpV.x (by exact V.load (x:=.tmp 6) rfl p46 Au ((Aa.ext hw (by simp)).cell rfl)),Ext.refl _ _,rfl⟩⟩
 ·intro E' w' hw hE hp
  have Av:E' 7 = (.int .u8 (e.Kind):Value):=hp 4 (by kernel_rfl)
  exact .inr ⟨(Sure.none rfl),.inl ⟨_,_,W.X.buildSlice (cs:=[.int .u8 (e.Kind)]) rfl u91 e5 (by show 1 * 1 ≤ 1024; decide) (by rw [show (#[(0,Operand.tmp 7)]:Array (Nat × Operand)).map (fun x=>(x.1,ev E' x.2)) = #[(0,.int .u8 (e.Kind))] from map1 (by show (0,E' 7) = _; rw [Av])]; kernel_rfl),Ext.alloc _ _,⟨_,rfl,Blk.new _ _⟩⟩⟩
 ·intro E' w' hw hE hp
  have Aw:∃ g,E' 8 = .slice (some ⟨g,0,none⟩) 1 1 ∧ Box w' g 5 (nrow .u8 [e.Kind] []):=hp 5 (by kernel_rfl)
  obtain ⟨g_,e_,hb_⟩:=Aw
  exact .inr ⟨(Sure.none rfl),.inl ⟨.string (strOfNums [e.Kind]),w',OpV.x (by exact V.bytesStr (x:=.tmp 8) rfl u91 u5 u9 e_ hb_ rfl),Ext.refl _ _,rfl⟩⟩
 ·intro E' w' hw hE hp
  have Ax:E' 5 = (.string (numB e.Term):Value):=hp 2 (by kernel_rfl)
  have Ay:E' 9 = (.string (strOfNums [e.Kind]):Value):=hp 6 (by kernel_rfl)
  exact .inr ⟨(Sure.none rfl),.inl ⟨.string ((numB e.Term) ++ (strOfNums [e.Kind])),w',OpV.x (by exact V.sadd (x:=.tmp 5) (y:=.tmp 9) rfl Ax Ay (by first | omega | (simp only [ByteArray.size_append]; omega))),Ext.refl _ _,rfl⟩⟩
 ·intro E' w' hw hE hp
  exact .inr ⟨(Sure.none rfl),.inl ⟨.pointer (some ⟨b8,2,none⟩),w',OpV.x (by exact V.fieldAddr (x:=.tmp 1) rfl fl48_2 ((hE 1 (by kernel_rfl)).trans rfl)),Ext.refl _ _,rfl⟩⟩
 ·intro E' w' hw hE hp
  have Az:E' 11 = (.pointer (some ⟨b8,2,none⟩):Value):=hp 8 (by kernel_rfl)
  exact .inr ⟨(Sure.none rfl),.inl ⟨.string (e.Data),w',OpV.x (by exact V.load (x:=.tmp 11) rfl p9 Az ((Aa.ext hw (by simp)).cell rfl)),Ext.refl _ _,rfl⟩⟩
 ·intro E' w' hw hE hp
  have A4:E' 12 = (.string (e.Data):Value):=hp 9 (by kernel_rfl)
  exact .inr ⟨(Sure.none rfl),.inr ⟨_,_,C.call1 (x:=.tmp 12) rfl cl63 A4,Fnc.mono (ref_Text e.Data (by omega)) (fun v w'' h=>⟨h.2,h.1⟩)⟩⟩
 ·intro E' w' hw hE hp
  have A5:E' 10 = (.string ((numB e.Term) ++ (strOfNums [e.Kind])):Value):=hp 7 (by kernel_rfl)
  have Af:E' 13 = (.string (textB e.Data):Value):=hp 10 (by kernel_rfl)
  exact .inr ⟨(Sure.none rfl),.inl ⟨.string (((numB e.Term) ++ (strOfNums [e.Kind])) ++ (textB e.Data)),w',OpV.x (by exact V.sadd (x:=.tmp 10) (y:=.tmp 13) rfl A5 Af (by first | omega | (simp only [ByteArray.size_append]; omega))),Ext.refl _ _,rfl⟩⟩
 ·intro E' w' hw hE hp
  exact .inr ⟨(Sure.none rfl),.inl ⟨.pointer (some ⟨b8,3,none⟩),w',OpV.x (by exact V.fieldAddr (x:=.tmp 1) rfl fl48_3 ((hE 1 (by kernel_rfl)).trans rfl)),Ext.refl _ _,rfl⟩⟩
 ·intro E' w' hw hE hp
  have Ag:E' 15 = (.pointer (some ⟨b8,3,none⟩):Value):=hp 12 (by kernel_rfl)
  exact .inr ⟨(Sure.none rfl),.inl ⟨v1,w',OpV.x (by exact V.load (x:=.tmp 15) rfl p22 Ag ((Aa.ext hw (by simp)).cell rfl)),Ext.refl _ _,rfl⟩⟩
 ·intro E' w' hw hE hp
  have Ah:E' 16 = (v1:Value):=hp 13 (by kernel_rfl)
  exact .inr ⟨(Sure.none rfl),.inr ⟨_,_,C.call1 (x:=.tmp 16) rfl cl64 Ah,Fnc.mono (ref_numbers (Ad.ext (Ext.any hw)) (by omega) (by first | assumption | exact fun j hj=>(hok.me.2 j hj).1 | exact fun j hj=>((hok.em k (by omega)).2 j hj).1)) (fun v w'' h=>⟨h.2,h.1⟩)⟩⟩
 ·intro E' w' hw hE hp
  have Ai:E' 14 = (.string (((numB e.Term) ++ (strOfNums [e.Kind])) ++ (textB e.Data)):Value):=hp 11 (by kernel_rfl)
  have Aj:E' 17 = (.string (numbersB e.Members):Value):=hp 14 (by kernel_rfl)
  exact .inr ⟨(Sure.none rfl),.inl ⟨.string ((((numB e.Term) ++ (strOfNums [e.Kind])) ++ (textB e.Data)) ++ (numbersB e.Members)),w',OpV.x (by exact V.sadd (x:=.tmp 14) (y:=.tmp 17) rfl Ai Aj (by first | omega | (simp only [ByteArray.size_append]; omega))),Ext.refl _ _,rfl⟩⟩
 ·intro E' w' hw hE hp
  have Ak:E' 18 = (.string ((((numB e.Term) ++ (strOfNums [e.Kind])) ++ (textB e.Data)) ++ (numbersB e.Members)):Value):=hp 15 (by kernel_rfl)
  exact .inr ⟨(Sure.none rfl),.inl ⟨.string ((((numB e.Term) ++ (strOfNums [e.Kind])) ++ (textB e.Data)) ++ (numbersB e.Members)),w',OpV.x (by exact V.assign (x:=.tmp 18) rfl Ak),Ext.refl _ _,rfl⟩⟩
 ·intro A6 A7 Al Bc Am
  have An:Ext [b8] w A7:=Ae.trans (Ext.any (Y:=[b8]) Al)
  have Ao:A6 2 = (.string ((((numB e.Term) ++ (strOfNums [e.Kind])) ++ (textB e.Data)) ++ (numbersB e.Members)):Value):=Am 16 (of_decide_eq_true (by kernel_rfl))
  refine WP.ret ?_
  refine resOf.c1 rfl (v:=.string ((((numB e.Term) ++ (strOfNums [e.Kind])) ++ (textB e.Data)) ++ (numbersB e.Members))) Ao ?_
  exact ⟨(str_eq (by rfl)),((An).done (geCons Ab geNil))⟩
end Go.Proofs.Ytiaicihpocoeiaa.X1
namespace Go.Proofs.Ytiaicihpocoeiaa.X1
open T W Go.RowKit
set_option maxRecDepth 100000
set_option maxHeartbeats 400000
theorem fl29_2:FieldOf Try.prog 29 2 23 2 1:=fld (by kernel_rfl)
theorem fl29_3:FieldOf Try.prog 29 3 3 3 1:=fld (by kernel_rfl)
theorem fl29_6:FieldOf Try.prog 29 6 23 6 1:=fld (by kernel_rfl)
theorem fl29_7:FieldOf Try.prog 29 7 23 7 1:=fld (by kernel_rfl)
theorem fl29_8:FieldOf Try.prog 29 8 22 8 1:=fld (by kernel_rfl)
theorem cl52:Callable Try.prog 52:=⟨Try.f52,Try.func52,by kernel_rfl,rfl⟩
theorem fl29_9:FieldOf Try.prog 29 9 9 9 1:=fld (by kernel_rfl)
theorem cl53:Callable Try.prog 53:=⟨Try.f53,Try.func53,by kernel_rfl,rfl⟩
theorem cl34:Callable Try.prog 34:=⟨Try.f34,Try.func34,by kernel_rfl,rfl⟩
theorem cl51:Callable Try.prog 51:=⟨Try.f51,Try.func51,by kernel_rfl,rfl⟩
def NumsOk (l:List Int):Prop:=l.length ≤ 64 ∧ ∀ j,j < l.length → 0 ≤ l.getD j 0 ∧ l.getD j 0 ≤ 64
theorem nums_nil {l:List Int} (h:l.length = 0):NumsOk l:=⟨by omega,fun j hj=>by omega⟩
theorem ids_ok {l:List Int} (h:idsB l = true):NumsOk l:=by
 rw [idsB,allB_iff] at h
 have key:∀ j,j < l.length → (j:Int) + 1 ≤ l.getD j 0 ∧ l.getD j 0 ≤ 64:=by
  intro j
  induction j with
  | zero =>
   intro hj
   have:=h 0 hj
   simp only [okAt,idB,Bool.and_eq_true,decide_eq_true_eq] at this
   omega
  | succ j ih =>
   intro hj
   have h1:=ih (by omega)
   have h2:=h (j + 1) hj
   simp only [okAt,idB,Bool.and_eq_true,Bool.or_eq_true,decide_eq_true_eq,Nat.add_sub_cancel] at h2
   omega
 refine ⟨?_,fun j hj=>⟨by have:=key j hj; omega,(key j hj).2⟩⟩
 rcases Nat.lt_or_ge 64 l.length with hlt | hge
 ·have:=key 64 hlt; omega
 ·exact hge
theorem kind_nums {e:EntryD} (h:T.kindOk e = true):NumsOk e.Members:=by
 simp only [T.kindOk,membersB,Bool.or_eq_true,Bool.and_eq_true,decide_eq_true_eq] at h
 rcases h with (h | h) | h
 ·exact nums_nil h.2
 ·exact nums_nil h.2
 ·exact ids_ok h.2.2
theorem ents_nums {l:List EntryD} {f t:Int} (h:entsB l f t = true):∀ k,k < l.length → NumsOk (l.getD k default).Members:=by
 intro k hk
 rw [entsB,allB_iff] at h
 have:=h k hk
 simp only [entOk,Bool.and_eq_true] at this
 exact kind_nums this.2
structure KSz (p:PeerD):Prop where
  fits:Fits p
  log:p.Log.length ≤ 1048576
  data:∀ k,k < p.Log.length → (p.Log.getD k default).Data.size ≤ 1048576
  snap:p.Snap.size ≤ 1048576
structure KOk (p:PeerD):Prop where
  vote:0 ≤ p.Vote ∧ p.Vote ≤ 64
  base:p.Base ≤ 4611686018427387904
  bm:NumsOk p.BaseMembers
  em:∀ k,k < p.Log.length → NumsOk (p.Log.getD k default).Members
theorem kok_of {p:PeerD} (h:vmayB p = true):KOk p:=by
 simp only [vmayB,vM2,vM3,membersB,Bool.and_eq_true,Bool.or_eq_true,decide_eq_true_eq,Bool.not_eq_true',decide_eq_false_iff_not] at h
 obtain ⟨h1,⟨hv,_,_,hb⟩,⟨_,_,_,he⟩,_⟩:=h
 refine ⟨?_,vM1_base h1,ids_ok hb,ents_nums he⟩
 rcases hv with h | h
 ·have:p.Vote = 0:=by omega
  omega
 ·simp only [idB,Bool.and_eq_true,decide_eq_true_eq] at h; omega
def hardB (p:PeerD):ByteArray:=ByteArray.mk #[72] ++ numB p.Term ++ numB p.Vote
def baseB (p:PeerD):ByteArray:=ByteArray.mk #[66] ++ numB p.Base ++ numB p.BaseTerm ++ numbersB p.BaseMembers ++ textB p.Snap
theorem mk1_size (c:UInt8):(ByteArray.mk #[c]).size = 1:=rfl
def zeroEnt:EntryD:={ Term:=0,Kind:=0,Data:=ByteArray.mk #[],Members:=[] }
def entIs (p:PeerD) (i:Int):Bool:=termIs p i && !decide (i = p.Base)
def entAt (p:PeerD) (i:Int):EntryD:=if entIs p i = true then p.Log.getD (i - p.Base - 1).toNat default else zeroEnt
theorem entIs_no1 {p:PeerD} {i:Int} (h:termIs p i = false):entIs p i = false:=by rw [entIs,h]; rfl
theorem entIs_no2 {p:PeerD} {i:Int} (h:i = p.Base):entIs p i = false:=by rw [entIs,decide_eq_true h]; simp
theorem entIs_yes {p:PeerD} {i:Int} (h:termIs p i = true) (h2:¬ i = p.Base):entIs p i = true:=by rw [entIs,h,decide_eq_false h2]; rfl
theorem entAt_no {p:PeerD} {i:Int} (h:entIs p i = false):zeroEnt = entAt p i:=by rw [entAt,if_neg (by rw [h]; decide)]
theorem entAt_yes {p:PeerD} {i:Int} (h:entIs p i = true):p.Log.getD (i - p.Base - 1).toNat default = entAt p i:=by rw [entAt,if_pos h]
theorem entIs_in {p:PeerD} {i:Int} (h:entIs p i = true):p.Base < i ∧ i ≤ p.Base + (p.Log.length:Int):=by
 have hl:lastI p = p.Base + (p.Log.length:Int):=rfl
 simp only [entIs,termIs,Bool.and_eq_true,decide_eq_true_eq,Bool.not_eq_true',decide_eq_false_iff_not] at h
 omega
theorem keep_numbers {w:World} {X:List Nat} {v_l:Value} {l:List Int} (h_l:Sl (intR .i64) X w v_l l) (hl:l.length ≤ 1073741824) (hnn:∀ j,j < l.length → 0 ≤ l.getD j 0):Fnc Try.prog 52 #[v_l] w (fun v w'=>v = .string (numbersB l) ∧ Ext [] w w'):=by
 refine Fnc.of_WP (n:=23) Try.func52 rfl Try.ntmps52 (by simp) ?_
 intro E hE
 have h0:E 0 = v_l:=hE 0 (by simp)
 clear hE
 refine WP.sr ?_
 refine WL.m rfl ?_
 refine WL.nil ?_
 refine WP.sr ?_
 refine WL.m rfl ?_
 obtain ⟨a1,c2,Ak⟩:=h_l.shape
 refine WL.z (.int .i64 (((l).length:Int))) (V.lenSlice (x:=.tmp 6) rfl rfl u22 (Eq.trans (b:=v_l) h0 Ak)) ?_
 refine WL.z (.int .u64 (((l).length:Int))) (V.convInt rfl u3 u23 rfl (wrap_u64 (by omega) (by omega))) ?_
 refine WL.c (Sure.none rfl) rfl (C.call1 rfl cl24 rfl) (Fnc.mono (code_Num ((l).length:Int) (by omega)) ?_)
 rintro _ w4 ⟨rfl,Ar⟩
 have As:Ext [] w w4:=Ar
 refine WL.m rfl ?_
 refine WL.nil ?_
 refine WP.seq ?_
 refine WP.sr ?_
 refine WL.m rfl ?_
 refine WL.z (.int .i64 (((l).length:Int))) (V.lenSlice (x:=.tmp 10) rfl rfl u22 (Eq.trans (b:=v_l) h0 Ak)) ?_
 refine WL.m rfl ?_
 refine WL.nil ?_
 refine WP.block ?_
 refine WP.loop (σ:=Nat) (fun k E7 w8=>E7 0 = v_l ∧ E7 2 = .string (ByteArray.mk #[]) ∧ E7 3 = .string (numsK l k) ∧ E7 10 = v_l ∧ E7 11 = .int .i64 (((l).length:Int)) ∧ E7 12 = .int .i64 ((k:Int)) ∧ Ext [] w4 w8 ∧ k ≤ l.length) (fun k=>l.length - k) (0) ?_ ?_
 ·exact ⟨h0,rfl,(str_eq (by rfl)),h0,rfl,(int_eq (by omega)),(Ext.refl _ _),(by omega)⟩
 rintro k E7 w8 ⟨Ah,Ai,Ad,Ab,Ac,Aa,Af,Au⟩
 have Ag:Ext [] w w8:=As.trans Af
 have Al:Ext [] w4 w8:=Af
 have hzk:=numsK_size l k
 have hzn:=numB_size (l.getD k 0)
 have Az:=hnn k
 refine WP.sr ?_
 refine WL.z (.bool (decide ((k:Int) < ((l).length:Int)))) (V.cmp (x:=.tmp 12) (y:=.tmp 11) rfl Aa Ac rfl) ?_
 refine WL.nil ?_
 refine WP.seq ?_
 refine WP.condp (t:=(k:Int) < ((l).length:Int)) rfl (fun Am=>?_) (fun Am=>?_)
 rotate_left
 ·refine WP.exit ?_
  refine WP.sr ?_
  refine WL.m rfl ?_
  refine WL.m rfl ?_
  refine WL.nil ?_
  refine WP.ret ?_
  refine resOf.c1 rfl (v:=.string (numsK l k)) Ad ?_
  exact ⟨(str_eq (by (have hke:k = l.length:=(by omega)); subst hke; rfl)),Ag⟩
 refine WP.skip ?_
 refine WP.seq ?_
 refine WP.block ?_
 refine WP.sr ?_
 have hlt22:k < (l).length:=by first | omega | (simp at *; omega)
 obtain ⟨Av,Aw,c16,Ay,An,hnb19,Ao,Aj⟩:=(h_l.ext (Ext.pre Ag)).get (i:=k) (x:=(l.getD k 0)) (getD_some hlt22 _)
 obtain ⟨rfl,Ae⟩:=Ao
 have Ae:=inK_i64 Ae
 refine WL.z (.pointer (some ⟨Av,Aw + k * 1,none⟩)) (V.indexAddr (x:=.tmp 10) (i:=.tmp 12) (m:=k) (j:=(k:Int)) rfl u22 s3 (Eq.trans (b:=v_l) Ab An) Aa rfl hlt22) ?_
 refine WL.z (.int .i64 ((l.getD k 0))) (V.load rfl p3 rfl (Aj.cell (j:=0) rfl)) ?_
 refine WL.m rfl ?_
 refine WL.nil ?_
 refine WP.region ?_
 refine WL.m rfl ?_
 refine WL.m rfl ?_
 refine WL.z (.int .u64 ((l.getD k 0))) (V.convInt rfl u3 u23 rfl (wrap_u64 (by omega) (by omega))) ?_
 refine WL.c (Sure.none rfl) rfl (C.call1 rfl cl24 rfl) (Fnc.mono (code_Num (l.getD k 0) (by omega)) ?_)
 rintro _ Ax ⟨rfl,Ap⟩
 have Aq:Ext [] w4 Ax:=Al.trans Ap
 refine WL.z (.string ((numsK l k) ++ (numB (l.getD k 0)))) (V.sadd (x:=.tmp 16) rfl Ad rfl (by first | omega | (simp only [ByteArray.size_append]; omega))) ?_
 refine WL.m rfl ?_
 refine WL.nil ?_
 refine WP.region ?_
 refine WL.z (.int .i64 ((k:Int) + 1)) (V.arith (x:=.tmp 12) rfl Aa rfl rfl (wrap_i64 (by omega) (by omega))) ?_
 refine WL.m rfl ?_
 refine WL.nil ?_
 exact ⟨k + 1,⟨Ah,Ai,(str_eq (by rfl)),Ab,Ac,(int_eq (by omega)),Aq,(by omega)⟩,(by omega)⟩
theorem ref12_numbers {w:World} {X:List Nat} {v_l:Value} {l:List Int} (h_l:Sl (intR .i64) X w v_l l) (hl:l.length ≤ 1073741824) (hnn:∀ j,j < l.length → 0 ≤ l.getD j 0):Fnc Try.prog 34 #[v_l] w (fun v w'=>v = .string (numbersB l) ∧ Ext [] w w'):=by
 refine Fnc.of_WP (n:=24) Try.func34 rfl Try.ntmps34 (by simp) ?_
 intro E hE
 have h0:E 0 = v_l:=hE 0 (by simp)
 clear hE
 refine WP.sr ?_
 refine WL.m rfl ?_
 refine WL.nil ?_
 refine WP.sr ?_
 refine WL.m rfl ?_
 obtain ⟨a1,c2,Ai⟩:=h_l.shape
 refine WL.z (.int .i64 (((l).length:Int))) (V.lenSlice (x:=.tmp 5) rfl rfl u22 (Eq.trans (b:=v_l) h0 Ai)) ?_
 refine WL.z (.int .u64 (((l).length:Int))) (V.convInt rfl u3 u23 rfl (wrap_u64 (by omega) (by omega))) ?_
 refine WL.c (Sure.none rfl) rfl (C.call1 rfl cl29 rfl) (Fnc.mono (ref_Num ((l).length:Int)) ?_)
 rintro _ w4 ⟨rfl,Ap⟩
 have Aq:Ext [] w w4:=Ap
 refine WL.m rfl ?_
 refine WL.nil ?_
 refine WP.seq ?_
 refine WP.sr ?_
 refine WL.m rfl ?_
 refine WL.nil ?_
 refine WP.block ?_
 refine WP.loop (σ:=Nat) (fun k E7 w8=>E7 0 = v_l ∧ E7 2 = .string (ByteArray.mk #[]) ∧ E7 3 = .string (numsK l k) ∧ E7 4 = .int .i64 ((k:Int)) ∧ Ext [] w4 w8 ∧ k ≤ l.length) (fun k=>l.length - k) (0) ?_ ?_
 ·exact ⟨h0,rfl,(str_eq (by rfl)),(int_eq (by omega)),(Ext.refl _ _),(by omega)⟩
 rintro k E7 w8 ⟨Aa,Ag,Ac,Ab,Ae,Ar⟩
 have Af:Ext [] w w8:=Aq.trans Ae
 have Aj:Ext [] w4 w8:=Ae
 have hzk:=numsK_size l k
 have hzn:=numB_size (l.getD k 0)
 have Ax:=hnn k
 refine WP.seq ?_
 refine WP.sr ?_
 refine WL.m rfl ?_
 refine WL.m rfl ?_
 refine WL.z (.int .i64 (((l).length:Int))) (V.lenSlice (x:=.tmp 10) rfl rfl u22 (Eq.trans (b:=v_l) Aa Ai)) ?_
 refine WL.z (.bool (decide ((k:Int) < ((l).length:Int)))) (V.cmp (x:=.tmp 9) rfl Ab rfl rfl) ?_
 refine WL.nil ?_
 refine WP.condp (t:=(k:Int) < ((l).length:Int)) rfl (fun Ak=>?_) (fun Ak=>?_)
 rotate_left
 ·refine WP.exit ?_
  refine WP.sr ?_
  refine WL.m rfl ?_
  refine WL.m rfl ?_
  refine WL.nil ?_
  refine WP.ret ?_
  refine resOf.c1 rfl (v:=.string (numsK l k)) Ac ?_
  exact ⟨(str_eq (by (have hke:k = l.length:=(by omega)); subst hke; rfl)),Af⟩
 refine WP.skip ?_
 refine WP.seq ?_
 refine WP.block ?_
 refine WP.region ?_
 refine WL.m rfl ?_
 refine WL.m rfl ?_
 refine WL.m rfl ?_
 have hlt22:k < (l).length:=by first | omega | (simp at *; omega)
 obtain ⟨As,Au,c16,Aw,Al,hnb19,Am,Ah⟩:=(h_l.ext (Ext.pre Af)).get (i:=k) (x:=(l.getD k 0)) (getD_some hlt22 _)
 obtain ⟨rfl,Ad⟩:=Am
 have Ad:=inK_i64 Ad
 refine WL.z (.pointer (some ⟨As,Au + k * 1,none⟩)) (V.indexAddr (x:=.tmp 16) (i:=.tmp 17) (m:=k) (j:=(k:Int)) rfl u22 s3 (Eq.trans (b:=v_l) Aa Al) Ab rfl hlt22) ?_
 refine WL.z (.int .i64 ((l.getD k 0))) (V.load rfl p3 rfl (Ah.cell (j:=0) rfl)) ?_
 refine WL.z (.int .u64 ((l.getD k 0))) (V.convInt rfl u3 u23 rfl (wrap_u64 (by omega) (by omega))) ?_
 refine WL.c (Sure.none rfl) rfl (C.call1 rfl cl29 rfl) (Fnc.mono (ref_Num (l.getD k 0)) ?_)
 rintro _ Av ⟨rfl,An⟩
 have Ao:Ext [] w4 Av:=Aj.trans An
 refine WL.z (.string ((numsK l k) ++ (numB (l.getD k 0)))) (V.sadd (x:=.tmp 15) rfl Ac rfl (by first | omega | (simp only [ByteArray.size_append]; omega))) ?_
 refine WL.m rfl ?_
 refine WL.nil ?_
 refine WP.region ?_
 refine WL.m rfl ?_
 refine WL.z (.int .i64 ((k:Int) + 1)) (V.arith (x:=.tmp 13) rfl Ab rfl rfl (wrap_i64 (by omega) (by omega))) ?_
 refine WL.m rfl ?_
 refine WL.nil ?_
 exact ⟨k + 1,⟨Aa,Ag,(str_eq (by rfl)),(int_eq (by omega)),Ao,(by omega)⟩,(by omega)⟩
set_option maxHeartbeats 2000000 in
theorem keep_hard {w:World} {X:List Nat} {p:PeerD} {c_p:List Value} (h_p:peerR.rd X w c_p p) (hok:KOk p) (hsz:KSz p):Fnc Try.prog 19 #[.agg c_p.toArray] w (fun v w'=>v = .string (hardB p) ∧ Ext [] w w'):=by
 obtain ⟨v1,v3,v5,v7,v9,Af,rfl,Bh,Bi,Bj,Bk,Bd,Be,Ag⟩:=h_p
 obtain ⟨Az,Ac,Ad,A4,A5,A6,A7,A8,A9,Ba,Bb,Bc⟩:=(show PeerD.InR p from Ag)
 have Ac:=inK_u64 Ac
 have Ad:=inK_i64 Ad
 have Bl:=numB_size p.Term
 have Bm:=numB_size p.Vote
 have Bn:=hok.vote
 have hza:=mk1_size 72
 refine Fnc.of_WP (n:=12) Try.func19 rfl Try.ntmps19 (by simp) ?_
 intro E hE
 have h0:E 0 = .agg (peerA p v1 v3 v5 v7 v9 Af):=hE 0 (by simp)
 clear hE
 refine WP.sr ?_
 refine WL.box (x:=.tmp 0) (cs:=(peerC p v1 v3 v5 v7 v9 Af)) (Sure.none rfl) rfl rfl h0 rfl (fun Aa Bo Ah Bf Ae=>?_)
 have Ai:Ext [Aa] _ _:=(Ext.refl _ _).trans (Ext.any Ah)
 have Ab:w.heap.size ≤ Aa:=by have:=Nat.le_refl w.heap.size; omega
 refine WL.m rfl ?_
 refine WL.nil ?_
 refine WP.seq ?_
 refine WP.anyMake [fun v _=>v = (.pointer (some ⟨Aa,2,none⟩):Value),fun v _=>v = (.int .u64 (p.Term):Value),fun v _=>v = (.string (numB p.Term):Value),fun v _=>v = (.string ((ByteArray.mk #[72]) ++ (numB p.Term)):Value),fun v _=>v = (.pointer (some ⟨Aa,3,none⟩):Value),fun v _=>v = (.int .i64 (p.Vote):Value),fun v _=>v = (.int .u64 (p.Vote):Value),fun v _=>v = (.string (numB p.Vote):Value),fun v _=>v = (.string (((ByteArray.mk #[72]) ++ (numB p.Term)) ++ (numB p.Vote)):Value),fun v _=>v = (.string (((ByteArray.mk #[72]) ++ (numB p.Term)) ++ (numB p.Vote)):Value)] mo (by kernel_rfl) (by kernel_rfl) (by kernel_rfl) ⟨Stab.eq _,Stab.eq _,Stab.eq _,Stab.eq _,Stab.eq _,Stab.eq _,Stab.eq _,Stab.eq _,Stab.eq _,Stab.eq _,trivial⟩ ⟨?_,?_,?_,?_,?_,?_,?_,?_,?_,?_,trivial⟩ ?_
 ·intro E' w' hw hE hp
  exact .inr ⟨(Sure.none rfl),.inl ⟨.pointer (some ⟨Aa,2,none⟩),V.fieldAddr (x:=.tmp 1) rfl fl29_2 ((hE 1 (by kernel_rfl)).trans rfl),rfl⟩⟩
 ·intro E' w' hw hE hp
  have An:E' 3 = (.pointer (some ⟨Aa,2,none⟩):Value):=hp 0 (by kernel_rfl)
  exact .inr ⟨(Sure.none rfl),.inl ⟨.int .u64 (p.Term),V.load (x:=.tmp 3) rfl p23 An ((Ae.ext hw (by simp)).cell rfl),rfl⟩⟩
 ·intro E' w' hw hE hp
  have Ao:E' 4 = (.int .u64 (p.Term):Value):=hp 1 (by kernel_rfl)
  exact .inr ⟨(Sure.none rfl),.inr ⟨_,_,C.call1 (x:=.tmp 4) rfl cl24 Ao,Fnc.mono (code_Num p.Term (by omega)) (fun v w'' h=>⟨h.2,h.1⟩)⟩⟩
 ·intro E' w' hw hE hp
  have Ap:E' 5 = (.string (numB p.Term):Value):=hp 2 (by kernel_rfl)
  exact .inr ⟨(Sure.none rfl),.inl ⟨.string ((ByteArray.mk #[72]) ++ (numB p.Term)),V.sadd (y:=.tmp 5) rfl rfl Ap (by first | omega | (simp only [ByteArray.size_append]; omega)),rfl⟩⟩
 ·intro E' w' hw hE hp
  exact .inr ⟨(Sure.none rfl),.inl ⟨.pointer (some ⟨Aa,3,none⟩),V.fieldAddr (x:=.tmp 1) rfl fl29_3 ((hE 1 (by kernel_rfl)).trans rfl),rfl⟩⟩
 ·intro E' w' hw hE hp
  have Aq:E' 7 = (.pointer (some ⟨Aa,3,none⟩):Value):=hp 4 (by kernel_rfl)
  exact .inr ⟨(Sure.none rfl),.inl ⟨.int .i64 (p.Vote),V.load (x:=.tmp 7) rfl p3 Aq ((Ae.ext hw (by simp)).cell rfl),rfl⟩⟩
 ·intro E' w' hw hE hp
  have Ar:E' 8 = (.int .i64 (p.Vote):Value):=hp 5 (by kernel_rfl)
  exact .inr ⟨(Sure.none rfl),.inl ⟨.int .u64 (p.Vote),V.convInt (x:=.tmp 8) rfl u3 u23 Ar (wrap_u64 (by omega) (by omega)),rfl⟩⟩
 ·intro E' w' hw hE hp
  have As:E' 9 = (.int .u64 (p.Vote):Value):=hp 6 (by kernel_rfl)
  exact .inr ⟨(Sure.none rfl),.inr ⟨_,_,C.call1 (x:=.tmp 9) rfl cl24 As,Fnc.mono (code_Num p.Vote (by omega)) (fun v w'' h=>⟨h.2,h.1⟩)⟩⟩
 ·intro E' w' hw hE hp
  have Au:E' 6 = (.string ((ByteArray.mk #[72]) ++ (numB p.Term)):Value):=hp 3 (by kernel_rfl)
  have Av:E' 10 = (.string (numB p.Vote):Value):=hp 7 (by kernel_rfl)
  exact .inr ⟨(Sure.none rfl),.inl ⟨.string (((ByteArray.mk #[72]) ++ (numB p.Term)) ++ (numB p.Vote)),V.sadd (x:=.tmp 6) (y:=.tmp 10) rfl Au Av (by first | omega | (simp only [ByteArray.size_append]; omega)),rfl⟩⟩
 ·intro E' w' hw hE hp
  have Aw:E' 11 = (.string (((ByteArray.mk #[72]) ++ (numB p.Term)) ++ (numB p.Vote)):Value):=hp 8 (by kernel_rfl)
  exact .inr ⟨(Sure.none rfl),.inl ⟨.string (((ByteArray.mk #[72]) ++ (numB p.Term)) ++ (numB p.Vote)),V.assign (x:=.tmp 11) rfl Aw,rfl⟩⟩
 ·intro Ax Ay Aj Bg Ak
  have Al:Ext [Aa] w Ay:=Ai.trans (Ext.any (Y:=[Aa]) Aj)
  have Am:Ax 2 = (.string (((ByteArray.mk #[72]) ++ (numB p.Term)) ++ (numB p.Vote)):Value):=Ak 9 (of_decide_eq_true (by kernel_rfl))
  refine WP.ret ?_
  refine resOf.c1 rfl (v:=.string (((ByteArray.mk #[72]) ++ (numB p.Term)) ++ (numB p.Vote))) Am ?_
  exact ⟨(str_eq (by rfl)),((Al).done (geCons Ab geNil))⟩
set_option maxHeartbeats 2000000 in
theorem keep_base {w:World} {X:List Nat} {p:PeerD} {c_p:List Value} (h_p:peerR.rd X w c_p p) (hok:KOk p) (hsz:KSz p):Fnc Try.prog 25 #[.agg c_p.toArray] w (fun v w'=>v = .string (baseB p) ∧ Ext [] w w'):=by
 obtain ⟨v1,v3,v5,v7,v9,Ag,rfl,Br,Ah,Bs,Bt,Bn,Bo,Ai⟩:=h_p
 obtain ⟨Bc,Bd,Be,Bf,Bg,Ad,Ae,Bh,Bi,Bj,Bk,Bl⟩:=(show PeerD.InR p from Ai)
 have Ad:=inK_u64 Ad
 have Ae:=inK_u64 Ae
 have Bm:=Ah.le'
 have Bu:=numB_size p.Base
 have Bv:=numB_size p.BaseTerm
 have Bw:=numbersB_size p.BaseMembers
 have Bx:=textB_size p.Snap
 have By:=hok.bm.1
 have Bz:=hsz.snap
 have hzb:=mk1_size 66
 refine Fnc.of_WP (n:=19) Try.func25 rfl Try.ntmps25 (by simp) ?_
 intro E hE
 have h0:E 0 = .agg (peerA p v1 v3 v5 v7 v9 Ag):=hE 0 (by simp)
 clear hE
 refine WP.sr ?_
 refine WL.box (x:=.tmp 0) (cs:=(peerC p v1 v3 v5 v7 v9 Ag)) (Sure.none rfl) rfl rfl h0 rfl (fun Aa B0 Af Bp Ab=>?_)
 have Aj:=(Sl.new (b:=Aa) nz1 Ah (by omega)).ext (Ext.any Af)
 have Ak:Ext [Aa] _ _:=(Ext.refl _ _).trans (Ext.any Af)
 have Ac:w.heap.size ≤ Aa:=by have:=Nat.le_refl w.heap.size; omega
 refine WL.m rfl ?_
 refine WL.nil ?_
 refine WP.seq ?_
 refine WP.anyMake [fun v _=>v = (.pointer (some ⟨Aa,6,none⟩):Value),fun v _=>v = (.int .u64 (p.Base):Value),fun v _=>v = (.string (numB p.Base):Value),fun v _=>v = (.string ((ByteArray.mk #[66]) ++ (numB p.Base)):Value),fun v _=>v = (.pointer (some ⟨Aa,7,none⟩):Value),fun v _=>v = (.int .u64 (p.BaseTerm):Value),fun v _=>v = (.string (numB p.BaseTerm):Value),fun v _=>v = (.string (((ByteArray.mk #[66]) ++ (numB p.Base)) ++ (numB p.BaseTerm)):Value),fun v _=>v = (.pointer (some ⟨Aa,8,none⟩):Value),fun v _=>v = (v3:Value),fun v _=>v = (.string (numbersB p.BaseMembers):Value),fun v _=>v = (.string ((((ByteArray.mk #[66]) ++ (numB p.Base)) ++ (numB p.BaseTerm)) ++ (numbersB p.BaseMembers)):Value),fun v _=>v = (.pointer (some ⟨Aa,9,none⟩):Value),fun v _=>v = (.string (p.Snap):Value),fun v _=>v = (.string (textB p.Snap):Value),fun v _=>v = (.string (((((ByteArray.mk #[66]) ++ (numB p.Base)) ++ (numB p.BaseTerm)) ++ (numbersB p.BaseMembers)) ++ (textB p.Snap)):Value),fun v _=>v = (.string (((((ByteArray.mk #[66]) ++ (numB p.Base)) ++ (numB p.BaseTerm)) ++ (numbersB p.BaseMembers)) ++ (textB p.Snap)):Value)] mo (by kernel_rfl) (by kernel_rfl) (by kernel_rfl) ⟨Stab.eq _,Stab.eq _,Stab.eq _,Stab.eq _,Stab.eq _,Stab.eq _,Stab.eq _,Stab.eq _,Stab.eq _,Stab.eq _,Stab.eq _,Stab.eq _,Stab.eq _,Stab.eq _,Stab.eq _,Stab.eq _,Stab.eq _,trivial⟩ ⟨?_,?_,?_,?_,?_,?_,?_,?_,?_,?_,?_,?_,?_,?_,?_,?_,?_,trivial⟩ ?_
 ·intro E' w' hw hE hp
  exact .inr ⟨(Sure.none rfl),.inl ⟨.pointer (some ⟨Aa,6,none⟩),V.fieldAddr (x:=.tmp 1) rfl fl29_6 ((hE 1 (by kernel_rfl)).trans rfl),rfl⟩⟩
 ·intro E' w' hw hE hp
  have Aw:E' 3 = (.pointer (some ⟨Aa,6,none⟩):Value):=hp 0 (by kernel_rfl)
  exact .inr ⟨(Sure.none rfl),.inl ⟨.int .u64 (p.Base),V.load (x:=.tmp 3) rfl p23 Aw ((Ab.ext hw (by simp)).cell rfl),rfl⟩⟩
 ·intro E' w' hw hE hp
  have Ax:E' 4 = (.int .u64 (p.Base):Value):=hp 1 (by kernel_rfl)
  exact .inr ⟨(Sure.none rfl),.inr ⟨_,_,C.call1 (x:=.tmp 4) rfl cl24 Ax,Fnc.mono (code_Num p.Base (by omega)) (fun v w'' h=>⟨h.2,h.1⟩)⟩⟩
 ·intro E' w' hw hE hp
  have Ay:E' 5 = (.string (numB p.Base):Value):=hp 2 (by kernel_rfl)
  exact .inr ⟨(Sure.none rfl),.inl ⟨.string ((ByteArray.mk #[66]) ++ (numB p.Base)),V.sadd (y:=.tmp 5) rfl rfl Ay (by first | omega | (simp only [ByteArray.size_append]; omega)),rfl⟩⟩
 ·intro E' w' hw hE hp
  exact .inr ⟨(Sure.none rfl),.inl ⟨.pointer (some ⟨Aa,7,none⟩),V.fieldAddr (x:=.tmp 1) rfl fl29_7 ((hE 1 (by kernel_rfl)).trans rfl),rfl⟩⟩
 ·intro E' w' hw hE hp
  have Az:E' 7 = (.pointer (some ⟨Aa,7,none⟩):Value):=hp 4 (by kernel_rfl)
  exact .inr ⟨(Sure.none rfl),.inl ⟨.int .u64 (p.BaseTerm),V.load (x:=.tmp 7) rfl p23 Az ((Ab.ext hw (by simp)).cell rfl),rfl⟩⟩
 ·intro E' w' hw hE hp
  have A4:E' 8 = (.int .u64 (p.BaseTerm):Value):=hp 5 (by kernel_rfl)
  exact .inr ⟨(Sure.none rfl),.inr ⟨_,_,C.call1 (x:=.tmp 8) rfl cl24 A4,Fnc.mono (code_Num p.BaseTerm (by omega)) (fun v w'' h=>⟨h.2,h.1⟩)⟩⟩
 ·intro E' w' hw hE hp
  have A5:E' 6 = (.string ((ByteArray.mk #[66]) ++ (numB p.Base)):Value):=hp 3 (by kernel_rfl)
  have A6:E' 9 = (.string (numB p.BaseTerm):Value):=hp 6 (by kernel_rfl)
  exact .inr ⟨(Sure.none rfl),.inl ⟨.string (((ByteArray.mk #[66]) ++ (numB p.Base)) ++ (numB p.BaseTerm)),V.sadd (x:=.tmp 6) (y:=.tmp 9) rfl A5 A6 (by first | omega | (simp only [ByteArray.size_append]; omega)),rfl⟩⟩
 ·intro E' w' hw hE hp
  exact .inr ⟨(Sure.none rfl),.inl ⟨.pointer (some ⟨Aa,8,none⟩),V.fieldAddr (x:=.tmp 1) rfl fl29_8 ((hE 1 (by kernel_rfl)).trans rfl),rfl⟩⟩
 ·intro E' w' hw hE hp
  have A7:E' 11 = (.pointer (some ⟨Aa,8,none⟩):Value):=hp 8 (by kernel_rfl)
  exact .inr ⟨(Sure.none rfl),.inl ⟨v3,V.load (x:=.tmp 11) rfl p22 A7 ((Ab.ext hw (by simp)).cell rfl),rfl⟩⟩
 ·intro E' w' hw hE hp
  have A8:E' 12 = (v3:Value):=hp 9 (by kernel_rfl)
  exact .inr ⟨(Sure.none rfl),.inr ⟨_,_,C.call1 (x:=.tmp 12) rfl cl52 A8,Fnc.mono (keep_numbers (Aj.ext (Ext.any hw)) (by omega) (by first | assumption | exact fun j hj=>(hok.bm.2 j hj).1)) (fun v w'' h=>⟨h.2,h.1⟩)⟩⟩
 ·intro E' w' hw hE hp
  have A9:E' 10 = (.string (((ByteArray.mk #[66]) ++ (numB p.Base)) ++ (numB p.BaseTerm)):Value):=hp 7 (by kernel_rfl)
  have Al:E' 13 = (.string (numbersB p.BaseMembers):Value):=hp 10 (by kernel_rfl)
  exact .inr ⟨(Sure.none rfl),.inl ⟨.string ((((ByteArray.mk #[66]) ++ (numB p.Base)) ++ (numB p.BaseTerm)) ++ (numbersB p.BaseMembers)),V.sadd (x:=.tmp 10) (y:=.tmp 13) rfl A9 Al (by first | omega | (simp only [ByteArray.size_append]; omega)),rfl⟩⟩
 ·intro E' w' hw hE hp
  exact .inr ⟨(Sure.none rfl),.inl ⟨.pointer (some ⟨Aa,9,none⟩),V.fieldAddr (x:=.tmp 1) rfl fl29_9 ((hE 1 (by kernel_rfl)).trans rfl),rfl⟩⟩
 ·intro E' w' hw hE hp
  have Am:E' 15 = (.pointer (some ⟨Aa,9,none⟩):Value):=hp 12 (by kernel_rfl)
  exact .inr ⟨(Sure.none rfl),.inl ⟨.string (p.Snap),V.load (x:=.tmp 15) rfl p9 Am ((Ab.ext hw (by simp)).cell rfl),rfl⟩⟩
 ·intro E' w' hw hE hp
  have An:E' 16 = (.string (p.Snap):Value):=hp 13 (by kernel_rfl)
  exact .inr ⟨(Sure.none rfl),.inr ⟨_,_,C.call1 (x:=.tmp 16) rfl cl53 An,Fnc.mono (code_Text p.Snap (by omega)) (fun v w'' h=>⟨h.2,h.1⟩)⟩⟩
 ·intro E' w' hw hE hp
  have Ao:E' 14 = (.string ((((ByteArray.mk #[66]) ++ (numB p.Base)) ++ (numB p.BaseTerm)) ++ (numbersB p.BaseMembers)):Value):=hp 11 (by kernel_rfl)
  have Ap:E' 17 = (.string (textB p.Snap):Value):=hp 14 (by kernel_rfl)
  exact .inr ⟨(Sure.none rfl),.inl ⟨.string (((((ByteArray.mk #[66]) ++ (numB p.Base)) ++ (numB p.BaseTerm)) ++ (numbersB p.BaseMembers)) ++ (textB p.Snap)),V.sadd (x:=.tmp 14) (y:=.tmp 17) rfl Ao Ap (by first | omega | (simp only [ByteArray.size_append]; omega)),rfl⟩⟩
 ·intro E' w' hw hE hp
  have Aq:E' 18 = (.string (((((ByteArray.mk #[66]) ++ (numB p.Base)) ++ (numB p.BaseTerm)) ++ (numbersB p.BaseMembers)) ++ (textB p.Snap)):Value):=hp 15 (by kernel_rfl)
  exact .inr ⟨(Sure.none rfl),.inl ⟨.string (((((ByteArray.mk #[66]) ++ (numB p.Base)) ++ (numB p.BaseTerm)) ++ (numbersB p.BaseMembers)) ++ (textB p.Snap)),V.assign (x:=.tmp 18) rfl Aq,rfl⟩⟩
 ·intro Ba Bb Ar Bq As
  have Au:Ext [Aa] w Bb:=Ak.trans (Ext.any (Y:=[Aa]) Ar)
  have Av:Ba 2 = (.string (((((ByteArray.mk #[66]) ++ (numB p.Base)) ++ (numB p.BaseTerm)) ++ (numbersB p.BaseMembers)) ++ (textB p.Snap)):Value):=As 16 (of_decide_eq_true (by kernel_rfl))
  refine WP.ret ?_
  refine resOf.c1 rfl (v:=.string (((((ByteArray.mk #[66]) ++ (numB p.Base)) ++ (numB p.BaseTerm)) ++ (numbersB p.BaseMembers)) ++ (textB p.Snap))) Av ?_
  exact ⟨(str_eq (by rfl)),((Au).done (geCons Ac geNil))⟩
set_option maxHeartbeats 2000000 in
theorem ref12_base {w:World} {X:List Nat} {p:PeerD} {c_p:List Value} (h_p:peerR.rd X w c_p p) (hok:KOk p) (hsz:KSz p):Fnc Try.prog 35 #[.agg c_p.toArray] w (fun v w'=>v = .string (baseB p) ∧ Ext [] w w'):=by
 obtain ⟨v1,v3,v5,v7,v9,Ae,rfl,Br,Af,Bs,Bt,Bn,Bo,Ag⟩:=h_p
 obtain ⟨Ba,Bb,Bc,Bd,Be,Bf,Bg,Bh,Bi,Bj,Bk,Bl⟩:=(show PeerD.InR p from Ag)
 have Bm:=Af.le'
 have Bu:=numB_size p.Base
 have Bv:=numB_size p.BaseTerm
 have Bw:=numbersB_size p.BaseMembers
 have Bx:=textB_size p.Snap
 have By:=hok.bm.1
 have Bz:=hsz.snap
 have hzb:=mk1_size 66
 refine Fnc.of_WP (n:=19) Try.func35 rfl Try.ntmps35 (by simp) ?_
 intro E hE
 have h0:E 0 = .agg (peerA p v1 v3 v5 v7 v9 Ae):=hE 0 (by simp)
 clear hE
 refine WP.sr ?_
 refine WL.box (x:=.tmp 0) (cs:=(peerC p v1 v3 v5 v7 v9 Ae)) (Sure.none rfl) rfl rfl h0 rfl (fun Aa B0 Ad Bp Ab=>?_)
 have Ah:=(Sl.new (b:=Aa) nz1 Af (by omega)).ext (Ext.any Ad)
 have Ai:Ext [Aa] _ _:=(Ext.refl _ _).trans (Ext.any Ad)
 have Ac:w.heap.size ≤ Aa:=by have:=Nat.le_refl w.heap.size; omega
 refine WL.m rfl ?_
 refine WL.nil ?_
 refine WP.seq ?_
 refine WP.anyMake [fun v _=>v = (.pointer (some ⟨Aa,6,none⟩):Value),fun v _=>v = (.int .u64 (p.Base):Value),fun v _=>v = (.string (numB p.Base):Value),fun v _=>v = (.string ((ByteArray.mk #[66]) ++ (numB p.Base)):Value),fun v _=>v = (.pointer (some ⟨Aa,7,none⟩):Value),fun v _=>v = (.int .u64 (p.BaseTerm):Value),fun v _=>v = (.string (numB p.BaseTerm):Value),fun v _=>v = (.string (((ByteArray.mk #[66]) ++ (numB p.Base)) ++ (numB p.BaseTerm)):Value),fun v _=>v = (.pointer (some ⟨Aa,8,none⟩):Value),fun v _=>v = (v3:Value),fun v _=>v = (.string (numbersB p.BaseMembers):Value),fun v _=>v = (.string ((((ByteArray.mk #[66]) ++ (numB p.Base)) ++ (numB p.BaseTerm)) ++ (numbersB p.BaseMembers)):Value),fun v _=>v = (.pointer (some ⟨Aa,9,none⟩):Value),fun v _=>v = (.string (p.Snap):Value),fun v _=>v = (.string (textB p.Snap):Value),fun v _=>v = (.string (((((ByteArray.mk #[66]) ++ (numB p.Base)) ++ (numB p.BaseTerm)) ++ (numbersB p.BaseMembers)) ++ (textB p.Snap)):Value),fun v _=>v = (.string (((((ByteArray.mk #[66]) ++ (numB p.Base)) ++ (numB p.BaseTerm)) ++ (numbersB p.BaseMembers)) ++ (textB p.Snap)):Value)] mo (by kernel_rfl) (by kernel_rfl) (by kernel_rfl) ⟨Stab.eq _,Stab.eq _,Stab.eq _,Stab.eq _,Stab.eq _,Stab.eq _,Stab.eq _,Stab.eq _,Stab.eq _,Stab.eq _,Stab.eq _,Stab.eq _,Stab.eq _,Stab.eq _,Stab.eq _,Stab.eq _,Stab.eq _,trivial⟩ ⟨?_,?_,?_,?_,?_,?_,?_,?_,?_,?_,?_,?_,?_,?_,?_,?_,?_,trivial⟩ ?_
 ·intro E' w' hw hE hp
  exact .inr ⟨(Sure.none rfl),.inl ⟨.pointer (some ⟨Aa,6,none⟩),V.fieldAddr (x:=.tmp 1) rfl fl29_6 ((hE 1 (by kernel_rfl)).trans rfl),rfl⟩⟩
 ·intro E' w' hw hE hp
  have Au:E' 3 = (.pointer (some ⟨Aa,6,none⟩):Value):=hp 0 (by kernel_rfl)
  exact .inr ⟨(Sure.none rfl),.inl ⟨.int .u64 (p.Base),V.load (x:=.tmp 3) rfl p23 Au ((Ab.ext hw (by simp)).cell rfl),rfl⟩⟩
 ·intro E' w' hw hE hp
  have Av:E' 4 = (.int .u64 (p.Base):Value):=hp 1 (by kernel_rfl)
  exact .inr ⟨(Sure.none rfl),.inr ⟨_,_,C.call1 (x:=.tmp 4) rfl cl29 Av,Fnc.mono (ref_Num p.Base) (fun v w'' h=>⟨h.2,h.1⟩)⟩⟩
 ·intro E' w' hw hE hp
  have Aw:E' 5 = (.string (numB p.Base):Value):=hp 2 (by kernel_rfl)
  exact .inr ⟨(Sure.none rfl),.inl ⟨.string ((ByteArray.mk #[66]) ++ (numB p.Base)),V.sadd (y:=.tmp 5) rfl rfl Aw (by first | omega | (simp only [ByteArray.size_append]; omega)),rfl⟩⟩
 ·intro E' w' hw hE hp
  exact .inr ⟨(Sure.none rfl),.inl ⟨.pointer (some ⟨Aa,7,none⟩),V.fieldAddr (x:=.tmp 1) rfl fl29_7 ((hE 1 (by kernel_rfl)).trans rfl),rfl⟩⟩
 ·intro E' w' hw hE hp
  have Ax:E' 7 = (.pointer (some ⟨Aa,7,none⟩):Value):=hp 4 (by kernel_rfl)
  exact .inr ⟨(Sure.none rfl),.inl ⟨.int .u64 (p.BaseTerm),V.load (x:=.tmp 7) rfl p23 Ax ((Ab.ext hw (by simp)).cell rfl),rfl⟩⟩
 ·intro E' w' hw hE hp
  have Ay:E' 8 = (.int .u64 (p.BaseTerm):Value):=hp 5 (by kernel_rfl)
  exact .inr ⟨(Sure.none rfl),.inr ⟨_,_,C.call1 (x:=.tmp 8) rfl cl29 Ay,Fnc.mono (ref_Num p.BaseTerm) (fun v w'' h=>⟨h.2,h.1⟩)⟩⟩
 ·intro E' w' hw hE hp
  have Az:E' 6 = (.string ((ByteArray.mk #[66]) ++ (numB p.Base)):Value):=hp 3 (by kernel_rfl)
  have A4:E' 9 = (.string (numB p.BaseTerm):Value):=hp 6 (by kernel_rfl)
  exact .inr ⟨(Sure.none rfl),.inl ⟨.string (((ByteArray.mk #[66]) ++ (numB p.Base)) ++ (numB p.BaseTerm)),V.sadd (x:=.tmp 6) (y:=.tmp 9) rfl Az A4 (by first | omega | (simp only [ByteArray.size_append]; omega)),rfl⟩⟩
 ·intro E' w' hw hE hp
  exact .inr ⟨(Sure.none rfl),.inl ⟨.pointer (some ⟨Aa,8,none⟩),V.fieldAddr (x:=.tmp 1) rfl fl29_8 ((hE 1 (by kernel_rfl)).trans rfl),rfl⟩⟩
 ·intro E' w' hw hE hp
  have A5:E' 11 = (.pointer (some ⟨Aa,8,none⟩):Value):=hp 8 (by kernel_rfl)
  exact .inr ⟨(Sure.none rfl),.inl ⟨v3,V.load (x:=.tmp 11) rfl p22 A5 ((Ab.ext hw (by simp)).cell rfl),rfl⟩⟩
 ·intro E' w' hw hE hp
  have A6:E' 12 = (v3:Value):=hp 9 (by kernel_rfl)
  exact .inr ⟨(Sure.none rfl),.inr ⟨_,_,C.call1 (x:=.tmp 12) rfl cl34 A6,Fnc.mono (ref12_numbers (Ah.ext (Ext.any hw)) (by omega) (by first | assumption | exact fun j hj=>(hok.bm.2 j hj).1)) (fun v w'' h=>⟨h.2,h.1⟩)⟩⟩
 ·intro E' w' hw hE hp
  have A7:E' 10 = (.string (((ByteArray.mk #[66]) ++ (numB p.Base)) ++ (numB p.BaseTerm)):Value):=hp 7 (by kernel_rfl)
  have Aj:E' 13 = (.string (numbersB p.BaseMembers):Value):=hp 10 (by kernel_rfl)
  exact .inr ⟨(Sure.none rfl),.inl ⟨.string ((((ByteArray.mk #[66]) ++ (numB p.Base)) ++ (numB p.BaseTerm)) ++ (numbersB p.BaseMembers)),V.sadd (x:=.tmp 10) (y:=.tmp 13) rfl A7 Aj (by first | omega | (simp only [ByteArray.size_append]; omega)),rfl⟩⟩
 ·intro E' w' hw hE hp
  exact .inr ⟨(Sure.none rfl),.inl ⟨.pointer (some ⟨Aa,9,none⟩),V.fieldAddr (x:=.tmp 1) rfl fl29_9 ((hE 1 (by kernel_rfl)).trans rfl),rfl⟩⟩
 ·intro E' w' hw hE hp
  have Ak:E' 15 = (.pointer (some ⟨Aa,9,none⟩):Value):=hp 12 (by kernel_rfl)
  exact .inr ⟨(Sure.none rfl),.inl ⟨.string (p.Snap),V.load (x:=.tmp 15) rfl p9 Ak ((Ab.ext hw (by simp)).cell rfl),rfl⟩⟩
 ·intro E' w' hw hE hp
  have Al:E' 16 = (.string (p.Snap):Value):=hp 13 (by kernel_rfl)
  exact .inr ⟨(Sure.none rfl),.inr ⟨_,_,C.call1 (x:=.tmp 16) rfl cl63 Al,Fnc.mono (ref_Text p.Snap (by omega)) (fun v w'' h=>⟨h.2,h.1⟩)⟩⟩
 ·intro E' w' hw hE hp
  have Am:E' 14 = (.string ((((ByteArray.mk #[66]) ++ (numB p.Base)) ++ (numB p.BaseTerm)) ++ (numbersB p.BaseMembers)):Value):=hp 11 (by kernel_rfl)
  have An:E' 17 = (.string (textB p.Snap):Value):=hp 14 (by kernel_rfl)
  exact .inr ⟨(Sure.none rfl),.inl ⟨.string (((((ByteArray.mk #[66]) ++ (numB p.Base)) ++ (numB p.BaseTerm)) ++ (numbersB p.BaseMembers)) ++ (textB p.Snap)),V.sadd (x:=.tmp 14) (y:=.tmp 17) rfl Am An (by first | omega | (simp only [ByteArray.size_append]; omega)),rfl⟩⟩
 ·intro E' w' hw hE hp
  have Ao:E' 18 = (.string (((((ByteArray.mk #[66]) ++ (numB p.Base)) ++ (numB p.BaseTerm)) ++ (numbersB p.BaseMembers)) ++ (textB p.Snap)):Value):=hp 15 (by kernel_rfl)
  exact .inr ⟨(Sure.none rfl),.inl ⟨.string (((((ByteArray.mk #[66]) ++ (numB p.Base)) ++ (numB p.BaseTerm)) ++ (numbersB p.BaseMembers)) ++ (textB p.Snap)),V.assign (x:=.tmp 18) rfl Ao,rfl⟩⟩
 ·intro A8 A9 Ap Bq Aq
  have Ar:Ext [Aa] w A9:=Ai.trans (Ext.any (Y:=[Aa]) Ap)
  have As:A8 2 = (.string (((((ByteArray.mk #[66]) ++ (numB p.Base)) ++ (numB p.BaseTerm)) ++ (numbersB p.BaseMembers)) ++ (textB p.Snap)):Value):=Aq 16 (of_decide_eq_true (by kernel_rfl))
  refine WP.ret ?_
  refine resOf.c1 rfl (v:=.string (((((ByteArray.mk #[66]) ++ (numB p.Base)) ++ (numB p.BaseTerm)) ++ (numbersB p.BaseMembers)) ++ (textB p.Snap))) As ?_
  exact ⟨(str_eq (by rfl)),((Ar).done (geCons Ac geNil))⟩
theorem keep_same {w:World} {X:List Nat} {a:EntryD} {c_a:List Value} (h_a:entryR.rd X w c_a a) {b:EntryD} {c_b:List Value} (h_b:entryR.rd X w c_b b):Fnc Try.prog 22 #[.agg c_a.toArray,.agg c_b.toArray] w (fun v w'=>v = .bool (sameEntB a b) ∧ Ext [] w w'):=by
 obtain ⟨v1,rfl,Ax,Ay⟩:=h_a
 obtain ⟨A8,A9,Ba⟩:=(show EntryD.InR a from Ay)
 obtain ⟨v8,rfl,Az,Am⟩:=h_b
 obtain ⟨A5,A6,A7⟩:=(show EntryD.InR b from Am)
 refine Fnc.of_WP (n:=31) Try.func22 rfl Try.ntmps22 (by simp) ?_
 intro E hE
 have h0:E 0 = .agg #[.int .u64 (a.Term),.int .u8 (a.Kind),.string (a.Data),v1]:=hE 0 (by simp)
 have h1:E 1 = .agg #[.int .u64 (b.Term),.int .u8 (b.Kind),.string (b.Data),v8]:=hE 1 (by simp)
 clear hE
 refine WP.sr ?_
 refine WL.box (x:=.tmp 0) (cs:=[.int .u64 (a.Term),.int .u8 (a.Kind),.string (a.Data),v1]) (Sure.none rfl) rfl rfl h0 rfl (fun Ac Bg Ai Bb Aj=>?_)
 have An:=(Sl.new (b:=Ac) nz1 Ax (by omega)).ext (Ext.any Ai)
 have Ao:=(Sl.new (b:=Ac) nz1 Az (by omega)).ext (Ext.any Ai)
 have Ak:Ext [Ac] _ _:=(Ext.refl _ _).trans (Ext.any Ai)
 have Aa:w.heap.size ≤ Ac:=by have:=Nat.le_refl w.heap.size; omega
 refine WL.box (x:=.tmp 1) (cs:=[.int .u64 (b.Term),.int .u8 (b.Kind),.string (b.Data),v8]) (Sure.none rfl) rfl rfl h1 rfl (fun Ad Bh Ae Bc Af=>?_)
 have Al:Ac < Ad:=by have:=Aj.lt; omega
 have Ag:=Aj.ext Ae (by simp)
 have Ap:=(Sl.new (b:=Ad) nz1 An (by omega)).ext (Ext.any Ae)
 have Aq:=(Sl.new (b:=Ad) nz1 Ao (by omega)).ext (Ext.any Ae)
 have Ah:Ext [Ad,Ac] _ _:=(Ext.cons Ak).trans (Ext.any Ae)
 have Ab:w.heap.size ≤ Ad:=by have:=Ak.size; omega
 refine WL.m rfl ?_
 refine WL.nil ?_
 refine WP.sr ?_
 refine WL.f (.int .u64 (a.Term)) fl48_0 rfl p23 (Ag.cell rfl) ?_
 refine WL.f (.int .u64 (b.Term)) fl48_0 rfl p23 (Af.cell rfl) ?_
 refine WL.z (.bool (decide (a.Term = b.Term))) (V.cmp rfl rfl rfl rfl) ?_
 refine WL.vbp (c:=a.Term = b.Term) (Sure.none rfl) rfl (V.move rfl rfl) (fun Ar=>?_) (fun Ar=>?_)
 rotate_left
 ·refine WL.skips [(10,some false)] [(4,some false)] (kc (some false) rfl kn) (by kernel_rfl) (fun Bi hK48 Bd=>?_)
  refine WP.ret ?_
  refine resOf.c1 rfl (v:=.bool (false)) (hK48 4 (some false) rfl) ?_
  exact ⟨(bool_eq (by first | assumption | grind [sameEntB])),((Ah).done (geCons Ab (geCons Aa geNil)))⟩
 refine WL.fy (.int .u8 (a.Kind)) rfl fl48_1 rfl p46 (Ag.cell rfl) ?_
 refine WL.fy (.int .u8 (b.Kind)) rfl fl48_1 rfl p46 (Af.cell rfl) ?_
 refine WL.y (.bool (decide (a.Kind = b.Kind))) rfl (V.cmp rfl rfl rfl rfl) ?_
 refine WL.k (a:=true) rfl rfl ?_
 refine WL.vbp (c:=a.Kind = b.Kind) (Sure.none rfl) rfl (V.move rfl rfl) (fun As=>?_) (fun As=>?_)
 rotate_left
 ·refine WL.skips [(17,some false)] [(4,some false)] (kc (some false) rfl kn) (by kernel_rfl) (fun Bj hK45 Be=>?_)
  refine WP.ret ?_
  refine resOf.c1 rfl (v:=.bool (false)) (hK45 4 (some false) rfl) ?_
  exact ⟨(bool_eq (by first | assumption | grind [sameEntB])),((Ah).done (geCons Ab (geCons Aa geNil)))⟩
 refine WL.fy (.string (a.Data)) rfl fl48_2 rfl p9 (Ag.cell rfl) ?_
 refine WL.fy (.string (b.Data)) rfl fl48_2 rfl p9 (Af.cell rfl) ?_
 refine WL.y (.bool (seqB a.Data b.Data)) rfl (V.scmp rfl rfl rfl rfl) ?_
 refine WL.k (a:=true) rfl rfl ?_
 refine WL.vb (c:=seqB a.Data b.Data) (Sure.none rfl) rfl (V.move rfl rfl) (fun Au=>?_) (fun Au=>?_)
 rotate_left
 ·refine WL.skips [(24,some false)] [(4,some false)] (kc (some false) rfl kn) (by kernel_rfl) (fun Bk hK42 Bf=>?_)
  refine WP.ret ?_
  refine resOf.c1 rfl (v:=.bool (false)) (hK42 4 (some false) rfl) ?_
  exact ⟨(bool_eq (by first | assumption | grind [sameEntB])),((Ah).done (geCons Ab (geCons Aa geNil)))⟩
 refine WL.fy (v1) rfl fl48_3 rfl p22 (Ag.cell rfl) ?_
 refine WL.fy (v8) rfl fl48_3 rfl p22 (Af.cell rfl) ?_
 refine WL.c (Sure.yes rfl rfl rfl) rfl (C.call2 rfl cl51 rfl rfl) (Fnc.mono (sl_equal_int Ap Aq) ?_)
 rintro _ A4 ⟨rfl,Av⟩
 have Aw:Ext [Ad,Ac] w A4:=Ah.trans (Ext.any (Y:=[Ad,Ac]) Av)
 refine WL.k (a:=true) rfl rfl ?_
 refine WL.m rfl ?_
 refine WL.nil ?_
 refine WP.ret ?_
 refine resOf.c1 rfl (v:=.bool (eqB ieq a.Members b.Members)) rfl ?_
 exact ⟨(bool_eq (by first | assumption | grind [sameEntB])),((Aw).done (geCons Ab (geCons Aa geNil)))⟩
set_option maxHeartbeats 2000000 in
theorem keep_laidOne {w:World} {X:List Nat} {e:EntryD} {c_e:List Value} (h_e:entryR.rd X w c_e e) (hd:e.Data.size ≤ 1073741824) (hl:e.Members.length ≤ 1073741824) (hnn:∀ j,j < e.Members.length → 0 ≤ e.Members.getD j 0):Fnc Try.prog 54 #[.agg c_e.toArray] w (fun v w'=>v = .string (entB e) ∧ Ext [] w w'):=by
 obtain ⟨v1,rfl,Aq,Ar⟩:=h_e
 obtain ⟨Ac,A9,Ba⟩:=(show EntryD.InR e from Ar)
 have Ac:=inK_u64 Ac
 have Bd:=numB_size e.Term
 have Be:(strOfNums [e.Kind]).size = 1:=strOfNums_size _
 have Bf:=textB_size e.Data
 have Bg:=numbersB_size e.Members
 refine Fnc.of_WP (n:=19) Try.func54 rfl Try.ntmps54 (by simp) ?_
 intro E hE
 have h0:E 0 = .agg #[.int .u64 (e.Term),.int .u8 (e.Kind),.string (e.Data),v1]:=hE 0 (by simp)
 clear hE
 refine WP.sr ?_
 refine WL.box (x:=.tmp 0) (cs:=[.int .u64 (e.Term),.int .u8 (e.Kind),.string (e.Data),v1]) (Sure.none rfl) rfl rfl h0 rfl (fun b8 w9 Ad Bb Aa=>?_)
 have Ae:=(Sl.new (b:=b8) nz1 Aq (by omega)).ext (Ext.any Ad)
 have Af:Ext [b8] _ _:=(Ext.refl _ _).trans (Ext.any Ad)
 have Ab:w.heap.size ≤ b8:=by have:=Nat.le_refl w.heap.size; omega
 refine WL.m rfl ?_
 refine WL.nil ?_
 refine WP.seq ?_
 refine WP.anyMk [fun v _=>v = (.pointer (some ⟨b8,0,none⟩):Value),fun v _=>v = (.int .u64 (e.Term):Value),fun v _=>v = (.string (numB e.Term):Value),fun v _=>v = (.pointer (some ⟨b8,1,none⟩):Value),fun v _=>v = (.int .u8 (e.Kind):Value),fun v w=>∃ g,v = .slice (some ⟨g,0,none⟩) 1 1 ∧ Box w g 5 (nrow .u8 [e.Kind] []),fun v _=>v = (.string (strOfNums [e.Kind]):Value),fun v _=>v = (.string ((numB e.Term) ++ (strOfNums [e.Kind])):Value),fun v _=>v = (.pointer (some ⟨b8,2,none⟩):Value),fun v _=>v = (.string (e.Data):Value),fun v _=>v = (.string (textB e.Data):Value),fun v _=>v = (.string (((numB e.Term) ++ (strOfNums [e.Kind])) ++ (textB e.Data)):Value),fun v _=>v = (.pointer (some ⟨b8,3,none⟩):Value),fun v _=>v = (v1:Value),fun v _=>v = (.string (numbersB e.Members):Value),fun v _=>v = (.string ((((numB e.Term) ++ (strOfNums [e.Kind])) ++ (textB e.Data)) ++ (numbersB e.Members)):Value),fun v _=>v = (.string ((((numB e.Term) ++ (strOfNums [e.Kind])) ++ (textB e.Data)) ++ (numbersB e.Members)):Value)] mo (by kernel_rfl) (by kernel_rfl) (by kernel_rfl) ⟨Stab.eq _,Stab.eq _,Stab.eq _,Stab.eq _,Stab.eq _,fun v w w' hx ⟨g,e,hb⟩=>⟨g,e,hb.ext hx (by simp)⟩,Stab.eq _,Stab.eq _,Stab.eq _,Stab.eq _,Stab.eq _,Stab.eq _,Stab.eq _,Stab.eq _,Stab.eq _,Stab.eq _,Stab.eq _,trivial⟩ ⟨?_,?_,?_,?_,?_,?_,?_,?_,?_,?_,?_,?_,?_,?_,?_,?_,?_,trivial⟩ ?_
 ·intro E' w' hw hE hp
  exact .inr ⟨(Sure.none rfl),.inl ⟨.pointer (some ⟨b8,0,none⟩),w',OpV.x (by exact V.fieldAddr (x:=.tmp 1) rfl fl48_0 ((hE 1 (by kernel_rfl)).trans rfl)),Ext.refl _ _,rfl⟩⟩
 ·intro E' w' hw hE hp
  have As:E' 3 = (.pointer (some ⟨b8,0,none⟩):Value):=hp 0 (by kernel_rfl)
  exact .inr ⟨(Sure.none rfl),.inl ⟨.int .u64 (e.Term),w',OpV.x (by exact V.load (x:=.tmp 3) rfl p23 As ((Aa.ext hw (by simp)).cell rfl)),Ext.refl _ _,rfl⟩⟩
 ·intro E' w' hw hE hp
  have Au:E' 4 = (.int .u64 (e.Term):Value):=hp 1 (by kernel_rfl)
  exact .inr ⟨(Sure.none rfl),.inr ⟨_,_,C.call1 (x:=.tmp 4) rfl cl24 Au,Fnc.mono (code_Num e.Term (by omega)) (fun v w'' h=>⟨h.2,h.1⟩)⟩⟩
 ·intro E' w' hw hE hp
  exact .inr ⟨(Sure.none rfl),.inl ⟨.pointer (some ⟨b8,1,none⟩),w',OpV.x (by exact V.fieldAddr (x:=.tmp 1) rfl fl48_1 ((hE 1 (by kernel_rfl)).trans rfl)),Ext.refl _ _,rfl⟩⟩
 ·intro E' w' hw hE hp
  have Av:E' 6 = (.pointer (some ⟨b8,1,none⟩):Value):=hp 3 (by kernel_rfl)
  exact .inr ⟨(Sure.none rfl),.inl ⟨.int .u8 (e.Kind),w',OpV.x (by exact V.load (x:=.tmp 6) rfl p46 Av ((Aa.ext hw (by simp)).cell rfl)),Ext.refl _ _,rfl⟩⟩
 ·intro E' w' hw hE hp
  have Aw:E' 7 = (.int .u8 (e.Kind):Value):=hp 4 (by kernel_rfl)
  exact .inr ⟨(Sure.none rfl),.inl ⟨_,_,W.X.buildSlice (cs:=[.int .u8 (e.Kind)]) rfl u91 e5 (by show 1 * 1 ≤ 1024; decide) (by rw [show (#[(0,Operand.tmp 7)]:Array (Nat × Operand)).map (fun x=>(x.1,ev E' x.2)) = #[(0,.int .u8 (e.Kind))] from map1 (by show (0,E' 7) = _; rw [Aw])]; kernel_rfl),Ext.alloc _ _,⟨_,rfl,Blk.new _ _⟩⟩⟩
 ·intro E' w' hw hE hp
  have Ax:∃ g,E' 8 = .slice (some ⟨g,0,none⟩) 1 1 ∧ Box w' g 5 (nrow .u8 [e.Kind] []):=hp 5 (by kernel_rfl)
  obtain ⟨g_,e_,hb_⟩:=Ax
  exact .inr ⟨(Sure.none rfl),.inl ⟨.string (strOfNums [e.Kind]),w',OpV.x (by exact V.bytesStr (x:=.tmp 8) rfl u91 u5 u9 e_ hb_ rfl),Ext.refl _ _,rfl⟩⟩
 ·intro E' w' hw hE hp
  have Ay:E' 5 = (.string (numB e.Term):Value):=hp 2 (by kernel_rfl)
  have Az:E' 9 = (.string (strOfNums [e.Kind]):Value):=hp 6 (by kernel_rfl)
  exact .inr ⟨(Sure.none rfl),.inl ⟨.string ((numB e.Term) ++ (strOfNums [e.Kind])),w',OpV.x (by exact V.sadd (x:=.tmp 5) (y:=.tmp 9) rfl Ay Az (by first | omega | (simp only [ByteArray.size_append]; omega))),Ext.refl _ _,rfl⟩⟩
 ·intro E' w' hw hE hp
  exact .inr ⟨(Sure.none rfl),.inl ⟨.pointer (some ⟨b8,2,none⟩),w',OpV.x (by exact V.fieldAddr (x:=.tmp 1) rfl fl48_2 ((hE 1 (by kernel_rfl)).trans rfl)),Ext.refl _ _,rfl⟩⟩
 ·intro E' w' hw hE hp
  have A4:E' 11 = (.pointer (some ⟨b8,2,none⟩):Value):=hp 8 (by kernel_rfl)
  exact .inr ⟨(Sure.none rfl),.inl ⟨.string (e.Data),w',OpV.x (by exact V.load (x:=.tmp 11) rfl p9 A4 ((Aa.ext hw (by simp)).cell rfl)),Ext.refl _ _,rfl⟩⟩
 ·intro E' w' hw hE hp
  have A5:E' 12 = (.string (e.Data):Value):=hp 9 (by kernel_rfl)
  exact .inr ⟨(Sure.none rfl),.inr ⟨_,_,C.call1 (x:=.tmp 12) rfl cl53 A5,Fnc.mono (code_Text e.Data (by omega)) (fun v w'' h=>⟨h.2,h.1⟩)⟩⟩
 ·intro E' w' hw hE hp
  have A6:E' 10 = (.string ((numB e.Term) ++ (strOfNums [e.Kind])):Value):=hp 7 (by kernel_rfl)
  have Ag:E' 13 = (.string (textB e.Data):Value):=hp 10 (by kernel_rfl)
  exact .inr ⟨(Sure.none rfl),.inl ⟨.string (((numB e.Term) ++ (strOfNums [e.Kind])) ++ (textB e.Data)),w',OpV.x (by exact V.sadd (x:=.tmp 10) (y:=.tmp 13) rfl A6 Ag (by first | omega | (simp only [ByteArray.size_append]; omega))),Ext.refl _ _,rfl⟩⟩
 ·intro E' w' hw hE hp
  exact .inr ⟨(Sure.none rfl),.inl ⟨.pointer (some ⟨b8,3,none⟩),w',OpV.x (by exact V.fieldAddr (x:=.tmp 1) rfl fl48_3 ((hE 1 (by kernel_rfl)).trans rfl)),Ext.refl _ _,rfl⟩⟩
 ·intro E' w' hw hE hp
  have Ah:E' 15 = (.pointer (some ⟨b8,3,none⟩):Value):=hp 12 (by kernel_rfl)
  exact .inr ⟨(Sure.none rfl),.inl ⟨v1,w',OpV.x (by exact V.load (x:=.tmp 15) rfl p22 Ah ((Aa.ext hw (by simp)).cell rfl)),Ext.refl _ _,rfl⟩⟩
 ·intro E' w' hw hE hp
  have Ai:E' 16 = (v1:Value):=hp 13 (by kernel_rfl)
  exact .inr ⟨(Sure.none rfl),.inr ⟨_,_,C.call1 (x:=.tmp 16) rfl cl52 Ai,Fnc.mono (keep_numbers (Ae.ext (Ext.any hw)) (by omega) (by first | assumption | exact hnn)) (fun v w'' h=>⟨h.2,h.1⟩)⟩⟩
 ·intro E' w' hw hE hp
  have Aj:E' 14 = (.string (((numB e.Term) ++ (strOfNums [e.Kind])) ++ (textB e.Data)):Value):=hp 11 (by kernel_rfl)
  have Ak:E' 17 = (.string (numbersB e.Members):Value):=hp 14 (by kernel_rfl)
  exact .inr ⟨(Sure.none rfl),.inl ⟨.string ((((numB e.Term) ++ (strOfNums [e.Kind])) ++ (textB e.Data)) ++ (numbersB e.Members)),w',OpV.x (by exact V.sadd (x:=.tmp 14) (y:=.tmp 17) rfl Aj Ak (by first | omega | (simp only [ByteArray.size_append]; omega))),Ext.refl _ _,rfl⟩⟩
 ·intro E' w' hw hE hp
  have Al:E' 18 = (.string ((((numB e.Term) ++ (strOfNums [e.Kind])) ++ (textB e.Data)) ++ (numbersB e.Members)):Value):=hp 15 (by kernel_rfl)
  exact .inr ⟨(Sure.none rfl),.inl ⟨.string ((((numB e.Term) ++ (strOfNums [e.Kind])) ++ (textB e.Data)) ++ (numbersB e.Members)),w',OpV.x (by exact V.assign (x:=.tmp 18) rfl Al),Ext.refl _ _,rfl⟩⟩
 ·intro A7 A8 Am Bc An
  have Ao:Ext [b8] w A8:=Af.trans (Ext.any (Y:=[b8]) Am)
  have Ap:A7 2 = (.string ((((numB e.Term) ++ (strOfNums [e.Kind])) ++ (textB e.Data)) ++ (numbersB e.Members)):Value):=An 16 (of_decide_eq_true (by kernel_rfl))
  refine WP.ret ?_
  refine resOf.c1 rfl (v:=.string ((((numB e.Term) ++ (strOfNums [e.Kind])) ++ (textB e.Data)) ++ (numbersB e.Members))) Ap ?_
  exact ⟨(str_eq (by rfl)),((Ao).done (geCons Ab geNil))⟩
end Go.Proofs.Ytiaicihpocoeiaa.X1
namespace Go.Proofs.Ytiaicihpocoeiaa.X1
open T W Go.RowKit
set_option maxRecDepth 100000
set_option maxHeartbeats 400000
theorem z48:W.Zero Try.prog 48 (.agg #[.int .u64 (0),.int .u8 (0),.string (ByteArray.mk #[]),.slice none 0 0]):=by unfold W.Zero; kernel_rfl
theorem s29:Sized Try.prog 29 18:=by unfold Sized; kernel_rfl
theorem a29:Aggr Try.prog 29 18:=⟨⟨_,by kernel_rfl,.inl ⟨structFields Try.prog 29,rfl⟩⟩,s29⟩
theorem cl20:Callable Try.prog 20:=⟨Try.f20,Try.func20,by kernel_rfl,rfl⟩
theorem bu48_d7517139 :Try.prog.built 48 [] = some #[.int .u64 (0),.int .u8 (0),.string (ByteArray.mk #[]),.slice none 0 0]:=by kernel_rfl
theorem s48:Sized Try.prog 48 4:=by unfold Sized; kernel_rfl
theorem a48:Aggr Try.prog 48 4:=⟨⟨_,by kernel_rfl,.inl ⟨structFields Try.prog 48,rfl⟩⟩,s48⟩
theorem fl29_10:FieldOf Try.prog 29 10 25 10 1:=fld (by kernel_rfl)
theorem p25:Plain Try.prog 25:=⟨.slice 48,by kernel_rfl,by intros; simp,by intros; simp⟩
theorem u25:Try.prog.underlying 25 = some (.slice 48):=by kernel_rfl
theorem cl30:Callable Try.prog 30:=⟨Try.f30,Try.func30,by kernel_rfl,rfl⟩
theorem u33:Try.prog.underlying 33 = some (.slice 9):=by kernel_rfl
theorem s9:Sized Try.prog 9 1:=by unfold Sized; kernel_rfl
theorem cl21:Callable Try.prog 21:=⟨Try.f21,Try.func21,by kernel_rfl,rfl⟩
theorem cl54:Callable Try.prog 54:=⟨Try.f54,Try.func54,by kernel_rfl,rfl⟩
theorem e9:Elem Try.prog 9 (.string (ByteArray.mk #[])) 1 16:=by unfold Elem; kernel_rfl
def entL (p:PeerD) (i:Int):List EntryD:=if entIs p i = true then [entAt p i] else []
theorem entL_no {p:PeerD} {i:Int} (h:entIs p i = false):[] = entL p i:=by rw [entL,if_neg (by rw [h]; decide)]
theorem entL_yes {p:PeerD} {i:Int} (h:entIs p i = true):(p.Log.drop (i - p.Base - 1).toNat).take ((i - p.Base).toNat - (i - p.Base - 1).toNat) = entL p i:=by
 have hb:=entIs_in h
 have hlt:(i - p.Base - 1).toNat < p.Log.length:=by omega
 rw [entL,if_pos h,entAt,if_pos h,show (i - p.Base).toNat - (i - p.Base - 1).toNat = 1 from by omega,List.drop_eq_getElem_cons hlt,List.getD_eq_getElem?_getD,List.getElem?_eq_getElem hlt]
 rfl
theorem entIs_last {p:PeerD} {i:Int} (h1:¬ i ≤ p.Base) (h2:¬ i > lastI p):entIs p i = true:=by
 simp only [entIs,termIs,Bool.and_eq_true,decide_eq_true_eq,Bool.not_eq_true',decide_eq_false_iff_not]; omega
theorem entIs_le {p:PeerD} {i:Int} (h:i ≤ p.Base):entIs p i = false:=by
 cases e:entIs p i with
 | false=>rfl
 | true=>have:=entIs_in e; omega
theorem entIs_gt {p:PeerD} {i:Int} (h:i > lastI p):entIs p i = false:=by
 have hl:lastI p = p.Base + (p.Log.length:Int):=rfl
 cases e:entIs p i with
 | false=>rfl
 | true=>have:=entIs_in e; omega
theorem ent_facts {p:PeerD} {i:Int} (hok:KOk p) (hsz:KSz p) (h:entIs p i = true):(entAt p i).Data.size ≤ 1048576 ∧ (entAt p i).Members.length ≤ 64 ∧ ∀ j,j < (entAt p i).Members.length → 0 ≤ (entAt p i).Members.getD j 0:=by
 have hb:=entIs_in h
 have hlt:(i - p.Base - 1).toNat < p.Log.length:=by omega
 rw [← entAt_yes h]
 exact ⟨hsz.data _ hlt,(hok.em _ hlt).1,fun j hj=>((hok.em _ hlt).2 j hj).1⟩
def recB (p:PeerD) (i:Int):ByteArray:=ByteArray.mk #[69] ++ numB i ++ entB (entAt p i)
def laidK (p:PeerD) (fr:Int):Nat → List ByteArray
  | 0=>[]
  | k + 1=>laidK p fr k ++ [recB p (fr + (k:Int))]
theorem laidK_len (p:PeerD) (fr:Int):∀ k,(laidK p fr k).length = k
 | 0=>rfl
 | k + 1=>by rw [laidK,List.length_append,laidK_len p fr k]; rfl
def laidN (p:PeerD) (fr:Int):Nat:=if p.Base < fr then (p.Base + (p.Log.length:Int) + 1 - fr).toNat else 0
def laidL (p:PeerD) (fr:Int):List ByteArray:=laidK p fr (laidN p fr)
theorem laidN_at {p:PeerD} {fr:Int} {k:Nat} (h1:∀ j:Nat,j < k → entIs p (fr + (j:Int)) = true) (h2:entIs p (fr + (k:Int)) = false):laidN p fr = k:=by
 have hl:lastI p = p.Base + (p.Log.length:Int):=rfl
 have hno:¬ (p.Base < fr + (k:Int) ∧ fr + (k:Int) ≤ p.Base + (p.Log.length:Int)):=by
  intro h
  have:entIs p (fr + (k:Int)) = true:=entIs_last (by omega) (by omega)
  rw [h2] at this; cases this
 rcases Nat.eq_zero_or_pos k with hk | hk
 ·subst hk
  rw [laidN]; split <;> omega
 ·have a:=entIs_in (h1 0 hk)
  have b:=entIs_in (h1 (k - 1) (by omega))
  rw [laidN,if_pos (by omega)]; omega
theorem ent_step {p:PeerD} {fr:Int} {k:Nat} (h:∀ j:Nat,j < k → entIs p (fr + (j:Int)) = true) (hk:entIs p (fr + (k:Int)) = true):∀ j:Nat,j < k + 1 → entIs p (fr + (j:Int)) = true:=fun j hj=>by
 rcases Nat.lt_or_ge j k with h1 | h1
 ·exact h j h1
 ·obtain rfl:j = k:=by omega
  exact hk
theorem laid_le {p:PeerD} {fr:Int} {k:Nat} (h:∀ j:Nat,j < k → entIs p (fr + (j:Int)) = true) (hk:entIs p (fr + (k:Int)) = true):k + 1 ≤ p.Log.length:=by
 have b:=entIs_in hk
 rcases Nat.eq_zero_or_pos k with h0 | h0
 ·subst h0; omega
 ·have a:=entIs_in (h 0 h0)
  omega
set_option maxHeartbeats 2000000 in
theorem keep_entry {w:World} {X:List Nat} {p:PeerD} {c_p:List Value} (h_p:peerR.rd X w c_p p) (i:Int) (hBase:p.Base ≤ 4611686018427387904) (hi:0 ≤ i ∧ i < 18446744073709551616) (hX:∀ x ∈ X,x < w.heap.size):Fnc Try.prog 21 #[.agg c_p.toArray,.int .u64 (i)] w (fun v w'=>∃ (u0:List Value),v = .tuple #[.agg u0.toArray,.bool (entIs p i)] ∧ entryR.rd X w' u0 (entAt p i) ∧ Ext [] w w'):=by
 obtain ⟨v1,v3,v5,v7,v9,Al,rfl,B1,B2,Bb,B3,Be,Bf,As⟩:=h_p
 obtain ⟨B7,B8,B9,Ca,Cb,Ar,Cc,Cd,Ce,Cf,Cg,Ch⟩:=(show PeerD.InR p from As)
 have Ar:=inK_u64 Ar
 have Ci:=Bb.le'
 refine Fnc.of_WP (n:=32) Try.func21 rfl Try.ntmps21 (by simp) ?_
 intro E hE
 have h0:E 0 = .agg (peerA p v1 v3 v5 v7 v9 Al):=hE 0 (by simp)
 have h1:E 1 = .int .u64 (i):=hE 1 (by simp)
 clear hE
 refine WP.sr ?_
 refine WL.box (x:=.tmp 0) (cs:=(peerC p v1 v3 v5 v7 v9 Al)) (Sure.none rfl) rfl rfl h0 rfl (fun Ab Cp Af Cm Au=>?_)
 have Bg:=(Sl.new (b:=Ab) nz1 B1 (by omega)).ext (Ext.any Af)
 have Bh:=(Sl.new (b:=Ab) nz1 B2 (by omega)).ext (Ext.any Af)
 have Bi:=(Sl.new (b:=Ab) nz4 Bb (by omega)).ext (Ext.any Af)
 have Bj:=(Sl.new (b:=Ab) nz1 B3 (by omega)).ext (Ext.any Af)
 have Bk:=(Sl.new (b:=Ab) nz3 Be (by omega)).ext (Ext.any Af)
 have Bl:=(Sl.new (b:=Ab) nz3 Bf (by omega)).ext (Ext.any Af)
 have Av:Ext [Ab] _ _:=(Ext.refl _ _).trans (Ext.any Af)
 have Ad:w.heap.size ≤ Ab:=by have:=Nat.le_refl w.heap.size; omega
 refine WL.alloc (cs:=[.int .u64 (0),.int .u8 (0),.string (ByteArray.mk #[]),.slice none 0 0]) (Sure.none rfl) rfl rfl z48 rfl (fun Aa B4 Ac Cn Bm=>?_)
 have A7:Ab < Aa:=by have:=Au.lt; omega
 have Aw:=Au.ext Ac (by simp)
 have Bn:=(Sl.new (b:=Aa) nz1 Bg (by omega)).ext (Ext.any Ac)
 have Bo:=(Sl.new (b:=Aa) nz1 Bh (by omega)).ext (Ext.any Ac)
 have Ax:=(Sl.new (b:=Aa) nz4 Bi (by omega)).ext (Ext.any Ac)
 have Bp:=(Sl.new (b:=Aa) nz1 Bj (by omega)).ext (Ext.any Ac)
 have Bq:=(Sl.new (b:=Aa) nz3 Bk (by omega)).ext (Ext.any Ac)
 have Br:=(Sl.new (b:=Aa) nz3 Bl (by omega)).ext (Ext.any Ac)
 have Bs:Ext [Aa,Ab] _ _:=(Ext.cons Av).trans (Ext.any Ac)
 have Ae:w.heap.size ≤ Aa:=by have:=Av.size; omega
 refine WL.m rfl ?_
 refine WL.nil ?_
 refine WP.seq ?_
 refine WP.sr ?_
 refine WL.z (.agg (peerA p v1 v3 v5 v7 v9 Al)) (V.loadAgg (cs:=(peerC p v1 v3 v5 v7 v9 Al)) rfl a29 rfl (At.box Aw) rfl) ?_
 refine WL.m rfl ?_
 refine WL.c (Sure.none rfl) rfl (C.call2 (y:=.tmp 10) rfl cl20 rfl h1) (Fnc.mono (vote_Term (p:=p) ⟨v1,v3,v5,v7,v9,Al,rfl,Bn,Bo,Ax,Bp,Bq,Br,As⟩ i (by omega) (by omega)) ?_)
 rintro _ Ay ⟨rfl,Ah⟩
 have Am:Ext [Aa,Ab] w Ay:=Bs.trans (Ext.any (Y:=[Aa,Ab]) Ah)
 have Bt:Ext [Aa,Ab] B4 Ay:=(Ext.any (Y:=[Aa,Ab]) Ah)
 have An:=Aw.ext Ah (by simp)
 have Ao:=Bm.ext Ah (by simp)
 refine WL.m rfl ?_
 refine WL.z (.int .u64 (termOf p i)) (V.extract rfl rfl rfl) ?_
 refine WL.z (.bool (termIs p i)) (V.extract rfl rfl rfl) ?_
 refine WL.m rfl ?_
 refine WL.m rfl ?_
 refine WL.nil ?_
 refine WP.sr ?_
 refine WL.m rfl ?_
 refine WL.z (.bool (!(termIs p i))) (V.not rfl rfl) ?_
 refine WL.vbn (c:=termIs p i) (Sure.none rfl) rfl (V.move rfl rfl) (fun Ai=>?_) (fun Ai=>?_)
 ·refine WL.skips [(16,some true)] [(21,some true)] (kc (some true) rfl kn) (by kernel_rfl) (fun Cq hK65 Az=>?_)
  refine WP.cond_true (hK65 21 (some true) rfl) ?_
  refine WP.sr ?_
  have hno:entIs p i = false:=by first | exact entIs_no1 Ai | exact entIs_no2 Ai
  refine WL.z (.agg #[.int .u64 (0),.int .u8 (0),.string (ByteArray.mk #[]),.slice none 0 0]) (V.build1 (L:=[]) rfl rfl bu48_d7517139) ?_
  refine WL.storeAgg (x:=.tmp 4) (vs:=[.int .u64 (0),.int .u8 (0),.string (ByteArray.mk #[]),.slice none 0 0]) (Sure.none rfl) rfl rfl s48 (Az 4 rfl) rfl rfl (by intro u hu; simp only [List.mem_cons,List.not_mem_nil,or_false] at hu; rcases hu with rfl | rfl | rfl | rfl <;> first | rfl | exact Sl.one (by assumption)) Ao (by show (0:Nat) + 4 ≤ 4; decide) (fun Bc Bu Ap=>?_)
  replace Ap:Box Bc Aa 48 [.int .u64 (0),.int .u8 (0),.string (ByteArray.mk #[]),.slice none 0 0]:=Ap
  have Bv:Ext [Aa,Ab] w Bc:=Am.trans (Bu.mono (by simp))
  refine WL.m rfl ?_
  refine WL.nil ?_
  refine WP.ret ?_
  refine resOf.c2 rfl (v:=.agg #[.int .u64 (0),.int .u8 (0),.string (ByteArray.mk #[]),.slice none 0 0]) ⟨_,_,(Az 4 rfl),run_loadVar_agg a48 (At.box Ap) rfl⟩ (v':=.bool (false)) rfl ?_
  exact ⟨[.int .u64 (0),.int .u8 (0),.string (ByteArray.mk #[]),.slice none 0 0],(tup2 rfl (bool_eq (by first | exact hno.symm | exact hyes.symm))),(Rep.base (O:=[Aa,Ab]) (castRd (R:=entryR) (show (({ Term:=0,Kind:=0,Data:=(ByteArray.mk #[]),Members:=[] }:EntryD):EntryD) = entAt p i from (by first | exact entAt_no hno | exact entAt_yes hyes)) ⟨.slice none 0 0,rfl,Sl.nil,⟨(inK_u64' (n:=0) (by omega)),(inK_u8' (n:=0) (by omega)),(Nat.zero_le _)⟩⟩)),((Bv).done (geCons Ae (geCons Ad geNil)))⟩
 refine WL.my rfl rfl ?_
 refine WL.fy (.int .u64 (p.Base)) rfl fl29_6 rfl p23 (An.cell rfl) ?_
 refine WL.y (.bool (decide (i = p.Base))) rfl (V.cmp (x:=.tmp 17) rfl h1 rfl rfl) ?_
 refine WL.k (a:=false) rfl rfl ?_
 refine WL.nil ?_
 refine WP.condp (t:=i = p.Base) rfl (fun Aj=>?_) (fun Aj=>?_)
 ·refine WP.sr ?_
  have hno:entIs p i = false:=by first | exact entIs_no1 Aj | exact entIs_no2 Aj
  refine WL.z (.agg #[.int .u64 (0),.int .u8 (0),.string (ByteArray.mk #[]),.slice none 0 0]) (V.build1 (L:=[]) rfl rfl bu48_d7517139) ?_
  refine WL.storeAgg (vs:=[.int .u64 (0),.int .u8 (0),.string (ByteArray.mk #[]),.slice none 0 0]) (Sure.none rfl) rfl rfl s48 rfl rfl rfl (by intro u hu; simp only [List.mem_cons,List.not_mem_nil,or_false] at hu; rcases hu with rfl | rfl | rfl | rfl <;> first | rfl | exact Sl.one (by assumption)) Ao (by show (0:Nat) + 4 ≤ 4; decide) (fun Bd Bw Aq=>?_)
  replace Aq:Box Bd Aa 48 [.int .u64 (0),.int .u8 (0),.string (ByteArray.mk #[]),.slice none 0 0]:=Aq
  have Bx:Ext [Aa,Ab] w Bd:=Am.trans (Bw.mono (by simp))
  refine WL.m rfl ?_
  refine WL.nil ?_
  refine WP.ret ?_
  refine resOf.c2 rfl (v:=.agg #[.int .u64 (0),.int .u8 (0),.string (ByteArray.mk #[]),.slice none 0 0]) ⟨_,_,rfl,run_loadVar_agg a48 (At.box Aq) rfl⟩ (v':=.bool (false)) rfl ?_
  exact ⟨[.int .u64 (0),.int .u8 (0),.string (ByteArray.mk #[]),.slice none 0 0],(tup2 rfl (bool_eq (by first | exact hno.symm | exact hyes.symm))),(Rep.base (O:=[Aa,Ab]) (castRd (R:=entryR) (show (({ Term:=0,Kind:=0,Data:=(ByteArray.mk #[]),Members:=[] }:EntryD):EntryD) = entAt p i from (by first | exact entAt_no hno | exact entAt_yes hyes)) ⟨.slice none 0 0,rfl,Sl.nil,⟨(inK_u64' (n:=0) (by omega)),(inK_u8' (n:=0) (by omega)),(Nat.zero_le _)⟩⟩)),((Bx).done (geCons Ae (geCons Ad geNil)))⟩
 refine WP.skip ?_
 refine WP.sr ?_
 have hyes:entIs p i = true:=entIs_yes Ai Aj
 have hib:=entIs_in hyes
 refine WL.f (v5) fl29_10 rfl p25 (An.cell rfl) ?_
 refine WL.m rfl ?_
 refine WL.f (.int .u64 (p.Base)) fl29_6 rfl p23 (An.cell rfl) ?_
 refine WL.z (.int .u64 (i - p.Base)) (V.arith (x:=.tmp 25) rfl h1 rfl rfl (wrap_u64 (by omega) (by omega))) ?_
 refine WL.z (.int .u64 ((i - p.Base) - 1)) (V.arith rfl rfl rfl rfl (wrap_u64 (by omega) (by omega))) ?_
 have hlt90:(i - p.Base - 1).toNat < (p.Log).length:=by first | omega | (simp at *; omega)
 obtain ⟨B5,B6,c84,Co,By,hnb87,Bz,A8⟩:=(Ax.ext (Ext.pre Bt)).get (i:=(i - p.Base - 1).toNat) (x:=(p.Log.getD ((i - p.Base - 1).toNat) default)) (getD_some hlt90 _)
 obtain ⟨Ag,rfl,B0,A4⟩:=Bz
 obtain ⟨Cj,Ck,Cl⟩:=(show EntryD.InR (p.Log.getD ((i - p.Base - 1).toNat) default) from A4)
 refine WL.z (.pointer (some ⟨B5,B6 + ((i - p.Base - 1).toNat) * 4,none⟩)) (V.indexAddr (m:=(i - p.Base - 1).toNat) (j:=(i - p.Base) - 1) rfl u25 s48 (Eq.trans (b:=v5) rfl By) rfl (by omega) hlt90) ?_
 refine WL.z (.agg #[.int .u64 ((p.Log.getD ((i - p.Base - 1).toNat) default).Term),.int .u8 ((p.Log.getD ((i - p.Base - 1).toNat) default).Kind),.string ((p.Log.getD ((i - p.Base - 1).toNat) default).Data),Ag]) (V.loadAgg (cs:=[.int .u64 ((p.Log.getD ((i - p.Base - 1).toNat) default).Term),.int .u8 ((p.Log.getD ((i - p.Base - 1).toNat) default).Kind),.string ((p.Log.getD ((i - p.Base - 1).toNat) default).Data),Ag]) rfl a48 rfl A8 rfl) ?_
 refine WL.storeAgg (vs:=[.int .u64 ((p.Log.getD ((i - p.Base - 1).toNat) default).Term),.int .u8 ((p.Log.getD ((i - p.Base - 1).toNat) default).Kind),.string ((p.Log.getD ((i - p.Base - 1).toNat) default).Data),Ag]) (Sure.none rfl) rfl rfl s48 rfl rfl rfl (by intro u hu; simp only [List.mem_cons,List.not_mem_nil,or_false] at hu; rcases hu with rfl | rfl | rfl | rfl <;> first | rfl | exact Sl.one (by assumption)) Ao (by show (0:Nat) + 4 ≤ 4; decide) (fun A5 A6 Ak=>?_)
 replace Ak:Box A5 Aa 48 [.int .u64 ((p.Log.getD ((i - p.Base - 1).toNat) default).Term),.int .u8 ((p.Log.getD ((i - p.Base - 1).toNat) default).Kind),.string ((p.Log.getD ((i - p.Base - 1).toNat) default).Data),Ag]:=Ak
 have A9:Ext [Aa,Ab] w A5:=Am.trans (A6.mono (by simp))
 have Ba:Ext [Aa,Ab] Ay A5:=(A6.mono (by simp))
 refine WL.m rfl ?_
 refine WL.nil ?_
 refine WP.ret ?_
 refine resOf.c2 rfl (v:=.agg #[.int .u64 ((p.Log.getD ((i - p.Base - 1).toNat) default).Term),.int .u8 ((p.Log.getD ((i - p.Base - 1).toNat) default).Kind),.string ((p.Log.getD ((i - p.Base - 1).toNat) default).Data),Ag]) ⟨_,_,rfl,run_loadVar_agg a48 (At.box Ak) rfl⟩ (v':=.bool (true)) rfl ?_
 exact ⟨[.int .u64 ((p.Log.getD ((i - p.Base - 1).toNat) default).Term),.int .u8 ((p.Log.getD ((i - p.Base - 1).toNat) default).Kind),.string ((p.Log.getD ((i - p.Base - 1).toNat) default).Data),Ag],(tup2 rfl (bool_eq (by first | exact hno.symm | exact hyes.symm))),(Rep.base (O:=[Aa,Ab]) (castRd (R:=entryR) (show ((p.Log.getD ((i - p.Base - 1).toNat) default):EntryD) = entAt p i from (by first | exact entAt_no hno | exact entAt_yes hyes)) ⟨Ag,rfl,(B0.ext (Ext.pre Ba)),A4⟩)),((A9).done (geCons Ae (geCons Ad geNil)))⟩
set_option maxHeartbeats 2000000 in
theorem ref12_entry {w:World} {X:List Nat} {p:PeerD} {c_p:List Value} (h_p:peerR.rd X w c_p p) (i:Int) (hBase:p.Base ≤ 4611686018427387904) (hi:0 ≤ i ∧ i < 18446744073709551616) (hX:∀ x ∈ X,x < w.heap.size):Fnc Try.prog 32 #[.agg c_p.toArray,.int .u64 (i)] w (fun v w'=>∃ (u0:Value),v = .tuple #[u0,.bool (entIs p i)] ∧ Sl entryR X w' u0 (entL p i) ∧ Ext [] w w'):=by
 obtain ⟨v1,v3,v5,v7,v9,Ag,rfl,A4,A5,A6,A7,Ap,Aq,Ak⟩:=h_p
 obtain ⟨A9,Ba,Bb,Bc,Bd,Aj,Be,Bf,Bg,Bh,Bi,Bj⟩:=(show PeerD.InR p from Ak)
 have Aj:=inK_u64 Aj
 refine Fnc.of_WP (n:=34) Try.func32 rfl Try.ntmps32 (by simp) ?_
 intro E hE
 have h0:E 0 = .agg (peerA p v1 v3 v5 v7 v9 Ag):=hE 0 (by simp)
 have h1:E 1 = .int .u64 (i):=hE 1 (by simp)
 clear hE
 refine WP.sr ?_
 refine WL.box (x:=.tmp 0) (cs:=(peerC p v1 v3 v5 v7 v9 Ag)) (Sure.none rfl) rfl rfl h0 rfl (fun Aa A8 Ac Bk Al=>?_)
 have Ar:=(Sl.new (b:=Aa) nz1 A4 (by omega)).ext (Ext.any Ac)
 have As:=(Sl.new (b:=Aa) nz1 A5 (by omega)).ext (Ext.any Ac)
 have Am:=(Sl.new (b:=Aa) nz4 A6 (by omega)).ext (Ext.any Ac)
 have Au:=(Sl.new (b:=Aa) nz1 A7 (by omega)).ext (Ext.any Ac)
 have Av:=(Sl.new (b:=Aa) nz3 Ap (by omega)).ext (Ext.any Ac)
 have Aw:=(Sl.new (b:=Aa) nz3 Aq (by omega)).ext (Ext.any Ac)
 have Ax:Ext [Aa] _ _:=(Ext.refl _ _).trans (Ext.any Ac)
 have Ab:w.heap.size ≤ Aa:=by have:=Nat.le_refl w.heap.size; omega
 refine WL.m rfl ?_
 refine WL.m rfl ?_
 refine WL.nil ?_
 refine WP.sr ?_
 refine WL.z (.agg (peerA p v1 v3 v5 v7 v9 Ag)) (V.loadAgg (cs:=(peerC p v1 v3 v5 v7 v9 Ag)) rfl a29 rfl (At.box Al) rfl) ?_
 refine WL.c (Sure.none rfl) rfl (C.call1 rfl cl30 rfl) (Fnc.mono (ref_Last (p:=p) ⟨v1,v3,v5,v7,v9,Ag,rfl,Ar,As,Am,Au,Av,Aw,Ak⟩ (by omega)) ?_)
 rintro _ An ⟨rfl,Ah⟩
 have Ai:Ext [Aa] w An:=Ax.trans (Ext.any (Y:=[Aa]) Ah)
 have Ay:Ext [Aa] A8 An:=(Ext.any (Y:=[Aa]) Ah)
 have Ad:=Al.ext Ah (by simp)
 refine WL.m rfl ?_
 refine WL.z (.int .u64 (lastI p)) (V.extract rfl rfl rfl) ?_
 refine WL.z (.int .u64 (lastT p)) (V.extract rfl rfl rfl) ?_
 refine WL.m rfl ?_
 refine WL.m rfl ?_
 refine WL.nil ?_
 refine WP.seq ?_
 refine WP.sr ?_
 refine WL.m rfl ?_
 refine WL.f (.int .u64 (p.Base)) fl29_6 rfl p23 (Ad.cell rfl) ?_
 refine WL.z (.bool (decide (i ≤ p.Base))) (V.cmp (x:=.tmp 13) rfl h1 rfl rfl) ?_
 refine WL.vbp (c:=i ≤ p.Base) (Sure.none rfl) rfl (V.move rfl rfl) (fun Ae=>?_) (fun Ae=>?_)
 ·refine WL.skips [(17,some true)] [(21,some true)] (kc (some true) rfl kn) (by kernel_rfl) (fun Bm hK51 Bl=>?_)
  refine WP.cond_true (hK51 21 (some true) rfl) ?_
  refine WP.sr ?_
  have hno:entIs p i = false:=by first | exact entIs_le Ae | exact entIs_gt Ae
  refine WL.m rfl ?_
  refine WL.m rfl ?_
  refine WL.nil ?_
  refine WP.ret ?_
  refine resOf.c2 rfl (v:=.slice none 0 0) rfl (v':=.bool (false)) rfl ?_
  exact ⟨.slice none 0 0,(tup2 rfl (bool_eq (by first | exact hno.symm | exact hyes.symm))),(castSl (by first | exact entL_no hno | exact entL_yes hyes) (Sl.base (O:=[Aa]) Sl.nil)),((Ai).done (geCons Ab geNil))⟩
 refine WL.my rfl rfl ?_
 refine WL.my rfl rfl ?_
 refine WL.y (.bool (decide (i > (lastI p)))) rfl (V.cmp (x:=.tmp 18) rfl h1 rfl rfl) ?_
 refine WL.k (a:=false) rfl rfl ?_
 refine WL.nil ?_
 refine WP.condp (t:=i > (lastI p)) rfl (fun Af=>?_) (fun Af=>?_)
 ·refine WP.sr ?_
  have hno:entIs p i = false:=by first | exact entIs_le Af | exact entIs_gt Af
  refine WL.m rfl ?_
  refine WL.m rfl ?_
  refine WL.nil ?_
  refine WP.ret ?_
  refine resOf.c2 rfl (v:=.slice none 0 0) rfl (v':=.bool (false)) rfl ?_
  exact ⟨.slice none 0 0,(tup2 rfl (bool_eq (by first | exact hno.symm | exact hyes.symm))),(castSl (by first | exact entL_no hno | exact entL_yes hyes) (Sl.base (O:=[Aa]) Sl.nil)),((Ai).done (geCons Ab geNil))⟩
 refine WP.skip ?_
 refine WP.sr ?_
 have hyes:entIs p i = true:=entIs_last Ae Af
 have hib:=entIs_in hyes
 refine WL.f (v5) fl29_10 rfl p25 (Ad.cell rfl) ?_
 refine WL.m rfl ?_
 refine WL.f (.int .u64 (p.Base)) fl29_6 rfl p23 (Ad.cell rfl) ?_
 refine WL.z (.int .u64 (i - p.Base)) (V.arith (x:=.tmp 24) rfl h1 rfl rfl (wrap_u64 (by omega) (by omega))) ?_
 refine WL.z (.int .u64 ((i - p.Base) - 1)) (V.arith rfl rfl rfl rfl (wrap_u64 (by omega) (by omega))) ?_
 refine WL.m rfl ?_
 refine WL.f (.int .u64 (p.Base)) fl29_6 rfl p23 (Ad.cell rfl) ?_
 refine WL.z (.int .u64 (i - p.Base)) (V.arith (x:=.tmp 29) rfl h1 rfl rfl (wrap_u64 (by omega) (by omega))) ?_
 refine WL.vex (Sure.none rfl) rfl (V.sub (k:=.u64) (k':=.u64) (lo:=(i - p.Base - 1).toNat) (hi:=(i - p.Base).toNat) rfl u25 s48 rfl (Am.ext (Ext.pre Ay)) (Eq.trans rfl (int_eq (by omega))) (Eq.trans rfl (int_eq (by omega))) (by omega) (by omega)) (fun Ao Az=>?_)
 refine WL.m rfl ?_
 refine WL.m rfl ?_
 refine WL.nil ?_
 refine WP.ret ?_
 refine resOf.c2 rfl (v:=Ao) rfl (v':=.bool (true)) rfl ?_
 exact ⟨Ao,(tup2 rfl (bool_eq (by first | exact hno.symm | exact hyes.symm))),(castSl (by first | exact entL_no hno | exact entL_yes hyes) (Sl.base (O:=[Aa]) Az)),((Ai).done (geCons Ab geNil))⟩
theorem sl_ClipS {w:World} {X:List Nat} {v_xs:Value} {xs:List ByteArray} (h_xs:Sl strR X w v_xs xs) (hX:∀ x ∈ X,x < w.heap.size):Fnc Try.prog 26 #[v_xs] w (fun v w'=>∃ (u0:Value),v = u0 ∧ Sl strR X w' u0 (xs) ∧ Ext [] w w'):=by
 refine Fnc.of_WP (n:=9) Try.func26 rfl Try.ntmps26 (by simp) ?_
 intro E hE
 have h0:E 0 = v_xs:=hE 0 (by simp)
 clear hE
 refine WP.sr ?_
 refine WL.m rfl ?_
 refine WL.nil ?_
 refine WP.sr ?_
 refine WL.m rfl ?_
 refine WL.m rfl ?_
 obtain ⟨a1,c2,Aa⟩:=h_xs.shape
 refine WL.z (.int .i64 (((xs).length:Int))) (V.lenSlice (x:=.tmp 4) rfl rfl u33 (Eq.trans (b:=v_xs) h0 Aa)) ?_
 refine WL.m rfl ?_
 refine WL.z (.int .i64 (((xs).length:Int))) (V.lenSlice (x:=.tmp 6) rfl rfl u33 (Eq.trans (b:=v_xs) h0 Aa)) ?_
 refine WL.vex (Sure.none rfl) rfl (V.clip (x:=.tmp 3) rfl u33 s9 h0 h_xs rfl rfl) (fun v4 Ab=>?_)
 refine WL.m rfl ?_
 refine WL.nil ?_
 refine WP.ret ?_
 refine resOf.c1 rfl (v:=v4) rfl ?_
 exact ⟨v4,rfl,(castSl (by rfl) Ab),Ext.refl _ _⟩
set_option maxHeartbeats 4000000 in
theorem keep_laid {w:World} {X:List Nat} {p:PeerD} {c_p:List Value} (h_p:peerR.rd X w c_p p) (fr:Int) (hok:KOk p) (hsz:KSz p) (hfr:0 ≤ fr ∧ fr ≤ 9223372036854775808) (hX:∀ x ∈ X,x < w.heap.size):Fnc Try.prog 27 #[.agg c_p.toArray,.int .u64 (fr)] w (fun v w'=>∃ (u0:Value),v = u0 ∧ Sl strR X w' u0 (laidL p fr) ∧ Ext [] w w'):=by
 obtain ⟨v1,v3,v5,v7,v9,Am,rfl,De,Df,Cn,Dg,Cp,Cq,Bm⟩:=h_p
 obtain ⟨Dm,Dn,Do,Dp,Dq,Dr,Ds,Dt,Du,Dv,Dw,Dx⟩:=(show PeerD.InR p from Bm)
 have Dy:=Cn.le'
 have Fj:=hok.base
 have Fk:=hsz.log
 refine Fnc.of_WP (n:=30) Try.func27 rfl Try.ntmps27 (by simp) ?_
 intro E hE
 have h0:E 0 = .agg (peerA p v1 v3 v5 v7 v9 Am):=hE 0 (by simp)
 have h1:E 1 = .int .u64 (fr):=hE 1 (by simp)
 clear hE
 refine WP.sr ?_
 refine WL.box (x:=.tmp 0) (cs:=(peerC p v1 v3 v5 v7 v9 Am)) (Sure.none rfl) rfl rfl h0 rfl (fun Aa Ac Af D9 Cr=>?_)
 have Cs:=(Sl.new (b:=Aa) nz1 De (by omega)).ext (Ext.any Af)
 have Ct:=(Sl.new (b:=Aa) nz1 Df (by omega)).ext (Ext.any Af)
 have Cu:=(Sl.new (b:=Aa) nz4 Cn (by omega)).ext (Ext.any Af)
 have Cv:=(Sl.new (b:=Aa) nz1 Dg (by omega)).ext (Ext.any Af)
 have Cw:=(Sl.new (b:=Aa) nz3 Cp (by omega)).ext (Ext.any Af)
 have Cx:=(Sl.new (b:=Aa) nz3 Cq (by omega)).ext (Ext.any Af)
 have Cy:Ext [Aa] _ _:=(Ext.refl _ _).trans (Ext.any Af)
 have Ay:w.heap.size ≤ Aa:=by have:=Nat.le_refl w.heap.size; omega
 refine WL.m rfl ?_
 refine WL.nil ?_
 refine WP.sr ?_
 refine WL.m rfl ?_
 refine WL.nil ?_
 refine WP.sr ?_
 refine WL.m rfl ?_
 refine WL.m rfl ?_
 refine WL.nil ?_
 refine WP.block ?_
 refine WP.loop (σ:=Nat) (fun k Ad Aq=>Ad 0 = .agg (peerA p v1 v3 v5 v7 v9 Am) ∧ Ad 1 = .int .u64 (fr) ∧ Ad 2 = .pointer (some ⟨Aa,0,none⟩) ∧ Ad 6 = .int .u64 (fr + (k:Int)) ∧ Ext [Aa] Ac Aq ∧ Box Aq Aa 29 (peerC p v1 v3 v5 v7 v9 Am) ∧ (Owns strR 9 Ac.heap.size (Aa :: X) Aq (Ad 5) (laidK p fr k) ∧ (∀ g,(Ad 5).ownBlock = some g → g ∉ (Aa :: X))) ∧ k ≤ p.Log.length ∧ ∀ j:Nat,j < k → entIs p (fr + (j:Int)) = true) (fun k=>p.Log.length + 1 - k) (0) ?_ ?_
 ·exact ⟨h0,h1,rfl,(Eq.trans h1 (int_eq (by omega))),(Ext.refl _ _),Cr,⟨(Owns.castE (by rfl) Owns.nil),(nil_block rfl)⟩,(Nat.zero_le _),(fun j hj=>by omega)⟩
 rintro k Ad Aq ⟨B3,B4,A7,Ar,Bn,hbb32_47,⟨Bo,Bl⟩,Dh,Di⟩
 have Bp:Ext [Aa] w Aq:=Cy.trans Bn
 have Ag:Ext [Aa] Ac Aq:=Bn
 refine WP.seq ?_
 refine WP.block ?_
 refine WP.sr ?_
 refine WL.z (.agg (peerA p v1 v3 v5 v7 v9 Am)) (V.loadAgg (x:=.tmp 2) (cs:=(peerC p v1 v3 v5 v7 v9 Am)) rfl a29 A7 (At.box hbb32_47) rfl) ?_
 refine WL.m rfl ?_
 refine WL.c (Sure.none rfl) rfl (C.call2 (y:=.tmp 14) rfl cl21 rfl Ar) (Fnc.mono (keep_entry (p:=p) ⟨v1,v3,v5,v7,v9,Am,rfl,(Cs.ext (Ext.pre Ag)),(Ct.ext (Ext.pre Ag)),(Cu.ext (Ext.pre Ag)),(Cv.ext (Ext.pre Ag)),(Cw.ext (Ext.pre Ag)),(Cx.ext (Ext.pre Ag)),Bm⟩ (fr + (k:Int)) (by omega) (by omega) (X:=(Aa :: X)) (inCons hbb32_47.lt (inMono hX Bp.size))) ?_)
 rintro _ Co ⟨Fa,rfl,Cz,As⟩
 have Bq:Ext [Aa] w Co:=Bp.trans (Ext.any (Y:=[Aa]) As)
 have Br:Ext [Aa] Ac Co:=Ag.trans (Ext.any (Y:=[Aa]) As)
 have Bs:=hbb32_47.ext As (by simp)
 have Bt:=Bo.keep As (by intro g hg hm; simp at hm) (by simp)
 obtain ⟨Ak,rfl,Bu,Bv⟩:=Cz
 obtain ⟨Dz,D0,D1⟩:=(show EntryD.InR (entAt p (fr + (k:Int))) from Bv)
 have D3:=Bu.le'
 refine WL.m rfl ?_
 refine WL.z (.agg #[.int .u64 ((entAt p (fr + (k:Int))).Term),.int .u8 ((entAt p (fr + (k:Int))).Kind),.string ((entAt p (fr + (k:Int))).Data),Ak]) (V.extract rfl rfl rfl) ?_
 refine WL.z (.bool (entIs p (fr + (k:Int)))) (V.extract rfl rfl rfl) ?_
 refine WL.alloc (cs:=[.int .u64 (0),.int .u8 (0),.string (ByteArray.mk #[]),.slice none 0 0]) (Sure.none rfl) rfl rfl z48 rfl (fun Ab Bw An Fb C0=>?_)
 have B2:Aa < Ab:=by have:=Bs.lt; omega
 have C1:=Bs.ext An (by simp)
 have C2:=(Owns.new (b:=Ab) Bt (by omega)).keep An (by intro g hg hm; simp at hm) (by simp)
 have Al:∀ g,(Ad 5).ownBlock = some g → g ∉ (Ab :: (Aa :: X)):=fun g hg hm=>(List.mem_cons.1 hm).elim (fun h=>by have:=(Bt.lt g hg).2; omega) (fun h=>Bl g hg h)
 have C3:=(Sl.new (b:=Ab) nz1 Bu (by omega)).ext (Ext.any An)
 have C4:Ext [Ab,Aa] _ _:=(Ext.cons Bq).trans (Ext.any An)
 have C5:Ext [Ab,Aa] _ _:=(Ext.cons Br).trans (Ext.any An)
 have Az:w.heap.size ≤ Ab:=by have:=Bq.size; omega
 have Ap:Ac.heap.size ≤ Ab:=by have:=Br.size; omega
 refine WL.storeAgg (vs:=[.int .u64 ((entAt p (fr + (k:Int))).Term),.int .u8 ((entAt p (fr + (k:Int))).Kind),.string ((entAt p (fr + (k:Int))).Data),Ak]) (Sure.none rfl) rfl rfl s48 rfl rfl rfl (by intro u hu; simp only [List.mem_cons,List.not_mem_nil,or_false] at hu; rcases hu with rfl | rfl | rfl | rfl <;> first | rfl | exact Sl.one (by assumption)) C0 (by show (0:Nat) + 4 ≤ 4; decide) (fun A8 Ao A4=>?_)
 replace A4:Box A8 Ab 48 [.int .u64 ((entAt p (fr + (k:Int))).Term),.int .u8 ((entAt p (fr + (k:Int))).Kind),.string ((entAt p (fr + (k:Int))).Data),Ak]:=A4
 have C6:=C1.ext Ao (by simp; omega)
 have Bx:Ext [Ab,Aa] w A8:=C4.trans (Ao.mono (by simp))
 have C7:Ext [Ab,Aa] Ac A8:=C5.trans (Ao.mono (by simp))
 have C8:Ext [Ab,Aa] Bw A8:=(Ao.mono (by simp))
 have By:=Owns.keep (Y:=[Ab,Aa]) C2 (Ao.mono (by simp)) (fun g hg hm=>Al g hg (mem_pre (O:=[Ab,Aa]) (X:=X) hm)) (fun b hb=>mem_pre (O:=[Ab,Aa]) (X:=X) hb)
 refine WL.m rfl ?_
 refine WL.nil ?_
 refine WP.seq ?_
 refine WP.sr ?_
 refine WL.m rfl ?_
 refine WL.z (.bool (!(entIs p (fr + (k:Int))))) (V.not rfl rfl) ?_
 refine WL.nil ?_
 refine WP.condn (t:=entIs p (fr + (k:Int))) rfl (fun Au=>?_) (fun Au=>?_)
 ·refine WP.sr ?_
  have hlN:=laidN_at (by assumption) Au
  refine WL.m rfl ?_
  refine WL.m rfl ?_
  refine WL.nil ?_
  refine WP.ret ?_
  refine resOf.c1 rfl (v:=Ad 5) rfl ?_
  exact ⟨Ad 5,rfl,(castSl (by rw [laidL,hlN]) (Sl.base (O:=[Ab,Aa]) (Owns.sl' By Al))),((Bx).done (geCons Az (geCons Ay geNil)))⟩
 refine WP.skip ?_
 have hent:entIs p (fr + (k:Int)) = true:=Au
 obtain ⟨hed,hel,hen⟩:=ent_facts (i:=fr + (k:Int)) hok hsz Au
 have Fl:=numB_size (fr + (k:Int))
 have Fm:=entB_size (entAt p (fr + (k:Int)))
 have Fo:=mk1_size 69
 refine WP.anyT [2,5,7,8,9] [⟨0,Ad 5,fun w=>True,true,false⟩,⟨1,.int .u64 (fr + (k:Int)),fun w=>True,true,false⟩,⟨2,.string (numB (fr + (k:Int))),fun _=>True,true,true⟩,⟨3,.string ((ByteArray.mk #[69]) ++ (numB (fr + (k:Int)))),fun w=>True,true,false⟩,⟨4,.agg #[.int .u64 ((entAt p (fr + (k:Int))).Term),.int .u8 ((entAt p (fr + (k:Int))).Kind),.string ((entAt p (fr + (k:Int))).Data),Ak],fun w=>Box w Ab 48 [.int .u64 ((entAt p (fr + (k:Int))).Term),.int .u8 ((entAt p (fr + (k:Int))).Kind),.string ((entAt p (fr + (k:Int))).Data),Ak],false,false⟩,⟨5,.string (entB (entAt p (fr + (k:Int)))),fun _=>True,true,true⟩,⟨6,.string (((ByteArray.mk #[69]) ++ (numB (fr + (k:Int)))) ++ (entB (entAt p (fr + (k:Int))))),fun w=>True,true,false⟩] mo (by kernel_rfl) (by kernel_rfl) (by kernel_rfl) (by kernel_rfl) ⟨.inr ⟨(fun _ _=>trivial),_,rfl,?_⟩,.inr ⟨(fun _ _=>trivial),_,rfl,?_⟩,.inl rfl,.inr ⟨(fun _ _=>trivial),_,rfl,?_⟩,.inr ⟨(fun h=>Bool.noConfusion h),_,rfl,?_⟩,.inl rfl,.inr ⟨(fun _ _=>trivial),_,rfl,?_⟩,trivial⟩ ?_
 ·intro E' w' hC hE hp
  exact ⟨Sure.none rfl,V.move (x:=.tmp 5) rfl ((hE 5 (by kernel_rfl)).trans rfl)⟩
 ·intro E' w' hC hE hp
  exact ⟨Sure.none rfl,V.move (x:=.tmp 6) rfl ((hE 6 (by kernel_rfl)).trans Ar)⟩
 ·intro E' w' hC hE hp
  have Dj:E' 23 = (.string (numB (fr + (k:Int))):Value):=hp 2 (by kernel_rfl) _ _ rfl rfl
  exact ⟨Sure.none rfl,V.sadd (y:=.tmp 23) rfl rfl Dj (by first | omega | (simp only [ByteArray.size_append]; omega))⟩
 ·intro E' w' hC hE hp
  replace hC:Box w' Ab 48 [.int .u64 ((entAt p (fr + (k:Int))).Term),.int .u8 ((entAt p (fr + (k:Int))).Kind),.string ((entAt p (fr + (k:Int))).Data),Ak]:=hC
  exact ⟨Sure.none rfl,V.loadAgg (x:=.tmp 7) (cs:=[.int .u64 ((entAt p (fr + (k:Int))).Term),.int .u8 ((entAt p (fr + (k:Int))).Kind),.string ((entAt p (fr + (k:Int))).Data),Ak]) rfl a48 ((hE 7 (by kernel_rfl)).trans rfl) (At.box hC) rfl⟩
 ·intro E' w' hC hE hp
  have Dk:E' 24 = (.string ((ByteArray.mk #[69]) ++ (numB (fr + (k:Int)))):Value):=hp 3 (by kernel_rfl) _ _ rfl rfl
  have Dl:E' 26 = (.string (entB (entAt p (fr + (k:Int)))):Value):=hp 5 (by kernel_rfl) _ _ rfl rfl
  exact ⟨Sure.none rfl,V.sadd (x:=.tmp 24) (y:=.tmp 26) rfl Dk Dl (by first | omega | (simp only [ByteArray.size_append]; omega))⟩
 ·intro Fc Bz Aj Av Aw
  have C9:Ext [Ab,Aa] w Bz:=Bx.trans (Ext.any (Y:=[Ab,Aa]) Aj)
  have Da:Ext [Ab,Aa] Ac Bz:=C7.trans (Ext.any (Y:=[Ab,Aa]) Aj)
  have Db:Ext [Ab,Aa] Bw Bz:=C8.trans (Ext.any (Y:=[Ab,Aa]) Aj)
  have B5:=C6.ext Aj (by simp)
  have A9:=A4.ext Aj (by simp)
  have B6:=By.keep Aj (by intro g hg hm; simp at hm) (by simp)
  refine Tree.node (rs:=[2]) (by kernel_rfl) ⟨offF rfl,offF rfl,offF rfl,offF rfl,(fun _ _=>A9),offF rfl,offF rfl,trivial⟩ ⟨⟨_,rfl,[5,7,8,9],by kernel_rfl,?_⟩,trivial⟩
  intro Fd D4 B7
  refine WL.c (Sure.none rfl) rfl (C.call1 (x:=.tmp 22) rfl cl24 ((B7 1 (by kernel_rfl) 22 rfl).trans (Aw 1 _ 22 rfl rfl))) (Fnc.mono (code_Num (fr + (k:Int)) (by omega)) ?_)
  rintro _ A5 ⟨rfl,Ae⟩
  have B8:Ext [Ab,Aa] w A5:=C9.trans (Ext.any (Y:=[Ab,Aa]) Ae)
  have B9:Ext [Ab,Aa] Ac A5:=Da.trans (Ext.any (Y:=[Ab,Aa]) Ae)
  have Ca:Ext [Ab,Aa] Bw A5:=Db.trans (Ext.any (Y:=[Ab,Aa]) Ae)
  have Cb:=B5.ext Ae (by simp)
  have Ba:=A9.ext Ae (by simp)
  have Cc:=B6.keep Ae (by intro g hg hm; simp at hm) (by simp)
  refine WL.nil ⟨_,rfl,cstY rfl rfl,?_⟩
  refine Tree.node (rs:=[5]) (by kernel_rfl) ⟨offF rfl,offF rfl,offF rfl,offF rfl,(fun _ _=>Ba),offF rfl,offF rfl,trivial⟩ ⟨⟨_,rfl,[7,8,9],by kernel_rfl,?_⟩,trivial⟩
  intro Fe D5 Cd
  refine WL.c (Sure.none rfl) rfl (C.call1 (x:=.tmp 25) rfl cl54 ((Cd 4 (by kernel_rfl) 25 rfl).trans (Aw 4 _ 25 rfl rfl))) (Fnc.mono (keep_laidOne (e:=(entAt p (fr + (k:Int)))) ⟨Ak,rfl,(C3.ext (Ext.pre Ca)),Bv⟩ (by omega) (by omega) (by first | assumption | exact fun j hj=>(hok.me.2 j hj).1 | exact fun j hj=>((hok.em k (by omega)).2 j hj).1)) ?_)
  rintro _ A6 ⟨rfl,Ah⟩
  have Bb:Ext [Ab,Aa] w A6:=B8.trans (Ext.any (Y:=[Ab,Aa]) Ah)
  have Ce:Ext [Ab,Aa] Ac A6:=B9.trans (Ext.any (Y:=[Ab,Aa]) Ah)
  have Bc:=Cb.ext Ah (by simp)
  have Bd:=Ba.ext Ah (by simp)
  have Be:=Cc.keep Ah (by intro g hg hm; simp at hm) (by simp)
  refine WL.nil ⟨_,rfl,cstY rfl rfl,?_⟩
  refine Tree.node (rs:=[7]) (by kernel_rfl) ⟨offF rfl,offF rfl,offF rfl,offF rfl,offN (by kernel_rfl),offF rfl,offF rfl,trivial⟩ ⟨⟨_,rfl,[8,9],by kernel_rfl,?_⟩,trivial⟩
  intro Ff D6 Cf
  refine WL.lit (R:=strR) (X:=(Ab :: (Aa :: X))) (vs:=[.string (((ByteArray.mk #[69]) ++ (numB (fr + (k:Int)))) ++ (entB (entAt p (fr + (k:Int)))))]) (xs:=[(((ByteArray.mk #[69]) ++ (numB (fr + (k:Int)))) ++ (entB (entAt p (fr + (k:Int)))))]) (Sure.none rfl) rfl rfl u33 e9 (by show 0 < (1:Nat); decide) (by show _ * (1:Nat) ≤ 1024; decide) (lit1 ((Cf 6 (by kernel_rfl) 27 rfl).trans (Aw 6 _ 27 rfl rfl))) rfl rfl (by intro i v x hv hx; match i,hv,hx with | 0,rfl,rfl=>exact ⟨rfl,by first | (simp only [maxLen,ByteArray.size_append]; omega) | (simp [maxLen]; omega)⟩ | i + 1,hv,_=>simp at hv) (fun Dc B0 Ai Cg hlit138=>?_)
  have Ax:∀ g,(Dc).ownBlock = some g → g ∉ (Ab :: (Aa :: X)):=by intro g hg hm; have h1:=hlit138 g hg; have h2:=(inCons Bd.lt (inCons Bc.lt (inMono hX Bb.size))) g hm; omega
  have Ch:Ext [Ab,Aa] w B0:=Bb.trans (Ext.any (Y:=[Ab,Aa]) Ai)
  have Bf:Ext [Ab,Aa] Ac B0:=Ce.trans (Ext.any (Y:=[Ab,Aa]) Ai)
  have Bg:=Bc.ext Ai (by simp)
  have Ci:=Bd.ext Ai (by simp)
  have Bh:=Be.keep Ai (by intro g hg hm; simp at hm) (by simp)
  have Bi:=Cg.low (B':=A6.heap.size) (Nat.le_refl _)
  refine WL.nil ⟨_,rfl,cstN rfl,?_⟩
  refine Tree.node (rs:=[8]) (by kernel_rfl) ⟨offF rfl,offF rfl,offF rfl,offF rfl,offN (by kernel_rfl),offF rfl,offF rfl,trivial⟩ ⟨⟨_,rfl,[9],by kernel_rfl,?_⟩,trivial⟩
  intro Fg D7 Bj
  refine WL.appendOwn (x:=.tmp 21) (y:=.tmp 28) (R:=strR) (X:=(Ab :: (Aa :: X))) (B:=Ac.heap.size) (xs:=laidK p fr k) (ys:=[(((ByteArray.mk #[69]) ++ (numB (fr + (k:Int)))) ++ (entB (entAt p (fr + (k:Int)))))]) (Sure.none rfl) rfl rfl u33 e9 rfl (by show 0 < (1:Nat); decide) ((Bj 0 (by kernel_rfl) 21 rfl).trans (Aw 0 _ 21 rfl rfl)) ((Bj 7 (by kernel_rfl) 28 rfl).trans rfl) Bh (Owns.sl' Bi Ax) (fun g hg=>Owns.sl' (Owns.flat flat_str Bi) (fun gs hgs hm=>(List.mem_cons.1 hm).elim (fun h=>by have h1:=hlit138 gs hgs; have h2:=(Be.lt g hg).2; omega) (fun h=>Ax gs hgs h))) Bf.size (by simp only [List.length_cons,List.length_nil,laidK_len]; omega) (by simp only [List.length_cons,List.length_nil,laidK_len,maxLen]; omega) (fun Dd Fh Cj Bk hf164=>?_)
  have B1:=after_no hf164 Al (inCons Ci.lt (inCons Bg.lt (inMono hX Ch.size)))
  have Ck:=Ext.ownB (Bf) Bk (fun k hk=>(Owns.lt Bh k hk).1) (Nat.le_refl _)
  have Cl:=Bg.grown Bk (fun g hg e=>Al g hg (by simp [e]))
  refine WL.nil ⟨_,rfl,cstN rfl,?_⟩
  refine Tree.node (rs:=[9]) (by kernel_rfl) ⟨offF rfl,offF rfl,offF rfl,offF rfl,offN (by kernel_rfl),offF rfl,offF rfl,trivial⟩ ⟨⟨_,rfl,[],by kernel_rfl,?_⟩,trivial⟩
  intro Fi D8 Cm
  refine WL.z (Dd) (V.assign (x:=.tmp 29) rfl ((Cm 8 (by kernel_rfl) 29 rfl).trans rfl)) ?_
  refine WL.nil ⟨_,rfl,cstN rfl,?_⟩
  refine Tree.leaf ?_
  refine WP.region ?_
  refine WL.m rfl ?_
  refine WL.z (.int .u64 ((fr + (k:Int)) + 1)) (V.arith (x:=.tmp 10) rfl ((Av 6 (by kernel_rfl)).trans Ar) rfl rfl (wrap_u64 (by omega) (by omega))) ?_
  refine WL.m rfl ?_
  refine WL.nil ?_
  exact ⟨k + 1,⟨((Av 0 (by kernel_rfl)).trans B3),((Av 1 (by kernel_rfl)).trans B4),((Av 2 (by kernel_rfl)).trans A7),(int_eq (by omega)),(Ext.drop Ck Ap),Cl,⟨(Owns.castE (by rfl) (Owns.base (O:=[Ab]) Cj)),(base_no (O:=[Ab]) B1)⟩,(laid_le (by assumption) hent),(ent_step (by assumption) hent)⟩,(by omega)⟩
end Go.Proofs.Ytiaicihpocoeiaa.X1
namespace Go.Proofs.Ytiaicihpocoeiaa.X1
open T W Go.RowKit
set_option maxRecDepth 100000
set_option maxHeartbeats 400000
theorem cl18:Callable Try.prog 18:=⟨Try.f18,Try.func18,by kernel_rfl,rfl⟩
theorem fl29_0:FieldOf Try.prog 29 0 3 0 1:=fld (by kernel_rfl)
theorem cl19:Callable Try.prog 19:=⟨Try.f19,Try.func19,by kernel_rfl,rfl⟩
theorem cl22:Callable Try.prog 22:=⟨Try.f22,Try.func22,by kernel_rfl,rfl⟩
theorem cl23:Callable Try.prog 23:=⟨Try.f23,Try.func23,by kernel_rfl,rfl⟩
theorem cl25:Callable Try.prog 25:=⟨Try.f25,Try.func25,by kernel_rfl,rfl⟩
theorem cl27:Callable Try.prog 27:=⟨Try.f27,Try.func27,by kernel_rfl,rfl⟩
theorem cl26:Callable Try.prog 26:=⟨Try.f26,Try.func26,by kernel_rfl,rfl⟩
def stepOk (p q:PeerD) (j:Nat):Bool:=entIs p (q.Base + 1 + (j:Int)) && (entIs q (q.Base + 1 + (j:Int)) && sameEntB (entAt p (q.Base + 1 + (j:Int))) (entAt q (q.Base + 1 + (j:Int))))
def condD (p q:PeerD):Bool:=termIs p q.Base && decide (termOf p q.Base = q.BaseTerm)
def diffC (p q:PeerD):Nat:=(List.range (p.Log.length + 1)).findIdx (fun j=>!stepOk p q j)
def diffN (p q:PeerD):Nat:=if condD p q = true then diffC p q else 0
def diffF (p q:PeerD):Int:=q.Base + 1 + (diffN p q:Int)
theorem step_le {p q:PeerD} {k:Nat} (h:∀ j,j < k → stepOk p q j = true):k ≤ p.Log.length:=by
 rcases Nat.eq_zero_or_pos k with hk | hk
 ·omega
 ·have a:=h 0 hk
  have b:=h (k - 1) (by omega)
  simp only [stepOk,Bool.and_eq_true] at a b
  have a:=entIs_in a.1
  have b:=entIs_in b.1
  omega
theorem diffC_at {p q:PeerD} {k:Nat} (h:∀ j,j < k → stepOk p q j = true) (h2:stepOk p q k = false):diffC p q = k:=by
 have hk:=step_le h
 have hlt:k < (List.range (p.Log.length + 1)).length:=by rw [List.length_range]; omega
 rw [diffC,(List.findIdx_eq hlt).2]
 exact ⟨by simpa using h2,fun j hj=>by simpa using h j hj⟩
theorem diffC_le (p q:PeerD):diffC p q ≤ p.Log.length + 1:=by
 have:=List.findIdx_le_length (p:=fun j=>!stepOk p q j) (xs:=List.range (p.Log.length + 1))
 simpa [diffC] using this
theorem diffN_le (p q:PeerD):diffN p q ≤ p.Log.length + 1:=by
 rw [diffN]; split
 ·exact diffC_le p q
 ·omega
theorem condD_yes {p q:PeerD} (h1:termIs p q.Base = true) (h2:termOf p q.Base = q.BaseTerm):condD p q = true:=by rw [condD,h1,decide_eq_true h2]; rfl
theorem condD_no1 {p q:PeerD} (h1:termIs p q.Base = false):condD p q = false:=by rw [condD,h1]; rfl
theorem condD_no2 {p q:PeerD} (h2:¬ termOf p q.Base = q.BaseTerm):condD p q = false:=by rw [condD,decide_eq_false h2]; simp
theorem diff_out {p q:PeerD} {k:Nat} (hi:k = 0 ∨ condD p q = true) (h:condD p q = false):q.Base + 1 + (k:Int) = diffF p q:=by
 have:k = 0:=hi.resolve_right (by rw [h]; decide)
 subst this
 rw [diffF,diffN,if_neg (by rw [h]; decide)]
theorem diff_in {p q:PeerD} {k:Nat} (hc:condD p q = true) (h:∀ j,j < k → stepOk p q j = true) (h2:stepOk p q k = false):q.Base + 1 + (k:Int) = diffF p q:=by
 rw [diffF,diffN,if_pos hc,diffC_at h h2]
theorem stepOk_no1 {p q:PeerD} {k:Nat} (h:entIs p (q.Base + 1 + (k:Int)) = false):stepOk p q k = false:=by rw [stepOk,h]; rfl
theorem stepOk_no2 {p q:PeerD} {k:Nat} (h:entIs q (q.Base + 1 + (k:Int)) = false):stepOk p q k = false:=by rw [stepOk,h]; simp
theorem stepOk_no3 {p q:PeerD} {k:Nat} (h:sameEntB (entAt p (q.Base + 1 + (k:Int))) (entAt q (q.Base + 1 + (k:Int))) = false):stepOk p q k = false:=by rw [stepOk,h]; simp
theorem stepOk_yes {p q:PeerD} {k:Nat} (h1:entIs p (q.Base + 1 + (k:Int)) = true) (h2:entIs q (q.Base + 1 + (k:Int)) = true) (h3:sameEntB (entAt p (q.Base + 1 + (k:Int))) (entAt q (q.Base + 1 + (k:Int))) = true):stepOk p q k = true:=by rw [stepOk,h1,h2,h3]; rfl
theorem steps_go {p q:PeerD} {k:Nat} (h:∀ j,j < k → stepOk p q j = true) (hk:stepOk p q k = true):∀ j,j < k + 1 → stepOk p q j = true:=fun j hj=>by
 rcases Nat.lt_or_ge j k with h1 | h1
 ·exact h j h1
 ·obtain rfl:j = k:=by omega
  exact hk
def cutB (f:Int):ByteArray:=ByteArray.mk #[67] ++ numB f
def hardL (p q:PeerD):List ByteArray:=if seqB (hardB p) (hardB q) = true then [] else [hardB q]
def cutL (p q:PeerD):List ByteArray:=hardL p q ++ if lastI p ≥ diffF p q then [cutB (diffF p q)] else []
def baseL (p q:PeerD):List ByteArray:=cutL p q ++ if seqB (baseB p) (baseB q) = true then [] else [baseB q]
def diffL (p q:PeerD):List ByteArray:=baseL p q ++ laidL q (diffF p q)
theorem hardL_le (p q:PeerD):(hardL p q).length ≤ 1:=by rw [hardL]; split <;> simp
theorem cutL_le (p q:PeerD):(cutL p q).length ≤ 2:=by
 have:=hardL_le p q
 rw [cutL,List.length_append]; split <;> simp <;> omega
theorem baseL_le (p q:PeerD):(baseL p q).length ≤ 3:=by
 have:=cutL_le p q
 rw [baseL,List.length_append]; split <;> simp <;> omega
theorem laidL_le (q:PeerD) (f:Int):(laidL q f).length ≤ q.Log.length:=by
 rw [laidL,laidK_len,laidN]; split <;> omega
def okD (p q:PeerD):Bool:=vmayB p && (vmayB q && (decide (p.Id = q.Id) && (decide (p.Base ≤ q.Base) && decide (p.Term ≤ q.Term))))
theorem may0 {b:Bool} (h:¬ (if b = true then (0:Int) else 2) ≠ 0):b = true:=by cases b <;> simp_all
theorem may2 {b:Bool} (h:(if b = true then (0:Int) else 2) ≠ 0):b = false:=by cases b <;> simp_all
theorem okD_yes {p q:PeerD} (h1:vmayB p = true) (h2:vmayB q = true) (h3:¬ p.Id ≠ q.Id) (h4:¬ q.Base < p.Base) (h5:¬ q.Term < p.Term):okD p q = true:=by
 rw [okD,h1,h2,decide_eq_true (by omega:p.Id = q.Id),decide_eq_true (by omega:p.Base ≤ q.Base),decide_eq_true (by omega:p.Term ≤ q.Term)]; rfl
theorem okD_no1 {p q:PeerD} (h:vmayB p = false):okD p q = false:=by rw [okD,h]; rfl
theorem okD_no2 {p q:PeerD} (h:vmayB q = false):okD p q = false:=by rw [okD,h]; simp
theorem okD_no3 {p q:PeerD} (h:p.Id ≠ q.Id):okD p q = false:=by rw [okD,decide_eq_false h]; simp
theorem okD_no4 {p q:PeerD} (h:q.Base < p.Base):okD p q = false:=by rw [okD,decide_eq_false (by omega:¬ p.Base ≤ q.Base)]; simp
theorem okD_no5 {p q:PeerD} (h:q.Term < p.Term):okD p q = false:=by rw [okD,decide_eq_false (by omega:¬ p.Term ≤ q.Term)]; simp
theorem hardB_size (q:PeerD):(hardB q).size ≤ 19:=by
 have h1:=numB_size q.Term
 have h2:=numB_size q.Vote
 have h3:=mk1_size 72
 simp only [hardB,ByteArray.size_append]; omega
theorem baseB_size {q:PeerD} (ho:KOk q) (hs:KSz q):(baseB q).size ≤ 1100000:=by
 have h1:=numB_size q.Base
 have h2:=numB_size q.BaseTerm
 have h3:=numbersB_size q.BaseMembers
 have h4:=textB_size q.Snap
 have h5:=ho.bm.1
 have h6:=hs.snap
 have h7:=mk1_size 66
 simp only [baseB,ByteArray.size_append]; omega
set_option maxHeartbeats 16000000 in
theorem keep_Diff {w:World} {X:List Nat} {p:PeerD} {c_p:List Value} (h_p:peerR.rd X w c_p p) {q:PeerD} {c_q:List Value} (h_q:peerR.rd X w c_q q) (hsp:KSz p) (hsq:KSz q) (hX:∀ x ∈ X,x < w.heap.size):Fnc Try.prog 8 #[.agg c_p.toArray,.agg c_q.toArray] w (fun v w'=>∃ (u0:Value),v = .tuple #[u0,.int .i64 (if okD p q = true then (0:Int) else 2)] ∧ Sl strR X w' u0 (if okD p q = true then diffL p q else []) ∧ Ext [] w w'):=by
 obtain ⟨v1,v3,v5,v7,v9,Al,rfl,Nc,Nd,Mg,Ne,Mh,Mi,Cr⟩:=h_p
 obtain ⟨Nr,Ns,Nt,Nu,Nv,Nw,Nx,Ny,Nz,N0,N1,N2⟩:=(show PeerD.InR p from Cr)
 have N3:=Mg.le'
 obtain ⟨Af,Ag,Ah,Ai,Aj,Ak,rfl,Mj,Mk,I1,Ml,Mm,Mn,Cg⟩:=h_q
 obtain ⟨N4,N5,N6,N7,N8,Gh,N9,Oa,Ob,Oc,Od,Oe⟩:=(show PeerD.InR q from Cg)
 have Gh:=inK_u64 Gh
 have Of:=I1.le'
 have hFp:=hsp.fits
 have hFq:=hsq.fits
 have hlp:=hsp.log
 have hlq:=hsq.log
 refine Fnc.of_WP (n:=128) Try.func8 rfl Try.ntmps8 (by simp) ?_
 intro E hE
 have h0:E 0 = .agg (peerA p v1 v3 v5 v7 v9 Al):=hE 0 (by simp)
 have h1:E 1 = .agg (peerA q Af Ag Ah Ai Aj Ak):=hE 1 (by simp)
 clear hE
 refine WP.sr ?_
 refine WL.box (x:=.tmp 0) (cs:=(peerC p v1 v3 v5 v7 v9 Al)) (Sure.none rfl) rfl rfl h0 rfl (fun Aa Pb Ba Oq I2=>?_)
 have Mo:=(Sl.new (b:=Aa) nz1 Nc (by omega)).ext (Ext.any Ba)
 have Mp:=(Sl.new (b:=Aa) nz1 Nd (by omega)).ext (Ext.any Ba)
 have Mq:=(Sl.new (b:=Aa) nz4 Mg (by omega)).ext (Ext.any Ba)
 have Mr:=(Sl.new (b:=Aa) nz1 Ne (by omega)).ext (Ext.any Ba)
 have Ms:=(Sl.new (b:=Aa) nz3 Mh (by omega)).ext (Ext.any Ba)
 have Mt:=(Sl.new (b:=Aa) nz3 Mi (by omega)).ext (Ext.any Ba)
 have Mu:=(Sl.new (b:=Aa) nz1 Mj (by omega)).ext (Ext.any Ba)
 have Mv:=(Sl.new (b:=Aa) nz1 Mk (by omega)).ext (Ext.any Ba)
 have Mw:=(Sl.new (b:=Aa) nz4 I1 (by omega)).ext (Ext.any Ba)
 have Mx:=(Sl.new (b:=Aa) nz1 Ml (by omega)).ext (Ext.any Ba)
 have My:=(Sl.new (b:=Aa) nz3 Mm (by omega)).ext (Ext.any Ba)
 have Mz:=(Sl.new (b:=Aa) nz3 Mn (by omega)).ext (Ext.any Ba)
 have I3:Ext [Aa] _ _:=(Ext.refl _ _).trans (Ext.any Ba)
 have A5:w.heap.size ≤ Aa:=by have:=Nat.le_refl w.heap.size; omega
 refine WL.box (x:=.tmp 1) (cs:=(peerC q Af Ag Ah Ai Aj Ak)) (Sure.none rfl) rfl rfl h1 rfl (fun Ab Au A7 Ot I4=>?_)
 have Jq:Aa < Ab:=by have:=I2.lt; omega
 have Gd:=I2.ext A7 (by simp)
 have Da:=(Sl.new (b:=Ab) nz1 Mo (by omega)).ext (Ext.any A7)
 have Db:=(Sl.new (b:=Ab) nz1 Mp (by omega)).ext (Ext.any A7)
 have Dc:=(Sl.new (b:=Ab) nz4 Mq (by omega)).ext (Ext.any A7)
 have Dd:=(Sl.new (b:=Ab) nz1 Mr (by omega)).ext (Ext.any A7)
 have De:=(Sl.new (b:=Ab) nz3 Ms (by omega)).ext (Ext.any A7)
 have Df:=(Sl.new (b:=Ab) nz3 Mt (by omega)).ext (Ext.any A7)
 have Cs:=(Sl.new (b:=Ab) nz1 Mu (by omega)).ext (Ext.any A7)
 have Ct:=(Sl.new (b:=Ab) nz1 Mv (by omega)).ext (Ext.any A7)
 have Cu:=(Sl.new (b:=Ab) nz4 Mw (by omega)).ext (Ext.any A7)
 have Cv:=(Sl.new (b:=Ab) nz1 Mx (by omega)).ext (Ext.any A7)
 have Cw:=(Sl.new (b:=Ab) nz3 My (by omega)).ext (Ext.any A7)
 have Cx:=(Sl.new (b:=Ab) nz3 Mz (by omega)).ext (Ext.any A7)
 have I5:Ext [Ab,Aa] _ _:=(Ext.cons I3).trans (Ext.any A7)
 have A6:w.heap.size ≤ Ab:=by have:=I3.size; omega
 refine WL.m rfl ?_
 refine WL.m rfl ?_
 refine WL.nil ?_
 refine WP.seq ?_
 refine WP.sr ?_
 refine WL.z (.agg (peerA p v1 v3 v5 v7 v9 Al)) (V.loadAgg (cs:=(peerC p v1 v3 v5 v7 v9 Al)) rfl a29 rfl (At.box Gd) rfl) ?_
 refine WL.c (Sure.none rfl) rfl (C.call1 rfl cl18 rfl) (Fnc.mono (vote_May (p:=p) ⟨v1,v3,v5,v7,v9,Al,rfl,Da,Db,Dc,Dd,De,Df,Cr⟩ (inCons I4.lt (inCons Gd.lt (inMono hX I5.size))) (by assumption)) ?_)
 rintro _ Ao ⟨rfl,Do⟩
 have D3:Ext [Ab,Aa] w Ao:=I5.trans (Ext.any (Y:=[Ab,Aa]) Do)
 have B0:Ext [Ab,Aa] Au Ao:=(Ext.any (Y:=[Ab,Aa]) Do)
 have Gi:=Gd.ext Do (by simp)
 have D4:=I4.ext Do (by simp)
 refine WL.z (.bool (decide ((if vmayB p = true then (0:Int) else 2) ≠ 0))) (V.cmp rfl rfl rfl rfl) ?_
 refine WL.vbp (c:=(if vmayB p = true then (0:Int) else 2) ≠ 0) (Sure.none rfl) rfl (V.move rfl rfl) (fun D5=>?_) (fun D5=>?_)
 ·refine WL.skips [(19,some true)] [(44,some true)] (kc (some true) rfl kn) (by kernel_rfl) (fun Ou hK108 Og=>?_)
  refine WP.cond_true (hK108 44 (some true) rfl) ?_
  refine WP.sr ?_
  have hdno:okD p q = false:=okD_no1 (may2 D5)
  refine WL.m rfl ?_
  refine WL.m rfl ?_
  refine WL.nil ?_
  refine WP.ret ?_
  refine resOf.c2 rfl (v:=.slice none 0 0) rfl (v':=.int .i64 (2)) rfl ?_
  exact ⟨.slice none 0 0,(tup2 rfl (int_eq (by first | (rw [if_pos hdok]; done) | (rw [if_neg (by rw [hdno]; decide)]; done)))),(castSl (by first | (rw [if_pos hdok]; rfl) | (rw [if_neg (by rw [hdno]; decide)]; done)) (Sl.base (O:=[Ab,Aa]) Sl.nil)),((D3).done (geCons A6 (geCons A5 geNil)))⟩
 refine WL.y (.agg (peerA q Af Ag Ah Ai Aj Ak)) rfl (V.loadAgg (cs:=(peerC q Af Ag Ah Ai Aj Ak)) rfl a29 rfl (At.box D4) rfl) ?_
 refine WL.c (Sure.yes rfl rfl rfl) rfl (C.call1 rfl cl18 rfl) (Fnc.mono (vote_May (p:=q) ⟨Af,Ag,Ah,Ai,Aj,Ak,rfl,(Cs.ext (Ext.pre B0)),(Ct.ext (Ext.pre B0)),(Cu.ext (Ext.pre B0)),(Cv.ext (Ext.pre B0)),(Cw.ext (Ext.pre B0)),(Cx.ext (Ext.pre B0)),Cg⟩ (inCons D4.lt (inCons Gi.lt (inMono hX D3.size))) (by assumption)) ?_)
 rintro _ Ad ⟨rfl,C0⟩
 have B1:Ext [Ab,Aa] w Ad:=D3.trans (Ext.any (Y:=[Ab,Aa]) C0)
 have Ap:Ext [Ab,Aa] Au Ad:=B0.trans (Ext.any (Y:=[Ab,Aa]) C0)
 have Gj:Ext [Ab,Aa] Ao Ad:=(Ext.any (Y:=[Ab,Aa]) C0)
 have C1:=Gi.ext C0 (by simp)
 have C2:=D4.ext C0 (by simp)
 refine WL.y (.bool (decide ((if vmayB q = true then (0:Int) else 2) ≠ 0))) rfl (V.cmp rfl rfl rfl rfl) ?_
 refine WL.k (a:=false) rfl rfl ?_
 refine WL.vbp (c:=(if vmayB q = true then (0:Int) else 2) ≠ 0) (Sure.none rfl) rfl (V.move rfl rfl) (fun D6=>?_) (fun D6=>?_)
 ·refine WL.skips [(24,some true)] [(44,some true)] (kc (some true) rfl kn) (by kernel_rfl) (fun Ov hK119 Oh=>?_)
  refine WP.cond_true (hK119 44 (some true) rfl) ?_
  refine WP.sr ?_
  have hdno:okD p q = false:=okD_no2 (may2 D6)
  refine WL.m rfl ?_
  refine WL.m rfl ?_
  refine WL.nil ?_
  refine WP.ret ?_
  refine resOf.c2 rfl (v:=.slice none 0 0) rfl (v':=.int .i64 (2)) rfl ?_
  exact ⟨.slice none 0 0,(tup2 rfl (int_eq (by first | (rw [if_pos hdok]; done) | (rw [if_neg (by rw [hdno]; decide)]; done)))),(castSl (by first | (rw [if_pos hdok]; rfl) | (rw [if_neg (by rw [hdno]; decide)]; done)) (Sl.base (O:=[Ab,Aa]) Sl.nil)),((B1).done (geCons A6 (geCons A5 geNil)))⟩
 refine WL.fy (.int .i64 (p.Id)) rfl fl29_0 rfl p3 (C1.cell rfl) ?_
 refine WL.fy (.int .i64 (q.Id)) rfl fl29_0 rfl p3 (C2.cell rfl) ?_
 refine WL.y (.bool (decide (p.Id ≠ q.Id))) rfl (V.cmp rfl rfl rfl rfl) ?_
 refine WL.k (a:=false) rfl rfl ?_
 refine WL.vbp (c:=p.Id ≠ q.Id) (Sure.none rfl) rfl (V.move rfl rfl) (fun D7=>?_) (fun D7=>?_)
 ·refine WL.skips [(31,some true)] [(44,some true)] (kc (some true) rfl kn) (by kernel_rfl) (fun Ow hK123 Oi=>?_)
  refine WP.cond_true (hK123 44 (some true) rfl) ?_
  refine WP.sr ?_
  have hdno:okD p q = false:=okD_no3 D7
  refine WL.m rfl ?_
  refine WL.m rfl ?_
  refine WL.nil ?_
  refine WP.ret ?_
  refine resOf.c2 rfl (v:=.slice none 0 0) rfl (v':=.int .i64 (2)) rfl ?_
  exact ⟨.slice none 0 0,(tup2 rfl (int_eq (by first | (rw [if_pos hdok]; done) | (rw [if_neg (by rw [hdno]; decide)]; done)))),(castSl (by first | (rw [if_pos hdok]; rfl) | (rw [if_neg (by rw [hdno]; decide)]; done)) (Sl.base (O:=[Ab,Aa]) Sl.nil)),((B1).done (geCons A6 (geCons A5 geNil)))⟩
 refine WL.fy (.int .u64 (q.Base)) rfl fl29_6 rfl p23 (C2.cell rfl) ?_
 refine WL.fy (.int .u64 (p.Base)) rfl fl29_6 rfl p23 (C1.cell rfl) ?_
 refine WL.y (.bool (decide (q.Base < p.Base))) rfl (V.cmp rfl rfl rfl rfl) ?_
 refine WL.k (a:=false) rfl rfl ?_
 refine WL.vbp (c:=q.Base < p.Base) (Sure.none rfl) rfl (V.move rfl rfl) (fun D8=>?_) (fun D8=>?_)
 ·refine WL.skips [(38,some true)] [(44,some true)] (kc (some true) rfl kn) (by kernel_rfl) (fun Ox hK127 Oj=>?_)
  refine WP.cond_true (hK127 44 (some true) rfl) ?_
  refine WP.sr ?_
  have hdno:okD p q = false:=okD_no4 D8
  refine WL.m rfl ?_
  refine WL.m rfl ?_
  refine WL.nil ?_
  refine WP.ret ?_
  refine resOf.c2 rfl (v:=.slice none 0 0) rfl (v':=.int .i64 (2)) rfl ?_
  exact ⟨.slice none 0 0,(tup2 rfl (int_eq (by first | (rw [if_pos hdok]; done) | (rw [if_neg (by rw [hdno]; decide)]; done)))),(castSl (by first | (rw [if_pos hdok]; rfl) | (rw [if_neg (by rw [hdno]; decide)]; done)) (Sl.base (O:=[Ab,Aa]) Sl.nil)),((B1).done (geCons A6 (geCons A5 geNil)))⟩
 refine WL.fy (.int .u64 (q.Term)) rfl fl29_2 rfl p23 (C2.cell rfl) ?_
 refine WL.fy (.int .u64 (p.Term)) rfl fl29_2 rfl p23 (C1.cell rfl) ?_
 refine WL.y (.bool (decide (q.Term < p.Term))) rfl (V.cmp rfl rfl rfl rfl) ?_
 refine WL.k (a:=false) rfl rfl ?_
 refine WL.nil ?_
 refine WP.condp (t:=q.Term < p.Term) rfl (fun D9=>?_) (fun D9=>?_)
 ·refine WP.sr ?_
  have hdno:okD p q = false:=okD_no5 D9
  refine WL.m rfl ?_
  refine WL.m rfl ?_
  refine WL.nil ?_
  refine WP.ret ?_
  refine resOf.c2 rfl (v:=.slice none 0 0) rfl (v':=.int .i64 (2)) rfl ?_
  exact ⟨.slice none 0 0,(tup2 rfl (int_eq (by first | (rw [if_pos hdok]; done) | (rw [if_neg (by rw [hdno]; decide)]; done)))),(castSl (by first | (rw [if_pos hdok]; rfl) | (rw [if_neg (by rw [hdno]; decide)]; done)) (Sl.base (O:=[Ab,Aa]) Sl.nil)),((B1).done (geCons A6 (geCons A5 geNil)))⟩
 refine WP.skip ?_
 refine WP.sr ?_
 have hmp:vmayB p = true:=may0 D5
 have hmq:vmayB q = true:=may0 D6
 have hdok:okD p q = true:=okD_yes hmp hmq D7 D8 D9
 have hokp:=kok_of hmp
 have hokq:=kok_of hmq
 have hbp:=hokp.base
 have hbq:=hokq.base
 have hnl:=diffN_le p q
 have hll1:=hardL_le p q
 have hll2:=cutL_le p q
 have hll3:=baseL_le p q
 have hll4:=laidL_le q (diffF p q)
 have hdf:diffF p q = q.Base + 1 + (diffN p q:Int):=rfl
 have hzf:=numB_size (diffF p q)
 have Oy:=mk1_size 67
 have hzh:=hardB_size q
 have hzb:=baseB_size hokq hsq
 refine WL.m rfl ?_
 refine WL.nil ?_
 have Ds:w.heap.size ≤ Ad.heap.size:=B1.size
 have Bh:Au.heap.size ≤ Ad.heap.size:=Ap.size
 have Fx:Ao.heap.size ≤ Ad.heap.size:=Gj.size
 refine WP.seq_cut (fun Ch B2=>Ch 0 = .agg (peerA p v1 v3 v5 v7 v9 Al) ∧ Ch 1 = .agg (peerA q Af Ag Ah Ai Aj Ak) ∧ Ch 2 = .pointer (some ⟨Aa,0,none⟩) ∧ Ch 3 = .pointer (some ⟨Ab,0,none⟩) ∧ Ch 44 = .bool (decide (q.Term < p.Term)) ∧ Ext [Ab,Aa] Ad B2 ∧ Box B2 Aa 29 (peerC p v1 v3 v5 v7 v9 Al) ∧ Box B2 Ab 29 (peerC q Af Ag Ah Ai Aj Ak) ∧ (Owns strR 9 Ad.heap.size (Ab :: (Aa :: X)) B2 (Ch 6) (hardL p q) ∧ (∀ g,(Ch 6).ownBlock = some g → g ∉ (Ab :: (Aa :: X))))) ?_ ?_
 ·refine WP.seq ?_
  refine WP.anyMake [fun v _=>v = (.agg (peerA p v1 v3 v5 v7 v9 Al):Value),fun v _=>v = (.string (hardB p):Value),fun v _=>v = (.agg (peerA q Af Ag Ah Ai Aj Ak):Value),fun v _=>v = (.string (hardB q):Value),fun v _=>v = (.bool (!(seqB (hardB p) (hardB q))):Value)] mo (by kernel_rfl) (by kernel_rfl) (by kernel_rfl) ⟨Stab.eq _,Stab.eq _,Stab.eq _,Stab.eq _,Stab.eq _,trivial⟩ ⟨?_,?_,?_,?_,?_,trivial⟩ ?_
  ·intro E' w' hw hE hp
   exact .inr ⟨(Sure.none rfl),.inl ⟨.agg (peerA p v1 v3 v5 v7 v9 Al),V.loadAgg (x:=.tmp 2) (cs:=(peerC p v1 v3 v5 v7 v9 Al)) rfl a29 ((hE 2 (by kernel_rfl)).trans rfl) ((At.box C1).ext hw (by simp)) rfl,rfl⟩⟩
  ·intro E' w' hw hE hp
   have I6:E' 45 = (.agg (peerA p v1 v3 v5 v7 v9 Al):Value):=hp 0 (by kernel_rfl)
   exact .inr ⟨(Sure.none rfl),.inr ⟨_,_,C.call1 (x:=.tmp 45) rfl cl19 I6,Fnc.mono (keep_hard (p:=p) ⟨v1,v3,v5,v7,v9,Al,rfl,((Da.ext (Ext.pre Ap)).ext (Ext.any hw)),((Db.ext (Ext.pre Ap)).ext (Ext.any hw)),((Dc.ext (Ext.pre Ap)).ext (Ext.any hw)),((Dd.ext (Ext.pre Ap)).ext (Ext.any hw)),((De.ext (Ext.pre Ap)).ext (Ext.any hw)),((Df.ext (Ext.pre Ap)).ext (Ext.any hw)),Cr⟩ (by assumption) (by assumption)) (fun v w'' h=>⟨h.2,h.1⟩)⟩⟩
  ·intro E' w' hw hE hp
   exact .inr ⟨(Sure.none rfl),.inl ⟨.agg (peerA q Af Ag Ah Ai Aj Ak),V.loadAgg (x:=.tmp 3) (cs:=(peerC q Af Ag Ah Ai Aj Ak)) rfl a29 ((hE 3 (by kernel_rfl)).trans rfl) ((At.box C2).ext hw (by simp)) rfl,rfl⟩⟩
  ·intro E' w' hw hE hp
   have I7:E' 47 = (.agg (peerA q Af Ag Ah Ai Aj Ak):Value):=hp 2 (by kernel_rfl)
   exact .inr ⟨(Sure.none rfl),.inr ⟨_,_,C.call1 (x:=.tmp 47) rfl cl19 I7,Fnc.mono (keep_hard (p:=q) ⟨Af,Ag,Ah,Ai,Aj,Ak,rfl,((Cs.ext (Ext.pre Ap)).ext (Ext.any hw)),((Ct.ext (Ext.pre Ap)).ext (Ext.any hw)),((Cu.ext (Ext.pre Ap)).ext (Ext.any hw)),((Cv.ext (Ext.pre Ap)).ext (Ext.any hw)),((Cw.ext (Ext.pre Ap)).ext (Ext.any hw)),((Cx.ext (Ext.pre Ap)).ext (Ext.any hw)),Cg⟩ (by assumption) (by assumption)) (fun v w'' h=>⟨h.2,h.1⟩)⟩⟩
  ·intro E' w' hw hE hp
   have I8:E' 46 = (.string (hardB p):Value):=hp 1 (by kernel_rfl)
   have I9:E' 48 = (.string (hardB q):Value):=hp 3 (by kernel_rfl)
   exact .inr ⟨(Sure.none rfl),.inl ⟨.bool (!(seqB (hardB p) (hardB q))),V.scmp (x:=.tmp 46) (y:=.tmp 48) rfl I8 I9 rfl,rfl⟩⟩
  ·intro M0 Ge C3 Ar Jr
   have Js:Ext [Ab,Aa] w Ge:=B1.trans (Ext.any (Y:=[Ab,Aa]) C3)
   have Cn:Ext [Ab,Aa] Au Ge:=Ap.trans (Ext.any (Y:=[Ab,Aa]) C3)
   have Gk:Ext [Ab,Aa] Ad Ge:=(Ext.any (Y:=[Ab,Aa]) C3)
   have Gl:=C1.ext C3 (by simp)
   have Fa:=C2.ext C3 (by simp)
   have Jt:M0 49 = (.bool (!(seqB (hardB p) (hardB q))):Value):=Jr 4 (of_decide_eq_true (by kernel_rfl))
   refine WP.condn (t:=seqB (hardB p) (hardB q)) Jt (fun Ju=>?_) (fun Ju=>?_)
   rotate_left
   ·refine WP.skip ?_
    exact ⟨((Ar 0 (by kernel_rfl)).trans h0),((Ar 1 (by kernel_rfl)).trans h1),((Ar 2 (by kernel_rfl)).trans rfl),((Ar 3 (by kernel_rfl)).trans rfl),((Ar 44 (by kernel_rfl)).trans rfl),Gk,Gl,Fa,⟨(by rw [((Ar 6 (by kernel_rfl)).trans rfl)]; exact (Owns.castE (by first | (rw [hardL,if_pos (by assumption)]; first | done | rfl) | (rw [hardL,if_pos (by assumption),List.append_nil]; done) | (rw [hardL,if_neg (by first | assumption | (simp [*]; done))]; first | done | rfl) | (rw [hardL,if_neg (by first | assumption | (simp [*]; done)),List.append_nil]; done)) Owns.nil)),(by rw [((Ar 6 (by kernel_rfl)).trans rfl)]; exact (nil_block rfl))⟩⟩
   refine WP.region ?_
   refine WL.m rfl ?_
   refine WL.z (.agg (peerA q Af Ag Ah Ai Aj Ak)) (V.loadAgg (x:=.tmp 3) (cs:=(peerC q Af Ag Ah Ai Aj Ak)) rfl a29 ((Ar 3 (by kernel_rfl)).trans rfl) (At.box Fa) rfl) ?_
   refine WL.c (Sure.none rfl) rfl (C.call1 rfl cl19 rfl) (Fnc.mono (keep_hard (p:=q) ⟨Af,Ag,Ah,Ai,Aj,Ak,rfl,(Cs.ext (Ext.pre Cn)),(Ct.ext (Ext.pre Cn)),(Cu.ext (Ext.pre Cn)),(Cv.ext (Ext.pre Cn)),(Cw.ext (Ext.pre Cn)),(Cx.ext (Ext.pre Cn)),Cg⟩ (by assumption) (by assumption)) ?_)
   rintro _ Dg ⟨rfl,Dp⟩
   have Gm:Ext [Ab,Aa] w Dg:=Js.trans (Ext.any (Y:=[Ab,Aa]) Dp)
   have Gn:Ext [Ab,Aa] Ad Dg:=Gk.trans (Ext.any (Y:=[Ab,Aa]) Dp)
   have Gp:=Gl.ext Dp (by simp)
   have Gq:=Fa.ext Dp (by simp)
   refine WL.lit (R:=strR) (X:=(Ab :: (Aa :: X))) (vs:=[.string (hardB q)]) (xs:=[(hardB q)]) (Sure.none rfl) rfl rfl u33 e9 (by show 0 < (1:Nat); decide) (by show _ * (1:Nat) ≤ 1024; decide) rfl rfl rfl (by intro i v x hv hx; match i,hv,hx with | 0,rfl,rfl=>exact ⟨rfl,by first | (simp only [maxLen,ByteArray.size_append]; omega) | (simp [maxLen]; omega)⟩ | i + 1,hv,_=>simp at hv) (fun M1 Gf C4 Jv hlit161=>?_)
   have Ja:∀ g,(M1).ownBlock = some g → g ∉ (Ab :: (Aa :: X)):=by intro g hg hm; have h1:=hlit161 g hg; have h2:=(inCons Gq.lt (inCons Gp.lt (inMono hX Gm.size))) g hm; omega
   have Fy:Ad.heap.size ≤ Dg.heap.size:=Gn.size
   have Jw:Ext [Ab,Aa] w Gf:=Gm.trans (Ext.any (Y:=[Ab,Aa]) C4)
   have Jx:Ext [Ab,Aa] Ad Gf:=Gn.trans (Ext.any (Y:=[Ab,Aa]) C4)
   have Jy:Ext [Ab,Aa] Dg Gf:=(Ext.any (Y:=[Ab,Aa]) C4)
   have Gr:=Gp.ext C4 (by simp)
   have Gs:=Gq.ext C4 (by simp)
   have Jz:=Jv.low (B':=Dg.heap.size) (Nat.le_refl _)
   refine WL.appendOwn (x:=.tmp 50) (R:=strR) (X:=(Ab :: (Aa :: X))) (B:=Dg.heap.size) (xs:=[]) (ys:=[(hardB q)]) (Sure.none rfl) rfl rfl u33 e9 rfl (by show 0 < (1:Nat); decide) ((Ar 6 (by kernel_rfl)).trans rfl) rfl (Owns.nil' (v:=.slice none 0 0) rfl) (Owns.sl' Jz Ja) (fun g hg=>by cases hg) Jy.size (by first | omega | (simp only [List.length_cons,List.length_nil,List.length_append]; omega)) (by first | (simp only [maxLen]; omega) | (simp only [List.length_cons,List.length_nil,List.length_append,maxLen]; omega)) (fun Oz O0 Fb Fc hf181=>?_)
   have Jb:=after_no hf181 (nil_block (v:=.slice none 0 0) rfl) (inCons Gs.lt (inCons Gr.lt (inMono hX Jw.size)))
   have J0:=Ext.ownB (Jx) Fc (fun k hk=>by cases hk) Fy
   have J1:=Gr.grown Fc (fun g hg e=>by cases hg)
   have J2:=Gs.grown Fc (fun g hg e=>by cases hg)
   have Fb:=Fb.castE (List.nil_append _)
   refine WL.m rfl ?_
   refine WL.nil ?_
   exact ⟨((Ar 0 (by kernel_rfl)).trans h0),((Ar 1 (by kernel_rfl)).trans h1),((Ar 2 (by kernel_rfl)).trans rfl),((Ar 3 (by kernel_rfl)).trans rfl),((Ar 44 (by kernel_rfl)).trans rfl),J0,J1,J2,⟨(Owns.castE (by first | (rw [hardL,if_pos (by assumption)]; first | done | rfl) | (rw [hardL,if_pos (by assumption),List.append_nil]; done) | (rw [hardL,if_neg (by first | assumption | (simp [*]; done))]; first | done | rfl) | (rw [hardL,if_neg (by first | assumption | (simp [*]; done)),List.append_nil]; done)) (Fb.low (B':=Ad.heap.size) Fy)),Jb⟩⟩
 rintro Ch B2 ⟨Jc,Jd,Fz,Dt,Ip,Dq,hbb63_191,hbb81_191,⟨Iq,Gg⟩⟩
 have J3:Ext [Ab,Aa] w B2:=B1.trans Dq
 have B3:Ext [Ab,Aa] Au B2:=Ap.trans Dq
 have J4:Ext [Ab,Aa] Ao B2:=Gj.trans Dq
 have J5:Ext [Ab,Aa] Ad B2:=Dq
 refine WP.sr ?_
 refine WL.f (x:=.tmp 3) (.int .u64 (q.Base)) fl29_6 Dt p23 (hbb81_191.cell rfl) ?_
 refine WL.z (.int .u64 (q.Base + 1)) (V.arith rfl rfl rfl rfl (wrap_u64 (by omega) (by omega))) ?_
 refine WL.m rfl ?_
 refine WL.nil ?_
 refine WP.sr ?_
 refine WL.z (.agg (peerA p v1 v3 v5 v7 v9 Al)) (V.loadAgg (x:=.tmp 2) (cs:=(peerC p v1 v3 v5 v7 v9 Al)) rfl a29 Fz (At.box hbb63_191) rfl) ?_
 refine WL.f (x:=.tmp 3) (.int .u64 (q.Base)) fl29_6 Dt p23 (hbb81_191.cell rfl) ?_
 refine WL.c (Sure.none rfl) rfl (C.call2 rfl cl20 rfl rfl) (Fnc.mono (vote_Term (p:=p) ⟨v1,v3,v5,v7,v9,Al,rfl,(Da.ext (Ext.pre B3)),(Db.ext (Ext.pre B3)),(Dc.ext (Ext.pre B3)),(Dd.ext (Ext.pre B3)),(De.ext (Ext.pre B3)),(Df.ext (Ext.pre B3)),Cr⟩ q.Base (by omega) (by omega)) ?_)
 rintro _ Fd ⟨rfl,B4⟩
 have J6:Ext [Ab,Aa] w Fd:=J3.trans (Ext.any (Y:=[Ab,Aa]) B4)
 have J7:Ext [Ab,Aa] Au Fd:=B3.trans (Ext.any (Y:=[Ab,Aa]) B4)
 have J8:Ext [Ab,Aa] Ao Fd:=J4.trans (Ext.any (Y:=[Ab,Aa]) B4)
 have J9:Ext [Ab,Aa] Ad Fd:=J5.trans (Ext.any (Y:=[Ab,Aa]) B4)
 have Ka:=hbb63_191.ext B4 (by simp)
 have Kb:=hbb81_191.ext B4 (by simp)
 have Kc:=Iq.keep B4 (by intro g hg hm; simp at hm) (by simp)
 refine WL.m rfl ?_
 refine WL.z (.int .u64 (termOf p q.Base)) (V.extract rfl rfl rfl) ?_
 refine WL.z (.bool (termIs p q.Base)) (V.extract rfl rfl rfl) ?_
 refine WL.m rfl ?_
 refine WL.m rfl ?_
 refine WL.nil ?_
 refine WP.seq_cut (fun Bq Ci=>Bq 0 = .agg (peerA p v1 v3 v5 v7 v9 Al) ∧ Bq 1 = .agg (peerA q Af Ag Ah Ai Aj Ak) ∧ Bq 2 = .pointer (some ⟨Aa,0,none⟩) ∧ Bq 3 = .pointer (some ⟨Ab,0,none⟩) ∧ Bq 8 = .int .u64 (termOf p q.Base) ∧ Bq 9 = .bool (termIs p q.Base) ∧ Bq 44 = .bool (decide (q.Term < p.Term)) ∧ Bq 7 = .int .u64 (diffF p q) ∧ Ext [Ab,Aa] w Ci ∧ Ext [Ab,Aa] Au Ci ∧ Ext [Ab,Aa] Ao Ci ∧ Ext [Ab,Aa] Ad Ci ∧ Box Ci Aa 29 (peerC p v1 v3 v5 v7 v9 Al) ∧ Box Ci Ab 29 (peerC q Af Ag Ah Ai Aj Ak) ∧ (Owns strR 9 Ad.heap.size (Ab :: (Aa :: X)) Ci (Bq 6) (hardL p q) ∧ (∀ g,(Bq 6).ownBlock = some g → g ∉ (Ab :: (Aa :: X))))) ?_ ?_
 ·refine WP.block ?_
  refine WP.loop (σ:=Nat) (fun k Bb Cj=>Bb 0 = .agg (peerA p v1 v3 v5 v7 v9 Al) ∧ Bb 1 = .agg (peerA q Af Ag Ah Ai Aj Ak) ∧ Bb 2 = .pointer (some ⟨Aa,0,none⟩) ∧ Bb 3 = .pointer (some ⟨Ab,0,none⟩) ∧ Bb 7 = .int .u64 (q.Base + 1 + (k:Int)) ∧ Bb 8 = .int .u64 (termOf p q.Base) ∧ Bb 9 = .bool (termIs p q.Base) ∧ Bb 44 = .bool (decide (q.Term < p.Term)) ∧ Ext [Ab,Aa] w Cj ∧ Ext [Ab,Aa] Au Cj ∧ Ext [Ab,Aa] Ao Cj ∧ Ext [Ab,Aa] Ad Cj ∧ Box Cj Aa 29 (peerC p v1 v3 v5 v7 v9 Al) ∧ Box Cj Ab 29 (peerC q Af Ag Ah Ai Aj Ak) ∧ (Owns strR 9 Ad.heap.size (Ab :: (Aa :: X)) Cj (Bb 6) (hardL p q) ∧ (∀ g,(Bb 6).ownBlock = some g → g ∉ (Ab :: (Aa :: X)))) ∧ k ≤ p.Log.length ∧ (k = 0 ∨ condD p q = true) ∧ ∀ j,j < k → stepOk p q j = true) (fun k=>p.Log.length + 1 - k) (0) ?_ ?_
  ·exact ⟨Jc,Jd,Fz,Dt,(int_eq (by omega)),rfl,rfl,Ip,J6,J7,J8,J9,Ka,Kb,⟨(Owns.castE (by rfl) Kc),Gg⟩,(Nat.zero_le _),(.inl rfl),(fun j hj=>by omega)⟩
  rintro k Bb Cj ⟨By,Bz,Br,Bi,Bj,Bs,Bt,Bo,Co,Av,Dh,Di,hbb63_220,hbb81_220,⟨Dj,Cy⟩,M7,M8,M9⟩
  refine WP.seq ?_
  refine WP.sr ?_
  refine WL.m rfl ?_
  refine WL.vb (c:=termIs p q.Base) (Sure.none rfl) rfl (V.move (x:=.tmp 65) rfl Bt) (fun Gt=>?_) (fun Gt=>?_)
  rotate_left
  ·refine WL.skips [(66,some false)] [(71,some false)] (kc (some false) rfl kn) (by kernel_rfl) (fun O1 hK363 Bd=>?_)
   refine WP.cond_false (hK363 71 (some false) rfl) ?_
   refine WP.exit ?_
   exact ⟨((Bd 0 rfl).trans By),((Bd 1 rfl).trans Bz),((Bd 2 rfl).trans Br),((Bd 3 rfl).trans Bi),((Bd 8 rfl).trans Bs),((Bd 9 rfl).trans Bt),((Bd 44 rfl).trans Bo),(Eq.trans ((Bd 7 rfl).trans Bj) (int_eq (by first | exact diff_out (by assumption) (condD_no1 (by assumption)) | exact diff_out (by assumption) (condD_no2 (by assumption)) | exact diff_in hcd (by assumption) (stepOk_no1 (by assumption)) | exact diff_in hcd (by assumption) (stepOk_no2 (by assumption)) | exact diff_in hcd (by assumption) (stepOk_no3 (by assumption))))),Co,Av,Dh,Di,hbb63_220,hbb81_220,⟨(by rw [(Bd 6 rfl)]; exact (Owns.castE (by rfl) Dj)),(by rw [(Bd 6 rfl)]; exact Cy)⟩⟩
  refine WL.my rfl rfl ?_
  refine WL.fy (x:=.tmp 3) (.int .u64 (q.BaseTerm)) rfl fl29_7 Bi p23 (hbb81_220.cell rfl) ?_
  refine WL.y (.bool (decide ((termOf p q.Base) = q.BaseTerm))) rfl (V.cmp (x:=.tmp 67) rfl Bs rfl rfl) ?_
  refine WL.k (a:=true) rfl rfl ?_
  refine WL.nil ?_
  refine WP.condp (t:=(termOf p q.Base) = q.BaseTerm) rfl (fun Gu=>?_) (fun Gu=>?_)
  rotate_left
  ·refine WP.exit ?_
   exact ⟨By,Bz,Br,Bi,Bs,Bt,Bo,(Eq.trans Bj (int_eq (by first | exact diff_out (by assumption) (condD_no1 (by assumption)) | exact diff_out (by assumption) (condD_no2 (by assumption)) | exact diff_in hcd (by assumption) (stepOk_no1 (by assumption)) | exact diff_in hcd (by assumption) (stepOk_no2 (by assumption)) | exact diff_in hcd (by assumption) (stepOk_no3 (by assumption))))),Co,Av,Dh,Di,hbb63_220,hbb81_220,⟨(Owns.castE (by rfl) Dj),Cy⟩⟩
  refine WP.skip ?_
  refine WP.block ?_
  refine WP.sr ?_
  have hcd:condD p q = true:=condD_yes Gt Gu
  refine WL.z (.agg (peerA p v1 v3 v5 v7 v9 Al)) (V.loadAgg (x:=.tmp 2) (cs:=(peerC p v1 v3 v5 v7 v9 Al)) rfl a29 Br (At.box hbb63_220) rfl) ?_
  refine WL.m rfl ?_
  refine WL.c (Sure.none rfl) rfl (C.call2 (y:=.tmp 74) rfl cl21 rfl Bj) (Fnc.mono (keep_entry (p:=p) ⟨v1,v3,v5,v7,v9,Al,rfl,(Da.ext (Ext.pre Av)),(Db.ext (Ext.pre Av)),(Dc.ext (Ext.pre Av)),(Dd.ext (Ext.pre Av)),(De.ext (Ext.pre Av)),(Df.ext (Ext.pre Av)),Cr⟩ (q.Base + 1 + (k:Int)) (by omega) (by omega) (X:=(Ab :: (Aa :: X))) (inCons hbb81_220.lt (inCons hbb63_220.lt (inMono hX Co.size)))) ?_)
  rintro _ Fe ⟨Ol,rfl,Kd,B5⟩
  have Gv:Ext [Ab,Aa] w Fe:=Co.trans (Ext.any (Y:=[Ab,Aa]) B5)
  have Bv:Ext [Ab,Aa] Au Fe:=Av.trans (Ext.any (Y:=[Ab,Aa]) B5)
  have Gw:Ext [Ab,Aa] Ao Fe:=Dh.trans (Ext.any (Y:=[Ab,Aa]) B5)
  have Gx:Ext [Ab,Aa] Ad Fe:=Di.trans (Ext.any (Y:=[Ab,Aa]) B5)
  have Gy:=hbb63_220.ext B5 (by simp)
  have Gz:=hbb81_220.ext B5 (by simp)
  have G0:=Dj.keep B5 (by intro g hg hm; simp at hm) (by simp)
  obtain ⟨Dk,rfl,Ke,G1⟩:=Kd
  obtain ⟨Nf,Ng,Nh⟩:=(show EntryD.InR (entAt p (q.Base + 1 + (k:Int))) from G1)
  refine WL.m rfl ?_
  refine WL.z (.agg #[.int .u64 ((entAt p (q.Base + 1 + (k:Int))).Term),.int .u8 ((entAt p (q.Base + 1 + (k:Int))).Kind),.string ((entAt p (q.Base + 1 + (k:Int))).Data),Dk]) (V.extract rfl rfl rfl) ?_
  refine WL.z (.bool (entIs p (q.Base + 1 + (k:Int)))) (V.extract rfl rfl rfl) ?_
  refine WL.alloc (cs:=[.int .u64 (0),.int .u8 (0),.string (ByteArray.mk #[]),.slice none 0 0]) (Sure.none rfl) rfl rfl z48 rfl (fun Ac Je As Om Kf=>?_)
  have Jm:Aa < Ac:=by have:=Gy.lt; omega
  have Kg:=Gy.ext As (by simp)
  have Jn:Ab < Ac:=by have:=Gz.lt; omega
  have Kh:=Gz.ext As (by simp)
  have Ki:=(Owns.new (b:=Ac) G0 (by omega)).keep As (by intro g hg hm; simp at hm) (by simp)
  have F0:∀ g,(Bb 6).ownBlock = some g → g ∉ (Ac :: (Ab :: (Aa :: X))):=fun g hg hm=>(List.mem_cons.1 hm).elim (fun h=>by have:=(G0.lt g hg).2; omega) (fun h=>Cy g hg h)
  have Kj:=(Sl.new (b:=Ac) nz1 (Cs.ext (Ext.pre Bv)) (by omega)).ext (Ext.any As)
  have Kk:=(Sl.new (b:=Ac) nz1 (Ct.ext (Ext.pre Bv)) (by omega)).ext (Ext.any As)
  have Kl:=(Sl.new (b:=Ac) nz4 (Cu.ext (Ext.pre Bv)) (by omega)).ext (Ext.any As)
  have Km:=(Sl.new (b:=Ac) nz1 (Cv.ext (Ext.pre Bv)) (by omega)).ext (Ext.any As)
  have Kn:=(Sl.new (b:=Ac) nz3 (Cw.ext (Ext.pre Bv)) (by omega)).ext (Ext.any As)
  have Ko:=(Sl.new (b:=Ac) nz3 (Cx.ext (Ext.pre Bv)) (by omega)).ext (Ext.any As)
  have Kq:=(Sl.new (b:=Ac) nz1 Ke (by omega)).ext (Ext.any As)
  have Kr:Ext [Ac,Ab,Aa] _ _:=(Ext.cons Gv).trans (Ext.any As)
  have Ks:Ext [Ac,Ab,Aa] _ _:=(Ext.cons Bv).trans (Ext.any As)
  have Kt:Ext [Ac,Ab,Aa] _ _:=(Ext.cons Gw).trans (Ext.any As)
  have Ku:Ext [Ac,Ab,Aa] _ _:=(Ext.cons Gx).trans (Ext.any As)
  have Bm:w.heap.size ≤ Ac:=by have:=Gv.size; omega
  have A8:Au.heap.size ≤ Ac:=by have:=Bv.size; omega
  have Aw:Ao.heap.size ≤ Ac:=by have:=Gw.size; omega
  have Ax:Ad.heap.size ≤ Ac:=by have:=Gx.size; omega
  refine WL.storeAgg (vs:=[.int .u64 ((entAt p (q.Base + 1 + (k:Int))).Term),.int .u8 ((entAt p (q.Base + 1 + (k:Int))).Kind),.string ((entAt p (q.Base + 1 + (k:Int))).Data),Dk]) (Sure.none rfl) rfl rfl s48 rfl rfl rfl (by intro u hu; simp only [List.mem_cons,List.not_mem_nil,or_false] at hu; rcases hu with rfl | rfl | rfl | rfl <;> first | rfl | exact Sl.one (by assumption)) Kf (by show (0:Nat) + 4 ≤ 4; decide) (fun Dl Bw Dr=>?_)
  replace Dr:Box Dl Ac 48 [.int .u64 ((entAt p (q.Base + 1 + (k:Int))).Term),.int .u8 ((entAt p (q.Base + 1 + (k:Int))).Kind),.string ((entAt p (q.Base + 1 + (k:Int))).Data),Dk]:=Dr
  have G2:=Kg.ext Bw (by simp; omega)
  have Ff:=Kh.ext Bw (by simp; omega)
  have G3:Ext [Ac,Ab,Aa] w Dl:=Kr.trans (Bw.mono (by simp))
  have Kv:Ext [Ac,Ab,Aa] Au Dl:=Ks.trans (Bw.mono (by simp))
  have Kw:Ext [Ac,Ab,Aa] Ao Dl:=Kt.trans (Bw.mono (by simp))
  have Kx:Ext [Ac,Ab,Aa] Ad Dl:=Ku.trans (Bw.mono (by simp))
  have B6:Ext [Ac,Ab,Aa] Je Dl:=(Bw.mono (by simp))
  have Ky:=Owns.keep (Y:=[Ac,Ab,Aa]) Ki (Bw.mono (by simp)) (fun g hg hm=>F0 g hg (mem_pre (O:=[Ac,Ab,Aa]) (X:=X) hm)) (fun b hb=>mem_pre (O:=[Ac,Ab,Aa]) (X:=X) hb)
  refine WL.m rfl ?_
  refine WL.nil ?_
  refine WP.sr ?_
  refine WL.z (.agg (peerA q Af Ag Ah Ai Aj Ak)) (V.loadAgg (x:=.tmp 3) (cs:=(peerC q Af Ag Ah Ai Aj Ak)) rfl a29 Bi (At.box Ff) rfl) ?_
  refine WL.m rfl ?_
  refine WL.c (Sure.none rfl) rfl (C.call2 (y:=.tmp 80) rfl cl21 rfl Bj) (Fnc.mono (keep_entry (p:=q) ⟨Af,Ag,Ah,Ai,Aj,Ak,rfl,(Kj.ext (Ext.pre B6)),(Kk.ext (Ext.pre B6)),(Kl.ext (Ext.pre B6)),(Km.ext (Ext.pre B6)),(Kn.ext (Ext.pre B6)),(Ko.ext (Ext.pre B6)),Cg⟩ (q.Base + 1 + (k:Int)) (by omega) (by omega) (X:=(Ac :: (Ab :: (Aa :: X)))) (inCons Dr.lt (inCons Ff.lt (inCons G2.lt (inMono hX G3.size))))) ?_)
  rintro _ Du ⟨On,rfl,Kz,Bk⟩
  have G4:Ext [Ac,Ab,Aa] w Du:=G3.trans (Ext.any (Y:=[Ac,Ab,Aa]) Bk)
  have G5:Ext [Ac,Ab,Aa] Au Du:=Kv.trans (Ext.any (Y:=[Ac,Ab,Aa]) Bk)
  have G6:Ext [Ac,Ab,Aa] Ao Du:=Kw.trans (Ext.any (Y:=[Ac,Ab,Aa]) Bk)
  have G7:Ext [Ac,Ab,Aa] Ad Du:=Kx.trans (Ext.any (Y:=[Ac,Ab,Aa]) Bk)
  have K0:Ext [Ac,Ab,Aa] Je Du:=B6.trans (Ext.any (Y:=[Ac,Ab,Aa]) Bk)
  have G8:=G2.ext Bk (by simp)
  have G9:=Ff.ext Bk (by simp)
  have Ha:=Dr.ext Bk (by simp)
  have Hb:=Ky.keep Bk (by intro g hg hm; simp at hm) (by simp)
  obtain ⟨Dm,rfl,K1,Hc⟩:=Kz
  obtain ⟨Ni,Nj,Nk⟩:=(show EntryD.InR (entAt q (q.Base + 1 + (k:Int))) from Hc)
  refine WL.m rfl ?_
  refine WL.z (.agg #[.int .u64 ((entAt q (q.Base + 1 + (k:Int))).Term),.int .u8 ((entAt q (q.Base + 1 + (k:Int))).Kind),.string ((entAt q (q.Base + 1 + (k:Int))).Data),Dm]) (V.extract rfl rfl rfl) ?_
  refine WL.z (.bool (entIs q (q.Base + 1 + (k:Int)))) (V.extract rfl rfl rfl) ?_
  refine WL.alloc (cs:=[.int .u64 (0),.int .u8 (0),.string (ByteArray.mk #[]),.slice none 0 0]) (Sure.none rfl) rfl rfl z48 rfl (fun Ae M2 Be Oo K2=>?_)
  have Jo:Aa < Ae:=by have:=G8.lt; omega
  have K3:=G8.ext Be (by simp)
  have Jp:Ab < Ae:=by have:=G9.lt; omega
  have K4:=G9.ext Be (by simp)
  have I0:Ac < Ae:=by have:=Ha.lt; omega
  have K5:=Ha.ext Be (by simp)
  have K6:=(Owns.new (b:=Ae) Hb (by omega)).keep Be (by intro g hg hm; simp at hm) (by simp)
  have Ck:∀ g,(Bb 6).ownBlock = some g → g ∉ (Ae :: (Ac :: (Ab :: (Aa :: X)))):=fun g hg hm=>(List.mem_cons.1 hm).elim (fun h=>by have:=(Hb.lt g hg).2; omega) (fun h=>F0 g hg h)
  have K7:=(Sl.new (b:=Ae) nz1 (Kq.ext (Ext.pre K0)) (by omega)).ext (Ext.any Be)
  have K8:=(Sl.new (b:=Ae) nz1 K1 (by omega)).ext (Ext.any Be)
  have K9:Ext [Ae,Ac,Ab,Aa] _ _:=(Ext.cons G4).trans (Ext.any Be)
  have La:Ext [Ae,Ac,Ab,Aa] _ _:=(Ext.cons G5).trans (Ext.any Be)
  have Lb:Ext [Ae,Ac,Ab,Aa] _ _:=(Ext.cons G6).trans (Ext.any Be)
  have Lc:Ext [Ae,Ac,Ab,Aa] _ _:=(Ext.cons G7).trans (Ext.any Be)
  have Bn:w.heap.size ≤ Ae:=by have:=G4.size; omega
  have A9:Au.heap.size ≤ Ae:=by have:=G5.size; omega
  have Ay:Ao.heap.size ≤ Ae:=by have:=G6.size; omega
  have Az:Ad.heap.size ≤ Ae:=by have:=G7.size; omega
  refine WL.storeAgg (vs:=[.int .u64 ((entAt q (q.Base + 1 + (k:Int))).Term),.int .u8 ((entAt q (q.Base + 1 + (k:Int))).Kind),.string ((entAt q (q.Base + 1 + (k:Int))).Data),Dm]) (Sure.none rfl) rfl rfl s48 rfl rfl rfl (by intro u hu; simp only [List.mem_cons,List.not_mem_nil,or_false] at hu; rcases hu with rfl | rfl | rfl | rfl <;> first | rfl | exact Sl.one (by assumption)) K2 (by show (0:Nat) + 4 ≤ 4; decide) (fun Dn Bl Fg=>?_)
  replace Fg:Box Dn Ae 48 [.int .u64 ((entAt q (q.Base + 1 + (k:Int))).Term),.int .u8 ((entAt q (q.Base + 1 + (k:Int))).Kind),.string ((entAt q (q.Base + 1 + (k:Int))).Data),Dm]:=Fg
  have Fh:=K3.ext Bl (by simp; omega)
  have Fi:=K4.ext Bl (by simp; omega)
  have Ld:=K5.ext Bl (by simp; omega)
  have Fj:Ext [Ae,Ac,Ab,Aa] w Dn:=K9.trans (Bl.mono (by simp))
  have Fk:Ext [Ae,Ac,Ab,Aa] Au Dn:=La.trans (Bl.mono (by simp))
  have Fl:Ext [Ae,Ac,Ab,Aa] Ao Dn:=Lb.trans (Bl.mono (by simp))
  have Fm:Ext [Ae,Ac,Ab,Aa] Ad Dn:=Lc.trans (Bl.mono (by simp))
  have Hd:Ext [Ae,Ac,Ab,Aa] M2 Dn:=(Bl.mono (by simp))
  have Fo:=Owns.keep (Y:=[Ae,Ac,Ab,Aa]) K6 (Bl.mono (by simp)) (fun g hg hm=>Ck g hg (mem_pre (O:=[Ae,Ac,Ab,Aa]) (X:=X) hm)) (fun b hb=>mem_pre (O:=[Ae,Ac,Ab,Aa]) (X:=X) hb)
  refine WL.m rfl ?_
  refine WL.nil ?_
  refine WP.seq ?_
  refine WP.sr ?_
  refine WL.m rfl ?_
  refine WL.z (.bool (!(entIs p (q.Base + 1 + (k:Int))))) (V.not rfl rfl) ?_
  refine WL.vbn (c:=entIs p (q.Base + 1 + (k:Int))) (Sure.none rfl) rfl (V.move rfl rfl) (fun He=>?_) (fun He=>?_)
  ·refine WL.skips [(86,some true)] [(95,some true)] (kc (some true) rfl kn) (by kernel_rfl) (fun O2 hK342 Bf=>?_)
   refine WP.cond_true (hK342 95 (some true) rfl) ?_
   refine WP.exit ?_
   exact ⟨((Bf 0 rfl).trans By),((Bf 1 rfl).trans Bz),((Bf 2 rfl).trans Br),((Bf 3 rfl).trans Bi),((Bf 8 rfl).trans Bs),((Bf 9 rfl).trans Bt),((Bf 44 rfl).trans Bo),(Eq.trans ((Bf 7 rfl).trans Bj) (int_eq (by first | exact diff_out (by assumption) (condD_no1 (by assumption)) | exact diff_out (by assumption) (condD_no2 (by assumption)) | exact diff_in hcd (by assumption) (stepOk_no1 (by assumption)) | exact diff_in hcd (by assumption) (stepOk_no2 (by assumption)) | exact diff_in hcd (by assumption) (stepOk_no3 (by assumption))))),(Ext.drop (Ext.drop Fj Bn) Bm),(Ext.drop (Ext.drop Fk A9) A8),(Ext.drop (Ext.drop Fl Ay) Aw),(Ext.drop (Ext.drop Fm Az) Ax),Fh,Fi,⟨(by rw [(Bf 6 rfl)]; exact (Owns.castE (by rfl) (Owns.base (O:=[Ae,Ac]) Fo))),(by rw [(Bf 6 rfl)]; exact (base_no (O:=[Ae,Ac]) Ck))⟩⟩
  refine WL.my rfl rfl ?_
  refine WL.y (.bool (!(entIs q (q.Base + 1 + (k:Int))))) rfl (V.not rfl rfl) ?_
  refine WL.k (a:=false) rfl rfl ?_
  refine WL.vbn (c:=entIs q (q.Base + 1 + (k:Int))) (Sure.none rfl) rfl (V.move rfl rfl) (fun Hf=>?_) (fun Hf=>?_)
  ·refine WL.skips [(90,some true)] [(95,some true)] (kc (some true) rfl kn) (by kernel_rfl) (fun O3 hK346 Bg=>?_)
   refine WP.cond_true (hK346 95 (some true) rfl) ?_
   refine WP.exit ?_
   exact ⟨((Bg 0 rfl).trans By),((Bg 1 rfl).trans Bz),((Bg 2 rfl).trans Br),((Bg 3 rfl).trans Bi),((Bg 8 rfl).trans Bs),((Bg 9 rfl).trans Bt),((Bg 44 rfl).trans Bo),(Eq.trans ((Bg 7 rfl).trans Bj) (int_eq (by first | exact diff_out (by assumption) (condD_no1 (by assumption)) | exact diff_out (by assumption) (condD_no2 (by assumption)) | exact diff_in hcd (by assumption) (stepOk_no1 (by assumption)) | exact diff_in hcd (by assumption) (stepOk_no2 (by assumption)) | exact diff_in hcd (by assumption) (stepOk_no3 (by assumption))))),(Ext.drop (Ext.drop Fj Bn) Bm),(Ext.drop (Ext.drop Fk A9) A8),(Ext.drop (Ext.drop Fl Ay) Aw),(Ext.drop (Ext.drop Fm Az) Ax),Fh,Fi,⟨(by rw [(Bg 6 rfl)]; exact (Owns.castE (by rfl) (Owns.base (O:=[Ae,Ac]) Fo))),(by rw [(Bg 6 rfl)]; exact (base_no (O:=[Ae,Ac]) Ck))⟩⟩
  refine WL.y (.agg #[.int .u64 ((entAt p (q.Base + 1 + (k:Int))).Term),.int .u8 ((entAt p (q.Base + 1 + (k:Int))).Kind),.string ((entAt p (q.Base + 1 + (k:Int))).Data),Dk]) rfl (V.loadAgg (cs:=[.int .u64 ((entAt p (q.Base + 1 + (k:Int))).Term),.int .u8 ((entAt p (q.Base + 1 + (k:Int))).Kind),.string ((entAt p (q.Base + 1 + (k:Int))).Data),Dk]) rfl a48 rfl (At.box Ld) rfl) ?_
  refine WL.y (.agg #[.int .u64 ((entAt q (q.Base + 1 + (k:Int))).Term),.int .u8 ((entAt q (q.Base + 1 + (k:Int))).Kind),.string ((entAt q (q.Base + 1 + (k:Int))).Data),Dm]) rfl (V.loadAgg (cs:=[.int .u64 ((entAt q (q.Base + 1 + (k:Int))).Term),.int .u8 ((entAt q (q.Base + 1 + (k:Int))).Kind),.string ((entAt q (q.Base + 1 + (k:Int))).Data),Dm]) rfl a48 rfl (At.box Fg) rfl) ?_
  refine WL.c (Sure.yes rfl rfl rfl) rfl (C.call2 rfl cl22 rfl rfl) (Fnc.mono (keep_same (a:=(entAt p (q.Base + 1 + (k:Int)))) ⟨Dk,rfl,(K7.ext (Ext.pre Hd)),G1⟩ (b:=(entAt q (q.Base + 1 + (k:Int)))) ⟨Dm,rfl,(K8.ext (Ext.pre Hd)),Hc⟩) ?_)
  rintro _ Fp ⟨rfl,B7⟩
  have Hg:Ext [Ae,Ac,Ab,Aa] w Fp:=Fj.trans (Ext.any (Y:=[Ae,Ac,Ab,Aa]) B7)
  have Hh:Ext [Ae,Ac,Ab,Aa] Au Fp:=Fk.trans (Ext.any (Y:=[Ae,Ac,Ab,Aa]) B7)
  have Hi:Ext [Ae,Ac,Ab,Aa] Ao Fp:=Fl.trans (Ext.any (Y:=[Ae,Ac,Ab,Aa]) B7)
  have Hj:Ext [Ae,Ac,Ab,Aa] Ad Fp:=Fm.trans (Ext.any (Y:=[Ae,Ac,Ab,Aa]) B7)
  have Hk:=Fh.ext B7 (by simp)
  have Hl:=Fi.ext B7 (by simp)
  have Hm:=Fo.keep B7 (by intro g hg hm; simp at hm) (by simp)
  refine WL.y (.bool (!(sameEntB (entAt p (q.Base + 1 + (k:Int))) (entAt q (q.Base + 1 + (k:Int)))))) rfl (V.not rfl rfl) ?_
  refine WL.k (a:=false) rfl rfl ?_
  refine WL.nil ?_
  refine WP.condn (t:=sameEntB (entAt p (q.Base + 1 + (k:Int))) (entAt q (q.Base + 1 + (k:Int)))) rfl (fun Hn=>?_) (fun Hn=>?_)
  ·refine WP.exit ?_
   exact ⟨By,Bz,Br,Bi,Bs,Bt,Bo,(Eq.trans Bj (int_eq (by first | exact diff_out (by assumption) (condD_no1 (by assumption)) | exact diff_out (by assumption) (condD_no2 (by assumption)) | exact diff_in hcd (by assumption) (stepOk_no1 (by assumption)) | exact diff_in hcd (by assumption) (stepOk_no2 (by assumption)) | exact diff_in hcd (by assumption) (stepOk_no3 (by assumption))))),(Ext.drop (Ext.drop Hg Bn) Bm),(Ext.drop (Ext.drop Hh A9) A8),(Ext.drop (Ext.drop Hi Ay) Aw),(Ext.drop (Ext.drop Hj Az) Ax),Hk,Hl,⟨(Owns.castE (by rfl) (Owns.base (O:=[Ae,Ac]) Hm)),(base_no (O:=[Ae,Ac]) Ck)⟩⟩
  refine WP.skip ?_
  refine WP.region ?_
  have hst:stepOk p q k = true:=stepOk_yes He Hf Hn
  refine WL.m rfl ?_
  refine WL.z (.int .u64 ((q.Base + 1 + (k:Int)) + 1)) (V.arith (x:=.tmp 96) rfl Bj rfl rfl (wrap_u64 (by omega) (by omega))) ?_
  refine WL.m rfl ?_
  refine WL.nil ?_
  exact ⟨k + 1,⟨By,Bz,Br,Bi,(int_eq (by omega)),Bs,Bt,Bo,(Ext.drop (Ext.drop Hg Bn) Bm),(Ext.drop (Ext.drop Hh A9) A8),(Ext.drop (Ext.drop Hi Ay) Aw),(Ext.drop (Ext.drop Hj Az) Ax),Hk,Hl,⟨(Owns.castE (by rfl) (Owns.base (O:=[Ae,Ac]) Hm)),(base_no (O:=[Ae,Ac]) Ck)⟩,(step_le (steps_go (by assumption) hst)),(.inr hcd),(steps_go (by assumption) hst)⟩,(by omega)⟩
 rintro Bq Ci ⟨F1,F2,Dv,F3,F4,F5,Dz,C5,Ir,Bc,Is,It,hbb63_365,hbb81_365,⟨Iu,B8⟩⟩
 refine WP.seq_cut (fun Bu Cl=>Bu 0 = .agg (peerA p v1 v3 v5 v7 v9 Al) ∧ Bu 1 = .agg (peerA q Af Ag Ah Ai Aj Ak) ∧ Bu 2 = .pointer (some ⟨Aa,0,none⟩) ∧ Bu 3 = .pointer (some ⟨Ab,0,none⟩) ∧ Bu 7 = .int .u64 (diffF p q) ∧ Bu 8 = .int .u64 (termOf p q.Base) ∧ Bu 9 = .bool (termIs p q.Base) ∧ Bu 44 = .bool (decide (q.Term < p.Term)) ∧ Ext [Ab,Aa] w Cl ∧ Ext [Ab,Aa] Au Cl ∧ Ext [Ab,Aa] Ao Cl ∧ Ext [Ab,Aa] Ad Cl ∧ Box Cl Aa 29 (peerC p v1 v3 v5 v7 v9 Al) ∧ Box Cl Ab 29 (peerC q Af Ag Ah Ai Aj Ak) ∧ (Owns strR 9 Ad.heap.size (Ab :: (Aa :: X)) Cl (Bu 6) (cutL p q) ∧ (∀ g,(Bu 6).ownBlock = some g → g ∉ (Ab :: (Aa :: X))))) ?_ ?_
 ·refine WP.sr ?_
  refine WL.z (.agg (peerA p v1 v3 v5 v7 v9 Al)) (V.loadAgg (x:=.tmp 2) (cs:=(peerC p v1 v3 v5 v7 v9 Al)) rfl a29 Dv (At.box hbb63_365) rfl) ?_
  refine WL.c (Sure.none rfl) rfl (C.call1 rfl cl23 rfl) (Fnc.mono (vote_Last (p:=p) ⟨v1,v3,v5,v7,v9,Al,rfl,(Da.ext (Ext.pre Bc)),(Db.ext (Ext.pre Bc)),(Dc.ext (Ext.pre Bc)),(Dd.ext (Ext.pre Bc)),(De.ext (Ext.pre Bc)),(Df.ext (Ext.pre Bc)),Cr⟩ (by omega)) ?_)
  rintro _ Fq ⟨rfl,B9⟩
  have Ho:Ext [Ab,Aa] w Fq:=Ir.trans (Ext.any (Y:=[Ab,Aa]) B9)
  have Hp:Ext [Ab,Aa] Au Fq:=Bc.trans (Ext.any (Y:=[Ab,Aa]) B9)
  have Hq:Ext [Ab,Aa] Ao Fq:=Is.trans (Ext.any (Y:=[Ab,Aa]) B9)
  have Hr:Ext [Ab,Aa] Ad Fq:=It.trans (Ext.any (Y:=[Ab,Aa]) B9)
  have Hs:=hbb63_365.ext B9 (by simp)
  have Ht:=hbb81_365.ext B9 (by simp)
  have Hu:=Iu.keep B9 (by intro g hg hm; simp at hm) (by simp)
  refine WL.m rfl ?_
  refine WL.z (.int .u64 (lastI p)) (V.extract rfl rfl rfl) ?_
  refine WL.z (.int .u64 (lastT p)) (V.extract rfl rfl rfl) ?_
  refine WL.m rfl ?_
  refine WL.m rfl ?_
  refine WL.nil ?_
  refine WP.sr ?_
  refine WL.m rfl ?_
  refine WL.m rfl ?_
  refine WL.z (.bool (decide ((lastI p) ≥ (diffF p q)))) (V.cmp (y:=.tmp 104) rfl rfl C5 rfl) ?_
  refine WL.nil ?_
  refine WP.condp (t:=(lastI p) ≥ (diffF p q)) rfl (fun Le=>?_) (fun Le=>?_)
  rotate_left
  ·refine WP.skip ?_
   exact ⟨F1,F2,Dv,F3,C5,F4,F5,Dz,Ho,Hp,Hq,Hr,Hs,Ht,⟨(Owns.castE (by first | (rw [cutL,if_pos (by assumption)]; first | done | rfl) | (rw [cutL,if_pos (by assumption),List.append_nil]; done) | (rw [cutL,if_neg (by first | assumption | (simp [*]; done))]; first | done | rfl) | (rw [cutL,if_neg (by first | assumption | (simp [*]; done)),List.append_nil]; done)) Hu),B8⟩⟩
  refine WP.region ?_
  refine WL.m rfl ?_
  refine WL.m rfl ?_
  refine WL.c (Sure.none rfl) rfl (C.call1 (x:=.tmp 107) rfl cl24 C5) (Fnc.mono (code_Num (diffF p q) (by omega)) ?_)
  rintro _ Dw ⟨rfl,Ca⟩
  have Hv:Ext [Ab,Aa] w Dw:=Ho.trans (Ext.any (Y:=[Ab,Aa]) Ca)
  have Lf:Ext [Ab,Aa] Au Dw:=Hp.trans (Ext.any (Y:=[Ab,Aa]) Ca)
  have Lg:Ext [Ab,Aa] Ao Dw:=Hq.trans (Ext.any (Y:=[Ab,Aa]) Ca)
  have Lh:Ext [Ab,Aa] Ad Dw:=Hr.trans (Ext.any (Y:=[Ab,Aa]) Ca)
  have Hw:=Hs.ext Ca (by simp)
  have Hx:=Ht.ext Ca (by simp)
  have Hy:=Hu.keep Ca (by intro g hg hm; simp at hm) (by simp)
  refine WL.z (.string ((ByteArray.mk #[67]) ++ (numB (diffF p q)))) (V.sadd rfl rfl rfl (by first | omega | (simp only [ByteArray.size_append]; omega))) ?_
  refine WL.lit (R:=strR) (X:=(Ab :: (Aa :: X))) (vs:=[.string ((ByteArray.mk #[67]) ++ (numB (diffF p q)))]) (xs:=[((ByteArray.mk #[67]) ++ (numB (diffF p q)))]) (Sure.none rfl) rfl rfl u33 e9 (by show 0 < (1:Nat); decide) (by show _ * (1:Nat) ≤ 1024; decide) rfl rfl rfl (by intro i v x hv hx; match i,hv,hx with | 0,rfl,rfl=>exact ⟨rfl,by first | (simp only [maxLen,ByteArray.size_append]; omega) | (simp [maxLen]; omega)⟩ | i + 1,hv,_=>simp at hv) (fun M3 Fs Cb Li hlit398=>?_)
  have F6:∀ g,(M3).ownBlock = some g → g ∉ (Ab :: (Aa :: X)):=by intro g hg hm; have h1:=hlit398 g hg; have h2:=(inCons Hx.lt (inCons Hw.lt (inMono hX Hv.size))) g hm; omega
  have Hz:Ext [Ab,Aa] w Fs:=Hv.trans (Ext.any (Y:=[Ab,Aa]) Cb)
  have Lj:Ext [Ab,Aa] Au Fs:=Lf.trans (Ext.any (Y:=[Ab,Aa]) Cb)
  have Lk:Ext [Ab,Aa] Ao Fs:=Lg.trans (Ext.any (Y:=[Ab,Aa]) Cb)
  have H0:Ext [Ab,Aa] Ad Fs:=Lh.trans (Ext.any (Y:=[Ab,Aa]) Cb)
  have H1:=Hw.ext Cb (by simp)
  have H2:=Hx.ext Cb (by simp)
  have C6:=Hy.keep Cb (by intro g hg hm; simp at hm) (by simp)
  have H3:=Li.low (B':=Dw.heap.size) (Nat.le_refl _)
  refine WL.appendOwn (R:=strR) (X:=(Ab :: (Aa :: X))) (B:=Ad.heap.size) (xs:=hardL p q) (ys:=[((ByteArray.mk #[67]) ++ (numB (diffF p q)))]) (Sure.none rfl) rfl rfl u33 e9 rfl (by show 0 < (1:Nat); decide) rfl rfl C6 (Owns.sl' H3 F6) (fun g hg=>Owns.sl' (Owns.flat flat_str H3) (fun gs hgs hm=>(List.mem_cons.1 hm).elim (fun h=>by have h1:=hlit398 gs hgs; have h2:=(Hy.lt g hg).2; omega) (fun h=>F6 gs hgs h))) H0.size (by first | omega | (simp only [List.length_cons,List.length_nil,List.length_append]; omega)) (by first | (simp only [maxLen]; omega) | (simp only [List.length_cons,List.length_nil,List.length_append,maxLen]; omega)) (fun O4 O5 Ll Cp hf421=>?_)
  have Jf:=after_no hf421 B8 (inCons H2.lt (inCons H1.lt (inMono hX Hz.size)))
  have Lm:=Ext.ownB (Hz) Cp (fun k hk=>(Owns.lt C6 k hk).1) Ds
  have Ln:=Ext.ownB (Lj) Cp (fun k hk=>(Owns.lt C6 k hk).1) Bh
  have Lo:=Ext.ownB (Lk) Cp (fun k hk=>(Owns.lt C6 k hk).1) Fx
  have Lp:=Ext.ownB (H0) Cp (fun k hk=>(Owns.lt C6 k hk).1) (Nat.le_refl _)
  have Lq:=H1.grown Cp (fun g hg e=>B8 g hg (by simp [e]))
  have Lr:=H2.grown Cp (fun g hg e=>B8 g hg (by simp [e]))
  refine WL.m rfl ?_
  refine WL.nil ?_
  exact ⟨F1,F2,Dv,F3,C5,F4,F5,Dz,Lm,Ln,Lo,Lp,Lq,Lr,⟨(Owns.castE (by first | (rw [cutL,if_pos (by assumption)]; first | done | rfl) | (rw [cutL,if_pos (by assumption),List.append_nil]; done) | (rw [cutL,if_neg (by first | assumption | (simp [*]; done))]; first | done | rfl) | (rw [cutL,if_neg (by first | assumption | (simp [*]; done)),List.append_nil]; done)) Ll),Jf⟩⟩
 rintro Bu Cl ⟨F7,F8,Dx,C7,F9,Ga,Gb,D0,Iv,An,Iw,Ix,hbb63_429,hbb81_429,⟨Iy,Cc⟩⟩
 refine WP.seq_cut (fun Aq Cm=>Aq 0 = .agg (peerA p v1 v3 v5 v7 v9 Al) ∧ Aq 1 = .agg (peerA q Af Ag Ah Ai Aj Ak) ∧ Aq 2 = .pointer (some ⟨Aa,0,none⟩) ∧ Aq 3 = .pointer (some ⟨Ab,0,none⟩) ∧ Aq 7 = .int .u64 (diffF p q) ∧ Aq 8 = .int .u64 (termOf p q.Base) ∧ Aq 9 = .bool (termIs p q.Base) ∧ Aq 44 = .bool (decide (q.Term < p.Term)) ∧ Ext [Ab,Aa] w Cm ∧ Ext [Ab,Aa] Au Cm ∧ Ext [Ab,Aa] Ao Cm ∧ Ext [Ab,Aa] Ad Cm ∧ Box Cm Aa 29 (peerC p v1 v3 v5 v7 v9 Al) ∧ Box Cm Ab 29 (peerC q Af Ag Ah Ai Aj Ak) ∧ (Owns strR 9 Ad.heap.size (Ab :: (Aa :: X)) Cm (Aq 6) (baseL p q) ∧ (∀ g,(Aq 6).ownBlock = some g → g ∉ (Ab :: (Aa :: X))))) ?_ ?_
 ·refine WP.seq ?_
  refine WP.anyMake [fun v _=>v = (.agg (peerA p v1 v3 v5 v7 v9 Al):Value),fun v _=>v = (.string (baseB p):Value),fun v _=>v = (.agg (peerA q Af Ag Ah Ai Aj Ak):Value),fun v _=>v = (.string (baseB q):Value),fun v _=>v = (.bool (!(seqB (baseB p) (baseB q))):Value)] mo (by kernel_rfl) (by kernel_rfl) (by kernel_rfl) ⟨Stab.eq _,Stab.eq _,Stab.eq _,Stab.eq _,Stab.eq _,trivial⟩ ⟨?_,?_,?_,?_,?_,trivial⟩ ?_
  ·intro E' w' hw hE hp
   exact .inr ⟨(Sure.none rfl),.inl ⟨.agg (peerA p v1 v3 v5 v7 v9 Al),V.loadAgg (x:=.tmp 2) (cs:=(peerC p v1 v3 v5 v7 v9 Al)) rfl a29 ((hE 2 (by kernel_rfl)).trans Dx) ((At.box hbb63_429).ext hw (by simp)) rfl,rfl⟩⟩
  ·intro E' w' hw hE hp
   have I6:E' 112 = (.agg (peerA p v1 v3 v5 v7 v9 Al):Value):=hp 0 (by kernel_rfl)
   exact .inr ⟨(Sure.none rfl),.inr ⟨_,_,C.call1 (x:=.tmp 112) rfl cl25 I6,Fnc.mono (keep_base (p:=p) ⟨v1,v3,v5,v7,v9,Al,rfl,((Da.ext (Ext.pre An)).ext (Ext.any hw)),((Db.ext (Ext.pre An)).ext (Ext.any hw)),((Dc.ext (Ext.pre An)).ext (Ext.any hw)),((Dd.ext (Ext.pre An)).ext (Ext.any hw)),((De.ext (Ext.pre An)).ext (Ext.any hw)),((Df.ext (Ext.pre An)).ext (Ext.any hw)),Cr⟩ (by assumption) (by assumption)) (fun v w'' h=>⟨h.2,h.1⟩)⟩⟩
  ·intro E' w' hw hE hp
   exact .inr ⟨(Sure.none rfl),.inl ⟨.agg (peerA q Af Ag Ah Ai Aj Ak),V.loadAgg (x:=.tmp 3) (cs:=(peerC q Af Ag Ah Ai Aj Ak)) rfl a29 ((hE 3 (by kernel_rfl)).trans C7) ((At.box hbb81_429).ext hw (by simp)) rfl,rfl⟩⟩
  ·intro E' w' hw hE hp
   have I7:E' 114 = (.agg (peerA q Af Ag Ah Ai Aj Ak):Value):=hp 2 (by kernel_rfl)
   exact .inr ⟨(Sure.none rfl),.inr ⟨_,_,C.call1 (x:=.tmp 114) rfl cl25 I7,Fnc.mono (keep_base (p:=q) ⟨Af,Ag,Ah,Ai,Aj,Ak,rfl,((Cs.ext (Ext.pre An)).ext (Ext.any hw)),((Ct.ext (Ext.pre An)).ext (Ext.any hw)),((Cu.ext (Ext.pre An)).ext (Ext.any hw)),((Cv.ext (Ext.pre An)).ext (Ext.any hw)),((Cw.ext (Ext.pre An)).ext (Ext.any hw)),((Cx.ext (Ext.pre An)).ext (Ext.any hw)),Cg⟩ (by assumption) (by assumption)) (fun v w'' h=>⟨h.2,h.1⟩)⟩⟩
  ·intro E' w' hw hE hp
   have I8:E' 113 = (.string (baseB p):Value):=hp 1 (by kernel_rfl)
   have I9:E' 115 = (.string (baseB q):Value):=hp 3 (by kernel_rfl)
   exact .inr ⟨(Sure.none rfl),.inl ⟨.bool (!(seqB (baseB p) (baseB q))),V.scmp (x:=.tmp 113) (y:=.tmp 115) rfl I8 I9 rfl,rfl⟩⟩
  ·intro M4 Ft Cd Am Ls
   have H4:Ext [Ab,Aa] w Ft:=Iv.trans (Ext.any (Y:=[Ab,Aa]) Cd)
   have Bx:Ext [Ab,Aa] Au Ft:=An.trans (Ext.any (Y:=[Ab,Aa]) Cd)
   have H5:Ext [Ab,Aa] Ao Ft:=Iw.trans (Ext.any (Y:=[Ab,Aa]) Cd)
   have H6:Ext [Ab,Aa] Ad Ft:=Ix.trans (Ext.any (Y:=[Ab,Aa]) Cd)
   have H7:=hbb63_429.ext Cd (by simp)
   have Fu:=hbb81_429.ext Cd (by simp)
   have H8:=Iy.keep Cd (by intro g hg hm; simp at hm) (by simp)
   have Lt:M4 116 = (.bool (!(seqB (baseB p) (baseB q))):Value):=Ls 4 (of_decide_eq_true (by kernel_rfl))
   refine WP.condn (t:=seqB (baseB p) (baseB q)) Lt (fun Lu=>?_) (fun Lu=>?_)
   rotate_left
   ·refine WP.skip ?_
    exact ⟨((Am 0 (by kernel_rfl)).trans F7),((Am 1 (by kernel_rfl)).trans F8),((Am 2 (by kernel_rfl)).trans Dx),((Am 3 (by kernel_rfl)).trans C7),((Am 7 (by kernel_rfl)).trans F9),((Am 8 (by kernel_rfl)).trans Ga),((Am 9 (by kernel_rfl)).trans Gb),((Am 44 (by kernel_rfl)).trans D0),H4,Bx,H5,H6,H7,Fu,⟨(by rw [((Am 6 (by kernel_rfl)).trans rfl)]; exact (Owns.castE (by first | (rw [baseL,if_pos (by assumption)]; first | done | rfl) | (rw [baseL,if_pos (by assumption),List.append_nil]; done) | (rw [baseL,if_neg (by first | assumption | (simp [*]; done))]; first | done | rfl) | (rw [baseL,if_neg (by first | assumption | (simp [*]; done)),List.append_nil]; done)) H8)),(by rw [((Am 6 (by kernel_rfl)).trans rfl)]; exact Cc)⟩⟩
   refine WP.region ?_
   refine WL.m rfl ?_
   refine WL.z (.agg (peerA q Af Ag Ah Ai Aj Ak)) (V.loadAgg (x:=.tmp 3) (cs:=(peerC q Af Ag Ah Ai Aj Ak)) rfl a29 ((Am 3 (by kernel_rfl)).trans C7) (At.box Fu) rfl) ?_
   refine WL.c (Sure.none rfl) rfl (C.call1 rfl cl25 rfl) (Fnc.mono (keep_base (p:=q) ⟨Af,Ag,Ah,Ai,Aj,Ak,rfl,(Cs.ext (Ext.pre Bx)),(Ct.ext (Ext.pre Bx)),(Cu.ext (Ext.pre Bx)),(Cv.ext (Ext.pre Bx)),(Cw.ext (Ext.pre Bx)),(Cx.ext (Ext.pre Bx)),Cg⟩ (by assumption) (by assumption)) ?_)
   rintro _ Dy ⟨rfl,Ce⟩
   have H9:Ext [Ab,Aa] w Dy:=H4.trans (Ext.any (Y:=[Ab,Aa]) Ce)
   have Lv:Ext [Ab,Aa] Au Dy:=Bx.trans (Ext.any (Y:=[Ab,Aa]) Ce)
   have Lw:Ext [Ab,Aa] Ao Dy:=H5.trans (Ext.any (Y:=[Ab,Aa]) Ce)
   have Lx:Ext [Ab,Aa] Ad Dy:=H6.trans (Ext.any (Y:=[Ab,Aa]) Ce)
   have Ia:=H7.ext Ce (by simp)
   have Ib:=Fu.ext Ce (by simp)
   have Ic:=H8.keep Ce (by intro g hg hm; simp at hm) (by simp)
   refine WL.lit (R:=strR) (X:=(Ab :: (Aa :: X))) (vs:=[.string (baseB q)]) (xs:=[(baseB q)]) (Sure.none rfl) rfl rfl u33 e9 (by show 0 < (1:Nat); decide) (by show _ * (1:Nat) ≤ 1024; decide) rfl rfl rfl (by intro i v x hv hx; match i,hv,hx with | 0,rfl,rfl=>exact ⟨rfl,by first | (simp only [maxLen,ByteArray.size_append]; omega) | (simp [maxLen]; omega)⟩ | i + 1,hv,_=>simp at hv) (fun M5 Fv Cf Ly hlit466=>?_)
   have Gc:∀ g,(M5).ownBlock = some g → g ∉ (Ab :: (Aa :: X)):=by intro g hg hm; have h1:=hlit466 g hg; have h2:=(inCons Ib.lt (inCons Ia.lt (inMono hX H9.size))) g hm; omega
   have Ie:Ext [Ab,Aa] w Fv:=H9.trans (Ext.any (Y:=[Ab,Aa]) Cf)
   have Lz:Ext [Ab,Aa] Au Fv:=Lv.trans (Ext.any (Y:=[Ab,Aa]) Cf)
   have L0:Ext [Ab,Aa] Ao Fv:=Lw.trans (Ext.any (Y:=[Ab,Aa]) Cf)
   have If:Ext [Ab,Aa] Ad Fv:=Lx.trans (Ext.any (Y:=[Ab,Aa]) Cf)
   have Ig:=Ia.ext Cf (by simp)
   have Ih:=Ib.ext Cf (by simp)
   have C8:=Ic.keep Cf (by intro g hg hm; simp at hm) (by simp)
   have Ii:=Ly.low (B':=Dy.heap.size) (Nat.le_refl _)
   refine WL.appendOwn (x:=.tmp 117) (R:=strR) (X:=(Ab :: (Aa :: X))) (B:=Ad.heap.size) (xs:=cutL p q) (ys:=[(baseB q)]) (Sure.none rfl) rfl rfl u33 e9 rfl (by show 0 < (1:Nat); decide) ((Am 6 (by kernel_rfl)).trans rfl) rfl C8 (Owns.sl' Ii Gc) (fun g hg=>Owns.sl' (Owns.flat flat_str Ii) (fun gs hgs hm=>(List.mem_cons.1 hm).elim (fun h=>by have h1:=hlit466 gs hgs; have h2:=(Ic.lt g hg).2; omega) (fun h=>Gc gs hgs h))) If.size (by first | omega | (simp only [List.length_cons,List.length_nil,List.length_append]; omega)) (by first | (simp only [maxLen]; omega) | (simp only [List.length_cons,List.length_nil,List.length_append,maxLen]; omega)) (fun O6 O7 L1 Cq hf489=>?_)
   have Jg:=after_no hf489 Cc (inCons Ih.lt (inCons Ig.lt (inMono hX Ie.size)))
   have L2:=Ext.ownB (Ie) Cq (fun k hk=>(Owns.lt C8 k hk).1) Ds
   have L3:=Ext.ownB (Lz) Cq (fun k hk=>(Owns.lt C8 k hk).1) Bh
   have L4:=Ext.ownB (L0) Cq (fun k hk=>(Owns.lt C8 k hk).1) Fx
   have L5:=Ext.ownB (If) Cq (fun k hk=>(Owns.lt C8 k hk).1) (Nat.le_refl _)
   have L6:=Ig.grown Cq (fun g hg e=>Cc g hg (by simp [e]))
   have L7:=Ih.grown Cq (fun g hg e=>Cc g hg (by simp [e]))
   refine WL.m rfl ?_
   refine WL.nil ?_
   exact ⟨((Am 0 (by kernel_rfl)).trans F7),((Am 1 (by kernel_rfl)).trans F8),((Am 2 (by kernel_rfl)).trans Dx),((Am 3 (by kernel_rfl)).trans C7),((Am 7 (by kernel_rfl)).trans F9),((Am 8 (by kernel_rfl)).trans Ga),((Am 9 (by kernel_rfl)).trans Gb),((Am 44 (by kernel_rfl)).trans D0),L2,L3,L4,L5,L6,L7,⟨(Owns.castE (by first | (rw [baseL,if_pos (by assumption)]; first | done | rfl) | (rw [baseL,if_pos (by assumption),List.append_nil]; done) | (rw [baseL,if_neg (by first | assumption | (simp [*]; done))]; first | done | rfl) | (rw [baseL,if_neg (by first | assumption | (simp [*]; done)),List.append_nil]; done)) L1),Jg⟩⟩
 rintro Aq Cm ⟨Nl,Nm,No,Jh,Ji,Np,Nq,Na,D1,Bp,Nb,Iz,hbb63_497,hbb81_497,⟨A4,Cz⟩⟩
 refine WP.sr ?_
 refine WL.m rfl ?_
 refine WL.z (.agg (peerA q Af Ag Ah Ai Aj Ak)) (V.loadAgg (x:=.tmp 3) (cs:=(peerC q Af Ag Ah Ai Aj Ak)) rfl a29 Jh (At.box hbb81_497) rfl) ?_
 refine WL.m rfl ?_
 refine WL.c (Sure.none rfl) rfl (C.call2 (y:=.tmp 124) rfl cl27 rfl Ji) (Fnc.mono (keep_laid (p:=q) ⟨Af,Ag,Ah,Ai,Aj,Ak,rfl,((Sl.toAvoid (T:=Aq 6) nz1 Cs (fun g hg=>Nat.le_trans Bh (A4.lt g hg).1)).ext (Ext.avoid Bp)),((Sl.toAvoid (T:=Aq 6) nz1 Ct (fun g hg=>Nat.le_trans Bh (A4.lt g hg).1)).ext (Ext.avoid Bp)),((Sl.toAvoid (T:=Aq 6) nz4 Cu (fun g hg=>Nat.le_trans Bh (A4.lt g hg).1)).ext (Ext.avoid Bp)),((Sl.toAvoid (T:=Aq 6) nz1 Cv (fun g hg=>Nat.le_trans Bh (A4.lt g hg).1)).ext (Ext.avoid Bp)),((Sl.toAvoid (T:=Aq 6) nz3 Cw (fun g hg=>Nat.le_trans Bh (A4.lt g hg).1)).ext (Ext.avoid Bp)),((Sl.toAvoid (T:=Aq 6) nz3 Cx (fun g hg=>Nat.le_trans Bh (A4.lt g hg).1)).ext (Ext.avoid Bp)),Cg⟩ (diffF p q) (by assumption) (by assumption) (by omega) (X:=(avoid (Aq 6) (Ab :: (Aa :: X)))) (avoid_in A4 (inCons hbb81_497.lt (inCons hbb63_497.lt (inMono hX D1.size))))) ?_)
 rintro O8 Jj ⟨_,rfl,Ij,C9⟩
 have Ik:Ext [Ab,Aa] w Jj:=D1.trans (Ext.any (Y:=[Ab,Aa]) C9)
 have L8:Ext [Ab,Aa] Ad Jj:=Iz.trans (Ext.any (Y:=[Ab,Aa]) C9)
 have Il:=hbb63_497.ext C9 (by simp)
 have Im:=hbb81_497.ext C9 (by simp)
 have In:=A4.keep C9 (by intro g hg hm; simp at hm) (by simp)
 have L9:=Sl.mono (X:=(Ab :: (Aa :: X))) Ij (fun b hb=>avoid_mem hb)
 refine WL.appendOwn (R:=strR) (X:=(Ab :: (Aa :: X))) (B:=Ad.heap.size) (xs:=baseL p q) (ys:=(laidL q (diffF p q))) (Sure.none rfl) rfl rfl u33 e9 rfl (by show 0 < (1:Nat); decide) rfl rfl In L9 (fun g hg=>avoid_far Ij hg) L8.size (by first | omega | (simp only [List.length_cons,List.length_nil,List.length_append]; omega)) (by first | (simp only [maxLen]; omega) | (simp only [List.length_cons,List.length_nil,List.length_append,maxLen]; omega)) (fun O9 Pa Ma Fw hf515=>?_)
 have Jk:=after_no hf515 Cz (inCons Im.lt (inCons Il.lt (inMono hX Ik.size)))
 have Io:=Ext.ownB (Ik) Fw (fun k hk=>(Owns.lt In k hk).1) Ds
 have Mb:=Il.grown Fw (fun g hg e=>Cz g hg (by simp [e]))
 have Mc:=Im.grown Fw (fun g hg e=>Cz g hg (by simp [e]))
 refine WL.c (Sure.none rfl) rfl (C.call1 rfl cl26 rfl) (Fnc.mono (sl_ClipS (Owns.sl' Ma Jk) (X:=(Ab :: (Aa :: X))) (inCons Mc.lt (inCons Mb.lt (inMono hX Io.size)))) ?_)
 rintro Jl M6 ⟨_,rfl,Md,Me⟩
 have Mf:Ext [Ab,Aa] w M6:=Io.trans (Ext.any (Y:=[Ab,Aa]) Me)
 refine WL.m rfl ?_
 refine WL.m rfl ?_
 refine WL.nil ?_
 refine WP.ret ?_
 refine resOf.c2 rfl (v:=Jl) rfl (v':=.int .i64 (0)) rfl ?_
 exact ⟨Jl,(tup2 rfl (int_eq (by first | (rw [if_pos hdok]; done) | (rw [if_neg (by rw [hdno]; decide)]; done)))),(castSl (by first | (rw [if_pos hdok]; rfl) | (rw [if_neg (by rw [hdno]; decide)]; done)) (Sl.base (O:=[Ab,Aa]) Md)),((Mf).done (geCons A6 (geCons A5 geNil)))⟩
end Go.Proofs.Ytiaicihpocoeiaa.X1
