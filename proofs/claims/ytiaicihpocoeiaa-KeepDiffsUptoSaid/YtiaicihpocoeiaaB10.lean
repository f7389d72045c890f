/- My texts, cut to what this claim needs and merged. -/
import Derived.Test.YtiaicihpocoeiaaB9
namespace Go.Proofs.Ytiaicihpocoeiaa.X1
open T W Go.RowKit
set_option maxRecDepth 100000
set_option maxHeartbeats 400000
theorem cl65:Callable Try.prog 65:=⟨Try.f65,Try.func65,by kernel_rfl,rfl⟩
theorem cl46:Callable Try.prog 46:=⟨Try.f46,Try.func46,by kernel_rfl,rfl⟩
theorem cl39:Callable Try.prog 39:=⟨Try.f39,Try.func39,by kernel_rfl,rfl⟩
theorem s22:Sized Try.prog 22 1:=by unfold Sized; kernel_rfl
theorem e48:Elem Try.prog 48 (.agg #[.int .u64 (0),.int .u8 (0),.string (ByteArray.mk #[]),.slice none 0 0]) 4 56:=by unfold Elem; kernel_rfl
theorem sl_cloneE_own {w:World} {X:List Nat} {v_xs:Value} {xs:List EntryD} (h_xs:Sl entryR X w v_xs xs) (hb:xs.length ≤ 1099511627776) (hX:∀ x ∈ X,x < w.heap.size):Fnc Try.prog 65 #[v_xs] w (fun v w'=>∃ u0,v = u0 ∧ Owns entryR 48 w.heap.size X w' u0 xs ∧ (∀ g,u0.ownBlock = some g → g ∉ X) ∧ Ext [] w w'):=by
 refine Fnc.of_WP (n:=8) Try.func65 rfl Try.ntmps65 (by simp) ?_
 intro E hE
 have h0:E 0 = v_xs:=hE 0 (by simp)
 clear hE
 refine WP.sr ?_
 refine WL.m rfl ?_
 refine WL.nil ?_
 refine WP.seq ?_
 refine WP.sr ?_
 refine WL.m rfl ?_
 obtain ⟨a1,c2,Aj⟩:=h_xs.shape
 refine WL.z (.bool (nilB v_xs)) (V.eqNil (x:=.tmp 3) rfl u25 h0 Aj rfl) ?_
 refine WL.nil ?_
 refine WP.cond (t:=nilB v_xs) rfl (fun Ad=>?_) (fun Ad=>?_)
 ·have Ae:=(h_xs).isNil Ad
  replace Ad:=Ae.2
  refine WP.sr ?_
  refine WL.m rfl ?_
  refine WL.nil ?_
  refine WP.ret ?_
  refine resOf.c1 rfl (v:=.slice none 0 0) rfl ?_
  exact ⟨_,rfl,Owns.castE (by first | rfl | (revert Ad; simp +contextual)) Owns.nil,nil_block rfl,Ext.refl _ _⟩
 refine WP.skip ?_
 refine WP.sr ?_
 refine WL.lit (R:=entryR) (X:=X) (vs:=[]) (xs:=[]) (Sure.none rfl) rfl rfl u25 e48 (by show 0 < (4:Nat); decide) (by show _ * (4:Nat) ≤ 1024; decide) rfl rfl rfl (by intro i v x hv hx; match i,hv,hx with | i + 0,hv,_=>simp at hv) (fun v5 w6 Ak Al hlit9=>?_)
 have Af:∀ g,(v5).ownBlock = some g → g ∉ X:=by intro g hg hm; have h1:=hlit9 g hg; have h2:=hX g hm; omega
 have Aa:Ext [] w w6:=Ak
 have Ab:=Al.low (B':=w.heap.size) (Nat.le_refl _)
 refine WL.m rfl ?_
 refine WL.appendOwn (y:=.tmp 6) (R:=entryR) (X:=X) (B:=w.heap.size) (xs:=[]) (ys:=xs) (Sure.none rfl) rfl rfl u25 e48 rfl (by show 0 < (4:Nat); decide) rfl h0 Ab (h_xs.ext (Ext.pre Aa)) (fun g hg=>(Sl.new nz4 h_xs (Nat.le_trans (Nat.le_refl _) (Ab.lt g hg).1)).ext (Ext.cons (Ext.pre Aa))) Aa.size (by simp only [List.length_cons,List.length_nil]; omega) (by simp only [List.length_cons,List.length_nil,maxLen]; omega) (fun Am An Ac Ah hf17=>?_)
 have Ag:=after_no hf17 Af (inMono hX Aa.size)
 have Ai:=Ext.ownB (Aa) Ah (fun k hk=>(Owns.lt Ab k hk).1) (Nat.le_refl _)
 have Ac:=Ac.castE (List.nil_append _)
 refine WL.m rfl ?_
 refine WL.nil ?_
 refine WP.ret ?_
 refine resOf.c1 rfl (v:=Am) rfl ?_
 exact ⟨_,rfl,Owns.castE (by first | rfl | simp) Ac,Ag,Ai⟩
def ERow (B:Nat) (X:List Nat) (w:World) (v:Value) (l:List EntryD):Prop :=
  (v = .slice none 0 0 ∧ l = []) ∨ ∃ g cap cells,v = .slice (some ⟨g,0,none⟩) l.length cap ∧ Box w g 48 cells ∧ l.length ≤ cap ∧ cap ≤ maxLen ∧ l.length * 4 ≤ cells.length ∧ B ≤ g ∧ g ∉ X ∧ ∀ (i:Nat) (x:EntryD),l[i]? = some x → entryR.rd (g :: X) w ((cells.drop (i * 4)).take 4) x
theorem seg_get {cells:List Value} {i j:Nat} {v:Value} (h:((cells.drop (i * 4)).take 4)[j]? = some v):cells[i * 4 + j]? = some v:=by
 rw [List.getElem?_take] at h
 split at h
 ·rwa [List.getElem?_drop] at h
 ·cases h
theorem ERow.of {B:Nat} {X:List Nat} {w:World} {v:Value} {l:List EntryD} (h:Owns entryR 48 B X w v l) (hno:∀ g,v.ownBlock = some g → g ∉ X):ERow B X w v l:=by
 obtain ⟨cells,⟨hlen,h1⟩,h2,h3⟩:=h
 rcases h1 with ⟨rfl,h0⟩ | ⟨g,cap,cur,rfl,hB,hg,hc,hm,hs,ht⟩
 ·exact .inl ⟨rfl,List.eq_nil_of_length_eq_zero h0⟩
 ·have Aa:cur.toList.length = cap * 4:=by rw [Array.length_toList]; exact hs
  refine .inr ⟨g,cap,cur.toList,rfl,?_,hc,hm,by rw [Aa]; omega,hB,hno g rfl,fun i x hx=>?_⟩
  ·show w.heap[g]? = some (.cells cur.toList.toArray _ _)
   rw [Array.toArray_toList]; exact hg
  ·have h4:=h2 i x hx
   have hi:i < l.length:=by
    rcases Nat.lt_or_ge i l.length with h | h
    ·exact h
    ·rw [List.getElem?_eq_none h] at hx; cases hx
   have e:(cells.drop (i * 4)).take 4 = (cur.toList.drop (i * 4)).take 4:=by
    rw [← ht,List.drop_take,List.take_take]
    congr 1
    show min 4 (l.length * 4 - i * 4) = 4
    omega
   have e2:entryR.rd (g :: X) w ((cells.drop (i * 4)).take 4) x:=h4
   rwa [e] at e2
theorem ERow.sl {B:Nat} {X:List Nat} {w:World} {v:Value} {l:List EntryD} (h:ERow B X w v l):Sl entryR X w v l:=by
 rcases h with ⟨rfl,rfl⟩ | ⟨g,cap,cells,rfl,hb,hc,hm,hl,hB,hg,hq⟩
 ·exact .inl ⟨rfl,rfl⟩
 ·refine .inr (.inl ⟨g,0,cap,rfl,hc,hm,fun i x hx=>⟨hg,_,entryR.mono (hq i x hx) (fun k hk=>List.mem_cons_of_mem _ hk),fun j u hj=>?_⟩⟩)
  rw [Nat.zero_add]
  exact hb.cell (seg_get hj)
theorem V.clipE {P : Program} {o : Oper} {E : Env} {w : World} {B : Nat} {X : List Nat} {t : TypeId} {x y z : Operand} {v : Value} {L : List EntryD} (ho : o.op = .slice t x none (some y) (some z)) (ht : P.underlying t = some (.slice 48)) (hs : Sized P 48 4) (hx : ev E x = v) (hsl : ERow B X w v L)
    (hy : ev E y = .int .i64 L.length) (hz : ev E z = .int .i64 L.length) : ∃ v', OpV P o E w v' ∧ ERow B X w v' L := by
  rcases hsl with ⟨rfl, rfl⟩ | ⟨g, c, T, rfl, h1, hc, hm, h4, h5, h6, h7⟩
  · refine ⟨.slice none 0 0, ?_, .inl ⟨rfl, rfl⟩⟩
    simp [OpV, execOp, ho, hx, hy, hz, go_sem, Instr.sliceAt, underlying, ht, Instr.slice, Instr.sliceBounds, Instr.sliceBound, asIntOf, size_of hs]
  · refine ⟨.slice (some ⟨g, 0, none⟩) L.length L.length, ?_, .inr ⟨g, L.length, T, rfl, h1, Nat.le_refl _, by omega, h4, h5, h6, h7⟩⟩
    simp [OpV, execOp, ho, hx, hy, hz, go_sem, Instr.sliceAt, underlying, ht, Instr.slice, Instr.sliceBounds, Instr.sliceBound, asIntOf, size_of hs, hc, addr_add]
theorem clip_entry {w:World} {B:Nat} {X:List Nat} {v:Value} {L:List EntryD} (h:ERow B X w v L):Fnc Try.prog 46 #[v] w (fun u w'=>ERow B X w' u L ∧ Ext [] w w'):=by
 obtain ⟨a,c,hv⟩:=h.sl.shape
 refine Fnc.of_WP (n:=9) Try.func46 rfl Try.ntmps46 (by simp) ?_
 intro E hE
 have h0:E 0 = v:=hE 0 (by simp)
 clear hE
 refine WP.seq ?_
 refine WP.region ?_
 refine WL.v (u:=.slice none 0 0) (Sure.none rfl) rfl (V.assign rfl rfl) ?_
 refine WL.nil ?_
 refine WP.seq ?_
 refine WP.region ?_
 refine WL.v (u:=v) (Sure.none rfl) rfl (V.move (x:=.tmp 0) rfl h0) ?_
 refine WL.v (u:=v) (Sure.none rfl) rfl (V.move (x:=.tmp 0) rfl h0) ?_
 refine WL.v (u:=.int .i64 L.length) (Sure.none rfl) rfl (V.lenSlice (x:=.tmp 4) rfl rfl u25 (show v = .slice a L.length c from hv)) ?_
 refine WL.v (u:=v) (Sure.none rfl) rfl (V.move (x:=.tmp 0) rfl h0) ?_
 refine WL.v (u:=.int .i64 L.length) (Sure.none rfl) rfl (V.lenSlice (x:=.tmp 6) rfl rfl u25 (show v = .slice a L.length c from hv)) ?_
 refine WL.vex (Sure.none rfl) rfl (V.clipE (x:=.tmp 3) rfl u25 s48 rfl h rfl rfl) (fun u hu=>?_)
 refine WL.v (u:=u) (Sure.none rfl) rfl (V.assign (x:=.tmp 8) rfl rfl) ?_
 refine WL.nil ?_
 refine WP.ret ?_
 exact resOf.c1 rfl (v:=u) rfl ⟨hu,Ext.refl _ _⟩
theorem seg_set {cells:List Value} {k i:Nat} {u:Value} (h:i ≠ k):((cells.set (k * 4 + 3) u).drop (i * 4)).take 4 = (cells.drop (i * 4)).take 4:=by
 apply List.ext_getElem?
 intro j
 rw [List.getElem?_take,List.getElem?_take]
 split
 ·rw [List.getElem?_drop,List.getElem?_drop,List.getElem?_set,if_neg (by omega)]
 ·rfl
theorem seg_same {cells:List Value} {k:Nat} {a b c d u:Value} (hl:k * 4 + 3 < cells.length) (h:(cells.drop (k * 4)).take 4 = [a,b,c,d]):((cells.set (k * 4 + 3) u).drop (k * 4)).take 4 = [a,b,c,u]:=by
 have hg:∀ j,j < 4 → cells[k * 4 + j]? = [a,b,c,d][j]?:=by
  intro j hj
  rw [← h,List.getElem?_take,if_pos hj,List.getElem?_drop]
 apply List.ext_getElem?
 intro j
 rw [List.getElem?_take]
 split
 ·rename_i hj
  rw [List.getElem?_drop,List.getElem?_set]
  by_cases e:k * 4 + 3 = k * 4 + j
  ·rw [if_pos e,if_pos hl]
   obtain rfl:j = 3:=by omega
   rfl
  ·rw [if_neg e,hg j hj]
   match j,hj,e with
   | 0,_,_=>rfl
   | 1,_,_=>rfl
   | 2,_,_=>rfl
   | 3,_,e=>exact absurd rfl e
 ·rename_i hj
  exact (List.getElem?_eq_none (by simpa using hj)).symm
theorem keep_clone {w : World} {X : List Nat} {v : Value} {l : List EntryD} (h : Sl entryR X w v l) (hb : l.length ≤ 1048576) (hm : ∀ k, k < l.length → (l.getD k default).Members.length ≤ 17592186044416) (hX : ∀ x ∈ X, x < w.heap.size) :
    Fnc Try.prog 40 #[v] w (fun u w' => ∃ u0, u = u0 ∧ Sl entryR X w' u0 l ∧ Ext [] w w') := by
  refine Fnc.of_WP (n := 25) Try.func40 rfl Try.ntmps40 (by simp) ?_
  intro E hE
  have h0 : E 0 = v := hE 0 (by simp)
  clear hE
  refine WP.sr ?_
  refine WL.v (u := .slice none 0 0) (Sure.none rfl) rfl (V.assign rfl rfl) ?_
  refine WL.nil ?_
  refine WP.sr ?_
  refine WL.v (u := v) (Sure.none rfl) rfl (V.move (x := .tmp 0) rfl h0) ?_
  refine WL.c (Sure.none rfl) rfl (C.call1 rfl cl65 rfl) (Fnc.mono (sl_cloneE_own h (by omega) (X := X) hX) ?_)
  rintro _ w1 ⟨u1, rfl, ho, hno, Ag⟩
  refine WL.c (Sure.none rfl) rfl (C.call1 rfl cl46 rfl) (Fnc.mono (clip_entry (ERow.of ho hno)) ?_)
  rintro u2 w2 ⟨hr, Ah⟩
  refine WL.v (u := u2) (Sure.none rfl) rfl (V.assign (x := .tmp 7) rfl rfl) ?_
  refine WL.nil ?_
  refine WP.seq ?_
  refine WP.sr ?_
  obtain ⟨a, c, hv⟩ := hr.sl.shape
  refine WL.v (u := u2) (Sure.none rfl) rfl (V.move (x := .tmp 3) rfl rfl) ?_
  refine WL.v (u := .int .i64 l.length) (Sure.none rfl) rfl (V.lenSlice (x := .tmp 8) rfl rfl u25 (show u2 = .slice a l.length c from hv)) ?_
  refine WL.v (u := .int .i64 0) (Sure.none rfl) rfl (V.move rfl rfl) ?_
  refine WL.nil ?_
  refine WP.block ?_
  refine WP.loop (σ := Nat) (fun k E w' => E 3 = u2 ∧ E 9 = .int .i64 (l.length : Int) ∧ E 10 = .int .i64 (k : Int) ∧ k ≤ l.length ∧ ERow w.heap.size X w' u2 l ∧ Ext [] w w') (fun k => l.length - k) 0 ?_ ?_
  · exact ⟨rfl, rfl, rfl, Nat.zero_le _, hr, Ag.trans Ah⟩
  rintro k E w3 ⟨g3, g9, Aa, hk, hrow, Ab⟩
  refine WP.sr ?_
  refine WL.v (u := .bool (decide ((k : Int) < (l.length : Int)))) (Sure.none rfl) rfl (V.cmp (x := .tmp 10) (y := .tmp 9) rfl Aa g9 rfl) ?_
  refine WL.nil ?_
  refine WP.seq ?_
  refine WP.condp (t := (k : Int) < (l.length : Int)) rfl (fun hc => ?_) (fun hc => ?_)
  · refine WP.skip ?_
    refine WP.seq ?_
    refine WP.block ?_
    refine WP.sr ?_
    refine WL.v (u := .int .i64 k) (Sure.none rfl) rfl (V.move (x := .tmp 10) rfl Aa) ?_
    refine WL.v (u := .int .i64 k) (Sure.none rfl) rfl (V.assign (x := .tmp 12) rfl rfl) ?_
    refine WL.nil ?_
    refine WP.region ?_
    rcases hrow with ⟨_, h4⟩ | ⟨g, cap, cells, hu, hbx, hcap, hmx, Ai, hB, hgX, hq⟩
    · rw [h4] at hc; simp at hc; omega
    have hkl : k < l.length := by omega
    obtain ⟨v3, hseg, hsl, hin⟩ := hq k (l.getD k default) (getD_some hkl default)
    have Aj : k * 4 + 3 < cells.length := by omega
    have hce : ∀ w', Box w' g 48 cells → w'.cell? ⟨g, 0 + k * 4 + 3, none⟩ = some v3 := by
      intro w' hbw
      rw [Nat.zero_add]
      exact hbw.cell (seg_get (by rw [hseg]; rfl))
    refine WL.v (u := .slice (some ⟨g, 0, none⟩) l.length cap) (Sure.none rfl) rfl (V.move (x := .tmp 3) rfl (g3.trans hu)) ?_
    refine WL.v (u := .int .i64 k) (Sure.none rfl) rfl (V.move (x := .tmp 4) rfl rfl) ?_
    refine WL.v (u := .slice (some ⟨g, 0, none⟩) l.length cap) (Sure.none rfl) rfl (V.move (x := .tmp 3) rfl (g3.trans hu)) ?_
    refine WL.v (u := .int .i64 k) (Sure.none rfl) rfl (V.move (x := .tmp 4) rfl rfl) ?_
    refine WL.v (Sure.none rfl) rfl (V.indexAddr (x := .tmp 15) (i := .tmp 16) (m := k) (j := (k : Int)) rfl u25 s48 rfl rfl rfl hkl) ?_
    refine WL.v (Sure.none rfl) rfl (V.fieldAddr (x := .tmp 17) rfl fl48_3 rfl) ?_
    refine WL.v (u := v3) (Sure.none rfl) rfl (V.load (x := .tmp 18) rfl p22 rfl (hce _ hbx)) ?_
    refine WL.c (Sure.none rfl) rfl (C.call1 rfl cl39 rfl) (Fnc.mono (sl_clone_int hsl (hm k hkl) (X := g :: X) ?_) ?_)
    · intro x hx
      rcases List.mem_cons.1 hx with rfl | hx
      · exact hbx.lt
      · exact Nat.lt_of_lt_of_le (hX x hx) Ab.size
    rintro v4 w4 ⟨_, rfl, Ae, Ac⟩
    refine WL.v (Sure.none rfl) rfl (V.indexAddr (x := .tmp 13) (i := .tmp 14) (m := k) (j := (k : Int)) rfl u25 s48 rfl rfl rfl hkl) ?_
    refine WL.v (Sure.none rfl) rfl (V.fieldAddr (x := .tmp 21) rfl fl48_3 rfl) ?_
    refine WL.store (x := .tmp 22) (y := .tmp 20) (b := g) (i := 0 + k * 4 + 3) (v := v4) (Sure.none rfl) rfl rfl s22 rfl rfl Ae.one (hbx.ext Ac (by simp)) (by omega) (fun w5 Ad Af => ?_)
    refine WL.nil ?_
    rw [Nat.zero_add] at Af
    have Ak : Ext [] w w5 := (Ab.trans Ac).new Ad (fun x hx => by rw [List.mem_singleton] at hx; subst hx; exact hB)
    refine WP.region ?_
    refine WL.v (u := .int .i64 ((k : Int) + 1)) (Sure.none rfl) rfl (V.arith (x := .tmp 10) rfl Aa rfl rfl (wrap_i64 (by omega) (by omega))) ?_
    refine WL.v (u := .int .i64 ((k : Int) + 1)) (Sure.none rfl) rfl (V.move (x := .tmp 23) rfl rfl) ?_
    refine WL.nil ?_
    refine ⟨k + 1, ⟨g3, g9, rfl, hkl, .inr ⟨g, cap, _, hu, Af, hcap, hmx, by rw [List.length_set]; exact Ai, hB, hgX, fun i x hx => ?_⟩, Ak⟩, by omega⟩
    have Al : Ext (g :: X) w3 w5 := (Ext.any Ac).trans (Ad.mono (by simp))
    by_cases e : i = k
    · subst e
      have hxl : x = l.getD i default := by
        have := getD_some hkl default
        rw [this] at hx; cases hx; rfl
      subst hxl
      exact ⟨v4, seg_same Aj hseg, Ae.ext (Ad.mono (by simp)), hin⟩
    · rw [seg_set e]
      exact entryR.ext (hq i x hx) Al
  · refine WP.exit ?_
    refine WP.sr ?_
    refine WL.v (u := u2) (Sure.none rfl) rfl (V.move (x := .tmp 3) rfl g3) ?_
    refine WL.v (u := u2) (Sure.none rfl) rfl (V.assign (x := .tmp 24) rfl rfl) ?_
    refine WL.nil ?_
    refine WP.ret ?_
    exact resOf.c1 rfl (v := u2) rfl ⟨u2, rfl, hrow.sl, Ab⟩
end Go.Proofs.Ytiaicihpocoeiaa.X1
namespace Go.Proofs.Ytiaicihpocoeiaa.X1
open T W Go.RowKit
set_option maxRecDepth 100000
set_option maxHeartbeats 400000
theorem z29:W.Zero Try.prog 29 (.agg peerZA):=by unfold W.Zero; kernel_rfl
theorem bu29_d7517139 :Try.prog.built 29 [] = some peerZA:=by kernel_rfl
theorem fl29_13:FieldOf Try.prog 29 13 3 13 1:=fld (by kernel_rfl)
theorem fl29_1:FieldOf Try.prog 29 1 22 1 1:=fld (by kernel_rfl)
theorem cl40:Callable Try.prog 40:=⟨Try.f40,Try.func40,by kernel_rfl,rfl⟩
theorem bu29_013968f2 (x0:Int) (x1:Int) (x2:Option Addr) (x3:Nat) (x4:Nat) (x5:Option Addr) (x6:Nat) (x7:Nat) (x8:Int) (x9:Int) (x10:Int) (x11:Int) (x12:ByteArray) (x13:Option Addr) (x14:Nat) (x15:Nat) (x16:Int):Try.prog.built 29 [(0,.int .i64 x0),(13,.int .i64 x1),(1,.slice x2 x3 x4),(8,.slice x5 x6 x7),(2,.int .u64 x8),(3,.int .i64 x9),(6,.int .u64 x10),(7,.int .u64 x11),(9,.string x12),(10,.slice x13 x14 x15),(11,.int .u64 x16)] = some #[.int .i64 x0,.slice x2 x3 x4,.int .u64 x8,.int .i64 x9,.int .u8 (0),.int .i64 (0),.int .u64 x10,.int .u64 x11,.slice x5 x6 x7,.string x12,.slice x13 x14 x15,.int .u64 x16,.int .i64 (0),.int .i64 x1,.slice none 0 0,.slice none 0 0,.int .u64 (0),.slice none 0 0]:=by kernel_rfl
theorem cl7:Callable Try.prog 7:=⟨Try.f7,Try.func7,by kernel_rfl,rfl⟩
def zeroPeer:PeerD:={ Id:=0,Members:=[],Term:=0,Vote:=0,Role:=0,Lead:=0,Base:=0,BaseTerm:=0,BaseMembers:=[],Snap:=ByteArray.mk #[],Log:=[],Commit:=0,Idle:=0,Wait:=0,Votes:=[],Follows:=[],Round:=0,Reads:=[] }
def keptR (p:PeerD):PeerD:={ Id:=p.Id,Members:=p.Members,Term:=p.Term,Vote:=p.Vote,Role:=0,Lead:=0,Base:=p.Base,BaseTerm:=p.BaseTerm,BaseMembers:=p.BaseMembers,Snap:=p.Snap,Log:=p.Log,Commit:=p.Base,Idle:=0,Wait:=p.Wait,Votes:=[],Follows:=[],Round:=0,Reads:=[] }
def keptP (p:PeerD):PeerD:=if vmayB p = true then keptR p else zeroPeer
theorem kept_yes {p:PeerD} (h:vmayB p = true):keptR p = keptP p:=by rw [keptP,if_pos h]
theorem kept_no {p:PeerD} (h:vmayB p = false):zeroPeer = keptP p:=by rw [keptP,if_neg (by rw [h]; decide)]
set_option maxHeartbeats 4000000 in
theorem keep_Kept {w:World} {X:List Nat} {p:PeerD} {c_p:List Value} (h_p:peerR.rd X w c_p p) (hsp:KSz p) (hX:∀ x ∈ X,x < w.heap.size):Fnc Try.prog 11 #[.agg c_p.toArray] w (fun v w'=>∃ (u0:List Value),v = .agg u0.toArray ∧ peerR.rd X w' u0 (keptP p) ∧ Ext [] w w'):=by
 obtain ⟨v1,v3,v5,v7,v9,Az,rfl,Da,Db,Dc,Dd,Cm,Cn,Bk⟩:=h_p
 obtain ⟨A9,Ba,Bb,Di,Dj,Bc,Bd,Dk,Dl,Dm,Be,Dn⟩:=(show PeerD.InR p from Bk)
 have A9:=inK_i64 A9
 have Ba:=inK_u64 Ba
 have Bb:=inK_i64 Bb
 have Bc:=inK_u64 Bc
 have Bd:=inK_u64 Bd
 have Be:=inK_i64 Be
 have hFp:=hsp.fits
 have hlp:=hsp.log
 have hfe:=hFp.ents
 have hfm:=hFp.mem
 have hfb:=hFp.base
 refine Fnc.of_WP (n:=33) Try.func11 rfl Try.ntmps11 (by simp) ?_
 intro E hE
 have h0:E 0 = .agg (peerA p v1 v3 v5 v7 v9 Az):=hE 0 (by simp)
 clear hE
 refine WP.sr ?_
 refine WL.box (x:=.tmp 0) (cs:=(peerC p v1 v3 v5 v7 v9 Az)) (Sure.none rfl) rfl rfl h0 rfl (fun Aa Dy Aj Dq Bl=>?_)
 have Co:=(Sl.new (b:=Aa) nz1 Da (by omega)).ext (Ext.any Aj)
 have Cp:=(Sl.new (b:=Aa) nz1 Db (by omega)).ext (Ext.any Aj)
 have Cq:=(Sl.new (b:=Aa) nz4 Dc (by omega)).ext (Ext.any Aj)
 have Cr:=(Sl.new (b:=Aa) nz1 Dd (by omega)).ext (Ext.any Aj)
 have Cs:=(Sl.new (b:=Aa) nz3 Cm (by omega)).ext (Ext.any Aj)
 have Ct:=(Sl.new (b:=Aa) nz3 Cn (by omega)).ext (Ext.any Aj)
 have Bm:Ext [Aa] _ _:=(Ext.refl _ _).trans (Ext.any Aj)
 have Am:w.heap.size ≤ Aa:=by have:=Nat.le_refl w.heap.size; omega
 refine WL.alloc (cs:=peerZ) (Sure.none rfl) rfl rfl z29 rfl (fun Ab Bf Ai Dr Bn=>?_)
 have B2:Aa < Ab:=by have:=Bl.lt; omega
 have A6:=Bl.ext Ai (by simp)
 have Bo:=(Sl.new (b:=Ab) nz1 Co (by omega)).ext (Ext.any Ai)
 have Bp:=(Sl.new (b:=Ab) nz1 Cp (by omega)).ext (Ext.any Ai)
 have Bq:=(Sl.new (b:=Ab) nz4 Cq (by omega)).ext (Ext.any Ai)
 have Cu:=(Sl.new (b:=Ab) nz1 Cr (by omega)).ext (Ext.any Ai)
 have Cv:=(Sl.new (b:=Ab) nz3 Cs (by omega)).ext (Ext.any Ai)
 have Cw:=(Sl.new (b:=Ab) nz3 Ct (by omega)).ext (Ext.any Ai)
 have Br:Ext [Ab,Aa] _ _:=(Ext.cons Bm).trans (Ext.any Ai)
 have An:w.heap.size ≤ Ab:=by have:=Bm.size; omega
 refine WL.nil ?_
 refine WP.seq ?_
 refine WP.sr ?_
 refine WL.z (.agg (peerA p v1 v3 v5 v7 v9 Az)) (V.loadAgg (cs:=(peerC p v1 v3 v5 v7 v9 Az)) rfl a29 rfl (At.box A6) rfl) ?_
 refine WL.c (Sure.none rfl) rfl (C.call1 rfl cl18 rfl) (Fnc.mono (vote_May (p:=p) ⟨v1,v3,v5,v7,v9,Az,rfl,Bo,Bp,Bq,Cu,Cv,Cw,Bk⟩ (inCons Bn.lt (inCons A6.lt (inMono hX Br.size))) (by assumption)) ?_)
 rintro _ Cj ⟨rfl,Au⟩
 have Bs:Ext [Ab,Aa] w Cj:=Br.trans (Ext.any (Y:=[Ab,Aa]) Au)
 have Cx:Ext [Ab,Aa] Bf Cj:=(Ext.any (Y:=[Ab,Aa]) Au)
 have Cy:=A6.ext Au (by simp)
 have Bt:=Bn.ext Au (by simp)
 refine WL.z (.bool (decide ((if vmayB p = true then (0:Int) else 2) ≠ 0))) (V.cmp rfl rfl rfl rfl) ?_
 refine WL.nil ?_
 refine WP.condp (t:=(if vmayB p = true then (0:Int) else 2) ≠ 0) rfl (fun A7=>?_) (fun A7=>?_)
 ·refine WP.sr ?_
  have hno:=may2 A7
  refine WL.z (.agg peerZA) (V.build1 (L:=[]) rfl rfl bu29_d7517139) ?_
  refine WL.storeAgg (vs:=peerZ) (Sure.none rfl) rfl rfl s29 rfl rfl rfl (by intro u hu; simp only [List.mem_cons,List.not_mem_nil,or_false] at hu; rcases hu with rfl | rfl | rfl | rfl | rfl | rfl | rfl | rfl | rfl | rfl | rfl | rfl | rfl | rfl | rfl | rfl | rfl | rfl <;> first | rfl | exact Sl.one (by assumption)) Bt (by show (0:Nat) + 18 ≤ 18; decide) (fun Ck Cz A8=>?_)
  replace A8:Box Ck Ab 29 peerZ:=A8
  have C0:Ext [Ab,Aa] w Ck:=Bs.trans (Cz.mono (by simp))
  refine WL.nil ?_
  refine WP.ret ?_
  refine resOf.c1 rfl (v:=.agg peerZA) ⟨_,_,rfl,run_loadVar_agg a29 (At.box A8) rfl⟩ ?_
  exact ⟨peerZ,rfl,(Rep.base (O:=[Ab,Aa]) (castRd (R:=peerR) (show (({ Id:=0,Members:=[],Term:=0,Vote:=0,Role:=0,Lead:=0,Base:=0,BaseTerm:=0,BaseMembers:=[],Snap:=(ByteArray.mk #[]),Log:=[],Commit:=0,Idle:=0,Wait:=0,Votes:=[],Follows:=[],Round:=0,Reads:=[] }:PeerD):PeerD) = keptP p from (by first | exact kept_no hno | exact kept_yes hyes)) ⟨.slice none 0 0,.slice none 0 0,.slice none 0 0,.slice none 0 0,.slice none 0 0,.slice none 0 0,rfl,Sl.nil,Sl.nil,Sl.nil,Sl.nil,Sl.nil,Sl.nil,⟨(inK_i64' (n:=0) (by omega)),(inK_u64' (n:=0) (by omega)),(inK_i64' (n:=0) (by omega)),(inK_u8' (n:=0) (by omega)),(inK_i64' (n:=0) (by omega)),(inK_u64' (n:=0) (by omega)),(inK_u64' (n:=0) (by omega)),(Nat.zero_le _),(inK_u64' (n:=0) (by omega)),(inK_i64' (n:=0) (by omega)),(inK_i64' (n:=0) (by omega)),(inK_u64' (n:=0) (by omega))⟩⟩)),((C0).done (geCons An (geCons Am geNil)))⟩
 refine WP.skip ?_
 refine WP.seq ?_
 have hyes:=may0 A7
 refine WP.anyT [6,9,22,25,26] [⟨0,.pointer (some ⟨Aa,0,none⟩),fun w=>True,true,false⟩,⟨1,.int .i64 (p.Id),fun w=>w.cell? ⟨Aa,0,none⟩ = some (.int .i64 (p.Id)),false,false⟩,⟨2,.pointer (some ⟨Aa,13,none⟩),fun w=>True,true,false⟩,⟨3,.int .i64 (p.Wait),fun w=>w.cell? ⟨Aa,13,none⟩ = some (.int .i64 (p.Wait)),false,false⟩,⟨4,.pointer (some ⟨Aa,1,none⟩),fun w=>True,true,false⟩,⟨5,v1,fun w=>w.cell? ⟨Aa,1,none⟩ = some (v1),false,false⟩,⟨7,.pointer (some ⟨Aa,8,none⟩),fun w=>True,true,false⟩,⟨8,v3,fun w=>w.cell? ⟨Aa,8,none⟩ = some (v3),false,false⟩,⟨10,.pointer (some ⟨Aa,2,none⟩),fun w=>True,true,false⟩,⟨11,.int .u64 (p.Term),fun w=>w.cell? ⟨Aa,2,none⟩ = some (.int .u64 (p.Term)),false,false⟩,⟨12,.pointer (some ⟨Aa,3,none⟩),fun w=>True,true,false⟩,⟨13,.int .i64 (p.Vote),fun w=>w.cell? ⟨Aa,3,none⟩ = some (.int .i64 (p.Vote)),false,false⟩,⟨14,.pointer (some ⟨Aa,6,none⟩),fun w=>True,true,false⟩,⟨15,.int .u64 (p.Base),fun w=>w.cell? ⟨Aa,6,none⟩ = some (.int .u64 (p.Base)),false,false⟩,⟨16,.pointer (some ⟨Aa,7,none⟩),fun w=>True,true,false⟩,⟨17,.int .u64 (p.BaseTerm),fun w=>w.cell? ⟨Aa,7,none⟩ = some (.int .u64 (p.BaseTerm)),false,false⟩,⟨18,.pointer (some ⟨Aa,9,none⟩),fun w=>True,true,false⟩,⟨19,.string (p.Snap),fun w=>w.cell? ⟨Aa,9,none⟩ = some (.string (p.Snap)),false,false⟩,⟨20,.pointer (some ⟨Aa,10,none⟩),fun w=>True,true,false⟩,⟨21,v5,fun w=>w.cell? ⟨Aa,10,none⟩ = some (v5),false,false⟩,⟨23,.pointer (some ⟨Aa,6,none⟩),fun w=>True,true,false⟩,⟨24,.int .u64 (p.Base),fun w=>w.cell? ⟨Aa,6,none⟩ = some (.int .u64 (p.Base)),false,false⟩] mo (by kernel_rfl) (by kernel_rfl) (by kernel_rfl) (by kernel_rfl) ⟨.inr ⟨(fun _ _=>trivial),_,rfl,?_⟩,.inr ⟨(fun h=>Bool.noConfusion h),_,rfl,?_⟩,.inr ⟨(fun _ _=>trivial),_,rfl,?_⟩,.inr ⟨(fun h=>Bool.noConfusion h),_,rfl,?_⟩,.inr ⟨(fun _ _=>trivial),_,rfl,?_⟩,.inr ⟨(fun h=>Bool.noConfusion h),_,rfl,?_⟩,.inr ⟨(fun _ _=>trivial),_,rfl,?_⟩,.inr ⟨(fun h=>Bool.noConfusion h),_,rfl,?_⟩,.inr ⟨(fun _ _=>trivial),_,rfl,?_⟩,.inr ⟨(fun h=>Bool.noConfusion h),_,rfl,?_⟩,.inr ⟨(fun _ _=>trivial),_,rfl,?_⟩,.inr ⟨(fun h=>Bool.noConfusion h),_,rfl,?_⟩,.inr ⟨(fun _ _=>trivial),_,rfl,?_⟩,.inr ⟨(fun h=>Bool.noConfusion h),_,rfl,?_⟩,.inr ⟨(fun _ _=>trivial),_,rfl,?_⟩,.inr ⟨(fun h=>Bool.noConfusion h),_,rfl,?_⟩,.inr ⟨(fun _ _=>trivial),_,rfl,?_⟩,.inr ⟨(fun h=>Bool.noConfusion h),_,rfl,?_⟩,.inr ⟨(fun _ _=>trivial),_,rfl,?_⟩,.inr ⟨(fun h=>Bool.noConfusion h),_,rfl,?_⟩,.inr ⟨(fun _ _=>trivial),_,rfl,?_⟩,.inr ⟨(fun h=>Bool.noConfusion h),_,rfl,?_⟩,trivial⟩ ?_
 ·intro E' w' hC hE hp
  exact ⟨Sure.none rfl,V.fieldAddr (x:=.tmp 1) rfl fl29_0 ((hE 1 (by kernel_rfl)).trans rfl)⟩
 ·intro E' w' hC hE hp
  replace hC:w'.cell? ⟨Aa,0,none⟩ = some (.int .i64 (p.Id)):=hC
  have De:E' 7 = (.pointer (some ⟨Aa,0,none⟩):Value):=hp 0 (by kernel_rfl) _ _ rfl rfl
  exact ⟨Sure.none rfl,V.load (x:=.tmp 7) rfl p3 De hC⟩
 ·intro E' w' hC hE hp
  exact ⟨Sure.none rfl,V.fieldAddr (x:=.tmp 1) rfl fl29_13 ((hE 1 (by kernel_rfl)).trans rfl)⟩
 ·intro E' w' hC hE hp
  replace hC:w'.cell? ⟨Aa,13,none⟩ = some (.int .i64 (p.Wait)):=hC
  have Df:E' 9 = (.pointer (some ⟨Aa,13,none⟩):Value):=hp 2 (by kernel_rfl) _ _ rfl rfl
  exact ⟨Sure.none rfl,V.load (x:=.tmp 9) rfl p3 Df hC⟩
 ·intro E' w' hC hE hp
  exact ⟨Sure.none rfl,V.fieldAddr (x:=.tmp 1) rfl fl29_1 ((hE 1 (by kernel_rfl)).trans rfl)⟩
 ·intro E' w' hC hE hp
  replace hC:w'.cell? ⟨Aa,1,none⟩ = some (v1):=hC
  have Dg:E' 11 = (.pointer (some ⟨Aa,1,none⟩):Value):=hp 4 (by kernel_rfl) _ _ rfl rfl
  exact ⟨Sure.none rfl,V.load (x:=.tmp 11) rfl p22 Dg hC⟩
 ·intro E' w' hC hE hp
  exact ⟨Sure.none rfl,V.fieldAddr (x:=.tmp 1) rfl fl29_8 ((hE 1 (by kernel_rfl)).trans rfl)⟩
 ·intro E' w' hC hE hp
  replace hC:w'.cell? ⟨Aa,8,none⟩ = some (v3):=hC
  have Dh:E' 14 = (.pointer (some ⟨Aa,8,none⟩):Value):=hp 7 (by kernel_rfl) _ _ rfl rfl
  exact ⟨Sure.none rfl,V.load (x:=.tmp 14) rfl p22 Dh hC⟩
 ·intro E' w' hC hE hp
  exact ⟨Sure.none rfl,V.fieldAddr (x:=.tmp 1) rfl fl29_2 ((hE 1 (by kernel_rfl)).trans rfl)⟩
 ·intro E' w' hC hE hp
  replace hC:w'.cell? ⟨Aa,2,none⟩ = some (.int .u64 (p.Term)):=hC
  have C1:E' 17 = (.pointer (some ⟨Aa,2,none⟩):Value):=hp 10 (by kernel_rfl) _ _ rfl rfl
  exact ⟨Sure.none rfl,V.load (x:=.tmp 17) rfl p23 C1 hC⟩
 ·intro E' w' hC hE hp
  exact ⟨Sure.none rfl,V.fieldAddr (x:=.tmp 1) rfl fl29_3 ((hE 1 (by kernel_rfl)).trans rfl)⟩
 ·intro E' w' hC hE hp
  replace hC:w'.cell? ⟨Aa,3,none⟩ = some (.int .i64 (p.Vote)):=hC
  have C2:E' 19 = (.pointer (some ⟨Aa,3,none⟩):Value):=hp 12 (by kernel_rfl) _ _ rfl rfl
  exact ⟨Sure.none rfl,V.load (x:=.tmp 19) rfl p3 C2 hC⟩
 ·intro E' w' hC hE hp
  exact ⟨Sure.none rfl,V.fieldAddr (x:=.tmp 1) rfl fl29_6 ((hE 1 (by kernel_rfl)).trans rfl)⟩
 ·intro E' w' hC hE hp
  replace hC:w'.cell? ⟨Aa,6,none⟩ = some (.int .u64 (p.Base)):=hC
  have C3:E' 21 = (.pointer (some ⟨Aa,6,none⟩):Value):=hp 14 (by kernel_rfl) _ _ rfl rfl
  exact ⟨Sure.none rfl,V.load (x:=.tmp 21) rfl p23 C3 hC⟩
 ·intro E' w' hC hE hp
  exact ⟨Sure.none rfl,V.fieldAddr (x:=.tmp 1) rfl fl29_7 ((hE 1 (by kernel_rfl)).trans rfl)⟩
 ·intro E' w' hC hE hp
  replace hC:w'.cell? ⟨Aa,7,none⟩ = some (.int .u64 (p.BaseTerm)):=hC
  have C4:E' 23 = (.pointer (some ⟨Aa,7,none⟩):Value):=hp 16 (by kernel_rfl) _ _ rfl rfl
  exact ⟨Sure.none rfl,V.load (x:=.tmp 23) rfl p23 C4 hC⟩
 ·intro E' w' hC hE hp
  exact ⟨Sure.none rfl,V.fieldAddr (x:=.tmp 1) rfl fl29_9 ((hE 1 (by kernel_rfl)).trans rfl)⟩
 ·intro E' w' hC hE hp
  replace hC:w'.cell? ⟨Aa,9,none⟩ = some (.string (p.Snap)):=hC
  have C5:E' 25 = (.pointer (some ⟨Aa,9,none⟩):Value):=hp 18 (by kernel_rfl) _ _ rfl rfl
  exact ⟨Sure.none rfl,V.load (x:=.tmp 25) rfl p9 C5 hC⟩
 ·intro E' w' hC hE hp
  exact ⟨Sure.none rfl,V.fieldAddr (x:=.tmp 1) rfl fl29_10 ((hE 1 (by kernel_rfl)).trans rfl)⟩
 ·intro E' w' hC hE hp
  replace hC:w'.cell? ⟨Aa,10,none⟩ = some (v5):=hC
  have C6:E' 27 = (.pointer (some ⟨Aa,10,none⟩):Value):=hp 20 (by kernel_rfl) _ _ rfl rfl
  exact ⟨Sure.none rfl,V.load (x:=.tmp 27) rfl p25 C6 hC⟩
 ·intro E' w' hC hE hp
  exact ⟨Sure.none rfl,V.fieldAddr (x:=.tmp 1) rfl fl29_6 ((hE 1 (by kernel_rfl)).trans rfl)⟩
 ·intro E' w' hC hE hp
  replace hC:w'.cell? ⟨Aa,6,none⟩ = some (.int .u64 (p.Base)):=hC
  have C7:E' 30 = (.pointer (some ⟨Aa,6,none⟩):Value):=hp 23 (by kernel_rfl) _ _ rfl rfl
  exact ⟨Sure.none rfl,V.load (x:=.tmp 30) rfl p23 C7 hC⟩
 ·intro Ds Cl Av Bu Ag
  have Bv:Ext [Ab,Aa] w Cl:=Bs.trans (Ext.any (Y:=[Ab,Aa]) Av)
  have Bw:Ext [Ab,Aa] Bf Cl:=Cx.trans (Ext.any (Y:=[Ab,Aa]) Av)
  have Ae:=Cy.ext Av (by simp)
  have Bx:=Bt.ext Av (by simp)
  refine Tree.node (rs:=[6]) (by kernel_rfl) ⟨offF rfl,(fun _ _=>Ae.cell rfl),offF rfl,(fun _ _=>Ae.cell rfl),offF rfl,(fun _ _=>Ae.cell rfl),offF rfl,(fun _ _=>Ae.cell rfl),offF rfl,(fun _ _=>Ae.cell rfl),offF rfl,(fun _ _=>Ae.cell rfl),offF rfl,(fun _ _=>Ae.cell rfl),offF rfl,(fun _ _=>Ae.cell rfl),offF rfl,(fun _ _=>Ae.cell rfl),offF rfl,(fun _ _=>Ae.cell rfl),offF rfl,(fun _ _=>Ae.cell rfl),trivial⟩ ⟨⟨_,rfl,[9,22,25,26],by kernel_rfl,?_⟩,trivial⟩
  intro Dz Dt C8
  refine WL.c (Sure.none rfl) rfl (C.call1 (x:=.tmp 12) rfl cl39 ((C8 5 (by kernel_rfl) 12 rfl).trans (Ag 5 _ 12 rfl rfl))) (Fnc.mono (sl_clone_int (Bo.ext (Ext.pre Bw)) (by omega) (X:=(Ab :: (Aa :: X))) (inCons Bx.lt (inCons Ae.lt (inMono hX Bv.size)))) ?_)
  rintro Ap A4 ⟨_,rfl,By,Aw⟩
  have Bz:Ext [Ab,Aa] w A4:=Bv.trans (Ext.any (Y:=[Ab,Aa]) Aw)
  have B0:Ext [Ab,Aa] Bf A4:=Bw.trans (Ext.any (Y:=[Ab,Aa]) Aw)
  have Af:=Ae.ext Aw (by simp)
  have B1:=Bx.ext Aw (by simp)
  refine WL.nil ⟨_,rfl,cstN rfl,?_⟩
  refine Tree.node (rs:=[9]) (by kernel_rfl) ⟨offF rfl,(fun _ _=>Af.cell rfl),offF rfl,(fun _ _=>Af.cell rfl),offF rfl,offN (by kernel_rfl),offF rfl,(fun _ _=>Af.cell rfl),offF rfl,(fun _ _=>Af.cell rfl),offF rfl,(fun _ _=>Af.cell rfl),offF rfl,(fun _ _=>Af.cell rfl),offF rfl,(fun _ _=>Af.cell rfl),offF rfl,(fun _ _=>Af.cell rfl),offF rfl,(fun _ _=>Af.cell rfl),offF rfl,(fun _ _=>Af.cell rfl),trivial⟩ ⟨⟨_,rfl,[22,25,26],by kernel_rfl,?_⟩,trivial⟩
  intro D0 Du C9
  refine WL.c (Sure.none rfl) rfl (C.call1 (x:=.tmp 15) rfl cl39 ((C9 8 (by kernel_rfl) 15 rfl).trans (Ag 8 _ 15 rfl rfl))) (Fnc.mono (sl_clone_int (Bp.ext (Ext.pre B0)) (by omega) (X:=(Ab :: (Aa :: X))) (inCons B1.lt (inCons Af.lt (inMono hX Bz.size)))) ?_)
  rintro Aq A5 ⟨_,rfl,Bg,Ar⟩
  have Bh:Ext [Ab,Aa] w A5:=Bz.trans (Ext.any (Y:=[Ab,Aa]) Ar)
  have B3:Ext [Ab,Aa] Bf A5:=B0.trans (Ext.any (Y:=[Ab,Aa]) Ar)
  have B4:Ext [Ab,Aa] A4 A5:=(Ext.any (Y:=[Ab,Aa]) Ar)
  have Ac:=Af.ext Ar (by simp)
  have Bi:=B1.ext Ar (by simp)
  refine WL.nil ⟨_,rfl,cstN rfl,?_⟩
  refine Tree.node (rs:=[22]) (by kernel_rfl) ⟨offF rfl,(fun _ _=>Ac.cell rfl),offF rfl,(fun _ _=>Ac.cell rfl),offF rfl,offN (by kernel_rfl),offF rfl,offN (by kernel_rfl),offF rfl,(fun _ _=>Ac.cell rfl),offF rfl,(fun _ _=>Ac.cell rfl),offF rfl,(fun _ _=>Ac.cell rfl),offF rfl,(fun _ _=>Ac.cell rfl),offF rfl,(fun _ _=>Ac.cell rfl),offF rfl,(fun _ _=>Ac.cell rfl),offF rfl,(fun _ _=>Ac.cell rfl),trivial⟩ ⟨⟨_,rfl,[25,26],by kernel_rfl,?_⟩,trivial⟩
  intro Dv Do B5
  refine WL.c (Sure.none rfl) rfl (C.call1 (x:=.tmp 28) rfl cl40 ((B5 21 (by kernel_rfl) 28 rfl).trans (Ag 21 _ 28 rfl rfl))) (Fnc.mono (keep_clone (Bq.ext (Ext.pre B3)) (by omega) (by assumption) (X:=(Ab :: (Aa :: X))) (inCons Bi.lt (inCons Ac.lt (inMono hX Bh.size)))) ?_)
  rintro Ak Ax ⟨_,rfl,Bj,Al⟩
  have B6:Ext [Ab,Aa] w Ax:=Bh.trans (Ext.any (Y:=[Ab,Aa]) Al)
  have B7:Ext [Ab,Aa] A4 Ax:=B4.trans (Ext.any (Y:=[Ab,Aa]) Al)
  have B8:Ext [Ab,Aa] A5 Ax:=(Ext.any (Y:=[Ab,Aa]) Al)
  have Ah:=Ac.ext Al (by simp)
  have B9:=Bi.ext Al (by simp)
  refine WL.nil ⟨_,rfl,cstN rfl,?_⟩
  refine Tree.node (rs:=[25]) (by kernel_rfl) ⟨offF rfl,(fun _ _=>Ah.cell rfl),offF rfl,(fun _ _=>Ah.cell rfl),offF rfl,offN (by kernel_rfl),offF rfl,offN (by kernel_rfl),offF rfl,(fun _ _=>Ah.cell rfl),offF rfl,(fun _ _=>Ah.cell rfl),offF rfl,(fun _ _=>Ah.cell rfl),offF rfl,(fun _ _=>Ah.cell rfl),offF rfl,(fun _ _=>Ah.cell rfl),offF rfl,offN (by kernel_rfl),offF rfl,(fun _ _=>Ah.cell rfl),trivial⟩ ⟨⟨_,rfl,[26],by kernel_rfl,?_⟩,trivial⟩
  intro Dw Dp Ad
  obtain ⟨a126,c127,Ca⟩:=By.shape
  obtain ⟨a129,c130,Cb⟩:=Bg.shape
  obtain ⟨a132,c133,Cc⟩:=Bj.shape
  refine WL.z (.agg #[.int .i64 (p.Id),Ap,.int .u64 (p.Term),.int .i64 (p.Vote),.int .u8 (0),.int .i64 (0),.int .u64 (p.Base),.int .u64 (p.BaseTerm),Aq,.string (p.Snap),Ak,.int .u64 (p.Base),.int .i64 (0),.int .i64 (p.Wait),.slice none 0 0,.slice none 0 0,.int .u64 (0),.slice none 0 0]) (V.build1 (L:=[(0,.int .i64 (p.Id)),(13,.int .i64 (p.Wait)),(1,Ap),(8,Aq),(2,.int .u64 (p.Term)),(3,.int .i64 (p.Vote)),(6,.int .u64 (p.Base)),(7,.int .u64 (p.BaseTerm)),(9,.string (p.Snap)),(10,Ak),(11,.int .u64 (p.Base))]) rfl (psCons ((Ad 1 (by kernel_rfl) 8 rfl).trans (Ag 1 _ 8 rfl rfl)) (psCons ((Ad 3 (by kernel_rfl) 10 rfl).trans (Ag 3 _ 10 rfl rfl)) (psCons ((Ad 6 (by kernel_rfl) 13 rfl).trans rfl) (psCons ((Ad 9 (by kernel_rfl) 16 rfl).trans rfl) (psCons ((Ad 11 (by kernel_rfl) 18 rfl).trans (Ag 11 _ 18 rfl rfl)) (psCons ((Ad 13 (by kernel_rfl) 20 rfl).trans (Ag 13 _ 20 rfl rfl)) (psCons ((Ad 15 (by kernel_rfl) 22 rfl).trans (Ag 15 _ 22 rfl rfl)) (psCons ((Ad 17 (by kernel_rfl) 24 rfl).trans (Ag 17 _ 24 rfl rfl)) (psCons ((Ad 19 (by kernel_rfl) 26 rfl).trans (Ag 19 _ 26 rfl rfl)) (psCons ((Ad 22 (by kernel_rfl) 29 rfl).trans rfl) (psCons ((Ad 24 (by kernel_rfl) 31 rfl).trans (Ag 24 _ 31 rfl rfl)) rfl))))))))))) (by rw [Ca,Cb,Cc]; exact bu29_013968f2 _ _ _ _ _ _ _ _ _ _ _ _ _ _ _ _ _)) ?_
  refine WL.nil ⟨_,rfl,cstN rfl,?_⟩
  refine Tree.node (rs:=[26]) (by kernel_rfl) ⟨offF rfl,offN (by kernel_rfl),offF rfl,offN (by kernel_rfl),offF rfl,offN (by kernel_rfl),offF rfl,offN (by kernel_rfl),offF rfl,offN (by kernel_rfl),offF rfl,offN (by kernel_rfl),offF rfl,offN (by kernel_rfl),offF rfl,offN (by kernel_rfl),offF rfl,offN (by kernel_rfl),offF rfl,offN (by kernel_rfl),offF rfl,offN (by kernel_rfl),trivial⟩ ⟨⟨_,rfl,[],by kernel_rfl,?_⟩,trivial⟩
  intro Dx Cd Ce
  refine WL.storeAgg (x:=.tmp 2) (y:=.tmp 32) (vs:=[.int .i64 (p.Id),Ap,.int .u64 (p.Term),.int .i64 (p.Vote),.int .u8 (0),.int .i64 (0),.int .u64 (p.Base),.int .u64 (p.BaseTerm),Aq,.string (p.Snap),Ak,.int .u64 (p.Base),.int .i64 (0),.int .i64 (p.Wait),.slice none 0 0,.slice none 0 0,.int .u64 (0),.slice none 0 0]) (Sure.none rfl) rfl rfl s29 ((Cd 2 (by kernel_rfl)).trans ((Bu 2 (by kernel_rfl)).trans rfl)) ((Ce 25 (by kernel_rfl) 32 rfl).trans rfl) rfl (by intro u hu; simp only [List.mem_cons,List.not_mem_nil,or_false] at hu; rcases hu with rfl | rfl | rfl | rfl | rfl | rfl | rfl | rfl | rfl | rfl | rfl | rfl | rfl | rfl | rfl | rfl | rfl | rfl <;> first | rfl | exact Sl.one (by assumption)) B9 (by show (0:Nat) + 18 ≤ 18; decide) (fun As Ao Ay=>?_)
  replace Ay:Box As Ab 29 [.int .i64 (p.Id),Ap,.int .u64 (p.Term),.int .i64 (p.Vote),.int .u8 (0),.int .i64 (0),.int .u64 (p.Base),.int .u64 (p.BaseTerm),Aq,.string (p.Snap),Ak,.int .u64 (p.Base),.int .i64 (0),.int .i64 (p.Wait),.slice none 0 0,.slice none 0 0,.int .u64 (0),.slice none 0 0]:=Ay
  have Cf:Ext [Ab,Aa] w As:=B6.trans (Ao.mono (by simp))
  have Cg:Ext [Ab,Aa] A4 As:=B7.trans (Ao.mono (by simp))
  have Ch:Ext [Ab,Aa] A5 As:=B8.trans (Ao.mono (by simp))
  have Ci:Ext [Ab,Aa] Ax As:=(Ao.mono (by simp))
  refine WL.nil ⟨_,rfl,cstN rfl,?_⟩
  refine Tree.leaf ?_
  refine WP.ret ?_
  refine resOf.c1 rfl (v:=.agg #[.int .i64 (p.Id),Ap,.int .u64 (p.Term),.int .i64 (p.Vote),.int .u8 (0),.int .i64 (0),.int .u64 (p.Base),.int .u64 (p.BaseTerm),Aq,.string (p.Snap),Ak,.int .u64 (p.Base),.int .i64 (0),.int .i64 (p.Wait),.slice none 0 0,.slice none 0 0,.int .u64 (0),.slice none 0 0]) ⟨_,_,((Bu 2 (by kernel_rfl)).trans rfl),run_loadVar_agg a29 (At.box Ay) rfl⟩ ?_
  exact ⟨[.int .i64 (p.Id),Ap,.int .u64 (p.Term),.int .i64 (p.Vote),.int .u8 (0),.int .i64 (0),.int .u64 (p.Base),.int .u64 (p.BaseTerm),Aq,.string (p.Snap),Ak,.int .u64 (p.Base),.int .i64 (0),.int .i64 (p.Wait),.slice none 0 0,.slice none 0 0,.int .u64 (0),.slice none 0 0],rfl,(Rep.base (O:=[Ab,Aa]) (castRd (R:=peerR) (show (({ Id:=p.Id,Members:=p.Members,Term:=p.Term,Vote:=p.Vote,Role:=0,Lead:=0,Base:=p.Base,BaseTerm:=p.BaseTerm,BaseMembers:=p.BaseMembers,Snap:=p.Snap,Log:=p.Log,Commit:=p.Base,Idle:=0,Wait:=p.Wait,Votes:=[],Follows:=[],Round:=0,Reads:=[] }:PeerD):PeerD) = keptP p from (by first | exact kept_no hno | exact kept_yes hyes)) ⟨Ap,Aq,Ak,.slice none 0 0,.slice none 0 0,.slice none 0 0,rfl,(By.ext (Ext.pre Cg)),(Bg.ext (Ext.pre Ch)),(Bj.ext (Ext.pre Ci)),Sl.nil,Sl.nil,Sl.nil,⟨(inK_i64' (n:=p.Id) (by omega)),(inK_u64' (n:=p.Term) (by omega)),(inK_i64' (n:=p.Vote) (by omega)),(inK_u8' (n:=0) (by omega)),(inK_i64' (n:=0) (by omega)),(inK_u64' (n:=p.Base) (by omega)),(inK_u64' (n:=p.BaseTerm) (by omega)),(by show (p.Snap).size ≤ maxLen; omega),(inK_u64' (n:=p.Base) (by omega)),(inK_i64' (n:=0) (by omega)),(inK_i64' (n:=p.Wait) (by omega)),(inK_u64' (n:=0) (by omega))⟩⟩)),((Cf).done (geCons An (geCons Am geNil)))⟩
set_option maxHeartbeats 4000000 in
theorem ref12_Kept {w:World} {X:List Nat} {p:PeerD} {c_p:List Value} (h_p:peerR.rd X w c_p p) (hsp:KSz p) (hX:∀ x ∈ X,x < w.heap.size):Fnc Try.prog 12 #[.agg c_p.toArray] w (fun v w'=>∃ (u0:List Value),v = .agg u0.toArray ∧ peerR.rd X w' u0 (keptP p) ∧ Ext [] w w'):=by
 obtain ⟨v1,v3,v5,v7,v9,Aj,rfl,Ci,Cj,Ck,Cl,B3,B4,Am⟩:=h_p
 obtain ⟨Cr,Cs,Ct,Cu,Cv,Cw,Cx,Cy,Cz,C0,C1,C2⟩:=(show PeerD.InR p from Am)
 have hFp:=hsp.fits
 refine Fnc.of_WP (n:=32) Try.func12 rfl Try.ntmps12 (by simp) ?_
 intro E hE
 have h0:E 0 = .agg (peerA p v1 v3 v5 v7 v9 Aj):=hE 0 (by simp)
 clear hE
 refine WP.sr ?_
 refine WL.box (x:=.tmp 0) (cs:=(peerC p v1 v3 v5 v7 v9 Aj)) (Sure.none rfl) rfl rfl h0 rfl (fun Aa Db Ah C5 Bc=>?_)
 have B5:=(Sl.new (b:=Aa) nz1 Ci (by omega)).ext (Ext.any Ah)
 have B6:=(Sl.new (b:=Aa) nz1 Cj (by omega)).ext (Ext.any Ah)
 have B7:=(Sl.new (b:=Aa) nz4 Ck (by omega)).ext (Ext.any Ah)
 have B8:=(Sl.new (b:=Aa) nz1 Cl (by omega)).ext (Ext.any Ah)
 have B9:=(Sl.new (b:=Aa) nz3 B3 (by omega)).ext (Ext.any Ah)
 have Ca:=(Sl.new (b:=Aa) nz3 B4 (by omega)).ext (Ext.any Ah)
 have Bd:Ext [Aa] _ _:=(Ext.refl _ _).trans (Ext.any Ah)
 have Ak:w.heap.size ≤ Aa:=by have:=Nat.le_refl w.heap.size; omega
 refine WL.alloc (cs:=peerZ) (Sure.none rfl) rfl rfl z29 rfl (fun Ab Cm Ad C6 Be=>?_)
 have Bq:Aa < Ab:=by have:=Bc.lt; omega
 have As:=Bc.ext Ad (by simp)
 have Bf:=(Sl.new (b:=Ab) nz1 B5 (by omega)).ext (Ext.any Ad)
 have Bg:=(Sl.new (b:=Ab) nz1 B6 (by omega)).ext (Ext.any Ad)
 have Bh:=(Sl.new (b:=Ab) nz4 B7 (by omega)).ext (Ext.any Ad)
 have Bi:=(Sl.new (b:=Ab) nz1 B8 (by omega)).ext (Ext.any Ad)
 have Bj:=(Sl.new (b:=Ab) nz3 B9 (by omega)).ext (Ext.any Ad)
 have Bk:=(Sl.new (b:=Ab) nz3 Ca (by omega)).ext (Ext.any Ad)
 have Bl:Ext [Ab,Aa] _ _:=(Ext.cons Bd).trans (Ext.any Ad)
 have Al:w.heap.size ≤ Ab:=by have:=Bd.size; omega
 refine WL.nil ?_
 refine WP.seq ?_
 refine WP.sr ?_
 refine WL.z (.agg (peerA p v1 v3 v5 v7 v9 Aj)) (V.loadAgg (cs:=(peerC p v1 v3 v5 v7 v9 Aj)) rfl a29 rfl (At.box As) rfl) ?_
 refine WL.c (Sure.none rfl) rfl (C.call1 rfl cl28 rfl) (Fnc.mono (ref_May (p:=p) ⟨v1,v3,v5,v7,v9,Aj,rfl,Bf,Bg,Bh,Bi,Bj,Bk,Am⟩ (inCons Be.lt (inCons As.lt (inMono hX Bl.size))) (by assumption)) ?_)
 rintro _ By ⟨rfl,An⟩
 have Au:Ext [Ab,Aa] w By:=Bl.trans (Ext.any (Y:=[Ab,Aa]) An)
 have Ai:Ext [Ab,Aa] Cm By:=(Ext.any (Y:=[Ab,Aa]) An)
 have Av:=As.ext An (by simp)
 have Aw:=Be.ext An (by simp)
 refine WL.z (.bool (!(refMayB p))) (V.not rfl rfl) ?_
 refine WL.nil ?_
 refine WP.condn (t:=refMayB p) rfl (fun Ax=>?_) (fun Ax=>?_)
 ·refine WP.sr ?_
  have hno:vmayB p = false:=(vmay_eq p Am).trans Ax
  refine WL.z (.agg peerZA) (V.build1 (L:=[]) rfl rfl bu29_d7517139) ?_
  refine WL.storeAgg (vs:=peerZ) (Sure.none rfl) rfl rfl s29 rfl rfl rfl (by intro u hu; simp only [List.mem_cons,List.not_mem_nil,or_false] at hu; rcases hu with rfl | rfl | rfl | rfl | rfl | rfl | rfl | rfl | rfl | rfl | rfl | rfl | rfl | rfl | rfl | rfl | rfl | rfl <;> first | rfl | exact Sl.one (by assumption)) Aw (by show (0:Nat) + 18 ≤ 18; decide) (fun Bz Cb Ay=>?_)
  replace Ay:Box Bz Ab 29 peerZ:=Ay
  have Cc:Ext [Ab,Aa] w Bz:=Au.trans (Cb.mono (by simp))
  refine WL.nil ?_
  refine WP.ret ?_
  refine resOf.c1 rfl (v:=.agg peerZA) ⟨_,_,rfl,run_loadVar_agg a29 (At.box Ay) rfl⟩ ?_
  exact ⟨peerZ,rfl,(Rep.base (O:=[Ab,Aa]) (castRd (R:=peerR) (show (({ Id:=0,Members:=[],Term:=0,Vote:=0,Role:=0,Lead:=0,Base:=0,BaseTerm:=0,BaseMembers:=[],Snap:=(ByteArray.mk #[]),Log:=[],Commit:=0,Idle:=0,Wait:=0,Votes:=[],Follows:=[],Round:=0,Reads:=[] }:PeerD):PeerD) = keptP p from (by first | exact kept_no hno | exact kept_yes hyes)) ⟨.slice none 0 0,.slice none 0 0,.slice none 0 0,.slice none 0 0,.slice none 0 0,.slice none 0 0,rfl,Sl.nil,Sl.nil,Sl.nil,Sl.nil,Sl.nil,Sl.nil,⟨(inK_i64' (n:=0) (by omega)),(inK_u64' (n:=0) (by omega)),(inK_i64' (n:=0) (by omega)),(inK_u8' (n:=0) (by omega)),(inK_i64' (n:=0) (by omega)),(inK_u64' (n:=0) (by omega)),(inK_u64' (n:=0) (by omega)),(Nat.zero_le _),(inK_u64' (n:=0) (by omega)),(inK_i64' (n:=0) (by omega)),(inK_i64' (n:=0) (by omega)),(inK_u64' (n:=0) (by omega))⟩⟩)),((Cc).done (geCons Al (geCons Ak geNil)))⟩
 refine WP.skip ?_
 refine WP.sr ?_
 have hyes:vmayB p = true:=(vmay_eq p Am).trans Ax
 refine WL.z (.agg (peerA p v1 v3 v5 v7 v9 Aj)) (V.loadAgg (cs:=(peerC p v1 v3 v5 v7 v9 Aj)) rfl a29 rfl (At.box Av) rfl) ?_
 refine WL.c (Sure.none rfl) rfl (C.call1 rfl cl7 rfl) (Fnc.mono (ref_Own (p:=p) ⟨v1,v3,v5,v7,v9,Aj,rfl,(Bf.ext (Ext.pre Ai)),(Bg.ext (Ext.pre Ai)),(Bh.ext (Ext.pre Ai)),(Bi.ext (Ext.pre Ai)),(Bj.ext (Ext.pre Ai)),(Bk.ext (Ext.pre Ai)),Am⟩ (by assumption) (X:=(Ab :: (Aa :: X))) (inCons Aw.lt (inCons Av.lt (inMono hX Au.size)))) ?_)
 rintro _ Bm ⟨C7,rfl,Cd,Az⟩
 have Ce:Ext [Ab,Aa] w Bm:=Au.trans (Ext.any (Y:=[Ab,Aa]) Az)
 have Cf:=Av.ext Az (by simp)
 have Cg:=Aw.ext Az (by simp)
 obtain ⟨Ae,Af,Ag,B0,B1,B2,rfl,Bn,Bo,Bp,C8,C9,Da,Ch⟩:=Cd
 obtain ⟨A6,A7,A8,C3,C4,A9,Ba,Cn,Co,Cp,Ar,Cq⟩:=(show PeerD.InR p from Ch)
 have A6:=inK_i64 A6
 have A7:=inK_u64 A7
 have A8:=inK_i64 A8
 have A9:=inK_u64 A9
 have Ba:=inK_u64 Ba
 have Ar:=inK_i64 Ar
 refine WL.storeAgg (vs:=(peerC p Ae Af Ag B0 B1 B2)) (Sure.none rfl) rfl rfl s29 rfl rfl rfl (by intro u hu; simp only [List.mem_cons,List.not_mem_nil,or_false] at hu; rcases hu with rfl | rfl | rfl | rfl | rfl | rfl | rfl | rfl | rfl | rfl | rfl | rfl | rfl | rfl | rfl | rfl | rfl | rfl <;> first | rfl | exact Sl.one (by assumption)) Cf (by show (0:Nat) + 18 ≤ 18; decide) (fun A4 Ao Ac=>?_)
 replace Ac:Box A4 Aa 29 (peerC p Ae Af Ag B0 B1 B2):=Ac
 have Br:=Cg.ext Ao (by simp; omega)
 have Bs:Ext [Ab,Aa] w A4:=Ce.trans (Ao.mono (by simp))
 have Bt:Ext [Ab,Aa] Bm A4:=(Ao.mono (by simp))
 refine WL.nil ?_
 refine WP.sr ?_
 refine WL.f (.int .i64 (p.Id)) fl29_0 rfl p3 (Ac.cell rfl) ?_
 refine WL.f (.int .i64 (p.Wait)) fl29_13 rfl p3 (Ac.cell rfl) ?_
 refine WL.f (Ae) fl29_1 rfl p22 (Ac.cell rfl) ?_
 refine WL.f (Af) fl29_8 rfl p22 (Ac.cell rfl) ?_
 refine WL.f (.int .u64 (p.Term)) fl29_2 rfl p23 (Ac.cell rfl) ?_
 refine WL.f (.int .i64 (p.Vote)) fl29_3 rfl p3 (Ac.cell rfl) ?_
 refine WL.f (.int .u64 (p.Base)) fl29_6 rfl p23 (Ac.cell rfl) ?_
 refine WL.f (.int .u64 (p.BaseTerm)) fl29_7 rfl p23 (Ac.cell rfl) ?_
 refine WL.f (.string (p.Snap)) fl29_9 rfl p9 (Ac.cell rfl) ?_
 refine WL.f (Ag) fl29_10 rfl p25 (Ac.cell rfl) ?_
 refine WL.f (.int .u64 (p.Base)) fl29_6 rfl p23 (Ac.cell rfl) ?_
 obtain ⟨a119,c120,Bu⟩:=Bn.shape
 obtain ⟨a122,c123,Bv⟩:=Bo.shape
 obtain ⟨a125,c126,Bw⟩:=Bp.shape
 refine WL.z (.agg #[.int .i64 (p.Id),Ae,.int .u64 (p.Term),.int .i64 (p.Vote),.int .u8 (0),.int .i64 (0),.int .u64 (p.Base),.int .u64 (p.BaseTerm),Af,.string (p.Snap),Ag,.int .u64 (p.Base),.int .i64 (0),.int .i64 (p.Wait),.slice none 0 0,.slice none 0 0,.int .u64 (0),.slice none 0 0]) (V.build1 (L:=[(0,.int .i64 (p.Id)),(13,.int .i64 (p.Wait)),(1,Ae),(8,Af),(2,.int .u64 (p.Term)),(3,.int .i64 (p.Vote)),(6,.int .u64 (p.Base)),(7,.int .u64 (p.BaseTerm)),(9,.string (p.Snap)),(10,Ag),(11,.int .u64 (p.Base))]) rfl (psCons rfl (psCons rfl (psCons rfl (psCons rfl (psCons rfl (psCons rfl (psCons rfl (psCons rfl (psCons rfl (psCons rfl (psCons rfl rfl))))))))))) (by rw [Bu,Bv,Bw]; exact bu29_013968f2 _ _ _ _ _ _ _ _ _ _ _ _ _ _ _ _ _)) ?_
 refine WL.storeAgg (vs:=[.int .i64 (p.Id),Ae,.int .u64 (p.Term),.int .i64 (p.Vote),.int .u8 (0),.int .i64 (0),.int .u64 (p.Base),.int .u64 (p.BaseTerm),Af,.string (p.Snap),Ag,.int .u64 (p.Base),.int .i64 (0),.int .i64 (p.Wait),.slice none 0 0,.slice none 0 0,.int .u64 (0),.slice none 0 0]) (Sure.none rfl) rfl rfl s29 rfl rfl rfl (by intro u hu; simp only [List.mem_cons,List.not_mem_nil,or_false] at hu; rcases hu with rfl | rfl | rfl | rfl | rfl | rfl | rfl | rfl | rfl | rfl | rfl | rfl | rfl | rfl | rfl | rfl | rfl | rfl <;> first | rfl | exact Sl.one (by assumption)) Br (by show (0:Nat) + 18 ≤ 18; decide) (fun A5 Bb Ap=>?_)
 replace Ap:Box A5 Ab 29 [.int .i64 (p.Id),Ae,.int .u64 (p.Term),.int .i64 (p.Vote),.int .u8 (0),.int .i64 (0),.int .u64 (p.Base),.int .u64 (p.BaseTerm),Af,.string (p.Snap),Ag,.int .u64 (p.Base),.int .i64 (0),.int .i64 (p.Wait),.slice none 0 0,.slice none 0 0,.int .u64 (0),.slice none 0 0]:=Ap
 have Bx:Ext [Ab,Aa] w A5:=Bs.trans (Bb.mono (by simp))
 have Aq:Ext [Ab,Aa] Bm A5:=Bt.trans (Bb.mono (by simp))
 refine WL.nil ?_
 refine WP.ret ?_
 refine resOf.c1 rfl (v:=.agg #[.int .i64 (p.Id),Ae,.int .u64 (p.Term),.int .i64 (p.Vote),.int .u8 (0),.int .i64 (0),.int .u64 (p.Base),.int .u64 (p.BaseTerm),Af,.string (p.Snap),Ag,.int .u64 (p.Base),.int .i64 (0),.int .i64 (p.Wait),.slice none 0 0,.slice none 0 0,.int .u64 (0),.slice none 0 0]) ⟨_,_,rfl,run_loadVar_agg a29 (At.box Ap) rfl⟩ ?_
 exact ⟨[.int .i64 (p.Id),Ae,.int .u64 (p.Term),.int .i64 (p.Vote),.int .u8 (0),.int .i64 (0),.int .u64 (p.Base),.int .u64 (p.BaseTerm),Af,.string (p.Snap),Ag,.int .u64 (p.Base),.int .i64 (0),.int .i64 (p.Wait),.slice none 0 0,.slice none 0 0,.int .u64 (0),.slice none 0 0],rfl,(Rep.base (O:=[Ab,Aa]) (castRd (R:=peerR) (show (({ Id:=p.Id,Members:=p.Members,Term:=p.Term,Vote:=p.Vote,Role:=0,Lead:=0,Base:=p.Base,BaseTerm:=p.BaseTerm,BaseMembers:=p.BaseMembers,Snap:=p.Snap,Log:=p.Log,Commit:=p.Base,Idle:=0,Wait:=p.Wait,Votes:=[],Follows:=[],Round:=0,Reads:=[] }:PeerD):PeerD) = keptP p from (by first | exact kept_no hno | exact kept_yes hyes)) ⟨Ae,Af,Ag,.slice none 0 0,.slice none 0 0,.slice none 0 0,rfl,(Bn.ext (Ext.pre Aq)),(Bo.ext (Ext.pre Aq)),(Bp.ext (Ext.pre Aq)),Sl.nil,Sl.nil,Sl.nil,⟨(inK_i64' (n:=p.Id) (by omega)),(inK_u64' (n:=p.Term) (by omega)),(inK_i64' (n:=p.Vote) (by omega)),(inK_u8' (n:=0) (by omega)),(inK_i64' (n:=0) (by omega)),(inK_u64' (n:=p.Base) (by omega)),(inK_u64' (n:=p.BaseTerm) (by omega)),(by show (p.Snap).size ≤ maxLen; omega),(inK_u64' (n:=p.Base) (by omega)),(inK_i64' (n:=0) (by omega)),(inK_i64' (n:=p.Wait) (by omega)),(inK_u64' (n:=0) (by omega))⟩⟩)),((Bx).done (geCons Al (geCons Ak geNil)))⟩
end Go.Proofs.Ytiaicihpocoeiaa.X1
namespace Go.Proofs.Ytiaicihpocoeiaa.X1
open T W Go.RowKit
set_option maxRecDepth 100000
set_option maxHeartbeats 400000
theorem fl29_15:FieldOf Try.prog 29 15 26 15 1:=fld (by kernel_rfl)
theorem p26:Plain Try.prog 26:=⟨.slice 73,by kernel_rfl,by intros; simp,by intros; simp⟩
theorem u26:Try.prog.underlying 26 = some (.slice 73):=by kernel_rfl
theorem fl29_17:FieldOf Try.prog 29 17 27 17 1:=fld (by kernel_rfl)
theorem p27:Plain Try.prog 27:=⟨.slice 53,by kernel_rfl,by intros; simp,by intros; simp⟩
theorem u27:Try.prog.underlying 27 = some (.slice 53):=by kernel_rfl
def dSum (l:List EntryD):Nat → Int
  | 0=>0
  | k + 1=>dSum l k + ((l.getD k default).Data.size:Int)
theorem dSum_in {l:List EntryD} (h:∀ k,k < l.length → (l.getD k default).Data.size ≤ 1048576):∀ k,k ≤ l.length → 0 ≤ dSum l k ∧ dSum l k ≤ 1048576 * (k:Int)
 | 0,_=>by simp [dSum]
 | k + 1,hk=>by
  have h1:=dSum_in h k (by omega)
  have h2:=h k (by omega)
  rw [dSum]; omega
def smN (p:PeerD):Nat:=min p.Log.length 41
def smM (p:PeerD):Bool:=allB (smN p) (fun j=>decide (((p.Log.getD j default).Members.length:Int) ≤ 64))
def smallK (p:PeerD):Bool:=smM p && (decide (dSum p.Log (smN p) < 16384) && (decide ((p.Log.length:Int) ≤ 40) && (decide ((p.Follows.length:Int) ≤ 64) && (decide ((p.Reads.length:Int) ≤ 60) && decide ((p.Snap.size:Int) < 4096)))))
theorem sm_bad {p:PeerD} {k:Nat} (hk:k < smN p) (h:((p.Log.getD k default).Members.length:Int) > 64):false = smallK p:=by
 have:smM p = false:=allB_false hk (by rw [decide_eq_false (by omega)])
 rw [smallK,this]; rfl
theorem sm_ok {p:PeerD} {k:Nat} (hk:k = smN p) (h:∀ j,j < k → (fun j=>decide (((p.Log.getD j default).Members.length:Int) ≤ 64)) j = true):smallK p = (decide (dSum p.Log k < 16384) && (decide ((p.Log.length:Int) ≤ 40) && (decide ((p.Follows.length:Int) ≤ 64) && (decide ((p.Reads.length:Int) ≤ 60) && decide ((p.Snap.size:Int) < 4096))))):=by
 subst hk
 have:smM p = true:=allB_true h (Nat.le_refl _)
 rw [smallK,this,Bool.true_and]
theorem law_same {w:World} {X:List Nat} {v_xs:Value} {xs:List ByteArray} (h_xs:Sl strR X w v_xs xs) {v_ys:Value} {ys:List ByteArray} (h_ys:Sl strR X w v_ys ys):Fnc Try.prog 13 #[v_xs,v_ys] w (fun v w'=>v = .bool (eqB seqB xs ys) ∧ Ext [] w w'):=by
 have hle_xs:=h_xs.le'
 refine Fnc.of_WP (n:=26) Try.func13 rfl Try.ntmps13 (by simp) ?_
 intro E hE
 have h0:E 0 = v_xs:=hE 0 (by simp)
 have h1:E 1 = v_ys:=hE 1 (by simp)
 clear hE
 refine WP.sr ?_
 refine WL.m rfl ?_
 refine WL.nil ?_
 refine WP.seq ?_
 refine WP.sr ?_
 refine WL.m rfl ?_
 obtain ⟨a1,c2,Ai⟩:=h_xs.shape
 refine WL.z (.int .i64 (((xs).length:Int))) (V.lenSlice (x:=.tmp 6) rfl rfl u33 (Eq.trans (b:=v_xs) h0 Ai)) ?_
 refine WL.m rfl ?_
 obtain ⟨a4,c5,Aq⟩:=h_ys.shape
 refine WL.z (.int .i64 (((ys).length:Int))) (V.lenSlice (x:=.tmp 8) rfl rfl u33 (Eq.trans (b:=v_ys) h1 Aq)) ?_
 refine WL.z (.bool (decide (((xs).length:Int) ≠ ((ys).length:Int)))) (V.cmp rfl rfl rfl rfl) ?_
 refine WL.nil ?_
 refine WP.condp (t:=((xs).length:Int) ≠ ((ys).length:Int)) rfl (fun Ar=>?_) (fun Ar=>?_)
 ·refine WP.sr ?_
  refine WL.m rfl ?_
  refine WL.nil ?_
  refine WP.ret ?_
  refine resOf.c1 rfl (v:=.bool (false)) rfl ?_
  exact ⟨(bool_eq (by first | (exact (eqB_len (by omega)).symm) | (exact (eqB_true (by omega) (by assumption) (by omega)).symm) | (exact (eqB_false (by omega) (by omega) (by first | assumption | grind [seqB])).symm))),Ext.refl _ _⟩
 refine WP.skip ?_
 refine WP.seq ?_
 refine WP.sr ?_
 refine WL.m rfl ?_
 refine WL.nil ?_
 refine WP.block ?_
 refine WP.loop (σ:=Nat) (fun k E8 w9=>E8 0 = v_xs ∧ E8 1 = v_ys ∧ E8 5 = .int .i64 ((k:Int)) ∧ E8 10 = .bool (decide (((xs).length:Int) ≠ ((ys).length:Int))) ∧ Ext [] w w9 ∧ k ≤ xs.length ∧ ∀ j,j < k → (fun i=>seqB (xs.getD i ByteArray.empty) (ys.getD i ByteArray.empty)) j = true) (fun k=>xs.length - k) (0) ?_ ?_
 ·exact ⟨h0,h1,(int_eq (by omega)),rfl,(Ext.refl _ _),(by omega),(all_zero _)⟩
 rintro k E8 w9 ⟨Ab,Ad,Aa,Ae,Aj,As,Au⟩
 have Ac:Ext [] w w9:=Aj
 refine WP.seq ?_
 refine WP.sr ?_
 refine WL.m rfl ?_
 refine WL.m rfl ?_
 refine WL.z (.int .i64 (((xs).length:Int))) (V.lenSlice (x:=.tmp 12) rfl rfl u33 (Eq.trans (b:=v_xs) Ab Ai)) ?_
 refine WL.z (.bool (decide ((k:Int) < ((xs).length:Int)))) (V.cmp (x:=.tmp 11) rfl Aa rfl rfl) ?_
 refine WL.nil ?_
 refine WP.condp (t:=(k:Int) < ((xs).length:Int)) rfl (fun Ak=>?_) (fun Ak=>?_)
 rotate_left
 ·refine WP.exit ?_
  refine WP.sr ?_
  refine WL.m rfl ?_
  refine WL.nil ?_
  refine WP.ret ?_
  refine resOf.c1 rfl (v:=.bool (true)) rfl ?_
  exact ⟨(bool_eq (by first | (exact (eqB_len (by omega)).symm) | (exact (eqB_true (by omega) (by assumption) (by omega)).symm) | (exact (eqB_false (by omega) (by omega) (by first | assumption | grind [seqB])).symm))),Ac⟩
 refine WP.skip ?_
 refine WP.seq ?_
 refine WP.block ?_
 refine WP.seq ?_
 refine WP.quiet mo (by kernel_rfl) ?_
 refine WQ.m rfl ?_
 refine WQ.m rfl ?_
 have hlt21:k < (xs).length:=by first | omega | (simp at *; omega)
 obtain ⟨Av,Aw,c15,A6,Al,hnb18,Am,Ag⟩:=(h_xs.ext (Ext.pre Ac)).get (i:=k) (x:=(xs.getD k ByteArray.empty)) (getD_some hlt21 _)
 obtain ⟨rfl,A4⟩:=Am
 refine WQ.z (.pointer (some ⟨Av,Aw + k * 1,none⟩)) (fun w' hw=>V.indexAddr (x:=.tmp 17) (i:=.tmp 18) (m:=k) (j:=(k:Int)) rfl u33 s9 (Eq.trans (b:=v_xs) Ab Al) Aa rfl hlt21) ?_
 refine WQ.z (.string ((xs.getD k ByteArray.empty))) (fun w' hw=>V.load rfl p9 rfl ((Ag.ext hw (by simp)).cell (j:=0) rfl)) ?_
 refine WQ.m rfl ?_
 refine WQ.m rfl ?_
 have hlt31:k < (ys).length:=by first | omega | (simp at *; omega)
 obtain ⟨Ax,Ay,c25,A7,An,hnb28,Ao,Ah⟩:=(h_ys.ext (Ext.pre Ac)).get (i:=k) (x:=(ys.getD k ByteArray.empty)) (getD_some hlt31 _)
 obtain ⟨rfl,A5⟩:=Ao
 refine WQ.z (.pointer (some ⟨Ax,Ay + k * 1,none⟩)) (fun w' hw=>V.indexAddr (x:=.tmp 21) (i:=.tmp 22) (m:=k) (j:=(k:Int)) rfl u33 s9 (Eq.trans (b:=v_ys) Ad An) Aa rfl hlt31) ?_
 refine WQ.z (.string ((ys.getD k ByteArray.empty))) (fun w' hw=>V.load rfl p9 rfl ((Ah.ext hw (by simp)).cell (j:=0) rfl)) ?_
 refine WQ.z (.bool (!(seqB (xs.getD k ByteArray.empty) (ys.getD k ByteArray.empty)))) (fun w' hw=>V.scmp rfl rfl rfl rfl) ?_
 refine WQ.nil (fun Az hq34=>?_)
 have Af:Ext [] w Az:=Ac.trans hq34
 refine WP.condn (t:=seqB (xs.getD k ByteArray.empty) (ys.getD k ByteArray.empty)) rfl (fun Ap=>?_) (fun Ap=>?_)
 ·refine WP.sr ?_
  refine WL.m rfl ?_
  refine WL.nil ?_
  refine WP.ret ?_
  refine resOf.c1 rfl (v:=.bool (false)) rfl ?_
  exact ⟨(bool_eq (by first | (exact (eqB_len (by omega)).symm) | (exact (eqB_true (by omega) (by assumption) (by omega)).symm) | (exact (eqB_false (by omega) (by omega) (by first | assumption | grind [seqB])).symm))),Af⟩
 refine WP.skip ?_
 refine WP.region ?_
 refine WL.m rfl ?_
 refine WL.z (.int .i64 ((k:Int) + 1)) (V.arith (x:=.tmp 15) rfl Aa rfl rfl (wrap_i64 (by omega) (by omega))) ?_
 refine WL.m rfl ?_
 refine WL.nil ?_
 exact ⟨k + 1,⟨Ab,Ad,(int_eq (by omega)),Ae,Af,(by omega),(all_step (by assumption) (by first | assumption | grind [seqB]))⟩,(by omega)⟩
set_option maxHeartbeats 4000000 in
theorem law_small {w:World} {X:List Nat} {p:PeerD} {c_p:List Value} (h_p:peerR.rd X w c_p p) (hsp:KSz p):Fnc Try.prog 5 #[.agg c_p.toArray] w (fun v w'=>v = .bool (smallK p) ∧ Ext [] w w'):=by
 obtain ⟨v1,v3,v5,v7,v9,Ai,rfl,Cp,Cq,Bd,Cr,Bg,Bh,Bi⟩:=h_p
 obtain ⟨Bu,Bv,Bw,Bx,By,Bz,B0,B1,B2,B3,B4,B5⟩:=(show PeerD.InR p from Bi)
 have B6:=Bd.le'
 have hsd:=hsp.data
 have hlp:=hsp.log
 refine Fnc.of_WP (n:=59) Try.func5 rfl Try.ntmps5 (by simp) ?_
 intro E hE
 have h0:E 0 = .agg (peerA p v1 v3 v5 v7 v9 Ai):=hE 0 (by simp)
 clear hE
 refine WP.sr ?_
 refine WL.box (x:=.tmp 0) (cs:=(peerC p v1 v3 v5 v7 v9 Ai)) (Sure.none rfl) rfl rfl h0 rfl (fun Ae Be Am Cf Bj=>?_)
 have Ay:=(Sl.new (b:=Ae) nz4 Bd (by omega)).ext (Ext.any Am)
 have Az:=(Sl.new (b:=Ae) nz3 Bg (by omega)).ext (Ext.any Am)
 have A4:=(Sl.new (b:=Ae) nz3 Bh (by omega)).ext (Ext.any Am)
 have Bk:Ext [Ae] _ _:=(Ext.refl _ _).trans (Ext.any Am)
 have Aa:w.heap.size ≤ Ae:=by have:=Nat.le_refl w.heap.size; omega
 refine WL.m rfl ?_
 refine WL.nil ?_
 refine WP.sr ?_
 refine WL.m rfl ?_
 refine WL.nil ?_
 refine WP.seq ?_
 refine WP.sr ?_
 refine WL.m rfl ?_
 refine WL.nil ?_
 refine WP.block ?_
 refine WP.loop (σ:=Nat) (fun k Aq Ar=>Aq 0 = .agg (peerA p v1 v3 v5 v7 v9 Ai) ∧ Aq 1 = .pointer (some ⟨Ae,0,none⟩) ∧ Aq 3 = .int .i64 (dSum p.Log k) ∧ Aq 4 = .int .i64 ((k:Int)) ∧ Ext [Ae] Be Ar ∧ Box Ar Ae 29 (peerC p v1 v3 v5 v7 v9 Ai) ∧ k ≤ smN p ∧ ∀ j,j < k → (fun j=>decide (((p.Log.getD j default).Members.length:Int) ≤ 64)) j = true) (fun k=>smN p - k) (0) ?_ ?_
 ·exact ⟨h0,rfl,(int_eq (by rfl)),(int_eq (by omega)),(Ext.refl _ _),Bj,(by omega),(all_zero _)⟩
 rintro k Aq Ar ⟨Ba,Ab,An,Af,A5,hbb32_47,Bs,Bt⟩
 have Ac:Ext [Ae] w Ar:=Bk.trans A5
 have A6:Ext [Ae] Be Ar:=A5
 have hds:=dSum_in hsd k
 have hsn:smN p = min p.Log.length 41:=rfl
 have Cs:=hsd k
 have hld:=hsp.data k
 refine WP.seq ?_
 refine WP.sr ?_
 refine WL.m rfl ?_
 refine WL.f (x:=.tmp 1) (v5) fl29_10 Ab p25 (hbb32_47.cell rfl) ?_
 obtain ⟨a50,c51,As⟩:=Ay.shape
 refine WL.z (.int .i64 (((p.Log).length:Int))) (V.lenSlice rfl rfl u25 (Eq.trans (b:=v5) rfl As)) ?_
 refine WL.z (.bool (decide ((k:Int) < ((p.Log).length:Int)))) (V.cmp (x:=.tmp 5) rfl Af rfl rfl) ?_
 refine WL.vbp (c:=(k:Int) < ((p.Log).length:Int)) (Sure.none rfl) rfl (V.move rfl rfl) (fun Bl=>?_) (fun Bl=>?_)
 rotate_left
 ·refine WL.skips [(10,some false)] [(13,some false)] (kc (some false) rfl kn) (by kernel_rfl) (fun Ct hK98 Ak=>?_)
  refine WP.cond_false (hK98 13 (some false) rfl) ?_
  refine WP.exit ?_
  refine WP.sr ?_
  have hsm:=sm_ok (p:=p) (k:=k) (by unfold smN; omega) (by assumption)
  refine WL.m rfl ?_
  refine WL.z (.bool (decide ((dSum p.Log k) < 16384))) (V.cmp (x:=.tmp 33) rfl ((Ak 3 rfl).trans An) rfl rfl) ?_
  refine WL.vbp (c:=(dSum p.Log k) < 16384) (Sure.none rfl) rfl (V.move rfl rfl) (fun Ad=>?_) (fun Ad=>?_)
  rotate_left
  ·refine WL.skips [(35,some false)] [(2,some false)] (kc (some false) rfl kn) (by kernel_rfl) (fun Cg hK120 B7=>?_)
   refine WP.ret ?_
   refine resOf.c1 rfl (v:=.bool (false)) (hK120 2 (some false) rfl) ?_
   exact ⟨(bool_eq (by rw [hsm,decide_eq_false Ad]; rfl)),((Ac).done (geCons Aa geNil))⟩
  refine WL.fy (x:=.tmp 1) (v5) rfl fl29_10 ((Ak 1 rfl).trans Ab) p25 (hbb32_47.cell rfl) ?_
  refine WL.y (.int .i64 (((p.Log).length:Int))) rfl (V.lenSlice rfl rfl u25 (Eq.trans (b:=v5) rfl As)) ?_
  refine WL.y (.bool (decide (((p.Log).length:Int) ≤ 40))) rfl (V.cmp rfl rfl rfl rfl) ?_
  refine WL.k (a:=true) rfl rfl ?_
  refine WL.vbp (c:=((p.Log).length:Int) ≤ 40) (Sure.none rfl) rfl (V.move rfl rfl) (fun Ag=>?_) (fun Ag=>?_)
  rotate_left
  ·refine WL.skips [(41,some false)] [(2,some false)] (kc (some false) rfl kn) (by kernel_rfl) (fun Ch hK117 B8=>?_)
   refine WP.ret ?_
   refine resOf.c1 rfl (v:=.bool (false)) (hK117 2 (some false) rfl) ?_
   exact ⟨(bool_eq (by rw [hsm,decide_eq_true Ad,decide_eq_false Ag]; rfl)),((Ac).done (geCons Aa geNil))⟩
  refine WL.fy (x:=.tmp 1) (v9) rfl fl29_15 ((Ak 1 rfl).trans Ab) p26 (hbb32_47.cell rfl) ?_
  obtain ⟨a102,c103,Bb⟩:=Az.shape
  refine WL.y (.int .i64 (((p.Follows).length:Int))) rfl (V.lenSlice rfl rfl u26 (Eq.trans (b:=v9) rfl Bb)) ?_
  refine WL.y (.bool (decide (((p.Follows).length:Int) ≤ 64))) rfl (V.cmp rfl rfl rfl rfl) ?_
  refine WL.k (a:=true) rfl rfl ?_
  refine WL.vbp (c:=((p.Follows).length:Int) ≤ 64) (Sure.none rfl) rfl (V.move rfl rfl) (fun Aj=>?_) (fun Aj=>?_)
  rotate_left
  ·refine WL.skips [(47,some false)] [(2,some false)] (kc (some false) rfl kn) (by kernel_rfl) (fun Ci hK114 B9=>?_)
   refine WP.ret ?_
   refine resOf.c1 rfl (v:=.bool (false)) (hK114 2 (some false) rfl) ?_
   exact ⟨(bool_eq (by rw [hsm,decide_eq_true Ad,decide_eq_true Ag,decide_eq_false Aj]; rfl)),((Ac).done (geCons Aa geNil))⟩
  refine WL.fy (x:=.tmp 1) (Ai) rfl fl29_17 ((Ak 1 rfl).trans Ab) p27 (hbb32_47.cell rfl) ?_
  obtain ⟨a106,c107,Bc⟩:=A4.shape
  refine WL.y (.int .i64 (((p.Reads).length:Int))) rfl (V.lenSlice rfl rfl u27 (Eq.trans (b:=Ai) rfl Bc)) ?_
  refine WL.y (.bool (decide (((p.Reads).length:Int) ≤ 60))) rfl (V.cmp rfl rfl rfl rfl) ?_
  refine WL.k (a:=true) rfl rfl ?_
  refine WL.vbp (c:=((p.Reads).length:Int) ≤ 60) (Sure.none rfl) rfl (V.move rfl rfl) (fun Ao=>?_) (fun Ao=>?_)
  rotate_left
  ·refine WL.skips [(53,some false)] [(2,some false)] (kc (some false) rfl kn) (by kernel_rfl) (fun Cj hK111 Ca=>?_)
   refine WP.ret ?_
   refine resOf.c1 rfl (v:=.bool (false)) (hK111 2 (some false) rfl) ?_
   exact ⟨(bool_eq (by rw [hsm,decide_eq_true Ad,decide_eq_true Ag,decide_eq_true Aj,decide_eq_false Ao]; rfl)),((Ac).done (geCons Aa geNil))⟩
  refine WL.fy (x:=.tmp 1) (.string (p.Snap)) rfl fl29_9 ((Ak 1 rfl).trans Ab) p9 (hbb32_47.cell rfl) ?_
  refine WL.y (.int .i64 (((p.Snap).size:Int))) rfl (V.lenString rfl rfl u9 rfl) ?_
  refine WL.y (.bool (decide (((p.Snap).size:Int) < 4096))) rfl (V.cmp rfl rfl rfl rfl) ?_
  refine WL.k (a:=true) rfl rfl ?_
  refine WL.m rfl ?_
  refine WL.nil ?_
  refine WP.ret ?_
  refine resOf.c1 rfl (v:=.bool (decide (((p.Snap).size:Int) < 4096))) rfl ?_
  exact ⟨(bool_eq (by rw [hsm,decide_eq_true Ad,decide_eq_true Ag,decide_eq_true Aj,decide_eq_true Ao]; rfl)),((Ac).done (geCons Aa geNil))⟩
 refine WL.my rfl rfl ?_
 refine WL.y (.bool (decide ((k:Int) ≤ 40))) rfl (V.cmp (x:=.tmp 11) rfl Af rfl rfl) ?_
 refine WL.k (a:=true) rfl rfl ?_
 refine WL.nil ?_
 refine WP.condp (t:=(k:Int) ≤ 40) rfl (fun Bm=>?_) (fun Bm=>?_)
 ·refine WP.skip ?_
  refine WP.seq ?_
  refine WP.block ?_
  refine WP.sr ?_
  refine WL.m rfl ?_
  refine WL.f (x:=.tmp 1) (v5) fl29_10 Ab p25 (hbb32_47.cell rfl) ?_
  refine WL.m rfl ?_
  have hlt63:k < (p.Log).length:=by first | omega | (simp at *; omega)
  obtain ⟨Av,Aw,c57,Ck,A7,hnb60,Bn,Ax⟩:=(Ay.ext (Ext.pre A6)).get (i:=k) (x:=(p.Log.getD k default)) (getD_some hlt63 _)
  obtain ⟨Bf,rfl,A8,Bo⟩:=Bn
  obtain ⟨Cb,Cc,Cd⟩:=(show EntryD.InR (p.Log.getD k default) from Bo)
  have Ce:=A8.le'
  refine WL.z (.pointer (some ⟨Av,Aw + k * 4,none⟩)) (V.indexAddr (i:=.tmp 19) (m:=k) (j:=(k:Int)) rfl u25 s48 (Eq.trans (b:=v5) rfl A7) Af rfl hlt63) ?_
  refine WL.z (.pointer (some ⟨Av,Aw + k * 4 + 2,none⟩)) (V.fieldAddr rfl fl48_2 rfl) ?_
  refine WL.z (.string ((p.Log.getD k default).Data)) (V.load rfl p9 rfl (Ax.cell (j:=2) rfl)) ?_
  refine WL.z (.int .i64 ((((p.Log.getD k default).Data).size:Int))) (V.lenString rfl rfl u9 rfl) ?_
  refine WL.z (.int .i64 ((dSum p.Log k) + (((p.Log.getD k default).Data).size:Int))) (V.arith (x:=.tmp 16) rfl An rfl rfl (wrap_i64 (by omega) (by omega))) ?_
  refine WL.m rfl ?_
  refine WL.nil ?_
  refine WP.sr ?_
  refine WL.f (x:=.tmp 1) (v5) fl29_10 Ab p25 (hbb32_47.cell rfl) ?_
  refine WL.m rfl ?_
  refine WL.z (.pointer (some ⟨Av,Aw + k * 4,none⟩)) (V.indexAddr (i:=.tmp 27) (m:=k) (j:=(k:Int)) rfl u25 s48 (Eq.trans (b:=v5) rfl A7) Af rfl hlt63) ?_
  refine WL.z (.pointer (some ⟨Av,Aw + k * 4 + 3,none⟩)) (V.fieldAddr rfl fl48_3 rfl) ?_
  refine WL.z (Bf) (V.load rfl p22 rfl (Ax.cell (j:=3) rfl)) ?_
  obtain ⟨a71,c72,Bp⟩:=A8.shape
  refine WL.z (.int .i64 ((((p.Log.getD k default).Members).length:Int))) (V.lenSlice rfl rfl u22 (Eq.trans (b:=Bf) rfl Bp)) ?_
  refine WL.z (.bool (decide ((((p.Log.getD k default).Members).length:Int) > 64))) (V.cmp rfl rfl rfl rfl) ?_
  refine WL.nil ?_
  refine WP.condp (t:=(((p.Log.getD k default).Members).length:Int) > 64) rfl (fun A9=>?_) (fun A9=>?_)
  ·refine WP.sr ?_
   refine WL.m rfl ?_
   refine WL.nil ?_
   refine WP.ret ?_
   refine resOf.c1 rfl (v:=.bool (false)) rfl ?_
   exact ⟨(bool_eq (sm_bad (by omega) A9)),((Ac).done (geCons Aa geNil))⟩
  refine WP.skip ?_
  refine WP.region ?_
  refine WL.m rfl ?_
  refine WL.z (.int .i64 ((k:Int) + 1)) (V.arith (x:=.tmp 14) rfl Af rfl rfl (wrap_i64 (by omega) (by omega))) ?_
  refine WL.m rfl ?_
  refine WL.nil ?_
  exact ⟨k + 1,⟨Ba,Ab,(int_eq (by rfl)),(int_eq (by omega)),A6,hbb32_47,(by omega),(all_step (by assumption) (by exact decide_eq_true (by omega)))⟩,(by omega)⟩
 refine WP.exit ?_
 refine WP.sr ?_
 have hsm:=sm_ok (p:=p) (k:=k) (by unfold smN; omega) (by assumption)
 refine WL.m rfl ?_
 refine WL.z (.bool (decide ((dSum p.Log k) < 16384))) (V.cmp (x:=.tmp 33) rfl An rfl rfl) ?_
 refine WL.vbp (c:=(dSum p.Log k) < 16384) (Sure.none rfl) rfl (V.move rfl rfl) (fun Ah=>?_) (fun Ah=>?_)
 rotate_left
 ·refine WL.skips [(35,some false)] [(2,some false)] (kc (some false) rfl kn) (by kernel_rfl) (fun Cu hK95 Cl=>?_)
  refine WP.ret ?_
  refine resOf.c1 rfl (v:=.bool (false)) (hK95 2 (some false) rfl) ?_
  exact ⟨(bool_eq (by rw [hsm,decide_eq_false Ah]; rfl)),((Ac).done (geCons Aa geNil))⟩
 refine WL.fy (x:=.tmp 1) (v5) rfl fl29_10 Ab p25 (hbb32_47.cell rfl) ?_
 refine WL.y (.int .i64 (((p.Log).length:Int))) rfl (V.lenSlice rfl rfl u25 (Eq.trans (b:=v5) rfl As)) ?_
 refine WL.y (.bool (decide (((p.Log).length:Int) ≤ 40))) rfl (V.cmp rfl rfl rfl rfl) ?_
 refine WL.k (a:=true) rfl rfl ?_
 refine WL.vbp (c:=((p.Log).length:Int) ≤ 40) (Sure.none rfl) rfl (V.move rfl rfl) (fun Al=>?_) (fun Al=>?_)
 rotate_left
 ·refine WL.skips [(41,some false)] [(2,some false)] (kc (some false) rfl kn) (by kernel_rfl) (fun Cv hK92 Cm=>?_)
  refine WP.ret ?_
  refine resOf.c1 rfl (v:=.bool (false)) (hK92 2 (some false) rfl) ?_
  exact ⟨(bool_eq (by rw [hsm,decide_eq_true Ah,decide_eq_false Al]; rfl)),((Ac).done (geCons Aa geNil))⟩
 refine WL.fy (x:=.tmp 1) (v9) rfl fl29_15 Ab p26 (hbb32_47.cell rfl) ?_
 obtain ⟨a77,c78,Bq⟩:=Az.shape
 refine WL.y (.int .i64 (((p.Follows).length:Int))) rfl (V.lenSlice rfl rfl u26 (Eq.trans (b:=v9) rfl Bq)) ?_
 refine WL.y (.bool (decide (((p.Follows).length:Int) ≤ 64))) rfl (V.cmp rfl rfl rfl rfl) ?_
 refine WL.k (a:=true) rfl rfl ?_
 refine WL.vbp (c:=((p.Follows).length:Int) ≤ 64) (Sure.none rfl) rfl (V.move rfl rfl) (fun Ap=>?_) (fun Ap=>?_)
 rotate_left
 ·refine WL.skips [(47,some false)] [(2,some false)] (kc (some false) rfl kn) (by kernel_rfl) (fun Cw hK89 Cn=>?_)
  refine WP.ret ?_
  refine resOf.c1 rfl (v:=.bool (false)) (hK89 2 (some false) rfl) ?_
  exact ⟨(bool_eq (by rw [hsm,decide_eq_true Ah,decide_eq_true Al,decide_eq_false Ap]; rfl)),((Ac).done (geCons Aa geNil))⟩
 refine WL.fy (x:=.tmp 1) (Ai) rfl fl29_17 Ab p27 (hbb32_47.cell rfl) ?_
 obtain ⟨a81,c82,Br⟩:=A4.shape
 refine WL.y (.int .i64 (((p.Reads).length:Int))) rfl (V.lenSlice rfl rfl u27 (Eq.trans (b:=Ai) rfl Br)) ?_
 refine WL.y (.bool (decide (((p.Reads).length:Int) ≤ 60))) rfl (V.cmp rfl rfl rfl rfl) ?_
 refine WL.k (a:=true) rfl rfl ?_
 refine WL.vbp (c:=((p.Reads).length:Int) ≤ 60) (Sure.none rfl) rfl (V.move rfl rfl) (fun Au=>?_) (fun Au=>?_)
 rotate_left
 ·refine WL.skips [(53,some false)] [(2,some false)] (kc (some false) rfl kn) (by kernel_rfl) (fun Cx hK86 Co=>?_)
  refine WP.ret ?_
  refine resOf.c1 rfl (v:=.bool (false)) (hK86 2 (some false) rfl) ?_
  exact ⟨(bool_eq (by rw [hsm,decide_eq_true Ah,decide_eq_true Al,decide_eq_true Ap,decide_eq_false Au]; rfl)),((Ac).done (geCons Aa geNil))⟩
 refine WL.fy (x:=.tmp 1) (.string (p.Snap)) rfl fl29_9 Ab p9 (hbb32_47.cell rfl) ?_
 refine WL.y (.int .i64 (((p.Snap).size:Int))) rfl (V.lenString rfl rfl u9 rfl) ?_
 refine WL.y (.bool (decide (((p.Snap).size:Int) < 4096))) rfl (V.cmp rfl rfl rfl rfl) ?_
 refine WL.k (a:=true) rfl rfl ?_
 refine WL.m rfl ?_
 refine WL.nil ?_
 refine WP.ret ?_
 refine resOf.c1 rfl (v:=.bool (decide (((p.Snap).size:Int) < 4096))) rfl ?_
 exact ⟨(bool_eq (by rw [hsm,decide_eq_true Ah,decide_eq_true Al,decide_eq_true Ap,decide_eq_true Au]; rfl)),((Ac).done (geCons Aa geNil))⟩
end Go.Proofs.Ytiaicihpocoeiaa.X1
namespace Go.Proofs.Ytiaicihpocoeiaa.X1
open T W Go.RowKit
set_option maxRecDepth 100000
set_option maxHeartbeats 400000
def bigK (s:ByteArray):Nat → Int
  | 0=>0
  | k + 1=>bor .u64 (bshl .u64 (bigK s k) 8) (((s.data.getD k 0).toNat:Nat):Int)
def bigB (s:ByteArray):Int:=bigK s s.size
def rnN (s:ByteArray):Int:=(((s.data.getD 0 0).toNat:Nat):Int)
def rnE (s:ByteArray):Int:=if s.size = 0 then 20 else if rnN s > 8 then 21 else if (s.size:Int) < 1 + rnN s then 20 else if rnN s > 0 ∧ (((s.data.getD 1 0).toNat:Nat):Int) = 0 then 21 else 0
def rnX (s:ByteArray):Int:=if rnE s = 0 then bigB (s.extract 1 (1 + rnN s).toNat) else 0
def rnR (s:ByteArray):ByteArray:=if rnE s = 0 then s.extract (1 + rnN s).toNat s.size else ByteArray.mk #[]
theorem sn_get {L:List Int} {t:ByteArray} {i:Nat} (h:i < L.length) (hr:0 ≤ L.getD i 0 ∧ L.getD i 0 ≤ 255):((((strOfNums L ++ t).data.getD i 0).toNat:Nat):Int) = L.getD i 0:=by
 have h1:(strOfNums L ++ t).data.getD i 0 = UInt8.ofNat (L.getD i 0).toNat:=by
  rw [ByteArray.data_append,Array.getD_eq_getD_getElem?,Array.getElem?_append_left (by simpa [strOfNums] using h),List.getD_eq_getElem?_getD]
  simp [strOfNums,h]
 rw [h1]
 have:(UInt8.ofNat (L.getD i 0).toNat).toNat = (L.getD i 0).toNat % 256:=by simp
 rw [this]
 omega
theorem sn_get' {L:List Int} {i:Nat} (h:i < L.length) (hr:0 ≤ L.getD i 0 ∧ L.getD i 0 ≤ 255):((((strOfNums L).data.getD i 0).toNat:Nat):Int) = L.getD i 0:=by
 have:=sn_get (t:=ByteArray.empty) h hr
 rwa [ByteArray.append_empty] at this
theorem wrap_u64_of {n:Nat} (h:n < 2 ^ 64):IntKind.u64.wrap (n:Int) = n:=by
 simp only [IntKind.wrap,IntKind.signed,IntKind.bits]
 simp; omega
theorem bor_byte {a b:Nat} (ha:a < 2 ^ 56) (hb:b < 256):bor .u64 (bshl .u64 (a:Int) 8) (b:Int) = ((a * 256 + b:Nat):Int):=by
 have h1:bshl .u64 (a:Int) 8 = ((a * 256:Nat):Int):=by
  have:(a:Int) * 2 ^ (min (8:Int).toNat IntKind.u64.bits) = ((a * 256:Nat):Int):=by simp [IntKind.bits]
  rw [bshl,this,wrap_u64_of (by omega)]
 rw [h1,bor]
 have h2:(BitVec.ofInt IntKind.u64.bits ((a * 256:Nat):Int) ||| BitVec.ofInt IntKind.u64.bits (b:Int)).toNat = a * 256 + b:=by
  rw [BitVec.toNat_or,BitVec.ofInt_natCast,BitVec.ofInt_natCast,BitVec.toNat_ofNat,BitVec.toNat_ofNat,Nat.mod_eq_of_lt (by show _ < 2 ^ 64; omega),Nat.mod_eq_of_lt (by show _ < 2 ^ 64; omega)]
  have h3:=Nat.shiftLeft_add_eq_or_of_lt (i:=8) (b:=b) (by omega) a
  rw [Nat.shiftLeft_eq] at h3
  exact h3.symm
 rw [h2,wrap_u64_of (by omega)]
theorem shr_nat (X j:Nat):bshr .u64 (X:Int) (8 * (j:Int)) = ((X / 2 ^ (min (8 * j) 64):Nat):Int):=by
 have:(8 * (j:Int)).toNat = 8 * j:=by omega
 rw [bshr,this,Int.fdiv_eq_ediv_of_nonneg _ (by exact Int.pow_nonneg (by decide))]
 simp [IntKind.bits]
theorem byteOf_nat (X j:Nat):byteOf (X:Int) j = ((X / 2 ^ (min (8 * j) 64) % 256:Nat):Int):=by
 rw [byteOf,shr_nat]
 simp only [IntKind.wrap,IntKind.signed,IntKind.bits]
 simp
theorem numL_pre (x:Int):∀ j,j < numL x → bshr .u64 x (8 * (j:Int)) ≠ 0:=by
 intro j hj
 have h:=List.not_of_lt_findIdx (p:=fun i:Nat=>decide (bshr .u64 x (8 * (i:Int)) = 0)) (xs:=List.range 8) hj
 simpa using h
theorem numL_end (x:Int):numL x = 8 ∨ bshr .u64 x (8 * (numL x:Int)) = 0:=by
 rcases Nat.lt_or_ge (numL x) 8 with h | h
 ·right
  have h1:=List.findIdx_getElem (p:=fun i:Nat=>decide (bshr .u64 x (8 * (i:Int)) = 0)) (xs:=List.range 8) (w:=by show numL x < _; simpa using h)
  simpa [numL] using h1
 ·left; have:=numL_le x; omega
theorem numL_lt (X:Nat) (h:X < 2 ^ 64):X < 2 ^ (8 * numL (X:Int)):=by
 rcases numL_end (X:Int) with h1 | h1
 ·rw [h1]; exact h
 ·have h8:=numL_le (X:Int)
  rw [shr_nat,Nat.min_eq_left (by omega)] at h1
  have h2:X / 2 ^ (8 * numL (X:Int)) = 0:=by exact_mod_cast h1
  have hp:0 < 2 ^ (8 * numL (X:Int)):=Nat.pos_of_ne_zero (by simp)
  exact (Nat.div_eq_zero_iff_lt hp).1 h2
theorem fixedL_len (x:Int) (n:Nat):(fixedL x n).length = n:=by simp [fixedL]
theorem fixedL_at {x:Int} {n k:Nat} (h:k < n):(fixedL x n).getD k 0 = byteOf x (n - 1 - k):=by
 rw [List.getD_eq_getElem?_getD]; simp [fixedL,h]
theorem byteOf_in (X j:Nat):0 ≤ byteOf (X:Int) j ∧ byteOf (X:Int) j ≤ 255:=by rw [byteOf_nat]; omega
theorem bigK_fixed {X n:Nat} (hn:n ≤ 8) (hX:X < 2 ^ (8 * n)):∀ k,k ≤ n → bigK (strOfNums (fixedL (X:Int) n)) k = ((X / 2 ^ (8 * (n - k)):Nat):Int)
 | 0,_=>by
  rw [Nat.sub_zero,Nat.div_eq_of_lt hX]; rfl
 | k + 1,hk=>by
  have ih:=bigK_fixed hn hX k (by omega)
  rw [bigK,ih,sn_get' (by rw [fixedL_len]; omega) (by rw [fixedL_at (by omega)]; exact byteOf_in _ _),fixedL_at (by omega),byteOf_nat,Nat.min_eq_left (by omega)]
  have e1:n - 1 - k = n - (k + 1):=by omega
  have e2:8 * (n - k) = 8 * (n - (k + 1)) + 8:=by omega
  have hlt:X < 2 ^ 64:=Nat.lt_of_lt_of_le hX (Nat.pow_le_pow_right (by omega) (by omega))
  rw [e1,e2,Nat.pow_add,← Nat.div_div_eq_div_mul]
  generalize hy:X / 2 ^ (8 * (n - (k + 1))) = y
  have hyl:y < 2 ^ 64:=by subst hy; exact Nat.lt_of_le_of_lt (Nat.div_le_self _ _) hlt
  rw [bor_byte (by omega) (Nat.mod_lt _ (by omega))]
  congr 1; omega
theorem big_fixed {X n:Nat} (hn:n ≤ 8) (hX:X < 2 ^ (8 * n)):bigB (strOfNums (fixedL (X:Int) n)) = X:=by
 rw [bigB,strOfNums_size,fixedL_len,bigK_fixed hn hX n (Nat.le_refl _),Nat.sub_self]; simp
section
variable {x:Int} {t:ByteArray}
theorem numB_cut (x:Int) (t:ByteArray):numB x ++ t = strOfNums [(numL x:Int)] ++ (strOfNums (fixedL x (numL x)) ++ t):=by
 rw [← ByteArray.append_assoc,strOf_app]; rfl
theorem num_n (x:Int) (t:ByteArray):rnN (numB x ++ t) = numL x:=by
 have h8:=numL_le x
 exact sn_get (L:=(numL x:Int) :: fixedL x (numL x)) (t:=t) (i:=0) (by simp) (by show 0 ≤ (numL x:Int) ∧ (numL x:Int) ≤ 255; omega)
theorem num_size (x:Int) (t:ByteArray):(numB x ++ t).size = 1 + numL x + t.size:=by
 rw [ByteArray.size_append,numB,strOfNums_size,List.length_cons,fixedL_len]; omega
theorem num_e (h:0 ≤ x ∧ x ≤ 18446744073709551615):rnE (numB x ++ t) = 0:=by
 have h8:=numL_le x
 rw [rnE,num_n,num_size,if_neg (by omega),if_neg (by omega),if_neg (by omega),if_neg]
 rintro ⟨h1,h2⟩
 obtain ⟨X,rfl⟩:=Int.eq_ofNat_of_zero_le h.1
 have hX:X < 2 ^ 64:=by omega
 have hl:=numL_lt X hX
 generalize hn:numL (X:Int) = n at *
 rw [numB,sn_get (L:=(numL (X:Int):Int) :: fixedL (X:Int) (numL (X:Int))) (i:=1) (by rw [hn,List.length_cons,fixedL_len]; omega) (by rw [hn,List.getD_cons_succ,fixedL_at (by omega)]; exact byteOf_in _ _),hn,List.getD_cons_succ,fixedL_at (by omega),byteOf_nat,Nat.min_eq_left (by omega)] at h2
 have hp:=numL_pre (X:Int) (n - 1) (by omega)
 rw [shr_nat,Nat.min_eq_left (by omega)] at hp
 have hlt:X / 2 ^ (8 * (n - 1)) < 256:=by
  rw [Nat.div_lt_iff_lt_mul (Nat.pos_of_ne_zero (by simp)),show (256:Nat) = 2 ^ 8 from rfl,← Nat.pow_add,show 8 + 8 * (n - 1) = 8 * n from by omega]
  exact hl
 rw [Nat.sub_zero,Nat.mod_eq_of_lt hlt] at h2
 exact hp h2
theorem num_x (h:0 ≤ x ∧ x ≤ 18446744073709551615):rnX (numB x ++ t) = x:=by
 have h8:=numL_le x
 rw [rnX,if_pos (num_e h),num_n,show (1 + (numL x:Int)).toNat = 1 + numL x from by omega,numB_cut]
 have e:(strOfNums [(numL x:Int)] ++ (strOfNums (fixedL x (numL x)) ++ t)).extract 1 (1 + numL x) = strOfNums (fixedL x (numL x)):=by
  have:=ByteArray.extract_append_size_add (a:=strOfNums [(numL x:Int)]) (b:=strOfNums (fixedL x (numL x)) ++ t) (i:=0) (j:=numL x)
  rw [strOfNums_size] at this
  exact this.trans (ByteArray.extract_append_eq_left (by rw [strOfNums_size,fixedL_len]))
 rw [e]
 obtain ⟨X,rfl⟩:=Int.eq_ofNat_of_zero_le h.1
 exact big_fixed h8 (numL_lt X (by omega))
theorem num_r (h:0 ≤ x ∧ x ≤ 18446744073709551615):rnR (numB x ++ t) = t:=by
 have h8:=numL_le x
 rw [rnR,if_pos (num_e h),num_n]
 refine ByteArray.extract_append_eq_right ?_ ?_
 ·rw [numB,strOfNums_size,List.length_cons,fixedL_len]; omega
 ·rw [ByteArray.size_append]
end
def catN:List Int → ByteArray
  | []=>ByteArray.empty
  | x :: l=>numB x ++ catN l
theorem catN_app:∀ a b:List Int,catN (a ++ b) = catN a ++ catN b
 | [],b=>by simp [catN]
 | x :: a,b=>by simp [catN,catN_app a b,ByteArray.append_assoc]
theorem numsK_cat (l:List Int):∀ k,k ≤ l.length → numsK l k = numB (l.length:Int) ++ catN (l.take k)
 | 0,_=>by simp [numsK,catN]
 | k + 1,hk=>by
  rw [numsK,numsK_cat l k (by omega),List.take_add_one,catN_app,List.getElem?_eq_getElem (by omega),List.getD_eq_getElem?_getD,List.getElem?_eq_getElem (by omega)]
  simp [catN,ByteArray.append_assoc]
theorem numbersB_cat (l:List Int):numbersB l = numB (l.length:Int) ++ catN l:=by
 rw [numbersB,numsK_cat l _ (Nat.le_refl _),List.take_length]
theorem nums_at {l:List Int} (h:NumsOk l) (k:Nat) (hk:k < l.length):0 ≤ l[k] ∧ l[k] ≤ 64:=by
 have:=h.2 k hk
 rw [List.getD_eq_getElem?_getD,List.getElem?_eq_getElem hk] at this
 exact this
theorem seqB_is {a b:ByteArray} (h:seqB a b = true):a = b:=by
 have h1:a.toList = b.toList:=by simpa [seqB] using h
 rw [ByteArray.toList_eq,ByteArray.toList_eq] at h1
 obtain ⟨⟨x⟩⟩:=a
 obtain ⟨⟨y⟩⟩:=b
 exact congrArg (fun z=>ByteArray.mk (Array.mk z)) h1
theorem numB_inj {x y:Int} {a b:ByteArray} (hx:0 ≤ x ∧ x ≤ 18446744073709551615) (hy:0 ≤ y ∧ y ≤ 18446744073709551615) (h:numB x ++ a = numB y ++ b):x = y ∧ a = b :=
 ⟨by rw [← num_x (t:=a) hx,h,num_x hy],by rw [← num_r (t:=a) hx,h,num_r hy]⟩
theorem mk_inj {c:UInt8} {a b:ByteArray} (h:ByteArray.mk #[c] ++ a = ByteArray.mk #[c] ++ b):a = b:=by
 have e:∀ s:ByteArray,(ByteArray.mk #[c] ++ s).extract 1 (1 + s.size) = s:=fun s=>ByteArray.extract_append_eq_right rfl rfl
 have hs:a.size = b.size:=by
  have:=congrArg ByteArray.size h
  rw [ByteArray.size_append,ByteArray.size_append] at this; omega
 rw [← e a,h,hs,e b]
theorem catN_inj:∀ {l m:List Int} {a b:ByteArray},(∀ k (hk:k < l.length),0 ≤ l[k] ∧ l[k] ≤ 64) → (∀ k (hk:k < m.length),0 ≤ m[k] ∧ m[k] ≤ 64) → l.length = m.length → catN l ++ a = catN m ++ b → l = m ∧ a = b
 | [],[],a,b,_,_,_,h=>⟨rfl,by simpa [catN] using h⟩
 | [],y :: m,_,_,_,_,hl,_=>by simp at hl
 | x :: l,[],_,_,_,_,hl,_=>by simp at hl
 | x :: l,y :: m,a,b,h1,h2,hl,h=>by
  rw [catN,catN,ByteArray.append_assoc,ByteArray.append_assoc] at h
  have hx:=h1 0 (by simp)
  have hy:=h2 0 (by simp)
  simp only [List.getElem_cons_zero] at hx hy
  obtain ⟨e1,e2⟩:=numB_inj ⟨hx.1,by omega⟩ ⟨hy.1,by omega⟩ h
  obtain ⟨e3,e4⟩:=catN_inj (fun k hk=>by have:=h1 (k + 1) (by simpa using hk); simpa using this) (fun k hk=>by have:=h2 (k + 1) (by simpa using hk); simpa using this) (by simpa using hl) e2
  exact ⟨by rw [e1,e3],e4⟩
theorem numbers_inj {l m:List Int} {a b:ByteArray} (hl:NumsOk l) (hm:NumsOk m) (h:numbersB l ++ a = numbersB m ++ b):l = m ∧ a = b:=by
 have h1:=hl.1
 have h2:=hm.1
 rw [numbersB_cat,numbersB_cat,ByteArray.append_assoc,ByteArray.append_assoc] at h
 obtain ⟨e1,e2⟩:=numB_inj (by omega) (by omega) h
 exact catN_inj (nums_at hl) (nums_at hm) (by omega) e2
theorem hard_iff {p q:PeerD} (hp:KOk p) (hq:KOk q) (ip:p.InR) (iq:q.InR):seqB (hardB p) (hardB q) = true ↔ p.Term = q.Term ∧ p.Vote = q.Vote:=by
 have tp:=inK_u64 ip.2.1
 have tq:=inK_u64 iq.2.1
 have vp:=hp.vote
 have vq:=hq.vote
 constructor
 ·intro h
  have h:=seqB_is h
  rw [hardB,hardB,ByteArray.append_assoc,ByteArray.append_assoc] at h
  obtain ⟨e1,e2⟩:=numB_inj tp tq (mk_inj h)
  have e3:numB p.Vote ++ ByteArray.empty = numB q.Vote ++ ByteArray.empty:=by rw [e2]
  exact ⟨e1,(numB_inj (by omega) (by omega) e3).1⟩
 ·rintro ⟨h1,h2⟩
  rw [hardB,hardB,h1,h2]; exact seqB_refl _
theorem base_iff {p q:PeerD} (hp:KOk p) (hq:KOk q) (ip:p.InR) (iq:q.InR) (sp:KSz p) (sq:KSz q):seqB (baseB p) (baseB q) = true ↔ sameBase p q:=by
 have bp:=inK_u64 ip.2.2.2.2.2.1
 have bq:=inK_u64 iq.2.2.2.2.2.1
 have tp:=inK_u64 ip.2.2.2.2.2.2.1
 have tq:=inK_u64 iq.2.2.2.2.2.2.1
 have zp:=sp.snap
 have zq:=sq.snap
 constructor
 ·intro h
  have h:=seqB_is h
  simp only [baseB,ByteArray.append_assoc] at h
  obtain ⟨e1,h⟩:=numB_inj bp bq (mk_inj h)
  obtain ⟨e2,h⟩:=numB_inj tp tq h
  obtain ⟨e3,h⟩:=numbers_inj hp.bm hq.bm h
  obtain ⟨e4,e5⟩:=numB_inj (by omega) (by omega) h
  exact ⟨e1,e2,by rw [e3]; exact seqB_refl _,by rw [e5]; exact seqB_refl _⟩
 ·rintro ⟨h1,h2,h3,h4⟩
  rw [baseB,baseB,h1,h2,seqB_is h3,seqB_is h4]; exact seqB_refl _
theorem diff_same {p q:PeerD} (h:okD p q = true) (ip:p.InR) (iq:q.InR) (sp:KSz p) (sq:KSz q):diffL p q = diffL2 p q:=by
 simp only [okD,Bool.and_eq_true] at h
 have hp:=kok_of h.1
 have hq:=kok_of h.2.1
 have e1:hardL p q = hardL2 p q:=by
  rw [hardL,hardL2]
  by_cases hc:p.Term = q.Term ∧ p.Vote = q.Vote
  ·rw [if_pos hc,if_pos ((hard_iff hp hq ip iq).2 hc)]
  ·rw [if_neg hc,if_neg (fun k=>hc ((hard_iff hp hq ip iq).1 k))]
 have e2:baseL p q = baseL2 p q:=by
  rw [baseL,baseL2,cutL,cutL2,e1]
  by_cases hc:sameBase p q
  ·rw [if_pos hc,if_pos ((base_iff hp hq ip iq sp sq).2 hc)]
  ·rw [if_neg hc,if_neg (fun k=>hc ((base_iff hp hq ip iq sp sq).1 k))]
 rw [diffL,diffL2,e2]
theorem law_same_lists {p q:PeerD} (ip:p.InR) (iq:q.InR) (sp:KSz p) (sq:KSz q):eqB seqB (if okD p q = true then diffL p q else []) (if okD p q = true then diffL2 p q else []) = true:=by
 cases h:okD p q with
 | false=>exact eqB_refl seqB_refl _
 | true=>rw [if_pos rfl,if_pos rfl,diff_same h ip iq sp sq]; exact eqB_refl seqB_refl _
end Go.Proofs.Ytiaicihpocoeiaa.X1
