/- My texts, cut to what this claim needs and merged. -/
import Derived.Test.YtiaicihpocoeiaaB1
import Derived.RangeFuncLeaves
import Derived.RangeFuncRecord
import Derived.Laws.BytesArg
import Derived.Laws.MakeOwn
import Derived.Laws.Strings
import Derived.Lib.Builder
import Derived.Lib.AppendStr
import Derived.Lib.UnsafeStr
import Derived.OrdersIn
namespace Go.Proofs.Ytiaicihpocoeiaa.W
open Go.RowKit
def chkDst (n:Fsz) (l:List Oper):Bool:=l.all fun o=>dstOk n o.dst
def chkApart (l:List Oper):Bool:=(List.range l.length).all fun i=>(List.range l.length).all fun j=>decide (i = j) || !(dstAt l i).isSome || !(dstAt l i == dstAt l j)
def chkBack (l:List Oper):Bool:=(List.range l.length).all fun i=>match l[i]? with
 | some o=>o.after.toList.all fun e=>!Region.binds .any e || decide (e.on < i)
 | none=>true
def noDst (l:List Oper) (t:Nat):Bool:=(List.range l.length).all fun i=>!(dstAt l i == some t)
def hasPred (o:Oper) (k:Nat):Bool:=o.after.toList.any fun e=>Region.binds .any e && decide (e.on = k)
theorem lt_of_some {l:List Oper} {i:Nat} {o:Oper} (h:l[i]? = some o):i < l.length:=by
 rcases Nat.lt_or_ge i l.length with h1 | h1
 ·exact h1
 ·rw [List.getElem?_eq_none h1] at h; cases h
theorem lt_of_dst {l:List Oper} {i d:Nat} (h:dstAt l i = some d):i < l.length:=by
 unfold dstAt at h
 cases ho:l[i]? with
 | none=>rw [ho] at h; cases h
 | some o=>exact lt_of_some ho
theorem apart_of {l:List Oper} (h:chkApart l = true):∀ (i j d:Nat),dstAt l i = some d → dstAt l j = some d → i = j:=by
 intro i j d hi hj
 simp only [chkApart,List.all_eq_true,List.mem_range] at h
 have:=h i (lt_of_dst hi) j (lt_of_dst hj)
 simpa [hi,hj] using this
theorem back_of {l:List Oper} (h:chkBack l = true):∀ (i:Nat) (o:Oper),l[i]? = some o → ∀ e ∈ o.after.toList,Region.binds .any e = true → e.on < i:=by
 intro i o ho e he hb
 simp only [chkBack,List.all_eq_true,List.mem_range] at h
 have:=h i (lt_of_some ho)
 rw [ho] at this
 have:=List.all_eq_true.1 this e he
 simpa [hb] using this
theorem noDst_ne {l:List Oper} {t:Nat} (h:noDst l t = true):∀ j,dstAt l j ≠ some t:=by
 intro j hj
 simp only [noDst,List.all_eq_true,List.mem_range] at h
 have:=h j (lt_of_dst hj)
 simp [hj] at this
def Stab (f:Value → World → Prop):Prop:=∀ v w w',Ext [] w w' → f v w → f v w'
theorem Stab.eq (c:Value):Stab fun v _=>v = c:=fun _ _ _ _ h=>h
theorem Stab.sl {α:Type} {R:Rep α} {X:List Nat} {xs:List α}:Stab fun v w=>Sl R X w v xs:=fun _ _ _ k h=>h.ext (Ext.any k)
def AllStab:List (Value → World → Prop) → Prop
 | []=>True
 | f :: r=>Stab f ∧ AllStab r
def FL (fs:List (Value → World → Prop)) (i:Nat) (v:Value) (w:World):Prop:=match fs[i]? with
 | some f=>f v w
 | none=>True
theorem FL.stab {fs:List (Value → World → Prop)} (h:AllStab fs) (i:Nat) {v:Value} {w w':World} (k:Ext [] w w') (hf:FL fs i v w):FL fs i v w':=by
 induction fs generalizing i with
 | nil=>simp [FL]
 | cons f r ih =>
  cases i with
  | zero=>exact h.1 _ _ _ k hf
  | succ i=>exact ih h.2 i hf
def AnyStep (P:Program) (l:List Oper) (E:Env) (w:World) (fs:List (Value → World → Prop)) (i:Nat) (o:Oper):Prop :=
 ∀ (E':Env) (w':World),Ext [] w w' → (∀ t,noDst l t = true → E' t = E t) → (∀ k,hasPred o k = true → holdsF l (FL fs) k E' w') →
  (Shut l.toArray o E' ∧ FL fs i undef w') ∨ (Sure l.toArray o E' ∧ ((∃ v,OpV P o E' w' v ∧ FL fs i v w') ∨ ∃ f args,OpC P o E' w' f args ∧ Fnc P f args w' fun v w''=>Ext [] w' w'' ∧ FL fs i v w''))
def AnySteps (P:Program) (l:List Oper) (E:Env) (w:World) (fs:List (Value → World → Prop)):Nat → List Oper → Prop
 | _,[]=>True
 | i,o :: r=>AnyStep P l E w fs i o ∧ AnySteps P l E w fs (i + 1) r
theorem AnySteps.get {P:Program} {l:List Oper} {E:Env} {w:World} {fs:List (Value → World → Prop)} {i:Nat} {r:List Oper} (h:AnySteps P l E w fs i r) {j:Nat} {o:Oper} (hj:r[j]? = some o):AnyStep P l E w fs (i + j) o:=by
 induction r generalizing i j with
 | nil=>simp at hj
 | cons a r ih =>
  cases j with
  | zero=>simp only [List.getElem?_cons_zero,Option.some.injEq] at hj; subst hj; exact h.1
  | succ j =>
   have:=ih h.2 (j:=j) (by simpa using hj)
   rwa [show i + 1 + j = i + (j + 1) from by omega] at this
theorem WP.anyMake {P : Program} {n : Fsz} {id : Nat} {l : List Oper} {E : Env} {w : World} {N R : Env → World → Prop} {X : Nat → Env → World → Prop} (fs : List (Value → World → Prop)) (hm : P.follows .mixedOrders = true)
    (h1 : chkDst n l = true) (h2 : chkApart l = true) (h3 : chkBack l = true) (hs : AllStab fs) (steps : AnySteps P l E w fs 0 l)
    (fin : ∀ E' w', Ext [] w w' → (∀ t, noDst l t = true → E' t = E t) → (∀ i, i < l.length → holdsF l (FL fs) i E' w') → N E' w') : WP P n (.region id l.toArray true) ⟨N, X, R⟩ E w := by
  refine WP.any (fun w' => Ext [] w w') (FL fs) hm (fun d => ⟨rfl, rfl, rfl, Nat.le_refl _, fun _ _ _ => rfl⟩) ⟨?_, apart_of h2, back_of h3, ?_⟩ (fun E' w' hI hE hF => fin E' w' hI (fun t ht => hE t (noDst_ne ht)) hF)
  · intro i o ho
    simp only [chkDst, List.all_eq_true] at h1
    exact h1 o (List.mem_of_getElem? ho)
  · intro i o ho E' w' hI hE hF
    have st := steps.get (j := i) ho
    rw [Nat.zero_add] at st
    have hp : ∀ k, hasPred o k = true → holdsF l (FL fs) k E' w' := by
      intro k hk
      simp only [hasPred, List.any_eq_true, Bool.and_eq_true, decide_eq_true_eq] at hk
      obtain ⟨e, he, hb, rfl⟩ := hk
      exact hF e he hb
    rcases st E' w' hI (fun t ht => hE t fun j hj => absurd hj (noDst_ne ht j)) hp with ⟨hs', hf⟩ | ⟨hs', hv | hc⟩
    · exact .inl ⟨hs', hf⟩
    · obtain ⟨v, hv, hf⟩ := hv
      exact .inr ⟨hs', .inl ⟨v, w', OpV.x hv, hI, hf, fun _ _ _ h => h⟩⟩
    · obtain ⟨f, args, hc, hf⟩ := hc
      exact .inr ⟨hs', .inr ⟨f, args, hc, Fnc.mono hf fun v w'' ⟨hx, hq⟩ => ⟨hI.trans hx, hq, fun j u _ hj => FL.stab hs j hx hj⟩⟩⟩
theorem bsplit {c:Bool} {p:Prop} (t:c = true → p) (f:c = false → p):p:=by
 cases c with
 | true=>exact t rfl
 | false=>exact f rfl
end Go.Proofs.Ytiaicihpocoeiaa.W
namespace Go.Proofs.Ytiaicihpocoeiaa.W
open Go.RowKit
theorem lt_of_get {α:Type} {xs:List α} {i:Nat} {x:α} (h:xs[i]? = some x):i < xs.length:=by
 rcases Nat.lt_or_ge i xs.length with h1 | h1
 ·exact h1
 ·rw [List.getElem?_eq_none h1] at h; cases h
theorem map1 {α β:Type} {f:α → β} {x:α} {a:β} (h:f x = a):#[x].map f = #[a]:=by subst h; simp
theorem splice_nil (cs:List Value) (i:Nat):splice cs i [] = cs:=by simp [splice]
section
variable {P:Program} {n:Fsz} {ro:Option Nat} {Q:K} {E:Env} {w:World} {ops:Array Oper} {o:Oper} {rest:List Oper}
theorem WL.clear {t e t' : TypeId} {z : Value} {by' b i m c : Nat} {x : Operand} {cs : List Value} (hs : Sure ops o E) (hd : dstOk n o.dst = true) (ho : o.op = .call ⟨.builtin .clear, #[x], #[t]⟩)
    (ht : P.underlying t = some (.slice e)) (he : Elem P e z 1 by') (hz : z.cells = #[z]) (h1 : z.oneCell' = true) (hx : ev E x = .slice (some ⟨b, i, none⟩) m c) (hb : Box w b t' cs) (hi : i + m ≤ cs.length)
    (k : ∀ w', Ext [b] w w' → Box w' b t' (splice cs i (List.replicate m z)) → WLr ro P n ops Q rest (updO E o.dst (.tuple #[])) w') : WLr ro P n ops Q (o :: rest) E w := by
  obtain ⟨ii, hii, hz0, hz1, hz2⟩ := info_parts he
  have hzero : ∀ w, (zeroValue e).run P w = .ok z w := fun w => zero_of (by simp [Zero, hii, hz0])
  have e : #[x].map (ev E) = #[.slice (some ⟨b, i, none⟩) m c] := by simp [hx]
  have hst := run_storeCells_at P b i t' (List.replicate m z) 0 cs.toArray w hb (by simpa using hi) (by intro u hu; rw [List.eq_of_mem_replicate hu]; exact h1)
  simp only [Nat.add_zero] at hst
  have hzc : (Builtin.zeroCells z.cells m).toList = List.replicate m z := by
    rw [hz]
    simp [Builtin.zeroCells]
    apply List.ext_getElem
    · simp
    · intro i h1 h2
      simp [Nat.mod_one]
  cases m with
  | zero =>
    refine WL.x (u := .tuple #[]) (w' := w) hs hd (.inl ?_) (k _ (Ext.refl _ _) (by rw [List.replicate_zero, splice_nil]; exact hb))
    simp only [execOp, ho, resolve]
    rw [e]
    refine run_v ?_
    simp [Builtin.clear_, underlying, ht]
  | succ m =>
    refine WL.x (u := .tuple #[]) (w' := w.setRow b (splice cs i (List.replicate (m + 1) z)).toArray) hs hd (.inl ?_) (k _ ⟨rfl, rfl, rfl, by simp, fun k _ hk => setRow_other w b k _ (by simpa using hk)⟩ (hb.splice _))
    simp only [execOp, ho, resolve]
    rw [e]
    refine run_v ?_
    have h' : (storeCells ⟨b, i, none⟩ (List.replicate (m + 1) z) 0).run P w = .ok () (w.setRow b (splice cs i (List.replicate (m + 1) z)).toArray) := by rw [hst]; simp [splice]
    simp [Builtin.clear_, underlying, ht, hzero, hzc, h']
end
section
variable {P:Program} {n:Fsz} {ro:Option Nat} {Q:K} {E:Env} {w:World} {ops:Array Oper} {o:Oper} {rest:List Oper}
theorem WL.vex {φ:Value → Prop} (hs:Sure ops o E) (hd:dstOk n o.dst = true) (h:∃ u,OpV P o E w u ∧ φ u) (k:∀ u,φ u → WLr ro P n ops Q rest (updO E o.dst u) w):WLr ro P n ops Q (o :: rest) E w:=by
 obtain ⟨u,h1,h2⟩:=h
 exact WL.v hs hd h1 (k u h2)
end
theorem Ext.skip {O Y:List Nat} {a b c:World} (h:Ext O a b) (k:Ext Y b c) (hY:∀ y ∈ Y,a.heap.size ≤ y):Ext O a c :=
 ⟨k.os.trans h.os,k.tape.trans h.tape,k.output.trans h.output,Nat.le_trans h.size k.size,
  fun i hi hx=>(k.block i (Nat.lt_of_lt_of_le hi h.size) (fun hy=>by have:=hY i hy; omega)).trans (h.block i hi hx)⟩
def irow (L:List Int) (T:List Value):List Value:=L.map (Value.int .i64) ++ T
theorem irow_get {L:List Int} {T:List Value} {j:Nat} (h:j < L.length):(irow L T)[j]? = some (.int .i64 (L.getD j 0)):=by
 rw [irow,List.getElem?_append_left (by simpa using h),List.getElem?_map,List.getD_eq_getElem?_getD,List.getElem?_eq_getElem h]; rfl
theorem irow_set {L:List Int} {T:List Value} {j:Nat} {x:Int} (h:j < L.length):(irow L T).set j (.int .i64 x) = irow (L.set j x) T:=by
 rw [irow,irow,List.set_append_left _ _ (by simpa using h),List.map_set]
theorem irow_len {L:List Int} {T:List Value}:(irow L T).length = L.length + T.length:=by simp [irow]
theorem irow_sl {L:List Int} {T:List Value} {X:List Nat} {w:World} {g cap:Nat} {t:TypeId} (hb:Box w g t (irow L T)) (hX:g ∉ X) (hin:∀ x ∈ L,inK .i64 x) (hc:L.length ≤ cap) (hm:cap ≤ maxLen):Sl (intR .i64) X w (.slice (some ⟨g,0,none⟩) L.length cap) L:=by
 refine .inr (.inl ⟨g,0,cap,rfl,hc,hm,fun i x hx=>⟨hX,[.int .i64 x],⟨rfl,hin x (List.mem_of_getElem? hx)⟩,?_⟩⟩)
 intro j v hj
 cases j with
 | zero =>
  simp only [List.getElem?_cons_zero,Option.some.injEq] at hj
  subst hj
  have hi:=lt_of_get hx
  have:=irow_get (T:=T) hi
  rw [List.getD_eq_getElem?_getD,hx] at this
  refine hb.cell ?_
  show (irow L T)[0 + i * 1 + 0]? = _
  rw [show 0 + i * 1 + 0 = i from by omega]; exact this
 | succ j=>simp at hj
theorem irow_clear {L:List Int} {T:List Value} {i m:Nat} (h:i + m = L.length):splice (irow L T) i (List.replicate m (.int .i64 0)) = irow (L.take i ++ List.replicate m 0) T:=by
 simp only [splice,irow,List.map_append,List.map_take,List.map_replicate,List.length_replicate]
 rw [List.take_append_of_le_length (by simp; omega),List.drop_append,List.drop_of_length_le (by simp; omega),h,List.length_map,Nat.sub_self,List.drop_zero,List.nil_append,List.append_assoc]
theorem Owns.asRow {e B : Nat} {X : List Nat} {w : World} {v : Value} {xs : List Int} (h : Owns (intR .i64) e B X w v xs) :
    (v = .slice none 0 0 ∧ xs = []) ∨ ∃ g cap T, v = .slice (some ⟨g, 0, none⟩) xs.length cap ∧ Box w g e (irow xs T) ∧ xs.length + T.length = cap ∧ cap ≤ maxLen ∧ (∀ x ∈ xs, inK .i64 x) ∧ B ≤ g := by
  obtain ⟨cells, ⟨h0, h1⟩, h2, h3⟩ := h
  have hlen : cells.length = xs.length := by rw [h0]; show xs.length * 1 = _; omega
  have hcells : cells = xs.map (Value.int .i64) := by
    apply List.ext_getElem?
    intro i
    rcases Nat.lt_or_ge i xs.length with hi | hi
    · have := h2 i xs[i] (List.getElem?_eq_getElem hi)
      obtain ⟨h4, _⟩ := this
      have h5 : ((cells.drop (i * 1)).take 1)[0]? = some (.int .i64 xs[i]) := by
        have h4' : (cells.drop (i * 1)).take 1 = [.int .i64 xs[i]] := h4
        rw [h4']; rfl
      rw [List.getElem?_take_of_lt (by omega), List.getElem?_drop] at h5
      rw [List.getElem?_map, List.getElem?_eq_getElem hi]
      rw [show i * 1 + 0 = i from by omega] at h5
      exact h5
    · rw [List.getElem?_eq_none (by omega), List.getElem?_eq_none (by simpa using hi)]
  have hin : ∀ x ∈ xs, inK .i64 x := by
    intro x hx
    obtain ⟨i, hi⟩ := List.mem_iff_getElem?.1 hx
    exact (h2 i x hi).2
  rcases h1 with ⟨h1, h4⟩ | ⟨g, cap, cur, hv, hB, hg, hn, hc, hs, ht⟩
  · exact .inl ⟨h1, List.eq_nil_of_length_eq_zero h4⟩
  · refine .inr ⟨g, cap, cur.toList.drop xs.length, hv, ?_, ?_, hc, hin, hB⟩
    · have e1 : irow xs (cur.toList.drop xs.length) = cur.toList := by
        have : cur.toList.take (xs.length * 1) = cells := ht
        rw [W.irow, ← hcells, ← this, Nat.mul_one, List.take_append_drop]
      show w.heap[g]? = _
      rw [e1]; simpa using hg
    · have : cur.size = cap * 1 := hs
      simp; omega
def KRow (B:Nat) (X:List Nat) (w:World) (v:Value) (L:List Int):Prop :=
 (v = .slice none 0 0 ∧ L = []) ∨ ∃ g cap T,v = .slice (some ⟨g,0,none⟩) L.length cap ∧ Box w g 3 (irow L T) ∧ L.length ≤ cap ∧ cap ≤ maxLen ∧ (∀ x ∈ L,inK .i64 x) ∧ B ≤ g ∧ g ∉ X
theorem KRow.of {B:Nat} {X:List Nat} {w:World} {v:Value} {L:List Int} (h:Owns (intR .i64) 3 B X w v L) (hno:∀ g,v.ownBlock = some g → g ∉ X):KRow B X w v L:=by
 rcases h.asRow with h1 | ⟨g,cap,T,rfl,h1,h2,h3,h4,h5⟩
 ·exact .inl h1
 ·exact .inr ⟨g,cap,T,rfl,h1,by omega,h3,h4,h5,hno g rfl⟩
theorem KRow.sl {B:Nat} {X:List Nat} {w:World} {v:Value} {L:List Int} (h:KRow B X w v L):Sl (intR .i64) X w v L:=by
 rcases h with h1 | ⟨g,cap,T,rfl,h1,h2,h3,h4,h5,h6⟩
 ·exact .inl h1
 ·exact irow_sl h1 h6 h4 h2 h3
theorem KRow.ext {B:Nat} {X Y:List Nat} {w w':World} {v:Value} {L:List Int} (h:KRow B X w v L) (k:Ext Y w w') (hY:∀ y ∈ Y,y ∈ X):KRow B X w' v L:=by
 rcases h with h1 | ⟨g,cap,T,rfl,h1,h2,h3,h4,h5,h6⟩
 ·exact .inl h1
 ·exact .inr ⟨g,cap,T,rfl,h1.ext k (fun hm=>h6 (hY g hm)),h2,h3,h4,h5,h6⟩
theorem KRow.mono {B:Nat} {X Y:List Nat} {w:World} {v:Value} {L:List Int} (h:KRow B Y w v L) (k:∀ x ∈ X,x ∈ Y):KRow B X w v L:=by
 rcases h with h1 | ⟨g,cap,T,rfl,h1,h2,h3,h4,h5,h6⟩
 ·exact .inl h1
 ·exact .inr ⟨g,cap,T,rfl,h1,h2,h3,h4,h5,fun hm=>h6 (k g hm)⟩
theorem KRow.low {B B':Nat} {X:List Nat} {w:World} {v:Value} {L:List Int} (h:KRow B X w v L) (k:B' ≤ B):KRow B' X w v L:=by
 rcases h with h1 | ⟨g,cap,T,rfl,h1,h2,h3,h4,h5,h6⟩
 ·exact .inl h1
 ·exact .inr ⟨g,cap,T,rfl,h1,h2,h3,h4,Nat.le_trans k h5,h6⟩
theorem KRow.cast {B:Nat} {X:List Nat} {w:World} {v:Value} {L M:List Int} (e:L = M) (h:KRow B X w v L):KRow B X w v M:=e ▸ h
theorem V.clipRow {P : Program} {o : Oper} {E : Env} {w : World} {B : Nat} {X : List Nat} {t : TypeId} {x y z : Operand} {v : Value} {L : List Int} (ho : o.op = .slice t x none (some y) (some z)) (ht : P.underlying t = some (.slice 3)) (hs : Sized P 3 1) (hx : ev E x = v) (hsl : KRow B X w v L)
    (hy : ev E y = .int .i64 L.length) (hz : ev E z = .int .i64 L.length) : ∃ v', OpV P o E w v' ∧ KRow B X w v' L := by
  rcases hsl with ⟨rfl, rfl⟩ | ⟨g, c, T, rfl, h1, hc, hm, h4, h5, h6⟩
  · refine ⟨.slice none 0 0, ?_, .inl ⟨rfl, rfl⟩⟩
    simp [OpV, execOp, ho, hx, hy, hz, go_sem, Instr.sliceAt, underlying, ht, Instr.slice, Instr.sliceBounds, Instr.sliceBound, asIntOf, size_of hs]
  · refine ⟨.slice (some ⟨g, 0, none⟩) L.length L.length, ?_, .inr ⟨g, L.length, T, rfl, h1, Nat.le_refl _, by omega, h4, h5, h6⟩⟩
    simp [OpV, execOp, ho, hx, hy, hz, go_sem, Instr.sliceAt, underlying, ht, Instr.slice, Instr.sliceBounds, Instr.sliceBound, asIntOf, size_of hs, hc, addr_add]
def rowOf (v:Value):List Nat:=match v.ownBlock with | some g=>[g] | none=>[]
theorem rowOf_no {v:Value} {X:List Nat} (hno:∀ g,v.ownBlock = some g → g ∉ X) {b:Nat} (hb:b ∈ X):b ∉ rowOf v:=by
 unfold rowOf
 cases h:v.ownBlock with
 | none=>simp
 | some g=>intro hm; rw [List.mem_singleton] at hm; subst hm; exact hno b h hb
theorem rowOf_ge {α:Type} {R:Rep α} {e B C:Nat} {X:List Nat} {w:World} {v:Value} {xs:List α} (h:Owns R e B X w v xs) (hC:C ≤ B):∀ y ∈ rowOf v,C ≤ y:=by
 intro y hy
 unfold rowOf at hy
 cases ho:v.ownBlock with
 | none=>rw [ho] at hy; simp at hy
 | some g=>rw [ho] at hy; rw [List.mem_singleton] at hy; subst hy; have:=(h.lt y ho).1; omega
def idxP (p:Int → Bool) (xs:List Int):Int:=if xs.any p = true then ((xs.findIdx p:Nat):Int) else -1
theorem idxP_none {p:Int → Bool} {xs:List Int} {k:Nat} (h:∀ j,j < k → (fun i=>!p (xs.getD i 0)) j = true) (hk:xs.length ≤ k):idxP p xs = -1:=by
 have:xs.any p = false:=by
  rw [List.any_eq_false]
  intro x hx
  obtain ⟨i,hi⟩:=List.mem_iff_getElem?.1 hx
  have:=h i (by have:=lt_of_get hi; omega)
  simpa [List.getD_eq_getElem?_getD,hi] using this
 rw [idxP,this]; rfl
theorem idxP_at {p:Int → Bool} {xs:List Int} {k:Nat} (hk:k < xs.length) (h:∀ j,j < k → (fun i=>!p (xs.getD i 0)) j = true) (he:p (xs.getD k 0) = true):idxP p xs = (k:Int):=by
 have ha:xs.any p = true:=by
  rw [List.any_eq_true]
  exact ⟨xs[k],List.getElem_mem hk,by simpa [List.getD_eq_getElem?_getD,List.getElem?_eq_getElem hk] using he⟩
 rw [idxP,if_pos ha,(List.findIdx_eq hk).2]
 constructor
 ·simpa [List.getD_eq_getElem?_getD,List.getElem?_eq_getElem hk] using he
 ·intro j hj
  have:=h j hj
  have hj':j < xs.length:=by omega
  simpa [List.getD_eq_getElem?_getD,List.getElem?_eq_getElem hj'] using this
theorem idxP_cases (p:Int → Bool) (xs:List Int):(idxP p xs = -1 ∧ xs.filter (fun m=>!p m) = xs) ∨ ∃ k,k < xs.length ∧ idxP p xs = (k:Int) ∧ p (xs.getD k 0) = true ∧ (xs.take (k + 1)).filter (fun m=>!p m) = xs.take k:=by
 by_cases ha:xs.any p = true
 ·right
  have hlt:xs.findIdx p < xs.length:=List.findIdx_lt_length_of_exists (by simpa [List.any_eq_true] using ha)
  have hp:=List.findIdx_getElem (w:=hlt)
  refine ⟨xs.findIdx p,hlt,by rw [idxP,if_pos ha],by simpa [List.getD_eq_getElem?_getD,List.getElem?_eq_getElem hlt] using hp,?_⟩
  rw [List.take_add_one,List.getElem?_eq_getElem hlt,Option.toList_some,List.filter_append]
  have h1:(xs.take (xs.findIdx p)).filter (fun m=>!p m) = xs.take (xs.findIdx p):=by
   rw [List.filter_eq_self]
   intro x hx
   obtain ⟨i,hi⟩:=List.mem_iff_getElem?.1 hx
   have hil:=lt_of_get hi
   rw [List.length_take] at hil
   rw [List.getElem?_take_of_lt (by omega)] at hi
   have:=List.not_of_lt_findIdx (p:=p) (xs:=xs) (i:=i) (by omega)
   have he:xs[i]'(by omega) = x:=by
    rw [List.getElem?_eq_getElem (by omega)] at hi; exact Option.some.inj hi
   rw [he] at this
   simpa using this
  have h2:[xs[xs.findIdx p]].filter (fun m=>!p m) = []:=by simp [hp]
  rw [h1,h2,List.append_nil]
 ·left
  have ha':xs.any p = false:=by simpa using ha
  refine ⟨by rw [idxP,if_neg ha],?_⟩
  rw [List.filter_eq_self]
  intro x hx
  have:=List.any_eq_false.1 ha' x hx
  simpa using this
structure DelInv (q:Int → Bool) (xs L:List Int) (i j:Nat):Prop where
 len:L.length = xs.length
 inn:∀ x ∈ L,inK .i64 x
 lt:i < j
 le:j ≤ xs.length
 pre:L.take i = (xs.take j).filter q
 post:L.drop j = xs.drop j
theorem DelInv.get {q:Int → Bool} {xs L:List Int} {i j:Nat} (h:DelInv q xs L i j) (hj:j < xs.length):L.getD j 0 = xs.getD j 0:=by
 have h1:(L.drop j)[0]? = (xs.drop j)[0]?:=by rw [h.post]
 simp only [List.getElem?_drop,Nat.add_zero] at h1
 rw [List.getD_eq_getElem?_getD,List.getD_eq_getElem?_getD,h1]
theorem drop_succ_eq {L M:List Int} {j:Nat} (h:L.drop j = M.drop j):L.drop (j + 1) = M.drop (j + 1):=by
 rw [← List.drop_drop,← List.drop_drop,h]
theorem take_succ_filter {q:Int → Bool} {xs:List Int} {j:Nat} (hj:j < xs.length):(xs.take (j + 1)).filter q = (xs.take j).filter q ++ [xs.getD j 0].filter q:=by
 rw [List.take_add_one,List.filter_append,List.getElem?_eq_getElem hj]
 simp [List.getD_eq_getElem?_getD,List.getElem?_eq_getElem hj]
theorem DelInv.skip {q:Int → Bool} {xs L:List Int} {i j:Nat} (h:DelInv q xs L i j) (hj:j < xs.length) (hq:q (L.getD j 0) = false):DelInv q xs L i (j + 1):=by
 rw [h.get hj] at hq
 refine ⟨h.len,h.inn,by have:=h.lt; omega,hj,?_,drop_succ_eq h.post⟩
 rw [take_succ_filter hj,h.pre]; simp only [List.filter_cons,hq,List.filter_nil]; simp
theorem DelInv.keep {q:Int → Bool} {xs L:List Int} {i j:Nat} (h:DelInv q xs L i j) (hj:j < xs.length) (hq:q (L.getD j 0) = true):DelInv q xs (L.set i (L.getD j 0)) (i + 1) (j + 1):=by
 have hij:=h.lt
 have hjl:j < L.length:=by rw [h.len]; exact hj
 refine ⟨by rw [List.length_set]; exact h.len,?_,by omega,hj,?_,?_⟩
 ·intro x hx
  rcases List.mem_or_eq_of_mem_set hx with hx | hx
  ·exact h.inn x hx
  ·subst hx
   rw [List.getD_eq_getElem?_getD,List.getElem?_eq_getElem hjl]
   exact h.inn _ (List.getElem_mem hjl)
 ·rw [take_succ_filter hj,← h.pre,List.take_add_one,List.getElem?_set_self (by omega),List.take_set_of_le (Nat.le_refl _),h.get hj]
  rw [h.get hj] at hq
  simp only [List.filter_cons,hq,if_true,List.filter_nil,Option.toList_some]
 ·rw [List.drop_set_of_lt (by omega)]; exact drop_succ_eq h.post
end Go.Proofs.Ytiaicihpocoeiaa.W
namespace Go.Proofs.Ytiaicihpocoeiaa.W
open Go.RowKit
def WX (P:Program) (n:Fsz) (c:Code) (Q:Exit → Act → World → Prop) (E:Env) (w:World):Prop:=∀ a,Ok n a → envOf a = E → c.wpIn (Fr none) 1 P Q a w
abbrev KX (n:Fsz) (Q:Exit → Act → World → Prop) (N:Env → World → Prop):K:=⟨N,fun i E w=>∀ a,Ok n a → envOf a = E → Q (.exit i) a w,fun E w=>∀ a,Ok n a → envOf a = E → Q .ret a w⟩
section
variable {P:Program} {n:Fsz} {Q:Exit → Act → World → Prop} {E:Env} {w:World}
theorem WX.seq {x y:Code} (h:WP P n x (KX n Q (WX P n y Q)) E w):WX P n (.seq x y) Q E w:=by
 intro a ha he
 refine wpIn_seq (wpIn_mono (h a ha he) ?_)
 intro e a' w' ⟨h1,h2⟩
 cases e with
 | normal=>exact h2 a' h1 rfl
 | ret=>exact h2 a' h1 rfl
 | exit i=>exact h2 a' h1 rfl
 | goto _=>exact h2.elim
 | panic _=>exact h2.elim
 | outgrown=>exact h2.elim
theorem WX.seqx {x y:Code} (h:WX P n x (Exit.then (y.wpIn (Fr none) 1 P Q) Q) E w):WX P n (.seq x y) Q E w:=fun a ha he=>wpIn_seq (h a ha he)
theorem WX.block {id:Nat} {c:Code} (h:WX P n c (Exit.inBlock id Q) E w):WX P n (.block id c) Q E w:=fun a ha he=>wpIn_block (h a ha he)
theorem WX.of {c:Code} (h:WP P n c (KX n Q fun E w=>∀ a,Ok n a → envOf a = E → Q .normal a w) E w):WX P n c Q E w:=by
 intro a ha he
 refine wpIn_mono (h a ha he) ?_
 intro e a' w' ⟨h1,h2⟩
 cases e with
 | normal=>exact h2 a' h1 rfl
 | ret=>exact h2 a' h1 rfl
 | exit i=>exact h2 a' h1 rfl
 | goto _=>exact h2.elim
 | panic _=>exact h2.elim
 | outgrown=>exact h2.elim
theorem ext_putObj (w:World) (b:Nat) (o:Obj):Ext [b] w (w.putObj b o):=⟨rfl,rfl,rfl,by simp,fun k _ hk=>World.putObj_heap_other (by simpa using hk)⟩
theorem heap_lt {w:World} {b:Nat} {o:Obj} (h:w.heap[b]? = some o):b < w.heap.size:=by
 rcases Nat.lt_or_ge b w.heap.size with h1 | h1
 ·exact h1
 ·rw [Array.getElem?_eq_none h1] at h; cases h
def mark (d:Nat):Deferred:={ target:=.collected d,args:=#[] }
theorem WX.range {g : Operand} {ps : Array Tmp} {asg body : Code} {f : FuncId} {cap : Array Value} (hg : ev E g = .func (.func f) #[] cap) (hcal : Callable P f)
    (h : ∀ (fn : FuncId) (tmps : Array Value), tmps.size = n.n → (fun t => tmps.getD t undef) = E → ∀ W1, Ext [] w W1 → W1.heap.size = w.heap.size + 2 → W1.heap[w.heap.size]? = some (.deferred (some [])) →
      W1.heap[w.heap.size + 1]? = some (.loop { state := .ready, pending := none, fn := fn, tmps := tmps, params := ps, assign := asg, body := body, defers := w.heap.size }) →
      Fnc P f (#[.func (.yield (w.heap.size + 1)) #[] #[]] ++ cap) W1 fun _ w3 => ∃ r : Loop, w3.heap[w.heap.size + 1]? = some (.loop r) ∧ r.state ≠ .busy ∧
        ∀ w4, Ext [w.heap.size + 1] w3 w4 → ∀ a, Ok ⟨n.n, mark w.heap.size :: n.D⟩ a → envOf a = E → match r.pending with
          | none => Q .normal a w4
          | some .ret => Q .ret a w4
          | some (.exit i) => Q (.exit i) a w4
          | _ => False) : WX P n (.rangeFunc g ps asg body) Q E w := by
  intro a ha he
  refine wpIn_rangeFunc fun fn hfn => ?_
  obtain ⟨rec, hrec⟩ : ∃ rec : Loop, rec = { state := .ready, pending := none, fn := fn, tmps := a.tmps, params := ps, assign := asg, body := body, defers := w.heap.size } := ⟨_, rfl⟩
  have hX : Ext [] w ((w.alloc (.deferred (some []))).alloc (.loop rec)) := (Ext.alloc w _).trans (Ext.alloc _ _)
  have hsz : ((w.alloc (.deferred (some []))).alloc (.loop rec)).heap.size = w.heap.size + 2 := by simp
  have hD : ((w.alloc (.deferred (some []))).alloc (.loop rec)).heap[w.heap.size]? = some (.deferred (some [])) := by
    have h1 : (w.alloc (.deferred (some []))).heap[w.heap.size]? = some (.deferred (some [])) := World.alloc_heap_new w _
    rw [(Ext.alloc (X := []) (w.alloc (.deferred (some []))) (.loop rec)).block _ (heap_lt h1) (by simp)]; exact h1
  have hL : ((w.alloc (.deferred (some []))).alloc (.loop rec)).heap[w.heap.size + 1]? = some (.loop rec) := by
    have := World.alloc_heap_new (w.alloc (.deferred (some []))) (.loop rec)
    rwa [show (w.alloc (.deferred (some []))).heap.size = w.heap.size + 1 from by simp] at this
  refine ⟨w.heap.size + 1, [mark w.heap.size], (w.alloc (.deferred (some []))).alloc (.loop rec), { target := .fn (.func f) cap, args := #[.func (.yield (w.heap.size + 1)) #[] #[]] }, (w.alloc (.deferred (some []))).alloc (.loop rec), f,
    #[.func (.yield (w.heap.size + 1)) #[] #[]] ++ cap, (w.alloc (.deferred (some []))).alloc (.loop rec), ?_, ?_, ?_, ?_, fun h => (by cases h), ?_⟩
  · rw [hrec]; exact run_enterLoop_outer _ _ _ _ _
  · have hg' : a.eval g = .func (.func f) #[] cap := by rw [eval_envOf, he]; exact hg
    simp only [resolve, hg']
    simp [go_sem]
  · intro f' _; trivial
  · simp only [invoke]
    obtain ⟨fn', hfn', hname, hb⟩ := hcal
    have hn' : ¬ fn'.name = "runtime.NumGoroutine" := by simpa using hname
    have hb' : ¬ fn'.body = none := by intro e; rw [e] at hb; cases hb
    simp [go_sem, callFunc, hfn', hn', hb']
  · have hcall := h fn a.tmps ha.1 he _ hX hsz hD (by rw [hL, hrec])
    have hcall' : CallsIn (Fr none) (1 - 1) P f (#[.func (.yield (w.heap.size + 1)) #[] #[]] ++ cap) ((w.alloc (.deferred (some []))).alloc (.loop rec)) _ := (callsIn_wide (n := 1 - 1)).2 hcall
    refine CallsIn.mono hcall' ?_
    rintro e w3 ⟨v, rfl, r, hl3, hb3, hQ⟩
    have hend := run_endLoop (P := P) hl3 hb3
    have key := hQ _ (ext_putObj w3 (w.heap.size + 1) (.loop { r with state := .exhausted })) { a with defers := [mark w.heap.size] ++ a.defers } ⟨ha.1, by show [mark w.heap.size] ++ a.defers = _; rw [ha.2]; rfl⟩ he
    refine ⟨r.pending, _, hend, ?_⟩
    split at key
    · rename_i hj; simp only [hj] at key ⊢; exact key
    · rename_i hj; simp only [hj] at key ⊢; exact wpIn_ret key
    · rename_i i hj; simp only [hj] at key ⊢; exact wpIn_exit key
    · exact key.elim
end
section
variable {P:Program} {n:Fsz} {Q:Exit → Act → World → Prop} {E:Env} {w:World}
theorem WX.seqRange {x T : Code} {id : Nat} {g : Operand} {ps : Array Tmp} {asg body : Code} (h : WP P n x (KX n Q fun E1 w1 => ∃ (f : FuncId) (cap : Array Value), ev E1 g = .func (.func f) #[] cap ∧ Callable P f ∧ ∃ J : World → Prop,
      (∀ rec : Loop, rec.state = .ready → rec.pending = none → rec.tmps.size = n.n → (fun t => rec.tmps.getD t undef) = E1 → rec.params = ps → rec.assign = asg → rec.body = body → ∀ W1, Ext [] w1 W1 → W1.heap.size = w1.heap.size + 2 → Blk W1 w1.heap.size (.deferred (some [])) → Blk W1 (w1.heap.size + 1) (.loop rec) →
        Fnc P f (#[.func (.yield (w1.heap.size + 1)) #[] #[]] ++ cap) W1 fun _ w3 => ∃ r : Loop, Blk w3 (w1.heap.size + 1) (.loop r) ∧ r.state ≠ .busy ∧ (r.pending = none ∨ r.pending = some (.exit id)) ∧ ∀ w4, Ext [w1.heap.size + 1] w3 w4 → J w4) ∧
      ∀ w4, J w4 → WX P ⟨n.n, mark w1.heap.size :: n.D⟩ T Q E1 w4) E w) : WX P n (.seq (.seq x (.block id (.rangeFunc g ps asg body))) T) Q E w := by
  refine WX.seqx (WX.seq (WP.mono h ?_ (fun _ _ _ h => h) (fun _ _ h => h)))
  rintro E1 w1 ⟨f, cap, hg, hcal, J, h1, h2⟩
  refine WX.block (WX.range hg hcal ?_)
  intro fn tmps htm hE W1 hx hs hd hl
  refine Fnc.mono (h1 _ rfl rfl htm hE rfl rfl rfl W1 hx hs hd hl) ?_
  rintro v w3 ⟨r, g1, g2, g3, g4⟩
  refine ⟨r, g1, g2, fun w4 hx4 a ha he => ?_⟩
  have key : T.wpIn (Fr none) 1 P Q a w4 := h2 w4 (g4 w4 hx4) a ha he
  rcases g3 with g3 | g3
  · rw [g3]; exact key
  · rw [g3]
    show Exit.inBlock id _ (.exit id) a w4
    simp only [Exit.inBlock, if_true]
    exact key
end
theorem wpInN {ro:Option Nat} {P:Program} {c:Code} {Q:Exit → Act → World → Prop} {a:Act} {w:World} (n m:Nat) (h:c.wpIn (Fr ro) n P Q a w):c.wpIn (Fr ro) m P Q a w :=
 fun b k cs hro hb _=>h b k cs hro hb (fun _ hd=>by cases hd)
def EndR (l:Nat) (R:Value → World → Prop) (jump:Option Code) (w3:World):Prop:=∃ r3:Loop,w3.heap[l]? = some (.loop r3) ∧
 ∀ w4,Ext [l] w3 w4 → w4.heap[l]? = some (.loop { r3 with state:=if jump.isNone then .ready else .done,pending:=jump }) → R (.bool jump.isNone) w4
theorem EndR.run {P:Program} {l:Nat} {R:Value → World → Prop} {jump:Option Code} {w3:World} (h:EndR l R jump w3):∃ v w',(Instr.endRound l jump).run P w3 = .ok v w' ∧ ∃ u,Ending.returned v = .returned u ∧ R u w':=by
 obtain ⟨r3,h1,h2⟩:=h
 exact ⟨_,_,run_endRound jump h1,_,rfl,h2 _ (ext_putObj w3 l _) (World.putObj_heap_same (heap_lt h1))⟩
theorem round_wp {P : Program} {ro : Option Nat} {N l p1 p2 : Nat} {r : Loop} {E : Env} {w : World} {u v : Value} {R : Value → World → Prop} {J : Env → World → Prop} (hp : r.params = #[p1, p2]) (htm : r.tmps.size = N) (hE : (fun t => r.tmps.getD t undef) = E) (h1 : p1 < N) (h2 : p2 < N)
    (h : WPr (some l) P ⟨N, []⟩ r.assign ⟨J, fun _ _ _ => False, fun _ _ => False⟩ (upd (upd E p1 u) p2 v) w)
    (hJ : ∀ E2 w2, J E2 w2 → ∃ r2 : Loop, w2.heap[l]? = some (.loop r2) ∧ r2.state = .ready ∧ ∀ w2', Ext [l] w2 w2' → w2'.heap[l]? = some (.loop { r2 with state := .busy }) →
      WPr (some l) P ⟨N, []⟩ r.body ⟨fun _ w3 => EndR l R none w3, fun i _ w3 => EndR l R (some (.exit i)) w3, fun _ w3 => EndR l R (some .ret) w3⟩ E2 w2') :
    RoundIn (Fr ro) 0 P l r.fn ((r.params.zip #[u, v]).foldl (fun tmps (x : Nat × Value) => tmps.setIfInBounds x.1 x.2) r.tmps) r.assign r.body w fun e w' => ∃ v, e = .returned v ∧ R v w' := by
  have hz : (r.params.zip #[u, v]).foldl (fun tmps (x : Nat × Value) => tmps.setIfInBounds x.1 x.2) r.tmps = (r.tmps.setIfInBounds p1 u).setIfInBounds p2 v := by
    rw [hp]
    show ([p1, p2].toArray.zip [u, v].toArray).foldl _ _ = _
    simp
  rw [hz]
  have henv : envOf { tmps := (r.tmps.setIfInBounds p1 u).setIfInBounds p2 v, defers := [] } = upd (upd E p1 u) p2 v := by
    have hok : Ok ⟨N, []⟩ { tmps := r.tmps, defers := [] } := ⟨htm, rfl⟩
    have e1 := envOf_put hok (some p1) (by simp [dstOk, Nat.blt]; omega) u
    have e2 := envOf_put (hok.put (some p1) u) (some p2) (by simp [dstOk, Nat.blt]; omega) v
    have e3 : envOf { tmps := r.tmps, defers := [] } = E := hE
    rw [e1, e3] at e2
    exact e2
  refine roundIn_of_wpIn trivial ?_
  have ha := wpInN 1 0 (h { tmps := (r.tmps.setIfInBounds p1 u).setIfInBounds p2 v, defers := [] } ⟨by simpa using htm, rfl⟩ henv)
  refine wpIn_mono ha ?_
  rintro e a1 w1 ⟨hok1, hq⟩
  cases e with
  | normal =>
    obtain ⟨r2, g1, g2, g3⟩ := hJ _ _ hq
    refine ⟨_, run_beginRound g1 g2, ?_⟩
    have hb := wpInN 1 0 (g3 _ (ext_putObj w1 l _) (World.putObj_heap_same (heap_lt g1)) a1 hok1 rfl)
    refine wpIn_mono hb ?_
    rintro e a3 w3 ⟨_, hq3⟩
    cases e with
    | normal => obtain ⟨x, w', q1, q2⟩ := EndR.run (P := P) hq3; exact ⟨x, w', q1, q2⟩
    | ret => obtain ⟨x, w', q1, q2⟩ := EndR.run (P := P) hq3; exact ⟨x, w', q1, q2⟩
    | exit i => obtain ⟨x, w', q1, q2⟩ := EndR.run (P := P) hq3; exact ⟨x, w', q1, q2⟩
    | goto _ => exact hq3.elim
    | panic _ => exact hq3.elim
    | outgrown => exact hq3.elim
  | ret => exact hq.elim
  | exit i => exact hq.elim
  | goto _ => exact hq.elim
  | panic _ => exact hq.elim
  | outgrown => exact hq.elim
section
variable {P:Program} {o:Oper} {E:Env} {w:World}
theorem WL.round {n : Fsz} {ro : Option Nat} {Q : K} {ops : Array Oper} {rest : List Oper} {l : Nat} {f : FuncId} {tmps : Array Value} {asg body : Code} (hs : Sure ops o E) (hd : dstOk n o.dst = true) (h : (execOp (ev E) o).run P w = .ok (.round l f tmps asg body) w)
    (k : RoundIn (Fr ro) 0 P l f tmps asg body w fun e w' => ∃ v, e = .returned v ∧ WLr ro P n ops Q rest (updO E o.dst v) w') : WLr ro P n ops Q (o :: rest) E w := by
  intro a ha he
  unfold wpListIn
  rw [if_pos (hs a.tmps he)]
  refine ⟨fun _ _ => trivial, ?_⟩
  rw [eval_envOf, he, semAt_of h (by simp)]
  refine ⟨fun _ => Nat.le_refl 1, RoundIn.mono k ?_⟩
  rintro e w' ⟨v, rfl, hk⟩
  exact hk (a.put o.dst v) (ha.put _ _) (by rw [envOf_put ha _ hd, he])
theorem WL.yield2 {n : Fsz} {ro : Option Nat} {Q : K} {ops : Array Oper} {rest : List Oper} {l : Nat} {r : Loop} {g x y : Operand} {tys : Array TypeId} {u v : Value} (hs : Sure ops o E) (hd : dstOk n o.dst = true) (ho : o.op = .call ⟨.value g, #[x, y], tys⟩) (hg : ev E g = .func (.yield l) #[] #[]) (hx : ev E x = u) (hy : ev E y = v)
    (hl : w.heap[l]? = some (.loop r)) (hp : r.params.size = 2)
    (k : RoundIn (Fr ro) 0 P l r.fn ((r.params.zip #[u, v]).foldl (fun tmps (x : Nat × Value) => tmps.setIfInBounds x.1 x.2) r.tmps) r.assign r.body w fun e w' => ∃ v, e = .returned v ∧ WLr ro P n ops Q rest (updO E o.dst v) w') : WLr ro P n ops Q (o :: rest) E w := by
  obtain ⟨T, hT⟩ : ∃ T, (r.params.zip #[u, v]).foldl (fun tmps (x : Nat × Value) => tmps.setIfInBounds x.1 x.2) r.tmps = T := ⟨_, rfl⟩
  have hy' : (Instr.yield l #[u, v]).run P w = .ok (.round l r.fn T r.assign r.body) w := by rw [← hT]; exact run_yield (P := P) (args := #[u, v]) hl (by rw [hp]; rfl)
  rw [hT] at k
  refine WL.round hs hd ?_ k
  cases g with
  | func f => simp [ev] at hg
  | _ => simp [execOp, ho, go_sem, hg, hx, hy, hy']
end
def PostM (P:Program) (fn:Func) (R:Value → World → Prop):Exit → Act → World → Prop:=bodyPostM (Fr none) 1 P fn (fun e w'=>∃ v,e = .returned v ∧ R v w')
theorem PostM.plain {P:Program} {fn:Func} {R:Value → World → Prop} {a:Act} {w:World} {n:Nat} (hn:fn.ntmps = n) (hok:Ok ⟨n,[]⟩ a) (h:resOf fn P (envOf a) w R):PostM P fn R .ret a w:=by
 subst hn
 obtain ⟨v,hr,hR⟩:=h a.tmps hok.1 rfl
 show LeavesInM (Fr none) 1 P fn a.tmps _ a.defers .returning w
 rw [hok.2]
 exact ⟨v,hr,v,rfl,hR⟩
theorem PostM.marked {P:Program} {fn:Func} {R:Value → World → Prop} {a:Act} {w:World} {n d:Nat} (hn:fn.ntmps = n) (hok:Ok ⟨n,[mark d]⟩ a) (hd:w.heap[d]? = some (.deferred (some []))) (h:∀ w',Ext [d] w w' → resOf fn P (envOf a) w' R):PostM P fn R .ret a w:=by
 subst hn
 obtain ⟨v,hr,hR⟩:=h _ (ext_putObj w d (.deferred none)) a.tmps hok.1 rfl
 show LeavesInM (Fr none) 1 P fn a.tmps _ a.defers .returning w
 rw [hok.2]
 exact ⟨by simp,.inl ⟨d,_,rfl,run_takeDeferred hd,v,hr,v,rfl,hR⟩⟩
theorem Fnc.of_WX {P : Program} {f : FuncId} {fn : Func} {c : Code} {args : Array Value} {w : World} {R : Value → World → Prop} {n : Nat}
    (hf : P.funcs[f]? = some fn) (hb : fn.body = some c) (hn : fn.ntmps = n) (hs : args.size ≤ n)
    (h : ∀ E : Env, (∀ t, t < args.size → E t = args.getD t undef) → WX P ⟨n, []⟩ c (PostM P fn R) E w) : Fnc P f args w R := by
  subst hn
  unfold Fnc
  refine (callsIn_wide (n := 1)).1 (callsIn_of_wp_marks (F := Fr none) hf hb trivial ?_)
  let a : Act := { tmps := args ++ Array.replicate (fn.ntmps - args.size) undef, defers := [] }
  have hok : Ok ⟨fn.ntmps, []⟩ a := ⟨by simp [a]; omega, rfl⟩
  have hE : ∀ t, t < args.size → envOf a t = args.getD t undef := by
    intro t ht
    simp [envOf, a, Array.getD_eq_getD_getElem?, Array.getElem?_append, ht]
  exact h _ hE a hok rfl
end Go.Proofs.Ytiaicihpocoeiaa.W
namespace Go.Proofs.Ytiaicihpocoeiaa.W
open Go.RowKit
def bor (k:IntKind) (a b:Int):Int:=k.wrap ((BitVec.ofInt k.bits a ||| BitVec.ofInt k.bits b).toNat:Int)
def bshl (k:IntKind) (a n:Int):Int:=k.wrap (a * 2 ^ (min n.toNat k.bits))
def bshr (k:IntKind) (a n:Int):Int:=a.fdiv (2 ^ (min n.toNat k.bits))
def shB:BinOp → IntKind → Int → Int → Option Int
 | .shl,k,a,n=>some (bshl k a n)
 | .shr,k,a,n=>some (bshr k a n)
 | _,_,_,_=>none
section
variable {P:Program} {o:Oper} {E:Env} {w:World}
theorem V.shift {op:BinOp} {t u:TypeId} {x y:Operand} {k k':IntKind} {a n r:Int} (ho:o.op = .binOp op t x y u) (hx:ev E x = .int k a) (hy:ev E y = .int k' n) (hn:0 ≤ n) (hr:shB op k a n = some r):OpV P o E w (.int k r):=by
 have hn':¬ n < 0:=by omega
 cases op <;> simp only [shB,Option.some.injEq,reduceCtorEq] at hr <;> subst hr <;> simp [OpV,execOp,ho,hx,hy,go_sem,eqGuard,binOp,Op.shift,bshl,bshr,hn']
end
def nrow (k:IntKind) (L:List Int) (T:List Value):List Value:=L.map (Value.int k) ++ T
theorem nrow_get {k:IntKind} {L:List Int} {T:List Value} {j:Nat} (h:j < L.length):(nrow k L T)[j]? = some (.int k (L.getD j 0)):=by
 rw [nrow,List.getElem?_append_left (by simpa using h),List.getElem?_map,List.getD_eq_getElem?_getD,List.getElem?_eq_getElem h]; rfl
theorem nrow_set {k:IntKind} {L:List Int} {T:List Value} {j:Nat} {x:Int} (h:j < L.length):(nrow k L T).set j (.int k x) = nrow k (L.set j x) T:=by
 rw [nrow,nrow,List.set_append_left _ _ (by simpa using h),List.map_set]
theorem nrow_len {k:IntKind} {L:List Int} {T:List Value}:(nrow k L T).length = L.length + T.length:=by simp [nrow]
section
variable {P:Program} {o:Oper} {E:Env} {w:World}
theorem V.bytesStr {src dst e t:TypeId} {x:Operand} {b n c:Nat} {xs:List Int} {T:List Value} (ho:o.op = .convert src dst x) (hs:P.underlying src = some (.slice e)) (he:P.underlying e = some (.int .u8)) (hd:P.underlying dst = some .string) (hx:ev E x = .slice (some ⟨b,0,none⟩) n c) (hb:Box w b t (nrow .u8 xs T)) (hn:xs.length = n):OpV P o E w (.string (strOfNums xs)):=by
 have h:=run_convert_bytes_arg (P:=P) w src e hs he b 0 n c xs hn (fun i hi=>hb.cell (by rw [Nat.zero_add]; exact nrow_get (by omega))) dst hd
 simp only [OpV,execOp,ho,hx]
 exact run_v h
end
section
variable {P:Program} {n:Fsz} {ro:Option Nat} {Q:K} {E:Env} {w:World} {ops:Array Oper} {o:Oper} {rest:List Oper}
theorem WL.makeBytes {t e : TypeId} {x y : Operand} {k : IntKind} {m : Nat} {by' : Nat} (hs : Sure ops o E) (hd : dstOk n o.dst = true) (ho : o.op = .makeSlice t x y) (ht : P.underlying t = some (.slice e)) (he : Elem P e (.int .u8 0) 1 by') (hx : ev E x = .int k (m : Int)) (hy : ev E y = .int k (m : Int)) (hm : m ≤ 16777216) (hb : by' = 1)
    (kk : ∀ b w', Ext [] w w' → w.heap.size ≤ b → Box w' b e (nrow .u8 (List.replicate m 0) []) → WLr ro P n ops Q rest (updO E o.dst (.slice (some ⟨b, 0, none⟩) m m)) w') : WLr ro P n ops Q (o :: rest) E w := by
  obtain ⟨i, hi, hz0, hz1, hz2⟩ := info_parts he
  have hr := run_makeSlice (P := P) w t e i (.int .u8 0) ht hi hz0 k k (m : Int) (m : Int) (by omega) (Int.le_refl _) (by rw [hz1]; simpa using hm) (by rw [hz2, hb]; omega) (by omega)
  simp only [Int.toNat_natCast] at hr
  refine WL.x (u := .slice (some ⟨w.heap.size, 0, none⟩) m m) (w' := w.alloc (.cells (madeCells (Value.cells (.int .u8 0)) (m * i.size)) e)) hs hd (.inl ?_) (kk _ _ (Ext.alloc w _) (Nat.le_refl _) ?_)
  · simp only [execOp, ho, hx, hy]
    exact run_v hr
  · have : (madeCells (Value.cells (.int .u8 0)) (m * i.size)).toList = nrow .u8 (List.replicate m 0) [] := by
      rw [hz1, Nat.mul_one]
      apply List.ext_getElem?
      intro j
      simp [madeCells, nrow, Value.cells, List.getElem?_replicate]
      split <;> simp_all [Nat.mod_one]
    unfold Box
    rw [← this]
    exact Blk.new w _
end
section
variable {P:Program} {o:Oper} {E:Env} {w:World}
theorem X.buildSlice {t e : TypeId} {len sz : Nat} {z : Value} {by' : Nat} {ps : Array (Nat × Operand)} {cs : List Value} (ho : o.op = .buildSlice t len ps) (ht : P.underlying t = some (.slice e)) (he : Elem P e z sz by')
    (hsm : len * sz ≤ 1024)
    (hf : Instr.fill (fun i => some (i * sz, sz)) ((Array.range (len * sz)).map ((if len * sz = 0 then #[] else z.cells)[· % (if len * sz = 0 then #[] else z.cells).size]!)) (ps.map fun x => (x.1, ev E x.2)).toList = some cs.toArray)
    : OpX P o E w (.slice (some ⟨w.heap.size, 0, none⟩) len len) (w.alloc (.cells cs.toArray e)) := by
  obtain ⟨i, hi, hz0, hz1, hz2⟩ := info_parts he
  subst hz1
  refine .inl ?_
  have hsize : (sizeOf e).run P w = .ok i.size w := size_of (by simp [Sized, hi])
  have hzero : (zeroValue e).run P w = .ok z w := zero_of (by simp [Zero, hi, hz0])
  have hbig : ¬ (len * i.size > 2 ^ 24) := by omega
  have hrow : ∀ c : Array Value, (newRow e c).run P w = .ok ⟨w.heap.size, 0, none⟩ (w.alloc (.cells c e)) := fun c => by simp [newRow, go_sem]
  have key : (Instr.buildSlice t len (ps.map fun x => (x.1, ev E x.2))).run P w = .ok (.slice (some ⟨w.heap.size, 0, none⟩) len len) (w.alloc (.cells cs.toArray e)) := by
    unfold Instr.buildSlice
    by_cases h0 : len * i.size = 0
    · simp only [if_pos h0] at hf
      simp only [Sem.run_bind, underlying, run_program, ht, Result.andThen_ok, Sem.run_pure, hsize, Sem.run_ite, if_neg hbig, if_pos h0, hf, hrow]
    · simp only [if_neg h0] at hf
      simp only [Sem.run_bind, underlying, run_program, ht, Result.andThen_ok, Sem.run_pure, hsize, hzero, Sem.run_ite, if_neg hbig, if_neg h0, hf, hrow]
  simp only [execOp, ho]
  exact run_v key
end
def MkStep (P:Program) (l:List Oper) (E:Env) (w:World) (fs:List (Value → World → Prop)) (i:Nat) (o:Oper):Prop :=
 ∀ (E':Env) (w':World),Ext [] w w' → (∀ t,noDst l t = true → E' t = E t) → (∀ k,hasPred o k = true → holdsF l (FL fs) k E' w') →
  (Shut l.toArray o E' ∧ FL fs i undef w') ∨ (Sure l.toArray o E' ∧ ((∃ v w'',OpX P o E' w' v w'' ∧ Ext [] w' w'' ∧ FL fs i v w'') ∨ ∃ f args,OpC P o E' w' f args ∧ Fnc P f args w' fun v w''=>Ext [] w' w'' ∧ FL fs i v w''))
def MkSteps (P:Program) (l:List Oper) (E:Env) (w:World) (fs:List (Value → World → Prop)):Nat → List Oper → Prop
 | _,[]=>True
 | i,o :: r=>MkStep P l E w fs i o ∧ MkSteps P l E w fs (i + 1) r
theorem MkSteps.get {P:Program} {l:List Oper} {E:Env} {w:World} {fs:List (Value → World → Prop)} {i:Nat} {r:List Oper} (h:MkSteps P l E w fs i r) {j:Nat} {o:Oper} (hj:r[j]? = some o):MkStep P l E w fs (i + j) o:=by
 induction r generalizing i j with
 | nil=>simp at hj
 | cons a r ih =>
  cases j with
  | zero=>simp only [List.getElem?_cons_zero,Option.some.injEq] at hj; subst hj; exact h.1
  | succ j =>
   have:=ih h.2 (j:=j) (by simpa using hj)
   rwa [show i + 1 + j = i + (j + 1) from by omega] at this
theorem WP.anyMk {P : Program} {n : Fsz} {id : Nat} {l : List Oper} {E : Env} {w : World} {N R : Env → World → Prop} {X : Nat → Env → World → Prop} (fs : List (Value → World → Prop)) (hm : P.follows .mixedOrders = true)
    (h1 : chkDst n l = true) (h2 : chkApart l = true) (h3 : chkBack l = true) (hs : AllStab fs) (steps : MkSteps P l E w fs 0 l)
    (fin : ∀ E' w', Ext [] w w' → (∀ t, noDst l t = true → E' t = E t) → (∀ i, i < l.length → holdsF l (FL fs) i E' w') → N E' w') : WP P n (.region id l.toArray true) ⟨N, X, R⟩ E w := by
  refine WP.any (fun w' => Ext [] w w') (FL fs) hm (fun d => ⟨rfl, rfl, rfl, Nat.le_refl _, fun _ _ _ => rfl⟩) ⟨?_, apart_of h2, back_of h3, ?_⟩ (fun E' w' hI hE hF => fin E' w' hI (fun t ht => hE t (noDst_ne ht)) hF)
  · intro i o ho
    simp only [chkDst, List.all_eq_true] at h1
    exact h1 o (List.mem_of_getElem? ho)
  · intro i o ho E' w' hI hE hF
    have st := steps.get (j := i) ho
    rw [Nat.zero_add] at st
    have hp : ∀ k, hasPred o k = true → holdsF l (FL fs) k E' w' := by
      intro k hk
      simp only [hasPred, List.any_eq_true, Bool.and_eq_true, decide_eq_true_eq] at hk
      obtain ⟨e, he, hb, rfl⟩ := hk
      exact hF e he hb
    rcases st E' w' hI (fun t ht => hE t fun j hj => absurd hj (noDst_ne ht j)) hp with ⟨hs', hf⟩ | ⟨hs', hv | hc⟩
    · exact .inl ⟨hs', hf⟩
    · obtain ⟨v, w'', hv, hx, hf⟩ := hv
      exact .inr ⟨hs', .inl ⟨v, w'', hv, hI.trans hx, hf, fun j u _ hj => FL.stab hs j hx hj⟩⟩
    · obtain ⟨f, args, hc, hf⟩ := hc
      exact .inr ⟨hs', .inr ⟨f, args, hc, Fnc.mono hf fun v w'' ⟨hx, hq⟩ => ⟨hI.trans hx, hq, fun j u _ hj => FL.stab hs j hx hj⟩⟩⟩
section
variable {P:Program} {o:Oper} {E:Env} {w:World}
theorem V.indexArr {t : TypeId} {x i : Operand} {e sz b k N : Nat} {ik : IntKind} {j : Int} {m : Nat} (ho : o.op = .indexAddr t x i) (ht : P.underlying t = some (.array N e)) (hs : Sized P e sz) (hz : sz ≠ 0)
    (hx : ev E x = .pointer (some ⟨b, k, none⟩)) (hi : ev E i = .int ik j) (hj : j = (m : Int)) (hm : m < N) : OpV P o E w (.pointer (some ⟨b, k + m * sz, none⟩)) := by
  subst hj
  simp [OpV, execOp, ho, hx, hi, go_sem, Instr.indexAt, underlying, ht, asIntOf, size_of hs, addr_add, hm, Instr.sureAddr, hz]
theorem V.sliceArr {t : TypeId} {x y : Operand} {e sz b k N h : Nat} {ik : IntKind} (ho : o.op = .slice t x none (some y) none) (ht : P.underlying t = some (.array N e)) (hs : Sized P e sz) (hx : ev E x = .pointer (some ⟨b, k, none⟩)) (hy : ev E y = .int ik (h : Int)) (hh : h ≤ N) :
    OpV P o E w (.slice (some ⟨b, k, none⟩) h N) := by
  have e1 : (h : Int) ≤ (N : Int) := by omega
  simp [OpV, execOp, ho, hx, hy, go_sem, Instr.sliceAt, underlying, ht, Instr.slice, Instr.sliceBounds, Instr.sliceBound, asIntOf, size_of hs, e1, hh, addr_add, Instr.sureAddr]
end
theorem nrow_split {k:IntKind} {L:List Int} (m:Nat):nrow k L [] = nrow k (L.take m) ((L.drop m).map (Value.int k)):=by
 simp only [nrow,List.append_nil]
 rw [← List.map_append,List.take_append_drop]
end Go.Proofs.Ytiaicihpocoeiaa.W
namespace Go.Proofs.Ytiaicihpocoeiaa.W
open Go.RowKit
theorem uponIn_exits {F : Fence} {n : Nat} {P : Program} {o : Oper} {a : Act} {next : Act → World → Prop} {Q Q' : Exit → Act → World → Prop} (hp : ∀ c a w, Q (.panic c) a w → Q' (.panic c) a w) (hl : LetsOut Q → LetsOut Q')
    {r : Result Next} (h : o.uponIn F n P a next Q r) : o.uponIn F n P a next Q' r := by
  cases r with
  | ok x w =>
    cases x <;> simp only [Oper.uponIn] at h ⊢ <;> first
      | exact h
      | exact ⟨h.1, CallsIn.mono h.2 fun e w he => by cases e <;> first | exact he | exact hp _ _ _ he | exact hl he⟩
      | exact ⟨h.1, RoundIn.mono h.2 fun e w he => by cases e <;> first | exact he | exact hp _ _ _ he | exact hl he⟩
  | halt x w => cases x <;> simp only [Oper.uponIn] at h ⊢ <;> first | exact h | exact hp _ _ _ h
theorem op_any {P : Program} {n : Fsz} {ops : Array Oper} {i : Nat} {o : Oper} {Q Q' : K} {Kp : Act → World → Prop} {a : Act} {w : World} (hi : ops[i]? = some o) (ha : Ok n a) (h : WL P n ops Q [o] (envOf a) w)
    (hk : ∀ a' w', Ok n a' → Q.norm (envOf a') w' → Kp a' w') : wpOpIn (Fr none) 1 P ops (lift n Q') i Kp a w := by
  have h := h a ha rfl
  unfold wpListIn at h
  unfold wpOpIn
  simp only [hi]
  have hn : ∀ a' w', wpListIn (Fr none) 1 P ops (lift n Q) [] a' w' → Kp a' w' := fun a' w' hq => hk a' w' hq.1 hq.2
  split
  · rename_i hw
    rw [if_pos hw] at h
    have h := Oper.wpIn_mono hn h
    refine ⟨h.1, uponIn_exits ?_ ?_ h.2⟩
    · intro c a w hq; exact hq.2.elim
    · rintro ⟨a, w, hq⟩; exact hq.2.elim
  · rename_i hw
    rw [if_neg hw] at h
    exact ⟨h.1, hn _ _ h.2⟩
def predB (l:List Oper) (j i:Nat):Bool:=match l[j]? with
 | some o=>hasPred o i
 | none=>false
theorem allS_listed {l : List Oper} (hback : ∀ (i : Nat) (o : Oper), l[i]? = some o → ∀ e ∈ o.after.toList, Region.binds .any e = true → e.on < i) {listed : Array Bool} (hsize : listed.size = l.length)
    (h : Region.ready .any l.toArray listed = []) : ∀ k, k < l.length → listed.getD k true = true := by
  intro k
  induction k using Nat.strongRecOn with
  | _ k ih =>
    intro hk
    cases hl : listed.getD k true with
    | true => rfl
    | false =>
      have ho : l[k]? = some l[k] := List.getElem?_eq_getElem hk
      have : k ∈ Region.ready .any l.toArray listed := mem_ready.2 ⟨by simpa using hk, hl, l[k], by simp [ho], fun e he hb => by
        have hlt := hback k _ ho e he hb
        have := ih e.on hlt (by omega)
        have hsz : e.on < listed.size := by omega
        rw [Array.getD_eq_getD_getElem?, Array.getElem?_eq_getElem hsz] at this ⊢
        exact this⟩
      rw [h] at this; cases this
theorem hasPred_get {o:Oper} {k:Nat} (h:hasPred o k = true):∃ e ∈ o.after.toList,Region.binds .any e = true ∧ e.on = k:=by
 simp only [hasPred,List.any_eq_true,Bool.and_eq_true,decide_eq_true_eq] at h
 obtain ⟨e,he,hb,h⟩:=h
 exact ⟨e,he,hb,h⟩
theorem noDst_or {l:List Oper} (t:Nat):noDst l t = true ∨ ∃ j,dstAt l j = some t:=by
 cases h:noDst l t with
 | true=>exact .inl rfl
 | false =>
  right
  simp only [noDst,List.all_eq_false,List.mem_range,Bool.not_eq_true,Bool.not_eq_false'] at h
  obtain ⟨j,_,h⟩:=h
  exact ⟨j,by simpa using h⟩
theorem avoid_in {α:Type} {R:Rep α} {e B:Nat} {X Y:List Nat} {w:World} {v:Value} {xs:List α} (h:Owns R e B X w v xs) (hY:∀ x ∈ Y,x < w.heap.size):∀ x ∈ avoid v Y,x < w.heap.size:=by
 intro x hx
 rcases mem_avoid hx with h1 | h1
 ·exact (h.lt x h1).2
 ·exact hY x h1
theorem lit1 {E:Env} {x:Operand} {v:Value} (h:ev E x = v):(#[(0,x)]:Array (Nat × Operand)).toList.map (fun x=>(x.1,ev E x.2)) = ([v].zipIdx 0).map fun x=>(x.2,x.1):=by subst h; rfl
end Go.Proofs.Ytiaicihpocoeiaa.W
namespace Go.Proofs.Ytiaicihpocoeiaa.W
open Go.RowKit
def pmask (o:Oper):Nat:=o.after.toList.foldl (fun m e=>if Region.binds .any e = true then m ||| 2 ^ e.on else m) 0
def pmaskAt (l:List Oper) (i:Nat):Nat:=match l[i]? with
 | some o=>pmask o
 | none=>0
def anc (l:List Oper):Nat → Nat → Nat
 | 0,m=>m
 | k + 1,m=>anc l k (if m.testBit k = true then m ||| pmaskAt l k else m)
def reachB (l:List Oper) (i j:Nat):Bool:=(anc l i (pmaskAt l i)).testBit j
theorem bit_or {m n j:Nat} (h:(m ||| n).testBit j = true):m.testBit j = true ∨ n.testBit j = true:=by
 rw [Nat.testBit_or,Bool.or_eq_true] at h; exact h
theorem pmask_get {o:Oper} {j:Nat} (h:(pmask o).testBit j = true):∃ e ∈ o.after.toList,Region.binds .any e = true ∧ e.on = j:=by
 have key:∀ (es:List _) (m:Nat),(es.foldl (fun m e=>if Region.binds .any e = true then m ||| 2 ^ e.on else m) m).testBit j = true → m.testBit j = true ∨ ∃ e ∈ es,Region.binds .any e = true ∧ e.on = j:=by
  intro es
  induction es with
  | nil=>exact fun m h=>.inl h
  | cons e r ih =>
   intro m h
   rw [List.foldl_cons] at h
   rcases ih _ h with h1 | ⟨e',he',h1⟩
   ·by_cases hb:Region.binds .any e = true
    ·rw [if_pos hb] at h1
     rcases bit_or h1 with h2 | h2
     ·exact .inl h2
     ·rw [Nat.testBit_two_pow] at h2
      exact .inr ⟨e,by simp,hb,by simpa using h2⟩
    ·rw [if_neg hb] at h1; exact .inl h1
   ·exact .inr ⟨e',by simp [he'],h1⟩
 rcases key _ _ h with h1 | h1
 ·simp at h1
 ·exact h1
theorem anc_all {l:List Oper} {p:Nat → Prop} (hp:∀ k j,p k → (pmaskAt l k).testBit j = true → p j):∀ (k m:Nat),(∀ j,m.testBit j = true → p j) → ∀ j,(anc l k m).testBit j = true → p j
 | 0,_,h=>h
 | k + 1,m,h=>by
  refine anc_all hp k _ fun j hj=>?_
  split at hj
  ·rename_i hk
   rcases bit_or hj with h1 | h1
   ·exact h j h1
   ·exact hp k j (h k hk) h1
  ·exact h j hj
def rdyL (l:List Oper) (rest:List Nat):List Nat:=rest.filter fun i=>rest.all fun j=>!reachB l i j
def pendB (l:List Oper) (es rest:List Nat) (i:Nat):Bool:=es.all fun j=>!predB l j i || rest.contains j
structure Off where
 i:Nat
 v:Value
 c:World → Prop
 t:Bool:=false
 ch:Bool:=false
def offAt:List Off → Nat → Option Off
 | [],_=>none
 | o :: r,i=>if o.i = i then some o else offAt r i
def OffC (l:List Oper) (es rest:List Nat) (w:World):List Off → Prop
 | []=>True
 | o :: r=>((o.t || o.ch) = false → pendB l es rest o.i = true → o.c w) ∧ OffC l es rest w r
theorem OffC.get {l:List Oper} {es rest:List Nat} {w:World}:∀ {vs:List Off},OffC l es rest w vs → ∀ {i o},offAt vs i = some o → (o.t || o.ch) = false → pendB l es rest i = true → o.c w
 | [],_,_,_,h,_,_=>by cases h
 | a :: r,hc,i,o,h,ht,hp=>by
  rw [offAt] at h
  split at h
  ·rename_i e; cases h; subst e; exact hc.1 ht hp
  ·exact OffC.get hc.2 h ht hp
def visS (l:List Oper) (vs:List Off) (i t:Nat):Bool:=(List.range l.length).all fun j=>!(dstAt l j == some t) || ((decide (j = i) || predB l j i) && (offAt vs j).isNone)
def baseS (l:List Oper) (vs:List Off) (t:Nat):Bool:=(List.range l.length).all fun j=>!(dstAt l j == some t) || (offAt vs j).isNone
theorem visS_get {l:List Oper} {vs:List Off} {i t:Nat} (h:visS l vs i t = true):∀ j,dstAt l j = some t → (j = i ∨ predB l j i = true) ∧ offAt vs j = none:=by
 intro j hj
 simp only [visS,List.all_eq_true,List.mem_range] at h
 have:=h j (lt_of_dst hj)
 simpa [hj] using this
theorem baseS_of {l:List Oper} {vs:List Off} {t:Nat} (h:∀ j,dstAt l j = some t → offAt vs j = none):baseS l vs t = true:=by
 simp only [baseS,List.all_eq_true,List.mem_range]
 intro j _
 by_cases hj:dstAt l j = some t
 ·simp [hj,h j hj]
 ·simp [hj]
theorem baseS_get {l:List Oper} {vs:List Off} {t:Nat} (h:baseS l vs t = true):∀ j,dstAt l j = some t → offAt vs j = none:=by
 intro j hj
 simp only [baseS,List.all_eq_true,List.mem_range] at h
 have:=h j (lt_of_dst hj)
 simpa [hj] using this
def VisT (l:List Oper) (vs:List Off) (i:Nat) (o:Oper) (Ec E':Env):Prop:=(∀ t,visS l vs i t = true → E' t = Ec t) ∧ ∀ k,hasPred o k = true → ∀ d,dstAt l k = some d → E' d = Ec d
def AllR:List Nat → (Nat → Prop) → Prop
 | [],_=>True
 | i :: r,p=>p i ∧ AllR r p
theorem AllR.get {p:Nat → Prop}:∀ {l:List Nat},AllR l p → ∀ i ∈ l,p i
 | a :: r,h,i,hi=>by
  rcases List.mem_cons.1 hi with rfl | hi
  ·exact h.1
  ·exact AllR.get h.2 i hi
def Tree (P : Program) (n : Fsz) (l : List Oper) (N : Env → World → Prop) (vs : List Off) (es : List Nat) : Nat → List Nat → Env → World → Prop
  | 0, rest, Ec, w => rest = [] ∧ N Ec w
  | f + 1, rest, Ec, w => (rest = [] → N Ec w) ∧ OffC l es rest w vs ∧ ∀ i ∈ rdyL l rest, ∃ o, l[i]? = some o ∧ ∀ E', VisT l vs i o Ec E' →
      WL P n l.toArray ⟨fun E'' w'' => ∃ v, E'' = updO E' o.dst v ∧ (∀ u, offAt vs i = some u → v = u.v) ∧ Tree P n l N vs es f (rest.erase i) (updO Ec o.dst v) w'', fun _ _ _ => False, fun _ _ => False⟩ [o] E' w
theorem Tree.leaf {P:Program} {n:Fsz} {l:List Oper} {N:Env → World → Prop} {vs:List Off} {es:List Nat} {Ec:Env} {w:World} (h:N Ec w):Tree P n l N vs es 0 [] Ec w:=⟨rfl,h⟩
theorem Tree.node {P : Program} {n : Fsz} {l : List Oper} {N : Env → World → Prop} {vs : List Off} {es : List Nat} {f : Nat} {i0 : Nat} {rest rs : List Nat} {Ec : Env} {w : World} (hr : rdyL l (i0 :: rest) = rs) (hc : OffC l es (i0 :: rest) w vs)
    (h : AllR rs fun i => ∃ o, l[i]? = some o ∧ ∃ r', (i0 :: rest).erase i = r' ∧ ∀ E', (∀ t, visS l vs i t = true → E' t = Ec t) → (∀ k, hasPred o k = true → ∀ d, dstAt l k = some d → E' d = Ec d) →
      WL P n l.toArray ⟨fun E'' w'' => ∃ v, E'' = updO E' o.dst v ∧ (∀ u, offAt vs i = some u → v = u.v) ∧ Tree P n l N vs es f r' (updO Ec o.dst v) w'', fun _ _ _ => False, fun _ _ => False⟩ [o] E' w) : Tree P n l N vs es (f + 1) (i0 :: rest) Ec w := by
  refine ⟨(fun e => by cases e), hc, fun i hi => ?_⟩
  rw [hr] at hi
  obtain ⟨o, ho, r', hr', hW⟩ := h.get i hi
  subst hr'
  exact ⟨o, ho, fun E' hv => hW E' hv.1 hv.2⟩
def OffsT (P:Program) (l:List Oper) (E:Env) (all:List Off):List Off → Prop
 | []=>True
 | x :: r=>(x.ch = true ∨ ((x.t = true → ∀ w,x.c w) ∧ ∃ o,l[x.i]? = some o ∧ ∀ E' w',x.c w' → (∀ t,visS l all x.i t = true → E' t = E t) → (∀ k,hasPred o k = true → ∀ d u,dstAt l k = some d → offAt all k = some u → E' d = u.v) → Sure l.toArray o E' ∧ OpV P o E' w' x.v)) ∧ OffsT P l E all r
theorem offAt_i:∀ {vs:List Off} {i:Nat} {o:Off},offAt vs i = some o → o.i = i
 | a :: r,i,o,h=>by
  rw [offAt] at h
  split at h
  ·rename_i e; cases h; exact e
  ·exact offAt_i h
theorem OffsT.get {P : Program} {l : List Oper} {E : Env} {all : List Off} : ∀ {vs : List Off}, OffsT P l E all vs → ∀ {i x}, offAt vs i = some x → x.ch = false →
    (x.t = true → ∀ w, x.c w) ∧ ∃ o, l[i]? = some o ∧ ∀ E' w', x.c w' → (∀ t, visS l all x.i t = true → E' t = E t) → (∀ k, hasPred o k = true → ∀ d u, dstAt l k = some d → offAt all k = some u → E' d = u.v) → Sure l.toArray o E' ∧ OpV P o E' w' x.v
  | a :: r, ho, i, x, h, hch => by
    rw [offAt] at h
    split at h
    · rename_i e; cases h; subst e; exact ho.1.resolve_left (by rw [hch]; decide)
    · exact OffsT.get ho.2 h hch
def chkTree (l:List Oper) (es:List Nat) (vs:List Off):Bool :=
 ((List.range es.length).all fun a=>(List.range es.length).all fun b=>decide (a = b) || !(es[a]? == es[b]?)) &&
 ((List.range l.length).all fun i=>es.contains i || (match offAt vs i with | some o=>!o.ch && (o.t || es.any fun j=>predB l j i) | none=>false)) &&
 es.all fun i=>(match offAt vs i with | some o=>o.ch | none=>true) && decide (i < l.length)
structure TInv (P:Program) (n:Fsz) (l:List Oper) (E:Env) (N:Env → World → Prop) (es:List Nat) (vs:List Off) (listed:Array Bool) (a:Act) (w:World) (rest:List Nat) (Ec:Env):Prop where
 size:listed.size = l.length
 ok:Ok n a
 closed:∀ k o,l[k]? = some o → listed.getD k true = true → ∀ e ∈ o.after.toList,Region.binds .any e = true → listed.getD e.on true = true
 nodup:rest.Nodup
 at':∀ i,i ∈ rest ↔ i ∈ es ∧ listed.getD i true = false
 ch:Tree P n l N vs es rest.length rest Ec w
 offs:∀ i u d,offAt vs i = some u → dstAt l i = some d → Ec d = u.v
 base:∀ t,(∀ j,dstAt l j = some t → listed.getD j true = false ∧ offAt vs j = none) → Ec t = E t ∧ envOf a t = E t
 facts:∀ k d,dstAt l k = some d → listed.getD k true = true → envOf a d = Ec d
theorem Tree.nil {P:Program} {n:Fsz} {l:List Oper} {N:Env → World → Prop} {vs:List Off} {es:List Nat} {Ec:Env} {w:World} (h:Tree P n l N vs es 0 [] Ec w):N Ec w:=h.2
theorem wpAnyT_of {P : Program} {n : Fsz} {l : List Oper} {E : Env} {N R : Env → World → Prop} {X : Nat → Env → World → Prop} {es : List Nat} {vs : List Off}
    (hdst : ∀ (i : Nat) (o : Oper), l[i]? = some o → dstOk n o.dst = true) (hap : ∀ (i j d : Nat), dstAt l i = some d → dstAt l j = some d → i = j)
    (hback : ∀ (i : Nat) (o : Oper), l[i]? = some o → ∀ e ∈ o.after.toList, Region.binds .any e = true → e.on < i)
    (hall : ∀ i, i < l.length → i ∈ es ∨ ∃ v, offAt vs i = some v ∧ v.ch = false ∧ (v.t = true ∨ ∃ j ∈ es, predB l j i = true)) (hno : ∀ i ∈ es, (∀ o, offAt vs i = some o → o.ch = true) ∧ i < l.length) (off : OffsT P l E vs vs) :
    ∀ (fuel : Nat) (listed : Array Bool) (a : Act) (w : World) (rest : List Nat) (Ec : Env), TInv P n l E N es vs listed a w rest Ec → (unl l.length listed).length ≤ fuel → wpAnyIn (Fr none) 1 P .any l.toArray (lift n ⟨N, X, R⟩) fuel listed a w := by
  have done : ∀ listed a w rest Ec, TInv P n l E N es vs listed a w rest Ec → Region.ready .any l.toArray listed = [] → lift n ⟨N, X, R⟩ .normal a w := by
    intro listed a w rest Ec V h
    have hl := allS_listed hback V.size h
    have hs : rest = [] := by
      rw [List.eq_nil_iff_forall_not_mem]
      intro i hi
      obtain ⟨h1, h2⟩ := (V.at' i).1 hi
      rw [hl i (hno i h1).2] at h2; cases h2
    have hc := V.ch
    rw [hs] at hc
    have he : envOf a = Ec := by
      funext t
      rcases noDst_or (l := l) t with ht | ⟨j, hj⟩
      · have := V.base t (fun j hj => absurd hj (noDst_ne ht j))
        rw [this.1, this.2]
      · exact V.facts j t hj (hl j (lt_of_dst hj))
    exact ⟨V.ok, by rw [he]; exact hc.nil⟩
  intro fuel
  induction fuel with
  | zero =>
    intro listed a w s Ec V hu
    have hnil : Region.ready .any l.toArray listed = [] := by
      rw [List.eq_nil_iff_forall_not_mem]
      intro i hi
      obtain ⟨h1, h2, _⟩ := mem_ready.1 hi
      have : i ∈ unl l.length listed := by simp only [unl, List.mem_filter, List.mem_range, h2]; exact ⟨by simpa using h1, rfl⟩
      rw [List.eq_nil_of_length_eq_zero (by omega : (unl l.length listed).length = 0)] at this
      cases this
    exact ⟨hnil, done _ _ _ _ _ V hnil⟩
  | succ fuel ih =>
    intro listed a w rest Ec V hu
    refine ⟨done _ _ _ _ _ V, fun i hi => ?_⟩
    obtain ⟨h1, h2, o, ho, h3⟩ := mem_ready.1 hi
    have h1' : i < l.length := by simpa using h1
    have ho' : l[i]? = some o := by simpa using ho
    have hdi : dstAt l i = o.dst := by simp [dstAt, ho']
    have hpre : ∀ e ∈ o.after.toList, Region.binds .any e = true → e.on < l.length ∧ listed.getD e.on true = true := by
      intro e he hb
      have hlt := hback i o ho' e he hb
      have := h3 e he hb
      have hsz : e.on < listed.size := by rw [V.size]; omega
      rw [Array.getD_eq_getD_getElem?, Array.getElem?_eq_getElem hsz] at this
      exact ⟨by omega, by rw [Array.getD_eq_getD_getElem?, Array.getElem?_eq_getElem hsz]; exact this⟩
    have hcount : (unl l.length (listed.setIfInBounds i true)).length ≤ fuel := by
      have := unl_set (listed := listed) V.size h1' h2; omega
    have hclosed : ∀ k ok, l[k]? = some ok → (listed.setIfInBounds i true).getD k true = true → ∀ e ∈ ok.after.toList, Region.binds .any e = true → (listed.setIfInBounds i true).getD e.on true = true := by
      intro k ok hok hl e he hb
      rw [getD_set] at hl ⊢
      split
      · rfl
      · split at hl
        · rename_i hik; obtain ⟨rfl, _⟩ := hik
          rw [ho'] at hok; cases hok
          exact (hpre e he hb).2
        · exact V.closed k ok hok hl e he hb
    have hbase : ∀ t, o.dst ≠ some t → ∀ (E1 : Env) v, updO E1 o.dst v t = E1 t := by
      intro t ht E1 v
      cases hd : o.dst with
      | none => rfl
      | some d => exact upd_ne _ _ _ _ (fun e => ht (by rw [hd, e]))
    have hwr : ∀ j, predB l j i = true → listed.getD j true = false := by
      intro j hpr
      cases hl : listed.getD j true with
      | false => rfl
      | true =>
        unfold predB at hpr
        split at hpr
        · rename_i oj hoj
          obtain ⟨e, he, hb, heq⟩ := hasPred_get hpr
          have := V.closed j oj hoj hl e he hb
          rw [heq, h2] at this; cases this
        · cases hpr
    have hvis : ∀ t, visS l vs i t = true → Ec t = E t ∧ envOf a t = E t := fun t ht => V.base t fun j hj => by
      obtain ⟨h4, h5⟩ := visS_get ht j hj
      refine ⟨?_, h5⟩
      rcases h4 with rfl | h4
      · exact h2
      · exact hwr j h4
    have hnb : ∀ t, (∀ j, dstAt l j = some t → (listed.setIfInBounds i true).getD j true = false ∧ offAt vs j = none) → o.dst ≠ some t ∧ ∀ j, dstAt l j = some t → listed.getD j true = false ∧ offAt vs j = none := by
      intro t ht
      refine ⟨fun e => ?_, fun j hj => ⟨?_, (ht j hj).2⟩⟩
      · have := (ht i (by rw [hdi]; exact e)).1
        rw [getD_set, if_pos ⟨rfl, by rw [V.size]; exact h1'⟩] at this; cases this
      · have := (ht j hj).1
        rw [getD_set] at this
        split at this
        · cases this
        · exact this
    have hother : ∀ k d, k ≠ i → dstAt l k = some d → ∀ (E1 : Env) v, updO E1 o.dst v d = E1 d := by
      intro k d hk hd E1 v
      cases hd' : o.dst with
      | none => rfl
      | some d' => exact upd_ne _ _ _ _ (fun e => hk (hap k i d hd (by rw [hdi, hd', e])))
    have hset : ∀ j, (listed.setIfInBounds i true).getD j true = false ↔ j ≠ i ∧ listed.getD j true = false := by
      intro j
      rw [getD_set]
      by_cases hij : i = j
      · subst hij
        rw [if_pos ⟨rfl, by rw [V.size]; exact h1'⟩]; simp
      · rw [if_neg (fun (h : i = j ∧ _) => hij h.1)]
        exact ⟨fun h => ⟨fun e => hij e.symm, h⟩, fun h => h.2⟩
    by_cases hie : i ∈ es
    · 
      have hir : i ∈ rest := (V.at' i).2 ⟨hie, h2⟩
      have hrd : i ∈ rdyL l rest := by
        rw [rdyL, List.mem_filter]
        refine ⟨hir, List.all_eq_true.2 fun j hj => ?_⟩
        cases hp : reachB l i j with
        | false => rfl
        | true =>
          have h5 : listed.getD j true = true := by
            refine anc_all (p := fun k => listed.getD k true = true) (fun k j hk hj => ?_) i _ (fun j hj => ?_) j hp
            · unfold pmaskAt at hj
              split at hj
              · rename_i ok hok
                obtain ⟨e, he, hb, heq⟩ := pmask_get hj
                exact heq ▸ V.closed k ok hok hk e he hb
              · simp at hj
            · simp only [pmaskAt, ho'] at hj
              obtain ⟨e, he, hb, heq⟩ := pmask_get hj
              exact heq ▸ (hpre e he hb).2
          rw [((V.at' j).1 hj).2] at h5; cases h5
      obtain ⟨m, hm⟩ : ∃ m, rest.length = m + 1 := by
        cases rest with
        | nil => cases hir
        | cons a r => exact ⟨r.length, rfl⟩
      have hch := V.ch
      rw [hm] at hch
      obtain ⟨_, _, hW⟩ := hch
      obtain ⟨o', ho2, hW⟩ := hW i hrd
      rw [ho'] at ho2
      cases ho2
      refine op_any ho V.ok (hW (envOf a) ⟨fun t ht => (hvis t ht).2.trans (hvis t ht).1.symm, fun k hk d hd => ?_⟩) ?_
      · obtain ⟨e, he, hb, rfl⟩ := hasPred_get hk
        exact V.facts _ d hd (hpre e he hb).2
      · rintro a' w' ha' ⟨v, hv, hcst, hc⟩
        have hel : (rest.erase i).length = m := by rw [List.length_erase_of_mem hir, hm]; rfl
        refine ih _ _ _ (rest.erase i) (updO Ec o.dst v) ⟨by simpa using V.size, ha', hclosed, V.nodup.erase i, fun j => ?_, by rw [hel]; exact hc, ?_, ?_, ?_⟩ hcount
        · rw [V.nodup.mem_erase_iff, hset, V.at' j]
          exact ⟨fun h => ⟨h.2.1, h.1, h.2.2⟩, fun h => ⟨h.2.1, h.1, h.2.2⟩⟩
        · intro j u d hj hd
          by_cases hji : j = i
          · subst hji
            rw [hdi] at hd
            rw [hd, updO, upd_same]
            exact hcst u hj
          · rw [hother j d hji hd]
            exact V.offs j u d hj hd
        · intro t ht
          obtain ⟨h4, h5⟩ := hnb t ht
          rw [hv, hbase t h4, hbase t h4]; exact V.base t h5
        · intro k d hd hl
          by_cases hki : k = i
          · subst hki
            rw [hdi] at hd
            rw [hv, hd, updO, upd_same, updO, upd_same]
          · rw [getD_set, if_neg (fun h => hki h.1.symm)] at hl
            rw [hv, hother k d hki hd, hother k d hki hd]
            exact V.facts k d hd hl
    · 
      rcases hall i h1' with h | ⟨x, hx, hxc, hxt⟩
      · exact absurd h hie
      obtain ⟨htriv, hoff⟩ := off.get hx hxc
      have hC : x.c w := by
        cases ht : x.t with
        | true => exact htriv ht w
        | false =>
          obtain ⟨j, hj, hpr⟩ := hxt.resolve_left (by rw [ht]; decide)
          have hjr : j ∈ rest := by
            refine (V.at' j).2 ⟨hj, ?_⟩
            cases hl : listed.getD j true with
            | false => rfl
            | true =>
              unfold predB at hpr
              split at hpr
              · rename_i oj hoj
                obtain ⟨e, he, hb, heq⟩ := hasPred_get hpr
                have := V.closed j oj hoj hl e he hb
                rw [heq, h2] at this; cases this
              · cases hpr
          obtain ⟨m, hm⟩ : ∃ m, rest.length = m + 1 := by
            cases rest with
            | nil => cases hjr
            | cons a r => exact ⟨r.length, rfl⟩
          have hch := V.ch
          rw [hm] at hch
          refine hch.2.1.get hx (by rw [ht, hxc]; rfl) (List.all_eq_true.2 fun j2 hj2 => ?_)
          cases hp2 : predB l j2 i with
          | false => rfl
          | true =>
            have : j2 ∈ rest := (V.at' j2).2 ⟨hj2, hwr j2 hp2⟩
            simpa using this
      obtain ⟨o', ho2, hW⟩ := hoff
      rw [ho'] at ho2
      cases ho2
      have hxi := offAt_i hx
      obtain ⟨hsu, hop⟩ := hW (envOf a) w hC (fun t ht => (hvis t (hxi ▸ ht)).2) (fun k hk d u hd hu => by
        obtain ⟨e, he, hb, rfl⟩ := hasPred_get hk
        rw [V.facts _ d hd (hpre e he hb).2]
        exact V.offs _ u d hu hd)
      refine op_any (Q := ⟨fun E'' w'' => E'' = updO (envOf a) o.dst x.v ∧ w'' = w, fun _ _ _ => False, fun _ _ => False⟩) ho V.ok (WL.v hsu (hdst i o ho') hop (WL.nil ⟨rfl, rfl⟩)) ?_
      rintro a' w' ha' ⟨he, hw⟩
      have he : envOf a' = updO (envOf a) o.dst x.v := he
      have hw : w' = w := hw
      subst hw
      refine ih _ _ _ rest Ec ⟨by simpa using V.size, ha', hclosed, V.nodup, fun k => ?_, V.ch, V.offs, ?_, ?_⟩ hcount
      · rw [hset, V.at' k]
        exact ⟨fun h => ⟨h.1, fun e => hie (e ▸ h.1), h.2⟩, fun h => ⟨h.1, h.2.2⟩⟩
      · intro t ht
        obtain ⟨h4, h5⟩ := hnb t ht
        rw [he, hbase t h4]; exact V.base t h5
      · intro k d hd hl
        by_cases hki : k = i
        · subst hki
          rw [V.offs k x d hx hd]
          rw [hdi] at hd
          rw [he, hd, updO, upd_same]
        · rw [getD_set, if_neg (fun h => hki h.1.symm)] at hl
          rw [he, hother k d hki hd]
          exact V.facts k d hd hl
theorem WP.anyT {P : Program} {n : Fsz} {id : Nat} {l : List Oper} {E : Env} {w : World} {N R : Env → World → Prop} {X : Nat → Env → World → Prop} (es : List Nat) (vs : List Off) (hm : P.follows .mixedOrders = true)
    (h1 : chkDst n l = true) (h2 : chkApart l = true) (h3 : chkBack l = true) (h4 : chkTree l es vs = true) (off : OffsT P l E vs vs)
    (ch : ∀ Ec w', Ext [] w w' → (∀ t, baseS l vs t = true → Ec t = E t) → (∀ i u d, offAt vs i = some u → dstAt l i = some d → Ec d = u.v) → Tree P n l N vs es es.length es Ec w') : WP P n (.region id l.toArray true) ⟨N, X, R⟩ E w := by
  intro a ha he
  subst he
  refine wpIn_region_any hm ?_
  simp only [chkTree, Bool.and_eq_true, List.all_eq_true, List.mem_range, Bool.or_eq_true, decide_eq_true_eq] at h4
  obtain ⟨⟨c1, c3⟩, c4⟩ := h4
  have hnd : es.Nodup := by
    rw [List.nodup_iff_pairwise_ne, List.pairwise_iff_getElem]
    intro x y hx hy hxy heq
    rcases c1 x hx y hy with h | h
    · omega
    · rw [List.getElem?_eq_getElem hx, List.getElem?_eq_getElem hy, heq] at h; simp at h
  have hdst : ∀ (i : Nat) (o : Oper), l[i]? = some o → dstOk n o.dst = true := by
    intro i o ho
    simp only [chkDst, List.all_eq_true] at h1
    exact h1 o (List.mem_of_getElem? ho)
  have hap := apart_of h2
  let Ec : Env := fun t => ((List.range l.length).findSome? fun i => if dstAt l i = some t then (offAt vs i).map (·.v) else none).getD (envOf a t)
  have hEb : ∀ t, baseS l vs t = true → Ec t = envOf a t := by
    intro t ht
    show (Option.getD _ _) = _
    rw [List.findSome?_eq_none_iff.2]
    · rfl
    · intro i _
      by_cases hd : dstAt l i = some t
      · rw [if_pos hd, baseS_get ht i hd]; rfl
      · rw [if_neg hd]
  have hEo : ∀ i u d, offAt vs i = some u → dstAt l i = some d → Ec d = u.v := by
    intro i v d hv hd
    have : (List.range l.length).findSome? (fun j => if dstAt l j = some d then (offAt vs j).map (·.v) else none) = some v.v := by
      cases hf : (List.range l.length).findSome? (fun j => if dstAt l j = some d then (offAt vs j).map (·.v) else none) with
      | none =>
        rw [List.findSome?_eq_none_iff] at hf
        have := hf i (List.mem_range.2 (lt_of_dst hd))
        rw [if_pos hd, hv] at this; cases this
      | some u =>
        obtain ⟨j, _, hj⟩ := List.exists_of_findSome?_eq_some hf
        split at hj
        · rename_i hdj
          rw [hap j i d hdj hd, hv] at hj
          exact hj.symm ▸ rfl
        · cases hj
    show (Option.getD _ _) = _
    rw [this]; rfl
  refine wpAnyT_of (es := es) (vs := vs) hdst hap (back_of h3) ?_ (fun i hi => ?_) off _ _ _ _ es Ec ⟨by simp, ha, ?_, hnd, ?_, ?_, hEo, fun t ht => ⟨hEb t (baseS_of fun j hj => (ht j hj).2), rfl⟩, ?_⟩ ?_
  · intro i hi
    rcases c3 i hi with h | h
    · exact .inl (by simpa using h)
    · split at h
      · rename_i o ho
        simp only [Bool.and_eq_true, Bool.or_eq_true, List.any_eq_true, Bool.not_eq_true'] at h
        exact .inr ⟨o, ho, h.1, h.2⟩
      · cases h
  · have h := c4 i hi
    refine ⟨fun o ho => ?_, h.2⟩
    have h1 := h.1
    rw [ho] at h1; exact h1
  · intro k o ho hl
    rw [Array.getD_eq_getD_getElem?] at hl
    have hk : k < l.length := lt_of_some ho
    simp [hk] at hl
  · intro i
    refine ⟨fun hi => ⟨hi, ?_⟩, fun hi => hi.1⟩
    have hk := (c4 i hi).2
    rw [Array.getD_eq_getD_getElem?]; simp [hk]
  · exact ch Ec _ (Ext.drew w _) hEb hEo
  · intro k d hd hl
    rw [Array.getD_eq_getD_getElem?] at hl
    have hk : k < l.length := lt_of_dst hd
    simp [hk] at hl
  · have := List.length_filter_le (fun i => !(Array.replicate l.toArray.size false).getD i true) (List.range l.length)
    simpa [unl] using this
theorem cstY {vs:List Off} {i:Nat} {x:Off} {v:Value} (h:offAt vs i = some x) (e:v = x.v):∀ u,offAt vs i = some u → v = u.v:=fun u hu=>by rw [h] at hu; cases hu; exact e
theorem cstN {vs:List Off} {i:Nat} {v:Value} (h:offAt vs i = none):∀ u,offAt vs i = some u → v = u.v:=fun u hu=>by rw [h] at hu; cases hu
theorem offF {b c:Bool} {p:Prop} (h:b = true):b = false → c = true → p:=fun h'=>by rw [h] at h'; cases h'
theorem offN {b c:Bool} {p:Prop} (h:c = false):b = false → c = true → p:=fun _ h'=>by rw [h] at h'; cases h'
end Go.Proofs.Ytiaicihpocoeiaa.W
namespace Go.Proofs.Ytiaicihpocoeiaa.W
open Go.RowKit
theorem V.sub {P : Program} {o : Oper} {E : Env} {w : World} {α : Type} {R : Rep α} {X : List Nat} {t e : TypeId} {x y z : Operand} {v : Value} {xs : List α} {k k' : IntKind} {lo hi : Nat} (ho : o.op = .slice t x (some y) (some z) none) (ht : P.underlying t = some (.slice e)) (hs : Sized P e R.sz) (hx : ev E x = v) (hsl : Sl R X w v xs)
    (hy : ev E y = .int k lo) (hz : ev E z = .int k' hi) (h1 : lo ≤ hi) (h2 : hi ≤ xs.length) : ∃ v', OpV P o E w v' ∧ Sl R X w v' ((xs.drop lo).take (hi - lo)) := by
  rcases hsl with ⟨rfl, rfl⟩ | ⟨b, kk, c, rfl, hc, hm, hq⟩ | ⟨a, rfl, rfl⟩
  rotate_left 2
  · have e1 : hi = 0 := by simpa using h2
    have e2 : lo = 0 := by omega
    subst e1; subst e2
    refine ⟨.slice (some a) 0 0, ?_, .inr (.inr ⟨a, rfl, rfl⟩)⟩
    simp [OpV, execOp, ho, hx, hy, hz, go_sem, Instr.sliceAt, underlying, ht, Instr.slice, Instr.sliceBounds, Instr.sliceBound, asIntOf, size_of hs, Addr.add]
  · have e1 : hi = 0 := by simpa using h2
    have e2 : lo = 0 := by omega
    subst e1; subst e2
    refine ⟨.slice none 0 0, ?_, .inl ⟨rfl, rfl⟩⟩
    simp [OpV, execOp, ho, hx, hy, hz, go_sem, Instr.sliceAt, underlying, ht, Instr.slice, Instr.sliceBounds, Instr.sliceBound, asIntOf, size_of hs]
  · have e1 : (hi : Int) ≤ (c : Int) := by omega
    have e2 : hi ≤ c := by omega
    have e3 : (lo : Int) ≤ (hi : Int) := by omega
    by_cases hcl : c = lo
    · have e4 : hi = lo := by omega
      subst hcl; subst e4
      refine ⟨.slice (some ⟨b, kk, none⟩) 0 0, ?_, .inr (.inr ⟨_, rfl, by simp⟩)⟩
      simp [OpV, execOp, ho, hx, hy, hz, go_sem, Instr.sliceAt, underlying, ht, Instr.slice, Instr.sliceBounds, Instr.sliceBound, asIntOf, size_of hs, e2, h1, addr_add]
    have hl : ((xs.drop lo).take (hi - lo)).length = hi - lo := by rw [List.length_take, List.length_drop]; omega
    refine ⟨.slice (some ⟨b, kk + lo * R.sz, none⟩) (hi - lo) (c - lo), ?_, .inr (.inl ⟨b, kk + lo * R.sz, c - lo, by rw [hl], by rw [hl]; omega, by omega, ?_⟩)⟩
    · simp [OpV, execOp, ho, hx, hy, hz, go_sem, Instr.sliceAt, underlying, ht, Instr.slice, Instr.sliceBounds, Instr.sliceBound, asIntOf, size_of hs, e2, h1, addr_add]
      intro e; exact absurd e hcl
    · intro i x hix
      rw [List.getElem?_take] at hix
      split at hix
      · rw [List.getElem?_drop] at hix
        obtain ⟨h3, cs, h4, h5⟩ := hq _ x hix
        refine ⟨h3, cs, h4, ?_⟩
        rw [show kk + lo * R.sz + i * R.sz = kk + (lo + i) * R.sz from by rw [Nat.add_mul]; omega]
        exact h5
      · cases hix
theorem OpV.cast {P:Program} {o:Oper} {E:Env} {w:World} {u v:Value} (e:u = v) (h:OpV P o E w u):OpV P o E w v:=e ▸ h
theorem WP.post {P:Program} {n:Fsz} {c:Code} {J N R:Env → World → Prop} {X:Nat → Env → World → Prop} {E:Env} {w:World} (h:WP P n c ⟨J,X,R⟩ E w) (k:∀ E' w',J E' w' → N E' w'):WP P n c ⟨N,X,R⟩ E w :=
 fun a ha he=>wpIn_mono (h a ha he) (fun e a w q=>by
  cases e with
  | normal=>exact ⟨q.1,k _ _ q.2⟩
  | _=>exact q)
theorem Sl.toAvoid {α:Type} {R:Rep α} {X:List Nat} {w:World} {T v:Value} {xs:List α} (hz:R.sz ≠ 0) (h:Sl R X w v xs) (hT:∀ g,T.ownBlock = some g → w.heap.size ≤ g):Sl R (avoid T X) w v xs:=by
 unfold avoid
 cases e:T.ownBlock with
 | none=>exact h
 | some g=>exact Sl.new hz h (hT g e)
end Go.Proofs.Ytiaicihpocoeiaa.W
