/- My texts, cut to what this claim needs and merged. -/
import Derived.Test.YtbpamkbegggeoaaB1
import Derived.RangeFuncLeaves
import Derived.RangeFuncRecord
import Derived.Laws.BytesArg
import Derived.Laws.MakeOwn
import Derived.Laws.Strings
import Derived.Lib.Builder
import Derived.Lib.AppendStr
import Derived.Lib.UnsafeStr
import Derived.OrdersIn
namespace Go.Proofs.Ytbpamkbegggeoaa.W
open Go.RowKit
def chkDst (n : Fsz) (l : List Oper) : Bool := l.all fun o => dstOk n o.dst
def chkApart (l : List Oper) : Bool := (List.range l.length).all fun i => (List.range l.length).all fun j => decide (i = j) || !(dstAt l i).isSome || !(dstAt l i == dstAt l j)
def chkBack (l : List Oper) : Bool := (List.range l.length).all fun i => match l[i]? with
  | some o => o.after.toList.all fun e => !Region.binds .any e || decide (e.on < i)
  | none => true
def noDst (l : List Oper) (t : Nat) : Bool := (List.range l.length).all fun i => !(dstAt l i == some t)
def hasPred (o : Oper) (k : Nat) : Bool := o.after.toList.any fun e => Region.binds .any e && decide (e.on = k)
theorem lt_of_some {l : List Oper} {i : Nat} {o : Oper} (h : l[i]? = some o) : i < l.length := by
  rcases Nat.lt_or_ge i l.length with h1 | h1
  · exact h1
  · rw [List.getElem?_eq_none h1] at h; cases h
theorem lt_of_dst {l : List Oper} {i d : Nat} (h : dstAt l i = some d) : i < l.length := by
  unfold dstAt at h
  cases ho : l[i]? with
  | none => rw [ho] at h; cases h
  | some o => exact lt_of_some ho
theorem apart_of {l : List Oper} (h : chkApart l = true) : ∀ (i j d : Nat), dstAt l i = some d → dstAt l j = some d → i = j := by
  intro i j d hi hj
  simp only [chkApart, List.all_eq_true, List.mem_range] at h
  have := h i (lt_of_dst hi) j (lt_of_dst hj)
  simpa [hi, hj] using this
theorem back_of {l : List Oper} (h : chkBack l = true) : ∀ (i : Nat) (o : Oper), l[i]? = some o → ∀ e ∈ o.after.toList, Region.binds .any e = true → e.on < i := by
  intro i o ho e he hb
  simp only [chkBack, List.all_eq_true, List.mem_range] at h
  have := h i (lt_of_some ho)
  rw [ho] at this
  have := List.all_eq_true.1 this e he
  simpa [hb] using this
theorem noDst_ne {l : List Oper} {t : Nat} (h : noDst l t = true) : ∀ j, dstAt l j ≠ some t := by
  intro j hj
  simp only [noDst, List.all_eq_true, List.mem_range] at h
  have := h j (lt_of_dst hj)
  simp [hj] at this
def Stab (f : Value → World → Prop) : Prop := ∀ v w w', Ext [] w w' → f v w → f v w'
theorem Stab.eq (c : Value) : Stab fun v _ => v = c := fun _ _ _ _ h => h
theorem Stab.sl {α : Type} {R : Rep α} {X : List Nat} {xs : List α} : Stab fun v w => Sl R X w v xs := fun _ _ _ k h => h.ext (Ext.any k)
def AllStab : List (Value → World → Prop) → Prop
  | [] => True
  | f :: r => Stab f ∧ AllStab r
def FL (fs : List (Value → World → Prop)) (i : Nat) (v : Value) (w : World) : Prop := match fs[i]? with
  | some f => f v w
  | none => True
theorem FL.stab {fs : List (Value → World → Prop)} (h : AllStab fs) (i : Nat) {v : Value} {w w' : World} (k : Ext [] w w') (hf : FL fs i v w) : FL fs i v w' := by
  induction fs generalizing i with
  | nil => simp [FL]
  | cons f r ih =>
    cases i with
    | zero => exact h.1 _ _ _ k hf
    | succ i => exact ih h.2 i hf
def AnyStep (P : Program) (l : List Oper) (E : Env) (w : World) (fs : List (Value → World → Prop)) (i : Nat) (o : Oper) : Prop :=
  ∀ (E' : Env) (w' : World), Ext [] w w' → (∀ t, noDst l t = true → E' t = E t) → (∀ k, hasPred o k = true → holdsF l (FL fs) k E' w') →
    (Shut l.toArray o E' ∧ FL fs i undef w') ∨ (Sure l.toArray o E' ∧ ((∃ v, OpV P o E' w' v ∧ FL fs i v w') ∨ ∃ f args, OpC P o E' w' f args ∧ Fnc P f args w' fun v w'' => Ext [] w' w'' ∧ FL fs i v w''))
def AnySteps (P : Program) (l : List Oper) (E : Env) (w : World) (fs : List (Value → World → Prop)) : Nat → List Oper → Prop
  | _, [] => True
  | i, o :: r => AnyStep P l E w fs i o ∧ AnySteps P l E w fs (i + 1) r
theorem AnySteps.get {P : Program} {l : List Oper} {E : Env} {w : World} {fs : List (Value → World → Prop)} {i : Nat} {r : List Oper} (h : AnySteps P l E w fs i r) {j : Nat} {o : Oper} (hj : r[j]? = some o) : AnyStep P l E w fs (i + j) o := by
  induction r generalizing i j with
  | nil => simp at hj
  | cons a r ih =>
    cases j with
    | zero => simp only [List.getElem?_cons_zero, Option.some.injEq] at hj; subst hj; exact h.1
    | succ j =>
      have := ih h.2 (j := j) (by simpa using hj)
      rwa [show i + 1 + j = i + (j + 1) from by omega] at this
theorem WP.anyMake {P : Program} {n : Fsz} {id : Nat} {l : List Oper} {E : Env} {w : World} {N R : Env → World → Prop} {X : Nat → Env → World → Prop} (fs : List (Value → World → Prop)) (hm : P.follows .mixedOrders = true)
    (h1 : chkDst n l = true) (h2 : chkApart l = true) (h3 : chkBack l = true) (hs : AllStab fs) (steps : AnySteps P l E w fs 0 l)
    (fin : ∀ E' w', Ext [] w w' → (∀ t, noDst l t = true → E' t = E t) → (∀ i, i < l.length → holdsF l (FL fs) i E' w') → N E' w') : WP P n (.region id l.toArray true) ⟨N, X, R⟩ E w := by
  refine WP.any (fun w' => Ext [] w w') (FL fs) hm (fun d => ⟨rfl, rfl, rfl, Nat.le_refl _, fun _ _ _ => rfl⟩) ⟨?_, apart_of h2, back_of h3, ?_⟩ (fun E' w' hI hE hF => fin E' w' hI (fun t ht => hE t (noDst_ne ht)) hF)
  · intro i o ho
    simp only [chkDst, List.all_eq_true] at h1
    exact h1 o (List.mem_of_getElem? ho)
  · intro i o ho E' w' hI hE hF
    have st := steps.get (j := i) ho
    rw [Nat.zero_add] at st
    have hp : ∀ k, hasPred o k = true → holdsF l (FL fs) k E' w' := by
      intro k hk
      simp only [hasPred, List.any_eq_true, Bool.and_eq_true, decide_eq_true_eq] at hk
      obtain ⟨e, he, hb, rfl⟩ := hk
      exact hF e he hb
    rcases st E' w' hI (fun t ht => hE t fun j hj => absurd hj (noDst_ne ht j)) hp with ⟨hs', hf⟩ | ⟨hs', hv | hc⟩
    · exact .inl ⟨hs', hf⟩
    · obtain ⟨v, hv, hf⟩ := hv
      exact .inr ⟨hs', .inl ⟨v, w', OpV.x hv, hI, hf, fun _ _ _ h => h⟩⟩
    · obtain ⟨f, args, hc, hf⟩ := hc
      exact .inr ⟨hs', .inr ⟨f, args, hc, Fnc.mono hf fun v w'' ⟨hx, hq⟩ => ⟨hI.trans hx, hq, fun j u _ hj => FL.stab hs j hx hj⟩⟩⟩
end Go.Proofs.Ytbpamkbegggeoaa.W
namespace Go.Proofs.Ytbpamkbegggeoaa.W
open Go.RowKit
theorem lt_of_get {α : Type} {xs : List α} {i : Nat} {x : α} (h : xs[i]? = some x) : i < xs.length := by
  rcases Nat.lt_or_ge i xs.length with h1 | h1
  · exact h1
  · rw [List.getElem?_eq_none h1] at h; cases h
theorem map1 {α β : Type} {f : α → β} {x : α} {a : β} (h : f x = a) : #[x].map f = #[a] := by subst h; simp
theorem splice_nil (cs : List Value) (i : Nat) : splice cs i [] = cs := by simp [splice]
section
variable {P : Program} {n : Fsz} {ro : Option Nat} {Q : K} {E : Env} {w : World} {ops : Array Oper} {o : Oper} {rest : List Oper}
theorem WL.clear {t e t' : TypeId} {z : Value} {by' b i m c : Nat} {x : Operand} {cs : List Value} (hs : Sure ops o E) (hd : dstOk n o.dst = true) (ho : o.op = .call ⟨.builtin .clear, #[x], #[t]⟩)
    (ht : P.underlying t = some (.slice e)) (he : Elem P e z 1 by') (hz : z.cells = #[z]) (h1 : z.oneCell' = true) (hx : ev E x = .slice (some ⟨b, i, none⟩) m c) (hb : Box w b t' cs) (hi : i + m ≤ cs.length)
    (k : ∀ w', Ext [b] w w' → Box w' b t' (splice cs i (List.replicate m z)) → WLr ro P n ops Q rest (updO E o.dst (.tuple #[])) w') : WLr ro P n ops Q (o :: rest) E w := by
  obtain ⟨ii, hii, hz0, hz1, hz2⟩ := info_parts he
  have hzero : ∀ w, (zeroValue e).run P w = .ok z w := fun w => zero_of (by simp [Zero, hii, hz0])
  have e : #[x].map (ev E) = #[.slice (some ⟨b, i, none⟩) m c] := by simp [hx]
  have hst := run_storeCells_at P b i t' (List.replicate m z) 0 cs.toArray w hb (by simpa using hi) (by intro u hu; rw [List.eq_of_mem_replicate hu]; exact h1)
  simp only [Nat.add_zero] at hst
  have hzc : (Builtin.zeroCells z.cells m).toList = List.replicate m z := by
    rw [hz]
    simp [Builtin.zeroCells]
    apply List.ext_getElem
    · simp
    · intro i h1 h2
      simp [Nat.mod_one]
  cases m with
  | zero =>
    refine WL.x (u := .tuple #[]) (w' := w) hs hd (.inl ?_) (k _ (Ext.refl _ _) (by rw [List.replicate_zero, splice_nil]; exact hb))
    simp only [execOp, ho, resolve]
    rw [e]
    refine run_v ?_
    simp [Builtin.clear_, underlying, ht]
  | succ m =>
    refine WL.x (u := .tuple #[]) (w' := w.setRow b (splice cs i (List.replicate (m + 1) z)).toArray) hs hd (.inl ?_) (k _ ⟨rfl, rfl, rfl, by simp, fun k _ hk => setRow_other w b k _ (by simpa using hk)⟩ (hb.splice _))
    simp only [execOp, ho, resolve]
    rw [e]
    refine run_v ?_
    have h' : (storeCells ⟨b, i, none⟩ (List.replicate (m + 1) z) 0).run P w = .ok () (w.setRow b (splice cs i (List.replicate (m + 1) z)).toArray) := by rw [hst]; simp [splice]
    simp [Builtin.clear_, underlying, ht, hzero, hzc, h']
end
section
variable {P : Program} {n : Fsz} {ro : Option Nat} {Q : K} {E : Env} {w : World} {ops : Array Oper} {o : Oper} {rest : List Oper}
theorem WL.vex {φ : Value → Prop} (hs : Sure ops o E) (hd : dstOk n o.dst = true) (h : ∃ u, OpV P o E w u ∧ φ u) (k : ∀ u, φ u → WLr ro P n ops Q rest (updO E o.dst u) w) : WLr ro P n ops Q (o :: rest) E w := by
  obtain ⟨u, h1, h2⟩ := h
  exact WL.v hs hd h1 (k u h2)
end
theorem Ext.skip {O Y : List Nat} {a b c : World} (h : Ext O a b) (k : Ext Y b c) (hY : ∀ y ∈ Y, a.heap.size ≤ y) : Ext O a c :=
  ⟨k.os.trans h.os, k.tape.trans h.tape, k.output.trans h.output, Nat.le_trans h.size k.size,
    fun i hi hx => (k.block i (Nat.lt_of_lt_of_le hi h.size) (fun hy => by have := hY i hy; omega)).trans (h.block i hi hx)⟩
def irow (L : List Int) (T : List Value) : List Value := L.map (Value.int .i64) ++ T
theorem irow_get {L : List Int} {T : List Value} {j : Nat} (h : j < L.length) : (irow L T)[j]? = some (.int .i64 (L.getD j 0)) := by
  rw [irow, List.getElem?_append_left (by simpa using h), List.getElem?_map, List.getD_eq_getElem?_getD, List.getElem?_eq_getElem h]; rfl
theorem irow_sl {L : List Int} {T : List Value} {X : List Nat} {w : World} {g cap : Nat} {t : TypeId} (hb : Box w g t (irow L T)) (hX : g ∉ X) (hin : ∀ x ∈ L, inK .i64 x) (hc : L.length ≤ cap) (hm : cap ≤ maxLen) : Sl (intR .i64) X w (.slice (some ⟨g, 0, none⟩) L.length cap) L := by
  refine .inr (.inl ⟨g, 0, cap, rfl, hc, hm, fun i x hx => ⟨hX, [.int .i64 x], ⟨rfl, hin x (List.mem_of_getElem? hx)⟩, ?_⟩⟩)
  intro j v hj
  cases j with
  | zero =>
    simp only [List.getElem?_cons_zero, Option.some.injEq] at hj
    subst hj
    have hi := lt_of_get hx
    have := irow_get (T := T) hi
    rw [List.getD_eq_getElem?_getD, hx] at this
    refine hb.cell ?_
    show (irow L T)[0 + i * 1 + 0]? = _
    rw [show 0 + i * 1 + 0 = i from by omega]; exact this
  | succ j => simp at hj
def KRow (B : Nat) (X : List Nat) (w : World) (v : Value) (L : List Int) : Prop :=
  (v = .slice none 0 0 ∧ L = []) ∨ ∃ g cap T, v = .slice (some ⟨g, 0, none⟩) L.length cap ∧ Box w g 3 (irow L T) ∧ L.length ≤ cap ∧ cap ≤ maxLen ∧ (∀ x ∈ L, inK .i64 x) ∧ B ≤ g ∧ g ∉ X
theorem KRow.sl {B : Nat} {X : List Nat} {w : World} {v : Value} {L : List Int} (h : KRow B X w v L) : Sl (intR .i64) X w v L := by
  rcases h with h1 | ⟨g, cap, T, rfl, h1, h2, h3, h4, h5, h6⟩
  · exact .inl h1
  · exact irow_sl h1 h6 h4 h2 h3
theorem KRow.ext {B : Nat} {X Y : List Nat} {w w' : World} {v : Value} {L : List Int} (h : KRow B X w v L) (k : Ext Y w w') (hY : ∀ y ∈ Y, y ∈ X) : KRow B X w' v L := by
  rcases h with h1 | ⟨g, cap, T, rfl, h1, h2, h3, h4, h5, h6⟩
  · exact .inl h1
  · exact .inr ⟨g, cap, T, rfl, h1.ext k (fun hm => h6 (hY g hm)), h2, h3, h4, h5, h6⟩
theorem KRow.mono {B : Nat} {X Y : List Nat} {w : World} {v : Value} {L : List Int} (h : KRow B Y w v L) (k : ∀ x ∈ X, x ∈ Y) : KRow B X w v L := by
  rcases h with h1 | ⟨g, cap, T, rfl, h1, h2, h3, h4, h5, h6⟩
  · exact .inl h1
  · exact .inr ⟨g, cap, T, rfl, h1, h2, h3, h4, h5, fun hm => h6 (k g hm)⟩
theorem KRow.low {B B' : Nat} {X : List Nat} {w : World} {v : Value} {L : List Int} (h : KRow B X w v L) (k : B' ≤ B) : KRow B' X w v L := by
  rcases h with h1 | ⟨g, cap, T, rfl, h1, h2, h3, h4, h5, h6⟩
  · exact .inl h1
  · exact .inr ⟨g, cap, T, rfl, h1, h2, h3, h4, Nat.le_trans k h5, h6⟩
theorem KRow.cast {B : Nat} {X : List Nat} {w : World} {v : Value} {L M : List Int} (e : L = M) (h : KRow B X w v L) : KRow B X w v M := e ▸ h
def rowOf (v : Value) : List Nat := match v.ownBlock with | some g => [g] | none => []
structure DelInv (q : Int → Bool) (xs L : List Int) (i j : Nat) : Prop where
  len : L.length = xs.length
  inn : ∀ x ∈ L, inK .i64 x
  lt : i < j
  le : j ≤ xs.length
  pre : L.take i = (xs.take j).filter q
  post : L.drop j = xs.drop j
theorem DelInv.get {q : Int → Bool} {xs L : List Int} {i j : Nat} (h : DelInv q xs L i j) (hj : j < xs.length) : L.getD j 0 = xs.getD j 0 := by
  have h1 : (L.drop j)[0]? = (xs.drop j)[0]? := by rw [h.post]
  simp only [List.getElem?_drop, Nat.add_zero] at h1
  rw [List.getD_eq_getElem?_getD, List.getD_eq_getElem?_getD, h1]
theorem drop_succ_eq {L M : List Int} {j : Nat} (h : L.drop j = M.drop j) : L.drop (j + 1) = M.drop (j + 1) := by
  rw [← List.drop_drop, ← List.drop_drop, h]
theorem take_succ_filter {q : Int → Bool} {xs : List Int} {j : Nat} (hj : j < xs.length) : (xs.take (j + 1)).filter q = (xs.take j).filter q ++ [xs.getD j 0].filter q := by
  rw [List.take_add_one, List.filter_append, List.getElem?_eq_getElem hj]
  simp [List.getD_eq_getElem?_getD, List.getElem?_eq_getElem hj]
theorem DelInv.skip {q : Int → Bool} {xs L : List Int} {i j : Nat} (h : DelInv q xs L i j) (hj : j < xs.length) (hq : q (L.getD j 0) = false) : DelInv q xs L i (j + 1) := by
  rw [h.get hj] at hq
  refine ⟨h.len, h.inn, by have := h.lt; omega, hj, ?_, drop_succ_eq h.post⟩
  rw [take_succ_filter hj, h.pre]; simp only [List.filter_cons, hq, List.filter_nil]; simp
theorem DelInv.keep {q : Int → Bool} {xs L : List Int} {i j : Nat} (h : DelInv q xs L i j) (hj : j < xs.length) (hq : q (L.getD j 0) = true) : DelInv q xs (L.set i (L.getD j 0)) (i + 1) (j + 1) := by
  have hij := h.lt
  have hjl : j < L.length := by rw [h.len]; exact hj
  refine ⟨by rw [List.length_set]; exact h.len, ?_, by omega, hj, ?_, ?_⟩
  · intro x hx
    rcases List.mem_or_eq_of_mem_set hx with hx | hx
    · exact h.inn x hx
    · subst hx
      rw [List.getD_eq_getElem?_getD, List.getElem?_eq_getElem hjl]
      exact h.inn _ (List.getElem_mem hjl)
  · rw [take_succ_filter hj, ← h.pre, List.take_add_one, List.getElem?_set_self (by omega), List.take_set_of_le (Nat.le_refl _), h.get hj]
    rw [h.get hj] at hq
    simp only [List.filter_cons, hq, if_true, List.filter_nil, Option.toList_some]
  · rw [List.drop_set_of_lt (by omega)]; exact drop_succ_eq h.post
end Go.Proofs.Ytbpamkbegggeoaa.W
namespace Go.Proofs.Ytbpamkbegggeoaa.W
open Go.RowKit
def WX (P : Program) (n : Fsz) (c : Code) (Q : Exit → Act → World → Prop) (E : Env) (w : World) : Prop := ∀ a, Ok n a → envOf a = E → c.wpIn (Fr none) 1 P Q a w
abbrev KX (n : Fsz) (Q : Exit → Act → World → Prop) (N : Env → World → Prop) : K := ⟨N, fun i E w => ∀ a, Ok n a → envOf a = E → Q (.exit i) a w, fun E w => ∀ a, Ok n a → envOf a = E → Q .ret a w⟩
section
variable {P : Program} {n : Fsz} {Q : Exit → Act → World → Prop} {E : Env} {w : World}
theorem WX.seq {x y : Code} (h : WP P n x (KX n Q (WX P n y Q)) E w) : WX P n (.seq x y) Q E w := by
  intro a ha he
  refine wpIn_seq (wpIn_mono (h a ha he) ?_)
  intro e a' w' ⟨h1, h2⟩
  cases e with
  | normal => exact h2 a' h1 rfl
  | ret => exact h2 a' h1 rfl
  | exit i => exact h2 a' h1 rfl
  | goto _ => exact h2.elim
  | panic _ => exact h2.elim
  | outgrown => exact h2.elim
theorem WX.block {id : Nat} {c : Code} (h : WX P n c (Exit.inBlock id Q) E w) : WX P n (.block id c) Q E w := fun a ha he => wpIn_block (h a ha he)
theorem ext_putObj (w : World) (b : Nat) (o : Obj) : Ext [b] w (w.putObj b o) := ⟨rfl, rfl, rfl, by simp, fun k _ hk => World.putObj_heap_other (by simpa using hk)⟩
theorem heap_lt {w : World} {b : Nat} {o : Obj} (h : w.heap[b]? = some o) : b < w.heap.size := by
  rcases Nat.lt_or_ge b w.heap.size with h1 | h1
  · exact h1
  · rw [Array.getElem?_eq_none h1] at h; cases h
def mark (d : Nat) : Deferred := { target := .collected d, args := #[] }
theorem WX.range {g : Operand} {ps : Array Tmp} {asg body : Code} {f : FuncId} {cap : Array Value} (hg : ev E g = .func (.func f) #[] cap) (hcal : Callable P f)
    (h : ∀ (fn : FuncId) (tmps : Array Value), tmps.size = n.n → (fun t => tmps.getD t undef) = E → ∀ W1, Ext [] w W1 → W1.heap.size = w.heap.size + 2 → W1.heap[w.heap.size]? = some (.deferred (some [])) →
      W1.heap[w.heap.size + 1]? = some (.loop { state := .ready, pending := none, fn := fn, tmps := tmps, params := ps, assign := asg, body := body, defers := w.heap.size }) →
      Fnc P f (#[.func (.yield (w.heap.size + 1)) #[] #[]] ++ cap) W1 fun _ w3 => ∃ r : Loop, w3.heap[w.heap.size + 1]? = some (.loop r) ∧ r.state ≠ .busy ∧
        ∀ w4, Ext [w.heap.size + 1] w3 w4 → ∀ a, Ok ⟨n.n, mark w.heap.size :: n.D⟩ a → envOf a = E → match r.pending with
          | none => Q .normal a w4
          | some .ret => Q .ret a w4
          | some (.exit i) => Q (.exit i) a w4
          | _ => False) : WX P n (.rangeFunc g ps asg body) Q E w := by
  intro a ha he
  refine wpIn_rangeFunc fun fn hfn => ?_
  obtain ⟨rec, hrec⟩ : ∃ rec : Loop, rec = { state := .ready, pending := none, fn := fn, tmps := a.tmps, params := ps, assign := asg, body := body, defers := w.heap.size } := ⟨_, rfl⟩
  have hX : Ext [] w ((w.alloc (.deferred (some []))).alloc (.loop rec)) := (Ext.alloc w _).trans (Ext.alloc _ _)
  have hsz : ((w.alloc (.deferred (some []))).alloc (.loop rec)).heap.size = w.heap.size + 2 := by simp
  have hD : ((w.alloc (.deferred (some []))).alloc (.loop rec)).heap[w.heap.size]? = some (.deferred (some [])) := by
    have h1 : (w.alloc (.deferred (some []))).heap[w.heap.size]? = some (.deferred (some [])) := World.alloc_heap_new w _
    rw [(Ext.alloc (X := []) (w.alloc (.deferred (some []))) (.loop rec)).block _ (heap_lt h1) (by simp)]; exact h1
  have hL : ((w.alloc (.deferred (some []))).alloc (.loop rec)).heap[w.heap.size + 1]? = some (.loop rec) := by
    have := World.alloc_heap_new (w.alloc (.deferred (some []))) (.loop rec)
    rwa [show (w.alloc (.deferred (some []))).heap.size = w.heap.size + 1 from by simp] at this
  refine ⟨w.heap.size + 1, [mark w.heap.size], (w.alloc (.deferred (some []))).alloc (.loop rec), { target := .fn (.func f) cap, args := #[.func (.yield (w.heap.size + 1)) #[] #[]] }, (w.alloc (.deferred (some []))).alloc (.loop rec), f,
    #[.func (.yield (w.heap.size + 1)) #[] #[]] ++ cap, (w.alloc (.deferred (some []))).alloc (.loop rec), ?_, ?_, ?_, ?_, fun h => (by cases h), ?_⟩
  · rw [hrec]; exact run_enterLoop_outer _ _ _ _ _
  · have hg' : a.eval g = .func (.func f) #[] cap := by rw [eval_envOf, he]; exact hg
    simp only [resolve, hg']
    simp [go_sem]
  · intro f' _; trivial
  · simp only [invoke]
    obtain ⟨fn', hfn', hname, hb⟩ := hcal
    have hn' : ¬ fn'.name = "runtime.NumGoroutine" := by simpa using hname
    have hb' : ¬ fn'.body = none := by intro e; rw [e] at hb; cases hb
    simp [go_sem, callFunc, hfn', hn', hb']
  · have hcall := h fn a.tmps ha.1 he _ hX hsz hD (by rw [hL, hrec])
    have hcall' : CallsIn (Fr none) (1 - 1) P f (#[.func (.yield (w.heap.size + 1)) #[] #[]] ++ cap) ((w.alloc (.deferred (some []))).alloc (.loop rec)) _ := (callsIn_wide (n := 1 - 1)).2 hcall
    refine CallsIn.mono hcall' ?_
    rintro e w3 ⟨v, rfl, r, hl3, hb3, hQ⟩
    have hend := run_endLoop (P := P) hl3 hb3
    have key := hQ _ (ext_putObj w3 (w.heap.size + 1) (.loop { r with state := .exhausted })) { a with defers := [mark w.heap.size] ++ a.defers } ⟨ha.1, by show [mark w.heap.size] ++ a.defers = _; rw [ha.2]; rfl⟩ he
    refine ⟨r.pending, _, hend, ?_⟩
    split at key
    · rename_i hj; simp only [hj] at key ⊢; exact key
    · rename_i hj; simp only [hj] at key ⊢; exact wpIn_ret key
    · rename_i i hj; simp only [hj] at key ⊢; exact wpIn_exit key
    · exact key.elim
end
section
variable {P : Program} {n : Fsz} {Q : Exit → Act → World → Prop} {E : Env} {w : World}
end
def EndR (l : Nat) (R : Value → World → Prop) (jump : Option Code) (w3 : World) : Prop := ∃ r3 : Loop, w3.heap[l]? = some (.loop r3) ∧
  ∀ w4, Ext [l] w3 w4 → w4.heap[l]? = some (.loop { r3 with state := if jump.isNone then .ready else .done, pending := jump }) → R (.bool jump.isNone) w4
theorem EndR.run {P : Program} {l : Nat} {R : Value → World → Prop} {jump : Option Code} {w3 : World} (h : EndR l R jump w3) : ∃ v w', (Instr.endRound l jump).run P w3 = .ok v w' ∧ ∃ u, Ending.returned v = .returned u ∧ R u w' := by
  obtain ⟨r3, h1, h2⟩ := h
  exact ⟨_, _, run_endRound jump h1, _, rfl, h2 _ (ext_putObj w3 l _) (World.putObj_heap_same (heap_lt h1))⟩
section
variable {P : Program} {o : Oper} {E : Env} {w : World}
theorem WL.round {n : Fsz} {ro : Option Nat} {Q : K} {ops : Array Oper} {rest : List Oper} {l : Nat} {f : FuncId} {tmps : Array Value} {asg body : Code} (hs : Sure ops o E) (hd : dstOk n o.dst = true) (h : (execOp (ev E) o).run P w = .ok (.round l f tmps asg body) w)
    (k : RoundIn (Fr ro) 0 P l f tmps asg body w fun e w' => ∃ v, e = .returned v ∧ WLr ro P n ops Q rest (updO E o.dst v) w') : WLr ro P n ops Q (o :: rest) E w := by
  intro a ha he
  unfold wpListIn
  rw [if_pos (hs a.tmps he)]
  refine ⟨fun _ _ => trivial, ?_⟩
  rw [eval_envOf, he, semAt_of h (by simp)]
  refine ⟨fun _ => Nat.le_refl 1, RoundIn.mono k ?_⟩
  rintro e w' ⟨v, rfl, hk⟩
  exact hk (a.put o.dst v) (ha.put _ _) (by rw [envOf_put ha _ hd, he])
end
end Go.Proofs.Ytbpamkbegggeoaa.W
namespace Go.Proofs.Ytbpamkbegggeoaa.W
open Go.RowKit
def holdsE (l : List Oper) (F : Nat → Env → Value → World → Prop) (i : Nat) (E : Env) (w : World) : Prop :=
  match dstAt l i with
  | some d => F i E (E d) w
  | none => ∃ u, F i E u w
theorem Rep.newRow {α : Type} {R : Rep α} {X : List Nat} {w : World} {cs : List Value} {x : α} {v : Value} (h : R.rd X w cs x) (k : ∀ y ∈ rowOf v, w.heap.size ≤ y) : R.rd (rowOf v ++ X) w cs x := by
  unfold rowOf at *
  cases hv : v.ownBlock with
  | none => simpa using h
  | some g => rw [hv] at k; exact R.new h (k g (by simp))
theorem KRow.ge {B : Nat} {X : List Nat} {w : World} {v : Value} {L : List Int} (h : KRow B X w v L) : ∀ y ∈ rowOf v, B ≤ y := by
  rcases h with ⟨rfl, _⟩ | ⟨g, cap, T, rfl, h1, h2, h3, h4, h5, h6⟩
  · simp [rowOf, Value.ownBlock]
  · intro y hy; simp [rowOf, Value.ownBlock] at hy; omega
theorem KRow.lt {B : Nat} {X : List Nat} {w : World} {v : Value} {L : List Int} (h : KRow B X w v L) : ∀ y ∈ rowOf v, y < w.heap.size := by
  rcases h with ⟨rfl, _⟩ | ⟨g, cap, T, rfl, h1, h2, h3, h4, h5, h6⟩
  · simp [rowOf, Value.ownBlock]
  · intro y hy; simp [rowOf, Value.ownBlock] at hy; have := h1.lt; omega
def RowAt (g : Nat) (w : World) (v : Value) (L : List Int) : Prop := (v = .slice none 0 0 ∧ L = []) ∨ ∃ cap T, v = .slice (some ⟨g, 0, none⟩) L.length cap ∧ Box w g 3 (irow L T)
theorem KRow.at {B K : Nat} {X : List Nat} {w : World} {v : Value} {L : List Int} (h : KRow B X w v L) (hK : B ≤ K) (hX : K ∉ X) : ∃ g, g = v.ownBlock.getD K ∧ B ≤ g ∧ g ∉ X ∧ RowAt g w v L := by
  rcases h with ⟨rfl, h0⟩ | ⟨g, cap, T, rfl, h1, h2, h3, h4, h5, h6⟩
  · exact ⟨K, rfl, hK, hX, .inl ⟨rfl, h0⟩⟩
  · exact ⟨g, rfl, h5, h6, .inr ⟨cap, T, rfl, h1⟩⟩
structure DFact where
  f : Env → Value → World → Prop
  ts : List Nat
  dep : ∀ E E' v w, (∀ t ∈ ts, E t = E' t) → f E v w → f E' v w
  stab : ∀ E, Stab (f E)
def DFact.eq (c : Value) : DFact := ⟨fun _ v _ => v = c, [], fun _ _ _ _ _ h => h, fun _ _ _ _ _ h => h⟩
def FD (fs : List DFact) (i : Nat) (E : Env) (v : Value) (w : World) : Prop := match fs[i]? with
  | some f => f.f E v w
  | none => True
theorem FD.stab {fs : List DFact} (i : Nat) {E : Env} {v : Value} {w w' : World} (k : Ext [] w w') (hf : FD fs i E v w) : FD fs i E v w' := by
  unfold FD at *
  cases h : fs[i]? with
  | none => trivial
  | some f => rw [h] at hf; exact f.stab E _ _ _ k hf
def DStep (P : Program) (l : List Oper) (E : Env) (w : World) (fs : List DFact) (i : Nat) (o : Oper) : Prop :=
  ∀ (E' : Env) (w' : World), Ext [] w w' → (∀ t, noDst l t = true → E' t = E t) → (∀ k, hasPred o k = true → holdsE l (FD fs) k E' w') →
    (Shut l.toArray o E' ∧ FD fs i E' undef w') ∨ (Sure l.toArray o E' ∧ ((∃ v, OpV P o E' w' v ∧ FD fs i E' v w') ∨ ∃ f args, OpC P o E' w' f args ∧ Fnc P f args w' fun v w'' => Ext [] w' w'' ∧ FD fs i E' v w''))
def DSteps (P : Program) (l : List Oper) (E : Env) (w : World) (fs : List DFact) : Nat → List Oper → Prop
  | _, [] => True
  | i, o :: r => DStep P l E w fs i o ∧ DSteps P l E w fs (i + 1) r
theorem DSteps.get {P : Program} {l : List Oper} {E : Env} {w : World} {fs : List DFact} {i : Nat} {r : List Oper} (h : DSteps P l E w fs i r) {j : Nat} {o : Oper} (hj : r[j]? = some o) : DStep P l E w fs (i + j) o := by
  induction r generalizing i j with
  | nil => simp at hj
  | cons a r ih =>
    cases j with
    | zero => simp only [List.getElem?_cons_zero, Option.some.injEq] at hj; subst hj; exact h.1
    | succ j =>
      have := ih h.2 (j := j) (by simpa using hj)
      rwa [show i + 1 + j = i + (j + 1) from by omega] at this
end Go.Proofs.Ytbpamkbegggeoaa.W
namespace Go.Proofs.Ytbpamkbegggeoaa.W
open Go.RowKit
def bor (k : IntKind) (a b : Int) : Int := k.wrap ((BitVec.ofInt k.bits a ||| BitVec.ofInt k.bits b).toNat : Int)
def band (k : IntKind) (a b : Int) : Int := k.wrap ((BitVec.ofInt k.bits a &&& BitVec.ofInt k.bits b).toNat : Int)
def bxor (k : IntKind) (a b : Int) : Int := k.wrap ((BitVec.ofInt k.bits a ^^^ BitVec.ofInt k.bits b).toNat : Int)
def bshl (k : IntKind) (a n : Int) : Int := k.wrap (a * 2 ^ (min n.toNat k.bits))
def bshr (k : IntKind) (a n : Int) : Int := a.fdiv (2 ^ (min n.toNat k.bits))
def bitB : BinOp → IntKind → Int → Int → Option Int
  | .or, k, a, b => some (bor k a b)
  | .and, k, a, b => some (band k a b)
  | .xor, k, a, b => some (bxor k a b)
  | _, _, _, _ => none
def shB : BinOp → IntKind → Int → Int → Option Int
  | .shl, k, a, n => some (bshl k a n)
  | .shr, k, a, n => some (bshr k a n)
  | _, _, _, _ => none
section
variable {P : Program} {o : Oper} {E : Env} {w : World}
theorem V.bits {op : BinOp} {t u : TypeId} {x y : Operand} {k : IntKind} {a b r : Int} (ho : o.op = .binOp op t x y u) (hx : ev E x = .int k a) (hy : ev E y = .int k b) (hr : bitB op k a b = some r) : OpV P o E w (.int k r) := by
  cases op <;> simp only [bitB, Option.some.injEq, reduceCtorEq] at hr <;> subst hr <;> simp [OpV, execOp, ho, hx, hy, go_sem, eqGuard, binOp, Op.intBits, bor, band, bxor]
theorem V.shift {op : BinOp} {t u : TypeId} {x y : Operand} {k k' : IntKind} {a n r : Int} (ho : o.op = .binOp op t x y u) (hx : ev E x = .int k a) (hy : ev E y = .int k' n) (hn : 0 ≤ n) (hr : shB op k a n = some r) : OpV P o E w (.int k r) := by
  have hn' : ¬ n < 0 := by omega
  cases op <;> simp only [shB, Option.some.injEq, reduceCtorEq] at hr <;> subst hr <;> simp [OpV, execOp, ho, hx, hy, go_sem, eqGuard, binOp, Op.shift, bshl, bshr, hn']
end
theorem Box.cast {w : World} {b : Nat} {t : TypeId} {cs ds : List Value} (e : cs = ds) (h : Box w b t cs) : Box w b t ds := e ▸ h
theorem wrap_u64_in (n : Int) : 0 ≤ IntKind.u64.wrap n ∧ IntKind.u64.wrap n ≤ 18446744073709551615 := by
  simp only [IntKind.wrap, IntKind.signed, IntKind.bits]
  constructor
  · simp; omega
  · simp; omega
theorem bor_in (a b : Int) : 0 ≤ bor .u64 a b ∧ bor .u64 a b ≤ 18446744073709551615 := wrap_u64_in _
theorem byte_le (s : ByteArray) (m : Nat) : ((s.data.getD m 0).toNat : Int) ≤ 255 := by have := (s.data.getD m 0).toNat_lt; omega
theorem seq_empty (s : ByteArray) : seqB s (ByteArray.mk #[]) = decide (s.size = 0) := by
  unfold seqB
  rw [ByteArray.toList_eq, ByteArray.toList_eq]
  obtain ⟨d⟩ := s
  obtain ⟨l⟩ := d
  cases l <;> simp [ByteArray.size]
theorem extract_le (s : ByteArray) (l h : Nat) : (s.extract l h).size ≤ s.size := by rw [ByteArray.size_extract]; omega
def nrow (k : IntKind) (L : List Int) (T : List Value) : List Value := L.map (Value.int k) ++ T
theorem nrow_get {k : IntKind} {L : List Int} {T : List Value} {j : Nat} (h : j < L.length) : (nrow k L T)[j]? = some (.int k (L.getD j 0)) := by
  rw [nrow, List.getElem?_append_left (by simpa using h), List.getElem?_map, List.getD_eq_getElem?_getD, List.getElem?_eq_getElem h]; rfl
theorem nrow_set {k : IntKind} {L : List Int} {T : List Value} {j : Nat} {x : Int} (h : j < L.length) : (nrow k L T).set j (.int k x) = nrow k (L.set j x) T := by
  rw [nrow, nrow, List.set_append_left _ _ (by simpa using h), List.map_set]
theorem nrow_len {k : IntKind} {L : List Int} {T : List Value} : (nrow k L T).length = L.length + T.length := by simp [nrow]
section
variable {P : Program} {o : Oper} {E : Env} {w : World}
theorem V.bytesStr {src dst e t : TypeId} {x : Operand} {b n c : Nat} {xs : List Int} {T : List Value} (ho : o.op = .convert src dst x) (hs : P.underlying src = some (.slice e)) (he : P.underlying e = some (.int .u8)) (hd : P.underlying dst = some .string) (hx : ev E x = .slice (some ⟨b, 0, none⟩) n c) (hb : Box w b t (nrow .u8 xs T)) (hn : xs.length = n) : OpV P o E w (.string (strOfNums xs)) := by
  have h := run_convert_bytes_arg (P := P) w src e hs he b 0 n c xs hn (fun i hi => hb.cell (by rw [Nat.zero_add]; exact nrow_get (by omega))) dst hd
  simp only [OpV, execOp, ho, hx]
  exact run_v h
end
section
variable {P : Program} {n : Fsz} {ro : Option Nat} {Q : K} {E : Env} {w : World} {ops : Array Oper} {o : Oper} {rest : List Oper}
theorem WL.makeBytes {t e : TypeId} {x y : Operand} {k : IntKind} {m : Nat} {by' : Nat} (hs : Sure ops o E) (hd : dstOk n o.dst = true) (ho : o.op = .makeSlice t x y) (ht : P.underlying t = some (.slice e)) (he : Elem P e (.int .u8 0) 1 by') (hx : ev E x = .int k (m : Int)) (hy : ev E y = .int k (m : Int)) (hm : m ≤ 16777216) (hb : by' = 1)
    (kk : ∀ b w', Ext [] w w' → w.heap.size ≤ b → Box w' b e (nrow .u8 (List.replicate m 0) []) → WLr ro P n ops Q rest (updO E o.dst (.slice (some ⟨b, 0, none⟩) m m)) w') : WLr ro P n ops Q (o :: rest) E w := by
  obtain ⟨i, hi, hz0, hz1, hz2⟩ := info_parts he
  have hr := run_makeSlice (P := P) w t e i (.int .u8 0) ht hi hz0 k k (m : Int) (m : Int) (by omega) (Int.le_refl _) (by rw [hz1]; simpa using hm) (by rw [hz2, hb]; omega) (by omega)
  simp only [Int.toNat_natCast] at hr
  refine WL.x (u := .slice (some ⟨w.heap.size, 0, none⟩) m m) (w' := w.alloc (.cells (madeCells (Value.cells (.int .u8 0)) (m * i.size)) e)) hs hd (.inl ?_) (kk _ _ (Ext.alloc w _) (Nat.le_refl _) ?_)
  · simp only [execOp, ho, hx, hy]
    exact run_v hr
  · have : (madeCells (Value.cells (.int .u8 0)) (m * i.size)).toList = nrow .u8 (List.replicate m 0) [] := by
      rw [hz1, Nat.mul_one]
      apply List.ext_getElem?
      intro j
      simp [madeCells, nrow, Value.cells, List.getElem?_replicate]
      split <;> simp_all [Nat.mod_one]
    unfold Box
    rw [← this]
    exact Blk.new w _
end
section
variable {P : Program} {o : Oper} {E : Env} {w : World}
theorem X.buildSlice {t e : TypeId} {len sz : Nat} {z : Value} {by' : Nat} {ps : Array (Nat × Operand)} {cs : List Value} (ho : o.op = .buildSlice t len ps) (ht : P.underlying t = some (.slice e)) (he : Elem P e z sz by')
    (hsm : len * sz ≤ 1024)
    (hf : Instr.fill (fun i => some (i * sz, sz)) ((Array.range (len * sz)).map ((if len * sz = 0 then #[] else z.cells)[· % (if len * sz = 0 then #[] else z.cells).size]!)) (ps.map fun x => (x.1, ev E x.2)).toList = some cs.toArray)
    : OpX P o E w (.slice (some ⟨w.heap.size, 0, none⟩) len len) (w.alloc (.cells cs.toArray e)) := by
  obtain ⟨i, hi, hz0, hz1, hz2⟩ := info_parts he
  subst hz1
  refine .inl ?_
  have hsize : (sizeOf e).run P w = .ok i.size w := size_of (by simp [Sized, hi])
  have hzero : (zeroValue e).run P w = .ok z w := zero_of (by simp [Zero, hi, hz0])
  have hbig : ¬ (len * i.size > 2 ^ 24) := by omega
  have hrow : ∀ c : Array Value, (newRow e c).run P w = .ok ⟨w.heap.size, 0, none⟩ (w.alloc (.cells c e)) := fun c => by simp [newRow, go_sem]
  have key : (Instr.buildSlice t len (ps.map fun x => (x.1, ev E x.2))).run P w = .ok (.slice (some ⟨w.heap.size, 0, none⟩) len len) (w.alloc (.cells cs.toArray e)) := by
    unfold Instr.buildSlice
    by_cases h0 : len * i.size = 0
    · simp only [if_pos h0] at hf
      simp only [Sem.run_bind, underlying, run_program, ht, Result.andThen_ok, Sem.run_pure, hsize, Sem.run_ite, if_neg hbig, if_pos h0, hf, hrow]
    · simp only [if_neg h0] at hf
      simp only [Sem.run_bind, underlying, run_program, ht, Result.andThen_ok, Sem.run_pure, hsize, hzero, Sem.run_ite, if_neg hbig, if_neg h0, hf, hrow]
  simp only [execOp, ho]
  exact run_v key
end
def MkStep (P : Program) (l : List Oper) (E : Env) (w : World) (fs : List (Value → World → Prop)) (i : Nat) (o : Oper) : Prop :=
  ∀ (E' : Env) (w' : World), Ext [] w w' → (∀ t, noDst l t = true → E' t = E t) → (∀ k, hasPred o k = true → holdsF l (FL fs) k E' w') →
    (Shut l.toArray o E' ∧ FL fs i undef w') ∨ (Sure l.toArray o E' ∧ ((∃ v w'', OpX P o E' w' v w'' ∧ Ext [] w' w'' ∧ FL fs i v w'') ∨ ∃ f args, OpC P o E' w' f args ∧ Fnc P f args w' fun v w'' => Ext [] w' w'' ∧ FL fs i v w''))
def MkSteps (P : Program) (l : List Oper) (E : Env) (w : World) (fs : List (Value → World → Prop)) : Nat → List Oper → Prop
  | _, [] => True
  | i, o :: r => MkStep P l E w fs i o ∧ MkSteps P l E w fs (i + 1) r
theorem MkSteps.get {P : Program} {l : List Oper} {E : Env} {w : World} {fs : List (Value → World → Prop)} {i : Nat} {r : List Oper} (h : MkSteps P l E w fs i r) {j : Nat} {o : Oper} (hj : r[j]? = some o) : MkStep P l E w fs (i + j) o := by
  induction r generalizing i j with
  | nil => simp at hj
  | cons a r ih =>
    cases j with
    | zero => simp only [List.getElem?_cons_zero, Option.some.injEq] at hj; subst hj; exact h.1
    | succ j =>
      have := ih h.2 (j := j) (by simpa using hj)
      rwa [show i + 1 + j = i + (j + 1) from by omega] at this
theorem WP.anyMk {P : Program} {n : Fsz} {id : Nat} {l : List Oper} {E : Env} {w : World} {N R : Env → World → Prop} {X : Nat → Env → World → Prop} (fs : List (Value → World → Prop)) (hm : P.follows .mixedOrders = true)
    (h1 : chkDst n l = true) (h2 : chkApart l = true) (h3 : chkBack l = true) (hs : AllStab fs) (steps : MkSteps P l E w fs 0 l)
    (fin : ∀ E' w', Ext [] w w' → (∀ t, noDst l t = true → E' t = E t) → (∀ i, i < l.length → holdsF l (FL fs) i E' w') → N E' w') : WP P n (.region id l.toArray true) ⟨N, X, R⟩ E w := by
  refine WP.any (fun w' => Ext [] w w') (FL fs) hm (fun d => ⟨rfl, rfl, rfl, Nat.le_refl _, fun _ _ _ => rfl⟩) ⟨?_, apart_of h2, back_of h3, ?_⟩ (fun E' w' hI hE hF => fin E' w' hI (fun t ht => hE t (noDst_ne ht)) hF)
  · intro i o ho
    simp only [chkDst, List.all_eq_true] at h1
    exact h1 o (List.mem_of_getElem? ho)
  · intro i o ho E' w' hI hE hF
    have st := steps.get (j := i) ho
    rw [Nat.zero_add] at st
    have hp : ∀ k, hasPred o k = true → holdsF l (FL fs) k E' w' := by
      intro k hk
      simp only [hasPred, List.any_eq_true, Bool.and_eq_true, decide_eq_true_eq] at hk
      obtain ⟨e, he, hb, rfl⟩ := hk
      exact hF e he hb
    rcases st E' w' hI (fun t ht => hE t fun j hj => absurd hj (noDst_ne ht j)) hp with ⟨hs', hf⟩ | ⟨hs', hv | hc⟩
    · exact .inl ⟨hs', hf⟩
    · obtain ⟨v, w'', hv, hx, hf⟩ := hv
      exact .inr ⟨hs', .inl ⟨v, w'', hv, hI.trans hx, hf, fun j u _ hj => FL.stab hs j hx hj⟩⟩
    · obtain ⟨f, args, hc, hf⟩ := hc
      exact .inr ⟨hs', .inr ⟨f, args, hc, Fnc.mono hf fun v w'' ⟨hx, hq⟩ => ⟨hI.trans hx, hq, fun j u _ hj => FL.stab hs j hx hj⟩⟩⟩
section
variable {P : Program} {o : Oper} {E : Env} {w : World}
theorem V.indexArr {t : TypeId} {x i : Operand} {e sz b k N : Nat} {ik : IntKind} {j : Int} {m : Nat} (ho : o.op = .indexAddr t x i) (ht : P.underlying t = some (.array N e)) (hs : Sized P e sz) (hz : sz ≠ 0)
    (hx : ev E x = .pointer (some ⟨b, k, none⟩)) (hi : ev E i = .int ik j) (hj : j = (m : Int)) (hm : m < N) : OpV P o E w (.pointer (some ⟨b, k + m * sz, none⟩)) := by
  subst hj
  simp [OpV, execOp, ho, hx, hi, go_sem, Instr.indexAt, underlying, ht, asIntOf, size_of hs, addr_add, hm, Instr.sureAddr, hz]
theorem V.sliceArr {t : TypeId} {x y : Operand} {e sz b k N h : Nat} {ik : IntKind} (ho : o.op = .slice t x none (some y) none) (ht : P.underlying t = some (.array N e)) (hs : Sized P e sz) (hx : ev E x = .pointer (some ⟨b, k, none⟩)) (hy : ev E y = .int ik (h : Int)) (hh : h ≤ N) :
    OpV P o E w (.slice (some ⟨b, k, none⟩) h N) := by
  have e1 : (h : Int) ≤ (N : Int) := by omega
  simp [OpV, execOp, ho, hx, hy, go_sem, Instr.sliceAt, underlying, ht, Instr.slice, Instr.sliceBounds, Instr.sliceBound, asIntOf, size_of hs, e1, hh, addr_add, Instr.sureAddr]
end
theorem nrow_split {k : IntKind} {L : List Int} (m : Nat) : nrow k L [] = nrow k (L.take m) ((L.drop m).map (Value.int k)) := by
  simp only [nrow, List.append_nil]
  rw [← List.map_append, List.take_append_drop]
end Go.Proofs.Ytbpamkbegggeoaa.W
namespace Go.Proofs.Ytbpamkbegggeoaa.W
open Go.RowKit
def holdsV (l : List Oper) (vs : List Value) (k : Nat) (E : Env) : Prop := ∀ c d, dstAt l k = some d → vs[k]? = some c → E d = c
structure BOk (P : Program) (n : Fsz) (l : List Oper) (E : Env) (m : Nat) (I : Bool → World → Prop) (vs : List Value) : Prop where
  dst : ∀ (i : Nat) (o : Oper), l[i]? = some o → dstOk n o.dst = true
  apart : ∀ (i j d : Nat), dstAt l i = some d → dstAt l j = some d → i = j
  back : ∀ (i : Nat) (o : Oper), l[i]? = some o → ∀ e ∈ o.after.toList, Region.binds .any e = true → e.on < i
  step : ∀ (i : Nat) (o : Oper), l[i]? = some o → ∀ f E' w', I f w' → (i = m → f = false) → (∀ t, (∀ j, dstAt l j = some t → j = i ∨ isPred l i j) → E' t = E t) →
    (∀ e ∈ o.after.toList, Region.binds .any e = true → holdsV l vs e.on E') →
    Sure l.toArray o E' ∧ StepW P o E' w' fun v w'' => I (f || decide (i = m)) w'' ∧ vs[i]? = some v
structure BInv (n : Fsz) (l : List Oper) (E : Env) (m : Nat) (I : Bool → World → Prop) (vs : List Value) (listed : Array Bool) (a : Act) (w : World) : Prop where
  size : listed.size = l.length
  ok : Ok n a
  inv : I (listed.getD m true) w
  closed : ∀ k o, l[k]? = some o → listed.getD k true = true → ∀ e ∈ o.after.toList, Region.binds .any e = true → listed.getD e.on true = true
  base : ∀ t, (∀ j, dstAt l j = some t → listed.getD j true = false) → envOf a t = E t
  facts : ∀ k, k < l.length → listed.getD k true = true → holdsV l vs k (envOf a)
theorem allB_listed {n : Fsz} {l : List Oper} {E : Env} {P : Program} {m : Nat} {I : Bool → World → Prop} {vs : List Value} (H : BOk P n l E m I vs) {listed : Array Bool} (hsize : listed.size = l.length)
    (h : Region.ready .any l.toArray listed = []) : ∀ k, k < l.length → listed.getD k true = true := by
  intro k
  induction k using Nat.strongRecOn with
  | _ k ih =>
    intro hk
    cases hl : listed.getD k true with
    | true => rfl
    | false =>
      have ho : l[k]? = some l[k] := List.getElem?_eq_getElem hk
      have : k ∈ Region.ready .any l.toArray listed := mem_ready.2 ⟨by simpa using hk, hl, l[k], by simp [ho], fun e he hb => by
        have hlt := H.back k _ ho e he hb
        have := ih e.on hlt (by omega)
        have hsz : e.on < listed.size := by omega
        rw [Array.getD_eq_getD_getElem?, Array.getElem?_eq_getElem hsz] at this ⊢
        exact this⟩
      rw [h] at this; cases this
theorem wpAnyB_of {P : Program} {n : Fsz} {l : List Oper} {E : Env} {m : Nat} {I : Bool → World → Prop} {vs : List Value} {N R : Env → World → Prop} {X : Nat → Env → World → Prop} (H : BOk P n l E m I vs) (hml : m < l.length)
    (fin : ∀ E' w', I true w' → (∀ t, (∀ j, dstAt l j ≠ some t) → E' t = E t) → (∀ i, i < l.length → holdsV l vs i E') → N E' w') :
    ∀ (fuel : Nat) (listed : Array Bool) (a : Act) (w : World), BInv n l E m I vs listed a w → (unl l.length listed).length ≤ fuel → wpAny P .any l.toArray (lift n ⟨N, X, R⟩) fuel listed a w := by
  have done : ∀ listed a w, BInv n l E m I vs listed a w → Region.ready .any l.toArray listed = [] → lift n ⟨N, X, R⟩ .normal a w := by
    intro listed a w V h
    have hall := allB_listed H V.size h
    have hi := V.inv
    rw [hall m hml] at hi
    exact ⟨V.ok, fin _ _ hi (fun t ht => V.base t fun j hj => absurd hj (ht j)) fun i hi => V.facts i hi (hall i hi)⟩
  intro fuel
  induction fuel with
  | zero =>
    intro listed a w V hu
    have hnil : Region.ready .any l.toArray listed = [] := by
      rw [List.eq_nil_iff_forall_not_mem]
      intro i hi
      obtain ⟨h1, h2, _⟩ := mem_ready.1 hi
      have : i ∈ unl l.length listed := by simp only [unl, List.mem_filter, List.mem_range, h2]; exact ⟨by simpa using h1, rfl⟩
      rw [List.eq_nil_of_length_eq_zero (by omega : (unl l.length listed).length = 0)] at this
      cases this
    exact ⟨hnil, done _ _ _ V hnil⟩
  | succ fuel ih =>
    intro listed a w V hu
    refine ⟨done _ _ _ V, fun i hi => ?_⟩
    obtain ⟨h1, h2, o, ho, h3⟩ := mem_ready.1 hi
    have h1' : i < l.length := by simpa using h1
    have ho' : l[i]? = some o := by simpa using ho
    have hpre : ∀ e ∈ o.after.toList, Region.binds .any e = true → e.on < l.length ∧ listed.getD e.on true = true := by
      intro e he hb
      have hlt := H.back i o ho' e he hb
      have := h3 e he hb
      have hsz : e.on < listed.size := by rw [V.size]; omega
      rw [Array.getD_eq_getD_getElem?, Array.getElem?_eq_getElem hsz] at this
      exact ⟨by omega, by rw [Array.getD_eq_getD_getElem?, Array.getElem?_eq_getElem hsz]; exact this⟩
    have hstep := H.step i o ho' (listed.getD m true) (envOf a) w V.inv (fun e => by rw [← e]; exact h2)
      (fun t ht => V.base t fun j hj => by
        rcases ht j hj with rfl | ⟨oj, hoj, e, he, hb, rfl⟩
        · exact h2
        · cases hl : listed.getD j true with
          | false => rfl
          | true => have := V.closed j oj hoj hl e he hb; rw [h2] at this; cases this)
      (fun e he hb => V.facts e.on (hpre e he hb).1 (hpre e he hb).2)
    have hcount : (unl l.length (listed.setIfInBounds i true)).length ≤ fuel := by
      have := unl_set (listed := listed) V.size h1' h2; omega
    have next : ∀ v w', I (listed.getD m true || decide (i = m)) w' → vs[i]? = some v → BInv n l E m I vs (listed.setIfInBounds i true) (a.put o.dst v) w' := by
      intro v w' hI hF
      have henv : envOf (a.put o.dst v) = updO (envOf a) o.dst v := envOf_put V.ok o.dst (H.dst i o ho') v
      have hdi : dstAt l i = o.dst := by simp [dstAt, ho']
      refine ⟨by simpa using V.size, V.ok.put _ _, ?_, ?_, ?_, ?_⟩
      · rw [getD_set]
        by_cases hm : i = m
        · rw [if_pos ⟨hm, by rw [V.size]; omega⟩]
          simpa [hm] using hI
        · rw [if_neg (fun h => hm h.1)]
          simpa [hm] using hI
      · intro k ok hok hl e he hb
        rw [getD_set] at hl ⊢
        split
        · rfl
        · split at hl
          · rename_i hik; obtain ⟨rfl, _⟩ := hik
            rw [ho'] at hok; cases hok
            exact (hpre e he hb).2
          · exact V.closed k ok hok hl e he hb
      · intro t ht
        rw [henv]
        have hti : o.dst ≠ some t := by
          intro e
          have := ht i (by rw [hdi]; exact e)
          rw [getD_set, if_pos ⟨rfl, by rw [V.size]; exact h1'⟩] at this; cases this
        have : updO (envOf a) o.dst v t = envOf a t := by
          cases hd : o.dst with
          | none => rfl
          | some d => exact upd_ne _ _ _ _ (fun e => hti (by rw [hd, e]))
        rw [this]
        refine V.base t fun j hj => ?_
        have := ht j hj
        rw [getD_set] at this
        split at this
        · cases this
        · exact this
      · intro k hk hl c d hdk hck
        rw [getD_set] at hl
        by_cases hki : k = i
        · subst hki
          rw [hdi] at hdk
          rw [henv, hdk, updO, upd_same]
          rw [hck] at hF; cases hF; rfl
        · rw [if_neg (fun h => hki h.1.symm)] at hl
          have hf := V.facts k hk hl c d hdk hck
          rw [henv]
          cases hd : o.dst with
          | none => exact hf
          | some d' => exact (upd_ne _ _ _ _ (fun e => hki (H.apart k i d hdk (by rw [hdi, hd, e])))).trans hf
    unfold wpOp
    simp only [ho]
    obtain ⟨hs, hx | ⟨f, args, hc, hf⟩⟩ := hstep
    · rw [if_pos (hs a.tmps rfl)]
      left
      obtain ⟨v, w', hx, hI, hF⟩ := hx
      unfold Oper.wp
      rw [eval_envOf]
      rcases hx with hx | ⟨rfl, hx⟩ <;> rw [hx] <;> exact ih _ _ _ (next _ w' hI hF) hcount
    · rw [if_pos (hs a.tmps rfl)]
      left
      unfold Oper.wp
      rw [eval_envOf, hc]
      refine Calls.mono hf ?_
      rintro e w' ⟨v, rfl, hI, hF⟩
      exact ih _ _ _ (next v w' hI hF) hcount
def BStep (P : Program) (l : List Oper) (E : Env) (m : Nat) (I : Bool → World → Prop) (vs : List Value) (i : Nat) (o : Oper) : Prop :=
  ∀ f E' w', I f w' → (i = m → f = false) → (∀ t, noDst l t = true → E' t = E t) → (∀ k, hasPred o k = true → holdsV l vs k E') →
    Sure l.toArray o E' ∧ StepW P o E' w' fun v w'' => I (f || decide (i = m)) w'' ∧ vs[i]? = some v
def BSteps (P : Program) (l : List Oper) (E : Env) (m : Nat) (I : Bool → World → Prop) (vs : List Value) : Nat → List Oper → Prop
  | _, [] => True
  | i, o :: r => BStep P l E m I vs i o ∧ BSteps P l E m I vs (i + 1) r
theorem BSteps.get {P : Program} {l : List Oper} {E : Env} {m : Nat} {I : Bool → World → Prop} {vs : List Value} {i : Nat} {r : List Oper} (h : BSteps P l E m I vs i r) {j : Nat} {o : Oper} (hj : r[j]? = some o) : BStep P l E m I vs (i + j) o := by
  induction r generalizing i j with
  | nil => simp at hj
  | cons a r ih =>
    cases j with
    | zero => simp only [List.getElem?_cons_zero, Option.some.injEq] at hj; subst hj; exact h.1
    | succ j =>
      have := ih h.2 (j := j) (by simpa using hj)
      rwa [show i + 1 + j = i + (j + 1) from by omega] at this
theorem WP.anyB {P : Program} {n : Fsz} {id : Nat} {l : List Oper} {E : Env} {w : World} {N R : Env → World → Prop} {X : Nat → Env → World → Prop} (m : Nat) (I : Bool → World → Prop) (vs : List Value) (hm : P.follows .mixedOrders = true)
    (h1 : chkDst n l = true) (h2 : chkApart l = true) (h3 : chkBack l = true) (h4 : decide (m < l.length) = true) (hI : ∀ d, I false { w with drawn := d }) (steps : BSteps P l E m I vs 0 l)
    (fin : ∀ E' w', I true w' → (∀ t, noDst l t = true → E' t = E t) → (∀ i, i < l.length → holdsV l vs i E') → N E' w') : WP P n (.region id l.toArray true) ⟨N, X, R⟩ E w := by
  have hml : m < l.length := of_decide_eq_true h4
  have H : BOk P n l E m I vs := by
    refine ⟨?_, apart_of h2, back_of h3, ?_⟩
    · intro i o ho
      simp only [chkDst, List.all_eq_true] at h1
      exact h1 o (List.mem_of_getElem? ho)
    · intro i o ho f E' w' hf hfm hE hF
      have st := steps.get (j := i) ho
      rw [Nat.zero_add] at st
      refine st f E' w' hf hfm (fun t ht => hE t fun j hj => absurd hj (noDst_ne ht j)) ?_
      intro k hk
      simp only [hasPred, List.any_eq_true, Bool.and_eq_true, decide_eq_true_eq] at hk
      obtain ⟨e, he, hb, rfl⟩ := hk
      exact hF e he hb
  intro a ha he
  subst he
  refine wpIn_wide.2 (wp_region_any hm ?_)
  refine wpAnyB_of H hml (fun E' w' hI hE hF => fin E' w' hI (fun t ht => hE t (noDst_ne ht)) hF) _ _ _ _ ⟨by simp, ha, ?_, ?_, fun _ _ => rfl, ?_⟩ ?_
  · have e : (Array.replicate l.toArray.size false).getD m true = false := by
      rw [Array.getD_eq_getD_getElem?]; simp [hml]
    rw [e]; exact hI _
  · intro k o ho hl
    rw [Array.getD_eq_getD_getElem?] at hl
    have hk : k < l.length := lt_of_some ho
    simp [hk] at hl
  · intro k hk hl
    rw [Array.getD_eq_getD_getElem?] at hl
    simp [hk] at hl
  · have := List.length_filter_le (fun i => !(Array.replicate l.toArray.size false).getD i true) (List.range l.length)
    simpa [unl] using this
def Hid (b B : Nat) (X Y : List Nat) : Prop := ∀ y ∈ Y, y = b ∨ (B ≤ y ∧ y ∉ X)
theorem Ext.hid {O X Y : List Nat} {a c d : World} {b B : Nat} (h : Ext O a c) (k : Ext Y c d) (hY : Hid b B X Y) (hB : a.heap.size ≤ B) (hb : b ∈ O) : Ext O a d :=
  ⟨k.os.trans h.os, k.tape.trans h.tape, k.output.trans h.output, Nat.le_trans h.size k.size,
    fun i hi hx => (k.block i (Nat.lt_of_lt_of_le hi h.size) (fun hy => by
      rcases hY i hy with rfl | ⟨h1, _⟩
      · exact hx hb
      · omega)).trans (h.block i hi hx)⟩
theorem Box.hid {w w' : World} {c t b B : Nat} {X Y : List Nat} {cs : List Value} (h : Box w c t cs) (k : Ext Y w w') (hY : Hid b B X Y) (hb : c ≠ b) (hX : c ∈ X) : Box w' c t cs :=
  h.ext k fun hy => by
    rcases hY c hy with e | ⟨_, h2⟩
    · exact hb e
    · exact h2 hX
theorem Hid.trans {b B : Nat} {X Y Z : List Nat} (h : Hid b B X Y) (k : Hid b B X Z) : Hid b B X (Y ++ Z) := fun y hy => (List.mem_append.1 hy).elim (h y) (k y)
theorem Ext.both {Y Z : List Nat} {a b c : World} (h : Ext Y a b) (k : Ext Z b c) : Ext (Y ++ Z) a c :=
  (h.mono fun _ hk => List.mem_append.2 (.inl hk)).trans (k.mono fun _ hk => List.mem_append.2 (.inr hk))
theorem ownsRow_ext {w w' : World} {B e sz n : Nat} {v : Value} {cs : List Value} {Y : List Nat} (h : w.ownsRow B e sz v n cs) (k : Ext Y w w') (hno : ∀ g, v.ownBlock = some g → g ∉ Y) : w'.ownsRow B e sz v n cs := by
  obtain ⟨h0, h1⟩ := h
  refine ⟨h0, ?_⟩
  rcases h1 with h1 | ⟨g, cap, cur, hv, hB, hg, hr⟩
  · exact .inl h1
  · refine .inr ⟨g, cap, cur, hv, hB, ?_, hr⟩
    rw [k.block g (Blk.lt hg) (hno g (by subst hv; rfl))]; exact hg
def Bld (T e B : Nat) (X : List Nat) (w : World) (b : Nat) (s : ByteArray) : Prop :=
  (∀ x ∈ X, x < w.heap.size) ∧ ∃ p v, (p = .pointer none ∨ p = .pointer (some ⟨b, 0, none⟩)) ∧ Box w b T [p, v] ∧ w.ownsRow B e 1 v s.size (Lib.strCells s) ∧ v.oneCell' = true ∧ ∀ g, v.ownBlock = some g → g ≠ b ∧ g ∉ X
section
variable {T e B b : Nat} {X : List Nat} {w w' : World} {s : ByteArray}
theorem Bld.zero (h : Box w b T [.pointer none, .slice none 0 0]) (hX : ∀ x ∈ X, x < w.heap.size) : Bld T e B X w b (ByteArray.mk #[]) :=
  ⟨hX, _, _, .inl rfl, h, World.ownsRow_nil w B e 1, rfl, fun g hg => by cases hg⟩
theorem Bld.ext {Y : List Nat} (h : Bld T e B X w b s) (k : Ext Y w w') (hb : b ∉ Y) (hY : ∀ y ∈ Y, y ∈ X) : Bld T e B X w' b s := by
  obtain ⟨hX, p, v, hp, hbx, ho, h1, hg⟩ := h
  exact ⟨fun x hx => Nat.lt_of_lt_of_le (hX x hx) k.size, p, v, hp, hbx.ext k hb, ownsRow_ext ho k (fun g hv hy => (hg g hv).2 (hY g hy)), h1, hg⟩
theorem Bld.keep (h : Bld T e B X w b s) (k : Ext [] w w') : Bld T e B X w' b s := h.ext k (by simp) (fun y hy => by cases hy)
theorem Bld.new {c : Nat} (h : Bld T e B X w b s) (k : Ext [] w w') (h1 : w.heap.size ≤ c) (h2 : c < w'.heap.size) : Bld T e B (c :: X) w' b s := by
  obtain ⟨hX, p, v, hp, hbx, ho, h3, hg⟩ := h
  exact ⟨fun x hx => (List.mem_cons.1 hx).elim (fun e => e ▸ h2) (fun hx => Nat.lt_of_lt_of_le (hX x hx) k.size), p, v, hp, hbx.ext k (by simp), ownsRow_ext ho k (fun g _ hy => by cases hy), h3,
    fun g hv => ⟨(hg g hv).1, fun hm => (List.mem_cons.1 hm).elim (fun e => by have := (ho.lt g hv).2; omega) (hg g hv).2⟩⟩
theorem Bld.mono {Y : List Nat} (h : Bld T e B X w b s) (k : ∀ y ∈ Y, y ∈ X) : Bld T e B Y w b s := by
  obtain ⟨hX, p, v, hp, hbx, ho, h1, hg⟩ := h
  exact ⟨fun x hx => hX x (k x hx), p, v, hp, hbx, ho, h1, fun g hv => ⟨(hg g hv).1, fun hm => (hg g hv).2 (k g hm)⟩⟩
theorem Bld.lt (h : Bld T e B X w b s) : b < w.heap.size := by
  obtain ⟨_, p, v, hp, hbx, _⟩ := h
  exact hbx.lt
theorem Bld.cast {t : ByteArray} (h : Bld T e B X w b s) (k : s = t) : Bld T e B X w b t := k ▸ h
theorem Bld.put {v v' p : Value} {t : ByteArray} {w0 w1 w2 : World} (hX : ∀ x ∈ X, x < w0.heap.size) (hp : p = .pointer none ∨ p = .pointer (some ⟨b, 0, none⟩)) (hb : Box w2 b T [p, v']) (ho : w1.ownsRow B e 1 v' t.size (Lib.strCells t)) (h1 : v'.oneCell' = true)
    (hfr : ∀ g, v'.ownBlock = some g → v.ownBlock = some g ∨ w0.heap.size ≤ g) (hg : ∀ g, v.ownBlock = some g → g ≠ b ∧ g ∉ X) (hlt : b < w0.heap.size) (hx : Ext [b] w1 w2) (hsz : w0.heap.size ≤ w2.heap.size) : Bld T e B X w2 b t := by
  have hnb : ∀ g, v'.ownBlock = some g → g ≠ b ∧ g ∉ X := by
    intro g hv
    rcases hfr g hv with h | h
    · exact hg g h
    · exact ⟨by omega, fun hm => by have := hX g hm; omega⟩
  exact ⟨fun x hm => Nat.lt_of_lt_of_le (hX x hm) hsz, p, v', hp, hb, ownsRow_ext ho hx (fun g hv hm => (hnb g hv).1 (List.mem_singleton.1 hm)), h1, hnb⟩
end
theorem strCells_app (a b : ByteArray) : Lib.strCells a ++ Lib.strCells b = Lib.strCells (a ++ b) := by
  simp [Lib.strCells, ByteArray.data_append]
section
variable {P : Program} {n : Fsz} {ro : Option Nat} {Q : K} {E : Env} {w : World} {ops : Array Oper} {o : Oper} {rest : List Oper}
theorem WL.appendStr {t u e B m : Nat} {x y : Operand} {v : Value} {xs : List Value} {s : ByteArray} (hs : Sure ops o E) (hd : dstOk n o.dst = true) (ho : o.op = .call ⟨.builtin .append, #[x, y], #[t, u]⟩)
    (ht : P.underlying t = some (.slice e)) (hu : P.underlying u = some .string) (he : Elem P e (.int .u8 0) 1 1) (hx : ev E x = v) (hy : ev E y = .string s)
    (hown : w.ownsRow B e 1 v m xs) (hbytes : m + s.size ≤ 140737488355328) (hB : B ≤ w.heap.size)
    (k : ∀ v' w', w'.ownsRow B e 1 v' (m + s.size) (xs ++ Lib.strCells s) → w.grownBy w' v.ownBlock → (∀ g, v'.ownBlock = some g → v.ownBlock = some g ∨ w.heap.size ≤ g) → v'.oneCell' = true → WLr ro P n ops Q rest (updO E o.dst v') w') : WLr ro P n ops Q (o :: rest) E w := by
  obtain ⟨i, hi, hz0, hz1, hz2⟩ := info_parts he
  obtain ⟨v', w', hr, h2, h3, _⟩ := Lib.run_append_own_string (P := P) w B t u o.type e i ht hu hi hz0 hz1 hz2 v m xs hown s (by simp only [maxLen]; omega) hbytes hB
  have hfresh : ∀ g, v'.ownBlock = some g → v.ownBlock = some g ∨ w.heap.size ≤ g := by
    intro g hg
    rcases hown.2 with ⟨hv, h0⟩ | ⟨g0, cap, cur, hv, hBg, hg0, hnc, hcm, hcs, htake⟩
    · subst hv
      have hc0 : xs = [] := List.eq_nil_of_length_eq_zero (by rw [hown.1, h0])
      subst hc0
      obtain ⟨v2, w2, hr2, ho2, _⟩ := Lib.run_append_own_string (P := P) w w.heap.size t u o.type e i ht hu hi hz0 hz1 hz2 (.slice none 0 0) m [] ⟨by rw [h0]; simp, .inl ⟨rfl, h0⟩⟩ s (by simp only [maxLen]; omega) hbytes (Nat.le_refl _)
      rw [hr] at hr2
      cases hr2
      exact .inr (ho2.lt g hg).1
    · by_cases hroom : m + s.size ≤ cap
      · subst hv
        have hr2 := Lib.run_append_room_string (P := P) w t u o.type e i ht hu hi hz1 g0 m cap cur hg0 s hroom (by rw [hcs]; omega)
        rw [hr] at hr2
        cases hr2
        exact .inl hg
      · subst hv
        have holds : ∀ j u, xs[j]? = some u → w.cell? ((⟨g0, 0, none⟩ : Addr).add j) = some u := hown.cells (g := g0) rfl
        have hr2 := Lib.run_append_grow_string (P := P) w t u o.type e i (.int .u8 0) ht hu hi hz0 ⟨g0, 0, none⟩ m cap xs (by rw [hz1]; exact hown.1) holds s (by omega) (by omega) (by rw [hz2]; exact growslice_fits (by omega) (by omega))
        rw [hr] at hr2
        cases hr2
        simp only [Value.ownBlock, Option.some.injEq] at hg
        exact .inr (by omega)
  have h1 : v'.oneCell' = true := by
    rcases h2.2 with ⟨hv, _⟩ | ⟨g, cap, cur, hv, _⟩ <;> subst hv <;> rfl
  refine WL.x (u := v') (w' := w') hs hd (.inl ?_) (k v' w' h2 h3 hfresh h1)
  simp only [execOp, ho, resolve]
  have e' : #[x, y].map (ev E) = #[v, .string s] := by simp [hx, hy]
  rw [e']
  exact run_v hr
end
section
variable {P : Program} {E : Env} {w : World} {o : Oper}
theorem V.eqlNil {t te u sz : TypeId} {x y : Operand} (ho : o.op = .binOp .eql t x y u) (ht : P.underlying t = some (.pointer te)) (hz : Sized P te sz) (hx : ev E x = .pointer none) (hy : ev E y = .pointer none) : OpV P o E w (.bool true) := by
  obtain ⟨j, hj, hjs⟩ := Option.map_eq_some_iff.1 hz
  have h : ∀ d : Nat, (Op.equalIn (d + 1) t (.pointer none) (.pointer none)).run P w = .ok true w := fun d => by
    simp [Op.equalIn, run_underlying ht, sizeOf, typeInfo, hj]
  have key : (binOp .eql t (.pointer none) (.pointer none)).run P w = .ok (.bool true) w := by
    simp only [binOp]; simp [Op.equal, Op.maxDepth, h 9999]
  simp [OpV, execOp, ho, hx, hy, go_sem, eqGuard, key]
theorem V.eqlSome {t te u sz : TypeId} {x y : Operand} {a : Addr} (ho : o.op = .binOp .eql t x y u) (ht : P.underlying t = some (.pointer te)) (hz : Sized P te sz) (hx : ev E x = .pointer (some a)) (hy : ev E y = .pointer none) : OpV P o E w (.bool false) := by
  obtain ⟨j, hj, hjs⟩ := Option.map_eq_some_iff.1 hz
  have h : ∀ d : Nat, (Op.equalIn (d + 1) t (.pointer (some a)) (.pointer none)).run P w = .ok false w := fun d => by
    simp [Op.equalIn, run_underlying ht, sizeOf, typeInfo, hj]
  have key : (binOp .eql t (.pointer (some a)) (.pointer none)).run P w = .ok (.bool false) w := by
    simp only [binOp]; simp [Op.equal, Op.maxDepth, h 9999]
  simp [OpV, execOp, ho, hx, hy, go_sem, eqGuard, key]
theorem V.neqSame {t te u sz : TypeId} {x y : Operand} {a : Addr} (ho : o.op = .binOp .neq t x y u) (ht : P.underlying t = some (.pointer te)) (hz : Sized P te sz) (hx : ev E x = .pointer (some a)) (hy : ev E y = .pointer (some a)) : OpV P o E w (.bool false) := by
  obtain ⟨j, hj, hjs⟩ := Option.map_eq_some_iff.1 hz
  have key := Lib.run_neq_ptr_same (P := P) w a ht hj
  simp [OpV, execOp, ho, hx, hy, go_sem, eqGuard, key]
theorem Box.shape {b t : Nat} {cs : List Value} (h : Box w b t cs) : w.shape? b = some (t, cs.length) := by
  have h' : w.heap[b]? = some (.cells cs.toArray t (0, 0)) := h
  simp [World.shape?, h']
theorem V.toUnsafe {s d t T sz b i : Nat} {x : Operand} {cs : List Value} (ho : o.op = .convert s d x) (hs : P.underlying s = some (.pointer t)) (hd : P.underlying d = some .unsafePointer) (hz : Sized P t sz) (h0 : sz ≠ 0)
    (hx : ev E x = .pointer (some ⟨b, i, none⟩)) (hb : Box w b T cs) (hi : i < cs.length) : OpV P o E w (.pointer (some ⟨b, i, none⟩)) := by
  obtain ⟨j, hj, rfl⟩ := Option.map_eq_some_iff.1 hz
  have key := Lib.run_to_unsafe (P := P) w ⟨b, i, none⟩ hs hd hj h0 hb.shape hi
  simp [OpV, execOp, ho, hx, go_sem, key]
theorem V.fromUnsafe {s d u T sz b i : Nat} {x : Operand} {cs : List Value} (ho : o.op = .convert s d x) (hs : P.underlying s = some .unsafePointer) (hd : P.underlying d = some (.pointer u)) (hz : Sized P u sz)
    (hx : ev E x = .pointer (some ⟨b, i, none⟩)) (hb : Box w b T cs) (hl : liesAt P P.depth T (cs.length / P.cellsOf T) i u 1 = true) : OpV P o E w (.pointer (some ⟨b, i, none⟩)) := by
  obtain ⟨j, hj, rfl⟩ := Option.map_eq_some_iff.1 hz
  have key := Lib.run_from_unsafe (P := P) w ⟨b, i, none⟩ hs hd hj hb.shape hl
  simp [OpV, execOp, ho, hx, go_sem, key]
theorem V.noEscape {f : FuncId} {fn : Func} {x : Operand} {v : Value} {tys : Array TypeId} (ho : o.op = .call ⟨.value (.func f), #[x], tys⟩) (hf : P.funcs[f]? = some fn) (hname : (fn.name == "runtime.NumGoroutine") = false) (hb : fn.body.isNone = true) (hn : Extern.findNext fn = none) (he : Extern.find fn = some Extern.AbiNoEscape.same)
    (hx : ev E x = v) : OpV P o E w v := by
  have key := run_callFunc_extern (P := P) hf hname hb hn he #[v] w
  rw [Lib.run_noEscape] at key
  simp only [Result.andThen_ok] at key
  simp only [OpV, execOp, ho, resolve]
  have e' : #[x].map (ev E) = #[v] := by simp [hx]
  rw [e']
  exact key
theorem V.sliceData {t : TypeId} {x : Operand} {a : Addr} {m c : Nat} (ho : o.op = .call ⟨.builtin .unsafeSliceData, #[x], #[t]⟩) (hx : ev E x = .slice (some a) m c) (hc : c ≠ 0) : OpV P o E w (.pointer (some a)) := by
  have key := Lib.run_unsafeSliceData_row (P := P) w #[t] o.type a m c hc
  simp only [OpV, execOp, ho, resolve]
  have e' : #[x].map (ev E) = #[.slice (some a) m c] := by simp [hx]
  rw [e']
  exact run_v key
theorem X.unsafeStr {pt it e g cap m : Nat} {x y : Operand} {cur : Array Value} {s : ByteArray} (ho : o.op = .call ⟨.builtin .unsafeString, #[x, y], #[pt, it]⟩) (hp : P.underlying pt = some (.pointer e)) (hc : P.cellsOf e = 1)
    (hx : ev E x = .pointer (some ⟨g, 0, none⟩)) (hy : ev E y = .int .i64 (m : Int)) (hg : w.heap[g]? = some (.cells cur e (0, 0))) (hm : m = s.size) (h0 : m ≠ 0) (h1 : m ≤ cap) (h2 : cap ≤ maxLen) (h3 : cur.size = cap * 1) (h4 : cur.toList.take (m * 1) = Lib.strCells s) :
    OpX P o E w (.string s) (w.freeze ⟨g, 0, none⟩ m) := by
  subst hm
  have hl : s.data.toList.length = s.size := by rw [Array.length_toList]; rfl
  have hlen : s.size ≤ 9223372036854775807 := by simp only [maxLen] at h2; omega
  have key := Lib.run_unsafeString_row (P := P) w pt it o.type e hp hc g cur.size (by simp [World.shape?, hg]) s.data.toList (by intro h; rw [h] at hl; exact h0 hl.symm) (by omega) (by omega) (by
    intro j c hj
    have hjl : j < s.data.toList.length := by
      rcases Nat.lt_or_ge j s.data.toList.length with h | h
      · exact h
      · rw [List.getElem?_eq_none h] at hj; cases hj
    have hc' : (Lib.strCells s)[j]? = some (.int .u8 c.toNat) := by simp [Lib.strCells, hj]
    rw [← h4, List.getElem?_take] at hc'
    split at hc'
    · rw [Array.getElem?_toList] at hc'
      rw [addr_add]
      simp [World.cell?, hg, hc']
    · cases hc')
  rw [hl] at key
  refine .inl ?_
  simp only [execOp, ho, resolve]
  have e' : #[x, y].map (ev E) = #[.pointer (some ⟨g, 0, none⟩), .int .i64 (s.size : Int)] := by simp [hx, hy]
  rw [e']
  exact run_v key
theorem Ext.freeze (w : World) (g m : Nat) : Ext [g] w (w.freeze ⟨g, 0, none⟩ m) := by
  unfold World.freeze
  split
  · exact Ext.refl _ _
  · refine ⟨rfl, rfl, rfl, by simp, fun k _ hk => ?_⟩
    simp only [Array.getElem?_modify]
    rw [if_neg (fun e => hk (by simp [e]))]
end
section
variable {P : Program} {n : Fsz} {ro : Option Nat} {Q : K} {E : Env} {w : World} {ops : Array Oper} {o : Oper} {rest : List Oper}
theorem WL.appendOne {t e B m h d : Nat} {x y : Operand} {v c : Value} {xs : List Value} (hs : Sure ops o E) (hd : dstOk n o.dst = true) (ho : o.op = .call ⟨.builtin .append, #[x, y], #[t, t]⟩)
    (ht : P.underlying t = some (.slice e)) (he : Elem P e (.int .u8 0) 1 1) (hx : ev E x = v) (hy : ev E y = .slice (some ⟨h, 0, none⟩) 1 d) (hbx : Box w h e [c]) (hc : c.oneCell' = true)
    (hown : w.ownsRow B e 1 v m xs) (hbytes : m + 1 ≤ 140737488355328) (hB : B ≤ w.heap.size)
    (k : ∀ v' w', w'.ownsRow B e 1 v' (m + 1) (xs ++ [c]) → w.grownBy w' v.ownBlock → (∀ g, v'.ownBlock = some g → v.ownBlock = some g ∨ w.heap.size ≤ g) → v'.oneCell' = true → WLr ro P n ops Q rest (updO E o.dst v') w') : WLr ro P n ops Q (o :: rest) E w := by
  obtain ⟨i, hi, hz0, hz1, hz2⟩ := info_parts he
  have hcells : ∀ j u, [c][j]? = some u → w.cell? ((⟨h, 0, none⟩ : Addr).add j) = some u := (At.box hbx).cells
  have hone : ∀ u ∈ [c], u.oneCell' = true := by intro u hu; rw [List.mem_singleton] at hu; subst hu; exact hc
  have hz : (Value.int IntKind.u8 0).cells.size = 1 := rfl
  obtain ⟨v', w', hr, h2, h3, _⟩ := run_append_own (P := P) w B t o.type e i (.int .u8 0) 1 1 ht hi hz0 hz1 hz2 hz (by decide) v m xs hown ⟨h, 0, none⟩ 1 d [c] rfl hcells hone (by simp only [maxLen]; omega) (by omega) hB
  have hfresh : ∀ g, v'.ownBlock = some g → v.ownBlock = some g ∨ w.heap.size ≤ g := by
    intro g hg
    rcases hown.2 with ⟨hv, h0⟩ | ⟨g0, cap, cur, hv, hBg, hg0, hnc, hcm, hcs, htake⟩
    · subst hv
      have hc0 : xs = [] := List.eq_nil_of_length_eq_zero (by rw [hown.1, h0])
      subst hc0
      obtain ⟨v2, w2, hr2, ho2, _⟩ := run_append_own (P := P) w w.heap.size t o.type e i (.int .u8 0) 1 1 ht hi hz0 hz1 hz2 hz (by decide) (.slice none 0 0) m [] ⟨by rw [h0]; simp, .inl ⟨rfl, h0⟩⟩ ⟨h, 0, none⟩ 1 d [c] rfl hcells hone (by simp only [maxLen]; omega) (by omega) (Nat.le_refl _)
      rw [hr] at hr2
      cases hr2
      exact .inr (ho2.lt g hg).1
    · by_cases hroom : m + 1 ≤ cap
      · subst hv
        have hr2 := run_append_room (P := P) w t o.type e i ht hi g0 m cap cur hg0 ⟨h, 0, none⟩ 1 d [c] (by rw [hz1]; rfl) hcells hone hroom (by rw [hz1, hcs]; simp only [List.length_cons, List.length_nil]; omega)
        rw [hr] at hr2
        cases hr2
        exact .inl hg
      · subst hv
        have holds : ∀ j u, xs[j]? = some u → w.cell? ((⟨g0, 0, none⟩ : Addr).add j) = some u := hown.cells (g := g0) rfl
        have hr2 := run_append_grow (P := P) w t o.type e i (.int .u8 0) ht hi hz0 ⟨g0, 0, none⟩ m cap xs (by rw [hz1]; exact hown.1) holds ⟨h, 0, none⟩ 1 d [c] (by rw [hz1]; rfl) hcells (by omega) (by omega) (growslice_fits (by omega) (by rw [hz2]; omega))
        rw [hr] at hr2
        cases hr2
        simp only [Value.ownBlock, Option.some.injEq] at hg
        exact .inr (by omega)
  have h1 : v'.oneCell' = true := by
    rcases h2.2 with ⟨hv, _⟩ | ⟨g, cap, cur, hv, _⟩ <;> subst hv <;> rfl
  refine WL.x (u := v') (w' := w') hs hd (.inl ?_) (k v' w' h2 h3 hfresh h1)
  simp only [execOp, ho, resolve]
  have e' : #[x, y].map (ev E) = #[v, .slice (some ⟨h, 0, none⟩) 1 d] := by simp [hx, hy]
  rw [e']
  exact run_v hr
end
theorem grown_ext {w w' : World} {v : Value} (h : w.grownBy w' v.ownBlock) : Ext (rowOf v) w w' := by
  refine Ext.of_grown h fun k hk => ?_
  simp [rowOf, hk]
theorem rowOf_hid {w : World} {e B b : Nat} {X : List Nat} {v : Value} {n : Nat} {cs : List Value} (h : w.ownsRow B e 1 v n cs) (hg : ∀ g, v.ownBlock = some g → g ≠ b ∧ g ∉ X) : Hid b B X (rowOf v) := by
  intro y hy
  unfold rowOf at hy
  cases ho : v.ownBlock with
  | none => rw [ho] at hy; cases hy
  | some g =>
    rw [ho, List.mem_singleton] at hy
    subst hy
    exact .inr ⟨(h.lt y ho).1, (hg y ho).2⟩
theorem not_rowOf {b : Nat} {v : Value} (hg : ∀ g, v.ownBlock = some g → g ≠ b) : b ∉ rowOf v := by
  intro hm
  unfold rowOf at hm
  cases hv : v.ownBlock with
  | none => rw [hv] at hm; cases hm
  | some g => rw [hv, List.mem_singleton] at hm; exact hg g hv hm.symm
theorem Hid.one (b B : Nat) (X : List Nat) : Hid b B X [b] := fun _ hy => .inl (List.mem_singleton.1 hy)
theorem Hid.none (b B : Nat) (X : List Nat) : Hid b B X [] := fun _ hy => by cases hy
theorem V.indexVal {P : Program} {E : Env} {w : World} {o : Oper} {t e len : Nat} {x i : Operand} {cs : Array Value} {ik : IntKind} {j : Int} {m : Nat} {u : Value} (ho : o.op = .index t x i) (ht : P.underlying t = some (.array len e)) (hp : Plain P e) (hz : Sized P e 1)
    (hx : ev E x = .agg cs) (hi : ev E i = .int ik j) (hj : j = (m : Int)) (hm : m < len) (hu : cs[m]? = some u) : OpV P o E w u := by
  subst hj
  have h1 : (m : Int) < (len : Int) := by omega
  simp [OpV, execOp, ho, hx, hi, go_sem, Instr.index, underlying, ht, asIntOf, h1, part, is_agg_no hp, size_of hz, hu]
  intro h2; omega
theorem arr_get {k : IntKind} {L : List Int} {m : Nat} (h : m < L.length) : ((L.map (Value.int k)).toArray)[m]? = some (.int k (L.getD m 0)) := by
  simp [List.getD_eq_getElem?_getD, List.getElem?_eq_getElem h]
def BI (T e B : Nat) (X : List Nat) (w : World) (b : Nat) (s t : ByteArray) (f : Bool) (w' : World) : Prop := (∃ Y, Ext Y w w' ∧ Hid b B X Y) ∧ Bld T e B X w' b (if f = true then s ++ t else s)
theorem BI.start {T e B b : Nat} {X : List Nat} {w : World} {s t : ByteArray} (h : Bld T e B X w b s) (d : Nat) : BI T e B X w b s t false { w with drawn := d } := by
  have hx : Ext [] w { w with drawn := d } := ⟨rfl, rfl, rfl, Nat.le_refl _, fun _ _ _ => rfl⟩
  exact ⟨⟨[], hx, Hid.none b B X⟩, h.keep hx⟩
theorem BI.keep {T e B b : Nat} {X : List Nat} {w w' w'' : World} {s t : ByteArray} {f : Bool} (h : BI T e B X w b s t f w') (k : Ext [] w' w'') : BI T e B X w b s t f w'' := by
  obtain ⟨⟨Y, hY, hh⟩, hb⟩ := h
  exact ⟨⟨_, hY.both k, hh.trans (Hid.none b B X)⟩, hb.keep k⟩
theorem BI.write {T e B b : Nat} {X Y : List Nat} {w w' w'' : World} {s t : ByteArray} (h : BI T e B X w b s t false w') (k : Ext Y w' w'') (hh : Hid b B X Y) (hb : Bld T e B X w'' b (s ++ t)) : BI T e B X w b s t true w'' := by
  obtain ⟨⟨Z, hZ, hz⟩, _⟩ := h
  exact ⟨⟨_, hZ.both k, hz.trans hh⟩, hb⟩
theorem mk_app (a : ByteArray) : ByteArray.mk #[] ++ a = a := by
  apply ByteArray.ext; simp [ByteArray.data_append]
end Go.Proofs.Ytbpamkbegggeoaa.W
namespace Go.Proofs.Ytbpamkbegggeoaa.W
open Go.RowKit
theorem uponIn_exits {F : Fence} {n : Nat} {P : Program} {o : Oper} {a : Act} {next : Act → World → Prop} {Q Q' : Exit → Act → World → Prop} (hp : ∀ c a w, Q (.panic c) a w → Q' (.panic c) a w) (hl : LetsOut Q → LetsOut Q')
    {r : Result Next} (h : o.uponIn F n P a next Q r) : o.uponIn F n P a next Q' r := by
  cases r with
  | ok x w =>
    cases x <;> simp only [Oper.uponIn] at h ⊢ <;> first
      | exact h
      | exact ⟨h.1, CallsIn.mono h.2 fun e w he => by cases e <;> first | exact he | exact hp _ _ _ he | exact hl he⟩
      | exact ⟨h.1, RoundIn.mono h.2 fun e w he => by cases e <;> first | exact he | exact hp _ _ _ he | exact hl he⟩
  | halt x w => cases x <;> simp only [Oper.uponIn] at h ⊢ <;> first | exact h | exact hp _ _ _ h
theorem op_any {P : Program} {n : Fsz} {ops : Array Oper} {i : Nat} {o : Oper} {Q Q' : K} {Kp : Act → World → Prop} {a : Act} {w : World} (hi : ops[i]? = some o) (ha : Ok n a) (h : WL P n ops Q [o] (envOf a) w)
    (hk : ∀ a' w', Ok n a' → Q.norm (envOf a') w' → Kp a' w') : wpOpIn (Fr none) 1 P ops (lift n Q') i Kp a w := by
  have h := h a ha rfl
  unfold wpListIn at h
  unfold wpOpIn
  simp only [hi]
  have hn : ∀ a' w', wpListIn (Fr none) 1 P ops (lift n Q) [] a' w' → Kp a' w' := fun a' w' hq => hk a' w' hq.1 hq.2
  split
  · rename_i hw
    rw [if_pos hw] at h
    have h := Oper.wpIn_mono hn h
    refine ⟨h.1, uponIn_exits ?_ ?_ h.2⟩
    · intro c a w hq; exact hq.2.elim
    · rintro ⟨a, w, hq⟩; exact hq.2.elim
  · rename_i hw
    rw [if_neg hw] at h
    exact ⟨h.1, hn _ _ h.2⟩
def predB (l : List Oper) (j i : Nat) : Bool := match l[j]? with
  | some o => hasPred o i
  | none => false
def Vis (l : List Oper) (o : Oper) (Ec E' : Env) : Prop := (∀ t, noDst l t = true → E' t = Ec t) ∧ ∀ k, hasPred o k = true → ∀ d, dstAt l k = some d → E' d = Ec d
def Chain (P : Program) (n : Fsz) (l : List Oper) (N : Env → World → Prop) (C : World → Prop) (lim : Nat) : List Nat → Nat → Env → World → Prop
  | [], _, Ec, w => N Ec w
  | i :: r, s, Ec, w => (s ≤ lim → C w) ∧ ∃ o, l[i]? = some o ∧ ∀ E', Vis l o Ec E' → WL P n l.toArray ⟨fun E'' w'' => ∃ v, E'' = updO E' o.dst v ∧ Chain P n l N C lim r (s + 1) (updO Ec o.dst v) w'', fun _ _ _ => False, fun _ _ => False⟩ [o] E' w
theorem Chain.step {P : Program} {n : Fsz} {l : List Oper} {N : Env → World → Prop} {C : World → Prop} {lim i : Nat} {r : List Nat} {s : Nat} {Ec : Env} {w : World} {o : Oper} (ho : l[i]? = some o) (hc : s ≤ lim → C w)
    (h : ∀ E', (∀ t, noDst l t = true → E' t = Ec t) → (∀ k, hasPred o k = true → ∀ d, dstAt l k = some d → E' d = Ec d) → WL P n l.toArray ⟨fun E'' w'' => ∃ v, E'' = updO E' o.dst v ∧ Chain P n l N C lim r (s + 1) (updO Ec o.dst v) w'', fun _ _ _ => False, fun _ _ => False⟩ [o] E' w) : Chain P n l N C lim (i :: r) s Ec w :=
  ⟨hc, o, ho, fun E' hv => h E' hv.1 hv.2⟩
def Offs (P : Program) (l : List Oper) (E : Env) (C : World → Prop) (all : List (Nat × Value)) : List (Nat × Value) → Prop
  | [] => True
  | (i, v) :: r => (∃ o, l[i]? = some o ∧ ∀ E' w', C w' → (∀ t, noDst l t = true → E' t = E t) → (∀ k, hasPred o k = true → ∀ d u, dstAt l k = some d → all.lookup k = some u → E' d = u) → Sure l.toArray o E' ∧ OpV P o E' w' v) ∧ Offs P l E C all r
theorem Offs.get {P : Program} {l : List Oper} {E : Env} {C : World → Prop} {all : List (Nat × Value)} : ∀ {vs : List (Nat × Value)}, Offs P l E C all vs → ∀ {i v}, vs.lookup i = some v →
    ∃ o, l[i]? = some o ∧ ∀ E' w', C w' → (∀ t, noDst l t = true → E' t = E t) → (∀ k, hasPred o k = true → ∀ d u, dstAt l k = some d → all.lookup k = some u → E' d = u) → Sure l.toArray o E' ∧ OpV P o E' w' v
  | [], _, _, _, h => by simp at h
  | (j, u) :: r, ho, i, v, h => by
    rw [List.lookup_cons] at h
    split at h
    · rename_i e
      have e : i = j := by simpa using e
      cases h; subst e; exact ho.1
    · exact Offs.get ho.2 h
def chkChain (l : List Oper) (es : List Nat) (lim : Nat) (vs : List (Nat × Value)) : Bool :=
  ((List.range es.length).all fun a => (List.range es.length).all fun b => decide (a = b) || !(es[a]? == es[b]?)) &&
  ((List.range es.length).all fun a => match es[a]?, es[a + 1]? with
    | some i, some j => predB l j i
    | _, _ => true) &&
  ((List.range l.length).all fun i => es.contains i || ((vs.lookup i).isSome && (List.range (lim + 1)).any fun k => match es[k]? with
    | some j => predB l j i
    | none => false)) &&
  es.all fun i => (vs.lookup i).isNone && decide (i < l.length)
structure SInv (P : Program) (n : Fsz) (l : List Oper) (E : Env) (N : Env → World → Prop) (C : World → Prop) (es : List Nat) (lim : Nat) (vs : List (Nat × Value)) (listed : Array Bool) (a : Act) (w : World) (s : Nat) (Ec : Env) : Prop where
  size : listed.size = l.length
  ok : Ok n a
  closed : ∀ k o, l[k]? = some o → listed.getD k true = true → ∀ e ∈ o.after.toList, Region.binds .any e = true → listed.getD e.on true = true
  le : s ≤ es.length
  at' : ∀ k i, es[k]? = some i → listed.getD i true = decide (k < s)
  ch : Chain P n l N C lim (es.drop s) s Ec w
  offs : ∀ i v d, vs.lookup i = some v → dstAt l i = some d → Ec d = v
  base : ∀ t, noDst l t = true → Ec t = E t
  base' : ∀ t, noDst l t = true → envOf a t = E t
  facts : ∀ k d, dstAt l k = some d → listed.getD k true = true → envOf a d = Ec d
theorem allS_listed {l : List Oper} (hback : ∀ (i : Nat) (o : Oper), l[i]? = some o → ∀ e ∈ o.after.toList, Region.binds .any e = true → e.on < i) {listed : Array Bool} (hsize : listed.size = l.length)
    (h : Region.ready .any l.toArray listed = []) : ∀ k, k < l.length → listed.getD k true = true := by
  intro k
  induction k using Nat.strongRecOn with
  | _ k ih =>
    intro hk
    cases hl : listed.getD k true with
    | true => rfl
    | false =>
      have ho : l[k]? = some l[k] := List.getElem?_eq_getElem hk
      have : k ∈ Region.ready .any l.toArray listed := mem_ready.2 ⟨by simpa using hk, hl, l[k], by simp [ho], fun e he hb => by
        have hlt := hback k _ ho e he hb
        have := ih e.on hlt (by omega)
        have hsz : e.on < listed.size := by omega
        rw [Array.getD_eq_getD_getElem?, Array.getElem?_eq_getElem hsz] at this ⊢
        exact this⟩
      rw [h] at this; cases this
theorem hasPred_get {o : Oper} {k : Nat} (h : hasPred o k = true) : ∃ e ∈ o.after.toList, Region.binds .any e = true ∧ e.on = k := by
  simp only [hasPred, List.any_eq_true, Bool.and_eq_true, decide_eq_true_eq] at h
  obtain ⟨e, he, hb, h⟩ := h
  exact ⟨e, he, hb, h⟩
theorem noDst_or {l : List Oper} (t : Nat) : noDst l t = true ∨ ∃ j, dstAt l j = some t := by
  cases h : noDst l t with
  | true => exact .inl rfl
  | false =>
    right
    simp only [noDst, List.all_eq_false, List.mem_range, Bool.not_eq_true, Bool.not_eq_false'] at h
    obtain ⟨j, _, h⟩ := h
    exact ⟨j, by simpa using h⟩
theorem wpAnyS_of {P : Program} {n : Fsz} {l : List Oper} {E : Env} {N R : Env → World → Prop} {X : Nat → Env → World → Prop} {C : World → Prop} {es : List Nat} {lim : Nat} {vs : List (Nat × Value)}
    (hdst : ∀ (i : Nat) (o : Oper), l[i]? = some o → dstOk n o.dst = true) (hap : ∀ (i j d : Nat), dstAt l i = some d → dstAt l j = some d → i = j)
    (hback : ∀ (i : Nat) (o : Oper), l[i]? = some o → ∀ e ∈ o.after.toList, Region.binds .any e = true → e.on < i)
    (hinj : ∀ (a b i : Nat), es[a]? = some i → es[b]? = some i → a = b) (hcons : ∀ (a i j : Nat), es[a]? = some i → es[a + 1]? = some j → predB l j i = true)
    (hall : ∀ i, i < l.length → i ∈ es ∨ (∃ v, vs.lookup i = some v) ∧ ∃ k j, k ≤ lim ∧ es[k]? = some j ∧ predB l j i = true) (hno : ∀ i ∈ es, vs.lookup i = none ∧ i < l.length) (off : Offs P l E C vs vs) :
    ∀ (fuel : Nat) (listed : Array Bool) (a : Act) (w : World) (s : Nat) (Ec : Env), SInv P n l E N C es lim vs listed a w s Ec → (unl l.length listed).length ≤ fuel → wpAnyIn (Fr none) 1 P .any l.toArray (lift n ⟨N, X, R⟩) fuel listed a w := by
  have done : ∀ listed a w s Ec, SInv P n l E N C es lim vs listed a w s Ec → Region.ready .any l.toArray listed = [] → lift n ⟨N, X, R⟩ .normal a w := by
    intro listed a w s Ec V h
    have hl := allS_listed hback V.size h
    have hs : s = es.length := by
      rcases Nat.lt_or_ge s es.length with h1 | h1
      · have h2 : es[s]? = some es[s] := List.getElem?_eq_getElem h1
        have h3 := V.at' s _ h2
        rw [hl _ (hno _ (List.getElem_mem h1)).2] at h3
        simp at h3
      · exact Nat.le_antisymm V.le h1
    have hc := V.ch
    rw [hs, List.drop_length] at hc
    have he : envOf a = Ec := by
      funext t
      rcases noDst_or (l := l) t with ht | ⟨j, hj⟩
      · rw [V.base' t ht, V.base t ht]
      · exact V.facts j t hj (hl j (lt_of_dst hj))
    exact ⟨V.ok, by rw [he]; exact hc⟩
  intro fuel
  induction fuel with
  | zero =>
    intro listed a w s Ec V hu
    have hnil : Region.ready .any l.toArray listed = [] := by
      rw [List.eq_nil_iff_forall_not_mem]
      intro i hi
      obtain ⟨h1, h2, _⟩ := mem_ready.1 hi
      have : i ∈ unl l.length listed := by simp only [unl, List.mem_filter, List.mem_range, h2]; exact ⟨by simpa using h1, rfl⟩
      rw [List.eq_nil_of_length_eq_zero (by omega : (unl l.length listed).length = 0)] at this
      cases this
    exact ⟨hnil, done _ _ _ _ _ V hnil⟩
  | succ fuel ih =>
    intro listed a w s Ec V hu
    refine ⟨done _ _ _ _ _ V, fun i hi => ?_⟩
    obtain ⟨h1, h2, o, ho, h3⟩ := mem_ready.1 hi
    have h1' : i < l.length := by simpa using h1
    have ho' : l[i]? = some o := by simpa using ho
    have hdi : dstAt l i = o.dst := by simp [dstAt, ho']
    have hpre : ∀ e ∈ o.after.toList, Region.binds .any e = true → e.on < l.length ∧ listed.getD e.on true = true := by
      intro e he hb
      have hlt := hback i o ho' e he hb
      have := h3 e he hb
      have hsz : e.on < listed.size := by rw [V.size]; omega
      rw [Array.getD_eq_getD_getElem?, Array.getElem?_eq_getElem hsz] at this
      exact ⟨by omega, by rw [Array.getD_eq_getD_getElem?, Array.getElem?_eq_getElem hsz]; exact this⟩
    have hcount : (unl l.length (listed.setIfInBounds i true)).length ≤ fuel := by
      have := unl_set (listed := listed) V.size h1' h2; omega
    have hclosed : ∀ k ok, l[k]? = some ok → (listed.setIfInBounds i true).getD k true = true → ∀ e ∈ ok.after.toList, Region.binds .any e = true → (listed.setIfInBounds i true).getD e.on true = true := by
      intro k ok hok hl e he hb
      rw [getD_set] at hl ⊢
      split
      · rfl
      · split at hl
        · rename_i hik; obtain ⟨rfl, _⟩ := hik
          rw [ho'] at hok; cases hok
          exact (hpre e he hb).2
        · exact V.closed k ok hok hl e he hb
    have hbase : ∀ t, noDst l t = true → ∀ (E1 : Env) v, updO E1 o.dst v t = E1 t := by
      intro t ht E1 v
      cases hd : o.dst with
      | none => rfl
      | some d => exact upd_ne _ _ _ _ (fun e => noDst_ne ht i (by rw [hdi, hd, e]))
    have hother : ∀ k d, k ≠ i → dstAt l k = some d → ∀ (E1 : Env) v, updO E1 o.dst v d = E1 d := by
      intro k d hk hd E1 v
      cases hd' : o.dst with
      | none => rfl
      | some d' => exact upd_ne _ _ _ _ (fun e => hk (hap k i d hd (by rw [hdi, hd', e])))
    by_cases hie : i ∈ es
    · 
      obtain ⟨p, hp, hpe⟩ := List.mem_iff_getElem.1 hie
      have hpi : es[p]? = some i := by rw [List.getElem?_eq_getElem hp, hpe]
      have hps := V.at' p i hpi
      rw [h2] at hps
      have hps : ¬ p < s := by simpa using hps.symm
      have hsp : p = s := by
        rcases Nat.lt_or_ge s p with h | h
        · have hp1 : es[p - 1]? = some es[p - 1] := List.getElem?_eq_getElem (by omega)
          have hpr := hcons (p - 1) _ i hp1 (by rw [show p - 1 + 1 = p from by omega]; exact hpi)
          simp only [predB, ho'] at hpr
          obtain ⟨e, he, hb, heq⟩ := hasPred_get hpr
          have h5 := (hpre e he hb).2
          rw [heq, V.at' (p - 1) _ hp1] at h5
          have : p - 1 < s := by simpa using h5
          omega
        · omega
      subst hsp
      have hdrop : es.drop p = i :: es.drop (p + 1) := by rw [List.drop_eq_getElem_cons hp, hpe]
      have hch := V.ch
      rw [hdrop] at hch
      obtain ⟨_, o', ho2, hW⟩ := hch
      rw [ho'] at ho2
      cases ho2
      refine op_any ho V.ok (hW (envOf a) ⟨fun t ht => (V.base' t ht).trans (V.base t ht).symm, fun k hk d hd => ?_⟩) ?_
      · obtain ⟨e, he, hb, rfl⟩ := hasPred_get hk
        exact V.facts _ d hd (hpre e he hb).2
      · rintro a' w' ha' ⟨v, hv, hc⟩
        refine ih _ _ _ (p + 1) (updO Ec o.dst v) ⟨by simpa using V.size, ha', hclosed, by omega, ?_, hc, ?_, ?_, ?_, ?_⟩ hcount
        · intro k j hk
          rw [getD_set]
          by_cases hkp : k = p
          · subst hkp
            rw [hpi] at hk; cases hk
            rw [if_pos ⟨rfl, by rw [V.size]; exact h1'⟩]; simp
          · rw [if_neg (fun (h : i = j ∧ _) => hkp (hinj k p j hk (h.1 ▸ hpi))), V.at' k j hk]
            congr 1
            exact propext ⟨fun h => by omega, fun h => by omega⟩
        · intro j u d hj hd
          rw [hother j d (fun e => by rw [e, (hno i hie).1] at hj; cases hj) hd]
          exact V.offs j u d hj hd
        · intro t ht; rw [hbase t ht]; exact V.base t ht
        · intro t ht; rw [hv, hbase t ht]; exact V.base' t ht
        · intro k d hd hl
          by_cases hki : k = i
          · subst hki
            rw [hdi] at hd
            rw [hv, hd, updO, upd_same, updO, upd_same]
          · rw [getD_set, if_neg (fun h => hki h.1.symm)] at hl
            rw [hv, hother k d hki hd, hother k d hki hd]
            exact V.facts k d hd hl
    · 
      rcases hall i h1' with h | ⟨⟨v, hv⟩, k, j, hk, hkj, hpr⟩
      · exact absurd h hie
      have hsk : ¬ k < s := by
        intro hks
        have h5 := V.at' k j hkj
        rw [decide_eq_true hks] at h5
        unfold predB at hpr
        split at hpr
        · rename_i oj hoj
          obtain ⟨e, he, hb, heq⟩ := hasPred_get hpr
          have := V.closed j oj hoj h5 e he hb
          rw [heq, h2] at this; cases this
        · cases hpr
      have hkl : k < es.length := by
        rcases Nat.lt_or_ge k es.length with h | h
        · exact h
        · rw [List.getElem?_eq_none h] at hkj; cases hkj
      have hsl : s < es.length := by omega
      have hC : C w := by
        have hch := V.ch
        rw [List.drop_eq_getElem_cons hsl] at hch
        exact hch.1 (by omega)
      obtain ⟨o', ho2, hW⟩ := off.get hv
      rw [ho'] at ho2
      cases ho2
      obtain ⟨hsu, hop⟩ := hW (envOf a) w hC V.base' (fun k hk d u hd hu => by
        obtain ⟨e, he, hb, rfl⟩ := hasPred_get hk
        rw [V.facts _ d hd (hpre e he hb).2]
        exact V.offs _ u d hu hd)
      refine op_any (Q := ⟨fun E'' w'' => E'' = updO (envOf a) o.dst v ∧ w'' = w, fun _ _ _ => False, fun _ _ => False⟩) ho V.ok (WL.v hsu (hdst i o ho') hop (WL.nil ⟨rfl, rfl⟩)) ?_
      rintro a' w' ha' ⟨he, hw⟩
      have he : envOf a' = updO (envOf a) o.dst v := he
      have hw : w' = w := hw
      subst hw
      refine ih _ _ _ s Ec ⟨by simpa using V.size, ha', hclosed, V.le, ?_, V.ch, V.offs, V.base, ?_, ?_⟩ hcount
      · intro k j hk
        rw [getD_set, if_neg (fun h => hie (by rw [h.1]; exact List.mem_of_getElem? hk))]
        exact V.at' k j hk
      · intro t ht; rw [he, hbase t ht]; exact V.base' t ht
      · intro k d hd hl
        by_cases hki : k = i
        · subst hki
          rw [V.offs k v d hv hd]
          rw [hdi] at hd
          rw [he, hd, updO, upd_same]
        · rw [getD_set, if_neg (fun h => hki h.1.symm)] at hl
          rw [he, hother k d hki hd]
          exact V.facts k d hd hl
theorem WP.anyS {P : Program} {n : Fsz} {id : Nat} {l : List Oper} {E : Env} {w : World} {N R : Env → World → Prop} {X : Nat → Env → World → Prop} (es : List Nat) (lim : Nat) (C : World → Prop) (vs : List (Nat × Value)) (hm : P.follows .mixedOrders = true)
    (h1 : chkDst n l = true) (h2 : chkApart l = true) (h3 : chkBack l = true) (h4 : chkChain l es lim vs = true) (off : Offs P l E C vs vs)
    (ch : ∀ Ec w', Ext [] w w' → (∀ t, noDst l t = true → Ec t = E t) → (∀ i v d, vs.lookup i = some v → dstAt l i = some d → Ec d = v) → Chain P n l N C lim es 0 Ec w') : WP P n (.region id l.toArray true) ⟨N, X, R⟩ E w := by
  intro a ha he
  subst he
  refine wpIn_region_any hm ?_
  simp only [chkChain, Bool.and_eq_true, List.all_eq_true, List.mem_range, Bool.or_eq_true, decide_eq_true_eq, Option.isNone_iff_eq_none] at h4
  obtain ⟨⟨⟨c1, c2⟩, c3⟩, c4⟩ := h4
  have hinj : ∀ (a b i : Nat), es[a]? = some i → es[b]? = some i → a = b := by
    intro x y i hx hy
    have hxl : x < es.length := by
      rcases Nat.lt_or_ge x es.length with h | h
      · exact h
      · rw [List.getElem?_eq_none h] at hx; cases hx
    have hyl : y < es.length := by
      rcases Nat.lt_or_ge y es.length with h | h
      · exact h
      · rw [List.getElem?_eq_none h] at hy; cases hy
    rcases c1 x hxl y hyl with h | h
    · exact h
    · rw [hx, hy] at h; simp at h
  have hdst : ∀ (i : Nat) (o : Oper), l[i]? = some o → dstOk n o.dst = true := by
    intro i o ho
    simp only [chkDst, List.all_eq_true] at h1
    exact h1 o (List.mem_of_getElem? ho)
  have hap := apart_of h2
  let Ec : Env := fun t => ((List.range l.length).findSome? fun i => if dstAt l i = some t then vs.lookup i else none).getD (envOf a t)
  have hEb : ∀ t, noDst l t = true → Ec t = envOf a t := by
    intro t ht
    show (Option.getD _ _) = _
    rw [List.findSome?_eq_none_iff.2]
    · rfl
    · intro i _
      rw [if_neg (noDst_ne ht i)]
  have hEo : ∀ i v d, vs.lookup i = some v → dstAt l i = some d → Ec d = v := by
    intro i v d hv hd
    have : (List.range l.length).findSome? (fun j => if dstAt l j = some d then vs.lookup j else none) = some v := by
      cases hf : (List.range l.length).findSome? (fun j => if dstAt l j = some d then vs.lookup j else none) with
      | none =>
        rw [List.findSome?_eq_none_iff] at hf
        have := hf i (List.mem_range.2 (lt_of_dst hd))
        rw [if_pos hd, hv] at this; cases this
      | some u =>
        obtain ⟨j, _, hj⟩ := List.exists_of_findSome?_eq_some hf
        split at hj
        · rename_i hdj
          rw [hap j i d hdj hd, hv] at hj
          exact hj.symm ▸ rfl
        · cases hj
    show (Option.getD _ _) = _
    rw [this]; rfl
  refine wpAnyS_of (lim := lim) hdst hap (back_of h3) hinj ?_ ?_ (fun i hi => ?_) off _ _ _ _ 0 Ec ⟨by simp, ha, ?_, by omega, ?_, ?_, hEo, hEb, fun _ _ => rfl, ?_⟩ ?_
  · intro x i j hx hy
    have hxl : x < es.length := by
      rcases Nat.lt_or_ge x es.length with h | h
      · exact h
      · rw [List.getElem?_eq_none h] at hx; cases hx
    have := c2 x hxl
    simpa only [hx, hy] using this
  · intro i hi
    rcases c3 i hi with h | ⟨h, h'⟩
    · exact .inl (by simpa using h)
    · refine .inr ⟨Option.isSome_iff_exists.1 h, ?_⟩
      simp only [List.any_eq_true, List.mem_range] at h'
      obtain ⟨k, hk, hp⟩ := h'
      split at hp
      · rename_i j hj
        exact ⟨k, j, by omega, hj, hp⟩
      · cases hp
  · have := c4 i hi
    exact ⟨this.1, this.2⟩
  · intro k o ho hl
    rw [Array.getD_eq_getD_getElem?] at hl
    have hk : k < l.length := lt_of_some ho
    simp [hk] at hl
  · intro k i hk
    have hi : i < l.length := (c4 i (List.mem_of_getElem? hk)).2
    rw [Array.getD_eq_getD_getElem?]; simp [hi]
  · exact ch Ec _ (Ext.drew w _) hEb hEo
  · intro k d hd hl
    rw [Array.getD_eq_getD_getElem?] at hl
    have hk : k < l.length := lt_of_dst hd
    simp [hk] at hl
  · have := List.length_filter_le (fun i => !(Array.replicate l.toArray.size false).getD i true) (List.range l.length)
    simpa [unl] using this
theorem avoid_in {α : Type} {R : Rep α} {e B : Nat} {X Y : List Nat} {w : World} {v : Value} {xs : List α} (h : Owns R e B X w v xs) (hY : ∀ x ∈ Y, x < w.heap.size) : ∀ x ∈ avoid v Y, x < w.heap.size := by
  intro x hx
  rcases mem_avoid hx with h1 | h1
  · exact (h.lt x h1).2
  · exact hY x h1
theorem lit1 {E : Env} {x : Operand} {v : Value} (h : ev E x = v) : (#[(0, x)] : Array (Nat × Operand)).toList.map (fun x => (x.1, ev E x.2)) = ([v].zipIdx 0).map fun x => (x.2, x.1) := by subst h; rfl
end Go.Proofs.Ytbpamkbegggeoaa.W
