/- The symbolic evaluator is right: states that grow; slices. Program-agnostic. -/
import Derived.Test.YtbbjonjhaoeidaaDoorOS3
set_option linter.unusedVariables false
set_option linter.unusedSimpArgs false
namespace Go.Proofs.YtbbjonjhaoeidaaDoor.Sv
open Go.RowKit Go.Proofs.YtbbjonjhaoeidaaDoor.W
variable {Γ : Gl}

theorem obs_ok : ∀ {ps : Ps} {q : Prop}, obs ps q → (∀ p ∈ ps, p) ∧ q
  | [], _, h => ⟨by simp, h⟩
  | p :: r, q, h => by
    obtain ⟨h1, h2⟩ := h
    obtain ⟨h3, h4⟩ := obs_ok (ps := r) h2
    refine ⟨fun x hx => ?_, h4⟩
    rcases List.mem_cons.1 hx with rfl | hx
    · exact h1
    · exact h3 x hx
theorem conj_ok : ∀ {ps : Ps}, conj ps → ∀ p ∈ ps, p
  | [], _ => by simp
  | [p], h => by intro x hx; simp only [List.mem_singleton] at hx; subst hx; exact h
  | p :: q :: r, h => by
    obtain ⟨h1, h2⟩ := h
    intro x hx
    rcases List.mem_cons.1 hx with rfl | hx
    · exact h1
    · exact conj_ok (ps := q :: r) h2 x hx

section
variable {s s' : Sg} {w0 w w' : World} {st st' : Stt}
theorem ObjAt.step {p : Loc} {o : AX} (h : ObjAt s w p o) (hs : s.le s') (hb : there o p → w'.heap[p.b]? = w.heap[p.b]?) : ObjAt s' w' p o := by
  cases o with
  | c et cs => obtain ⟨vs, h1, h2⟩ := h; exact ⟨vs, (hb trivial).trans h1, RelL.mono hs _ _ h2⟩
  | q et t xs =>
    obtain ⟨h1, h2, h3, h4⟩ := h
    refine ⟨h1, h2, h3, fun hc => ?_⟩
    obtain ⟨cur, h5, h6, h7, h8⟩ := h4 hc
    exact ⟨cur, (hb hc).trans h5, h6, h7, fun i x hx => Rd.mono hs.G t x _ (h8 i x hx)⟩
theorem ObjAt.lt {p : Loc} {o : AX} (h : ObjAt s w p o) (ht : there o p) : p.b < w.heap.size := by
  cases o with
  | c et cs => obtain ⟨vs, h1, _⟩ := h; exact (Array.getElem?_eq_some_iff.1 h1).1
  | q et t xs => obtain ⟨_, _, _, h4⟩ := h; obtain ⟨cur, h5, _⟩ := h4 ht; exact (Array.getElem?_eq_some_iff.1 h5).1
theorem Hold.upd (h : Hold Γ s w0 st w) {l : Nat} {p : Loc} {o : AX} {dead : Nat → Prop} (hs : s.le s') (hF : s'.F = s.F) (hG : s'.G = s.G)
    (key : ∀ k x, st'.h.get k = some x → (k = l ∧ x = o) ∨ (k ≠ l ∧ ¬ dead k ∧ st.h.get k = some x)) (hl : s'.f l = some p) (dom : ∀ k, st'.nx ≤ k → s'.f k = none) (ext : Ext s.X w0 w')
    (keep : ∀ k x q, k ≠ l → ¬ dead k → st.h.get k = some x → s.f k = some q → there x q → w'.heap[q.b]? = w.heap[q.b]?) (frz : ∀ b x, s.F b = some x → w'.heap[b]? = some x) (ho : ObjOK s' w0 w' p o)
    (apart : ∀ k x q, k ≠ l → ¬ dead k → st.h.get k = some x → s.f k = some q → there x q → there o p → q.b ≠ p.b) : Hold Γ s' w0 st' w' := by
  refine ⟨hs.X ▸ ext, by rw [hF]; exact frz, by rw [hG, hF]; exact h.gf, dom, ?_, ?_, by rw [hG, hs.G0]; exact h.gnew, by rw [hs.X]; exact h.glob⟩
  · intro k x hk
    rcases key k x hk with ⟨rfl, rfl⟩ | ⟨hne, hd, hx⟩
    · exact ⟨p, hl, ho⟩
    · obtain ⟨q, h1, h2⟩ := h.obj k x hx
      refine ⟨q, hs.f _ _ h1, fun ht => ?_, h2.cur.step hs fun ht => keep k x q hne hd hx h1 ht⟩
      rw [hF, hs.X]; exact h2.free ht
  · have old : ∀ k x q, k ≠ l → ¬ dead k → st.h.get k = some x → s'.f k = some q → s.f k = some q := by
      intro k x q _ _ hx hq
      obtain ⟨q', h1, _⟩ := h.obj k x hx
      rw [hs.f _ _ h1] at hq; cases hq; exact h1
    intro k k' x x' q q' hk hk' hq hq' ht ht' e
    rcases key k x hk with ⟨rfl, rfl⟩ | ⟨hne, hd, hx⟩
    · rcases key k' x' hk' with ⟨rfl, rfl⟩ | ⟨hne', hd', hx'⟩
      · rfl
      · rw [hl] at hq; cases hq
        exact absurd e.symm (apart k' x' q' hne' hd' hx' (old k' x' q' hne' hd' hx' hq') ht' ht)
    · rcases key k' x' hk' with ⟨rfl, rfl⟩ | ⟨hne', hd', hx'⟩
      · rw [hl] at hq'; cases hq'
        exact absurd e (apart k x q hne hd hx (old k x q hne hd hx hq) ht ht')
      · exact h.inj k k' x x' q q' hx hx' (old k x q hne hd hx hq) (old k' x' q' hne' hd' hx' hq') ht ht' e
def Sg.ins (s : Sg) (l : Nat) (p : Loc) : Sg := { s with f := fun k => if k = l then some p else s.f k }
theorem Sg.le_ins {l : Nat} {p : Loc} (h : s.f l = none) : s.le (s.ins l p) := by
  refine ⟨?_, Sub.refl _, Sub.refl _, rfl, rfl⟩
  intro k y hk
  simp only [Sg.ins]
  split
  · rename_i e; subst e; rw [h] at hk; cases hk
  · exact hk
theorem Sg.ins_same {l : Nat} {p : Loc} : (s.ins l p).f l = some p := by simp [Sg.ins]
theorem Hold.le_new (h : Hold Γ s w0 st w) (p : Loc) : s.le (s.ins st.nx p) := Sg.le_ins (h.dom _ (Nat.le_refl _))
theorem Hold.none_at (h : Hold Γ s w0 st w) {b : Nat} (hb : w.heap.size ≤ b) : s.F b = none := by
  cases hF : s.F b with
  | none => rfl
  | some o => have := h.frz b o hF; rw [Array.getElem?_eq_none hb] at this; cases this
theorem newX_key {o : AX} {k : Nat} {x : AX} (hk : (newX st o).h.get k = some x) : (k = st.nx ∧ x = o) ∨ (k ≠ st.nx ∧ ¬ False ∧ st.h.get k = some x) := by
  rcases Ly.get_set hk with ⟨rfl, e⟩ | ⟨hne, e⟩
  · cases e; exact .inl ⟨rfl, rfl⟩
  · exact .inr ⟨hne, fun h => h, e⟩
theorem Ext.keepB {X : List Nat} {b : Nat} {o : Obj} (k : Ext X w w') (h : w.heap[b]? = some o) (hx : b ∉ X) : w'.heap[b]? = some o := (k.block b (Array.getElem?_eq_some_iff.1 h).1 hx).trans h
/-- a new block, or a row of no room -/
theorem Hold.new (h : Hold Γ s w0 st w) {o : AX} {p : Loc} (hx : Ext [] w w') (hp : there o p → w.heap.size ≤ p.b) (ho : ObjAt (s.ins st.nx p) w' p o) : Hold Γ (s.ins st.nx p) w0 (newX st o) w' := by
  refine h.upd (h.le_new p) rfl rfl (fun k x hk => newX_key hk) Sg.ins_same ?_ (h.ext.trans (Ext.any hx)) ?_ (fun b x hb => Ext.keepB hx (h.frz b x hb) (by simp)) ⟨fun ht => ⟨h.none_at (hp ht), .inl (Nat.le_trans h.ext.size (hp ht))⟩, ho⟩ ?_
  · intro k hk
    have hk' : st.nx + 1 ≤ k := hk
    simp only [Sg.ins]
    rw [if_neg (by omega)]
    exact h.dom k (by omega)
  · intro k x q _ _ hk hq ht
    obtain ⟨q', h1, h2⟩ := h.obj k x hk
    rw [hq] at h1; cases h1
    exact hx.block q.b (h2.cur.lt ht) (by simp)
  · intro k x q _ _ hk hq ht hto e
    obtain ⟨q', h1, h2⟩ := h.obj k x hk
    rw [hq] at h1; cases h1
    have := h2.cur.lt ht; have := hp hto; omega
theorem Hold.grow (h : Hold Γ s w0 st w) (hx : Ext [] w w') : Hold Γ s w0 st w' :=
  ⟨h.ext.trans (Ext.any hx), fun b o hb => Ext.keepB hx (h.frz b o hb) (by simp), h.gf, h.dom, fun l o hl => let ⟨p, h1, h2⟩ := h.obj l o hl; ⟨p, h1, h2.free, h2.cur.step (Sg.le.refl s) fun ht => hx.block p.b (h2.cur.lt ht) (by simp)⟩, h.inj, h.gnew, h.glob⟩
theorem setX_key {l : Nat} {o : AX} {k : Nat} {x : AX} (hk : (setX st l o).h.get k = some x) : (k = l ∧ x = o) ∨ (k ≠ l ∧ ¬ False ∧ st.h.get k = some x) := by
  rcases Ly.get_set hk with ⟨rfl, e⟩ | ⟨hne, e⟩
  · cases e; exact .inl ⟨rfl, rfl⟩
  · exact .inr ⟨hne, fun h => h, e⟩
/-- a block turned -/
theorem Hold.turn (h : Hold Γ s w0 st w) {l : Nat} {p : Loc} {o o' : AX} (hl : st.h.get l = some o) (hp : s.f l = some p) (ht : there o p) (hkd : isBox o = true → isBox o' = true) (hx : Ext [p.b] w w') (ho : ObjAt s w' p o') : Hold Γ s w0 (setX st l o') w' := by
  obtain ⟨p', h1, h2⟩ := h.obj l o hl
  rw [hp] at h1; cases h1
  obtain ⟨hF, hge⟩ := h2.free ht
  have hext : Ext s.X w0 w' := by
    refine ⟨hx.os.trans h.ext.os, hx.tape.trans h.ext.tape, hx.output.trans h.ext.output, Nat.le_trans h.ext.size hx.size, fun k hk hX => (hx.block k (Nat.lt_of_lt_of_le hk h.ext.size) ?_).trans (h.ext.block k hk hX)⟩
    simp only [List.mem_singleton]
    rintro rfl
    rcases hge with hge | hge
    · omega
    · exact hX hge.1
  have far : ∀ k x q, k ≠ l → st.h.get k = some x → s.f k = some q → there x q → q.b ≠ p.b := fun k x q hne hk hq hth e => hne (h.inj k l x o q p hk hl hq hp hth ht e)
  refine h.upd (Sg.le.refl s) rfl rfl (fun k x hk => setX_key hk) hp h.dom hext ?_ ?_ ⟨fun _ => ⟨hF, hge.imp id fun h => ⟨h.1, hkd h.2⟩⟩, ho⟩ ?_
  · intro k x q hne _ hk hq hth
    obtain ⟨q', h3, h4⟩ := h.obj k x hk
    rw [hq] at h3; cases h3
    exact hx.block q.b (h4.cur.lt hth) (by simpa using far k x q hne hk hq hth)
  · intro b x hb
    refine Ext.keepB hx (h.frz b x hb) ?_
    simp only [List.mem_singleton]
    rintro rfl
    rw [hF] at hb; cases hb
  · exact fun k x q hne _ hk hq hth _ => far k x q hne hk hq hth
theorem delX_key {l k : Nat} {x : AX} (hk : (delX st l).h.get k = some x) : k ≠ l ∧ st.h.get k = some x := by
  rcases Ly.get_set hk with ⟨_, e⟩ | ⟨hne, e⟩
  · cases e
  · exact ⟨hne, e⟩
theorem Hold.sub (h : Hold Γ s w0 st w) {st1 : Stt} (hk : ∀ k x, st1.h.get k = some x → st.h.get k = some x) (hn : st.nx ≤ st1.nx) : Hold Γ s w0 st1 w :=
  ⟨h.ext, h.frz, h.gf, fun l hl => h.dom l (Nat.le_trans hn hl), fun l o hl => h.obj l o (hk l o hl), fun l l' o o' p p' hl hl' => h.inj l l' o o' p p' (hk l o hl) (hk l' o' hl'), h.gnew, h.glob⟩
/-- what is known of the program's variables holds still -/
theorem Hold.gl (h : Hold Γ s w0 st w) : Γ.ok w := by
  obtain ⟨h1, h2⟩ := h.glob
  refine Γ.mono w0 w h1 h.ext.size fun b hb => h.ext.block b (Nat.lt_of_lt_of_le hb (Γ.low w0 h1)) fun hm => ?_
  have := h2 b hm
  omega
theorem Hold.glb (h : Hold Γ s w0 st w) {b : Nat} (hb : w0.heap.size ≤ b ∨ b ∈ s.X) : Γ.n ≤ b := by
  obtain ⟨h1, h2⟩ := h.glob
  rcases hb with hb | hb
  · exact Nat.le_trans (Γ.low w0 h1) hb
  · exact h2 b hb
theorem Hold.del (h : Hold Γ s w0 st w) (l : Nat) : Hold Γ s w0 (delX st l) w := h.sub (fun _ _ hk => (delX_key hk).2) (Nat.le_refl _)
theorem Hold.drew (h : Hold Γ s w0 st w) (n : Nat) : Hold Γ s w0 st { w with drawn := n } := h.grow (Ext.drew w n)
/-- a row goes by a new name, written or not -/
theorem Hold.rename (h : Hold Γ s w0 st w) {l : Nat} {p p' : Loc} {o o' : AX} (hl : st.h.get l = some o) (hp : s.f l = some p) (ht : there o p) (hkd : isBox o = true → isBox o' = true) (hb : p'.b = p.b) (hx : Ext [p.b] w w') (ho : ObjAt (s.ins st.nx p') w' p' o') : Hold Γ (s.ins st.nx p') w0 (newX (delX st l) o') w' := by
  obtain ⟨q0, h1, h2⟩ := h.obj l o hl
  rw [hp] at h1; cases h1
  obtain ⟨hF, hge⟩ := h2.free ht
  have hext : Ext s.X w0 w' := by
    refine ⟨hx.os.trans h.ext.os, hx.tape.trans h.ext.tape, hx.output.trans h.ext.output, Nat.le_trans h.ext.size hx.size, fun k hk hX => (hx.block k (Nat.lt_of_lt_of_le hk h.ext.size) ?_).trans (h.ext.block k hk hX)⟩
    simp only [List.mem_singleton]
    rintro rfl
    rcases hge with hge | hge
    · omega
    · exact hX hge.1
  have far : ∀ k x q, k ≠ l → st.h.get k = some x → s.f k = some q → there x q → q.b ≠ p.b := fun k x q hne hk hq hth e => hne (h.inj k l x o q p hk hl hq hp hth ht e)
  refine h.upd (dead := fun k => k = l) (h.le_new p') rfl rfl ?_ Sg.ins_same ?_ hext ?_ ?_ ⟨fun _ => by rw [hb]; exact ⟨hF, hge.imp id fun h => ⟨h.1, hkd h.2⟩⟩, ho⟩ ?_
  · intro k x hk
    rcases Ly.get_set hk with ⟨rfl, e⟩ | ⟨hne, e⟩
    · cases e; exact .inl ⟨rfl, rfl⟩
    · exact .inr ⟨hne, (delX_key e).1, (delX_key e).2⟩
  · intro k hk
    have hk' : st.nx + 1 ≤ k := hk
    simp only [Sg.ins]
    rw [if_neg (by omega)]
    exact h.dom k (by omega)
  · intro k x q _ hne hk hq hth
    obtain ⟨q', h3, h4⟩ := h.obj k x hk
    rw [hq] at h3; cases h3
    exact hx.block q.b (h4.cur.lt hth) (by simpa using far k x q hne hk hq hth)
  · intro b x hb
    refine Ext.keepB hx (h.frz b x hb) ?_
    simp only [List.mem_singleton]
    rintro rfl
    rw [hF] at hb; cases hb
  · intro k x q _ hne hk hq hth _
    rw [hb]; exact far k x q hne hk hq hth
end

/-! ### Slices, whole -/
section
variable {P : Program} {o : Oper} {E : Env} {w : World}
theorem run_bound {v : Value} {k : IntKind} {i : Int} {y : Nat} {c : BoundsCode} (hv : v = .int k i) (h0 : 0 ≤ i) (h1 : i ≤ y) : (Instr.sliceBound v y c).run P w = .ok i.toNat w := by
  subst hv
  simp [Instr.sliceBound, asIntOf, h0, h1, go_sem]
/-- a bound, given or not -/
def BndIs (E : Env) (x : Option Operand) (d n : Nat) : Prop := (x = none ∧ n = d) ∨ ∃ y k, x = some y ∧ ev E y = .int k (n : Int)
theorem run_bounds {E : Env} {lo hi mx : Option Operand} {len cap l h m : Nat} (b : Bool) (hlo : BndIs E lo 0 l) (hhi : BndIs E hi len h) (hmx : BndIs E mx cap m) (hq : mx ≠ none → hi ≠ none) (h1 : l ≤ h) (h2 : h ≤ m) (h3 : m ≤ cap) :
    (Instr.sliceBounds b len cap (lo.map (ev E)) (hi.map (ev E)) (mx.map (ev E))).run P w = .ok (l, h, m) w := by
  have e1 : ∀ c : BoundsCode, ∀ y k, ev E y = .int k (l : Int) → (Instr.sliceBound (ev E y) h c).run P w = .ok l w := fun c y k hy => by have := run_bound (P := P) (w := w) (c := c) hy (Int.natCast_nonneg l) (Int.ofNat_le.2 h1); simpa using this
  have e2 : ∀ c : BoundsCode, ∀ y k, ev E y = .int k (h : Int) → (Instr.sliceBound (ev E y) m c).run P w = .ok h w := fun c y k hy => by have := run_bound (P := P) (w := w) (c := c) hy (Int.natCast_nonneg h) (Int.ofNat_le.2 h2); simpa using this
  have e3 : ∀ c : BoundsCode, ∀ y k, ev E y = .int k (m : Int) → (Instr.sliceBound (ev E y) cap c).run P w = .ok m w := fun c y k hy => by have := run_bound (P := P) (w := w) (c := c) hy (Int.natCast_nonneg m) (Int.ofNat_le.2 h3); simpa using this
  unfold Instr.sliceBounds
  rcases hmx with ⟨rfl, rfl⟩ | ⟨ym, km, rfl, hm⟩
  · rcases hhi with ⟨rfl, rfl⟩ | ⟨yh, kh, rfl, hh⟩
    · rcases hlo with ⟨rfl, rfl⟩ | ⟨yl, kl, rfl, hl⟩
      · simp [go_sem]
      · simp [go_sem, e1 _ _ _ hl]
    · rcases hlo with ⟨rfl, rfl⟩ | ⟨yl, kl, rfl, hl⟩
      · simp [go_sem, e2 _ _ _ hh]
      · simp [go_sem, e2 _ _ _ hh, e1 _ _ _ hl]
  · rcases hhi with ⟨rfl, rfl⟩ | ⟨yh, kh, rfl, hh⟩
    · exact absurd rfl (hq (by simp))
    · rcases hlo with ⟨rfl, rfl⟩ | ⟨yl, kl, rfl, hl⟩
      · simp [go_sem, e3 _ _ _ hm, e2 _ _ _ hh]
      · simp [go_sem, e3 _ _ _ hm, e2 _ _ _ hh, e1 _ _ _ hl]
theorem V.sliceAny {t e : TypeId} {x : Operand} {lo hi mx : Option Operand} {a : Option Addr} {len cap l h m sz : Nat} (ho : o.op = .slice t x lo hi mx) (ht : P.underlying t = some (.slice e)) (hs : Sized P e sz) (hx : ev E x = .slice a len cap)
    (hlo : BndIs E lo 0 l) (hhi : BndIs E hi len h) (hmx : BndIs E mx cap m) (hq : mx ≠ none → hi ≠ none) (h1 : l ≤ h) (h2 : h ≤ m) (h3 : m ≤ cap) :
    OpV P o E w (.slice (if m = l then a else a.map (·.add (l * sz))) (h - l) (m - l)) := by
  have hb := run_bounds (P := P) (w := w) true hlo hhi hmx hq h1 h2 h3
  unfold OpV
  simp only [execOp, ho]
  refine run_v ?_
  unfold Instr.sliceAt
  simp only [Sem.run_bind, underlying, run_program, ht, Result.andThen_ok, Sem.run_pure, hx]
  unfold Instr.slice
  simp only [Sem.run_bind, underlying, run_program, ht, Result.andThen_ok, Sem.run_pure, hb, size_of hs]
theorem V.sliceArr {t e : TypeId} {x : Operand} {lo hi : Option Operand} {a : Addr} {n l h sz : Nat} (ho : o.op = .slice t x lo hi none) (ht : P.underlying t = some (.array n e)) (hs : Sized P e sz) (hx : ev E x = .pointer (some a))
    (hlo : BndIs E lo 0 l) (hhi : BndIs E hi n h) (h1 : l ≤ h) (h2 : h ≤ n) :
    OpV P o E w (.slice (some (if n = l then a else a.add (l * sz))) (h - l) (n - l)) := by
  have hb := run_bounds (P := P) (w := w) (mx := none) false hlo hhi (.inl ⟨rfl, rfl⟩) (fun e => absurd rfl e) h1 h2 (Nat.le_refl n)
  simp only [Option.map_none] at hb
  unfold OpV
  simp only [execOp, ho]
  refine run_v ?_
  unfold Instr.sliceAt
  simp only [Sem.run_bind, underlying, run_program, ht, Result.andThen_ok, Sem.run_pure, hx, Instr.sureAddr, Option.map_none, hb, size_of hs]
theorem V.sliceStr {t : TypeId} {x : Operand} {lo hi : Option Operand} {b : ByteArray} {l h : Nat} (ho : o.op = .slice t x lo hi none) (ht : P.underlying t = some .string) (hx : ev E x = .string b)
    (hlo : BndIs E lo 0 l) (hhi : BndIs E hi b.size h) (h1 : l ≤ h) (h2 : h ≤ b.size) : OpV P o E w (.string (b.extract l h)) := by
  have hb := run_bounds (P := P) (w := w) (mx := none) (cap := b.size) (m := b.size) false hlo hhi (.inl ⟨rfl, rfl⟩) (fun h => absurd rfl h) h1 h2 (Nat.le_refl _)
  unfold OpV
  simp only [execOp, ho]
  refine run_v ?_
  unfold Instr.sliceAt
  simp only [Sem.run_bind, underlying, run_program, ht, Result.andThen_ok, Sem.run_pure, hx]
  unfold Instr.slice
  simp only [Option.map_none] at hb
  simp only [Sem.run_bind, underlying, run_program, ht, Result.andThen_ok, Sem.run_pure, Option.map_none, Option.isSome_none, Bool.false_eq_true, if_false, hb]
end
/-- what a slice of a slice reads -/
theorem Slc.cut {F : Fz} {sz : Nat} {R : D → List Value → Prop} {xs : List D} {a : Option Addr} {len cap l h m : Nat} (hs : Slc F sz R xs (.slice a len cap)) (h1 : l ≤ h) (h2 : h ≤ m) (h3 : m ≤ cap) (h4 : h ≤ xs.length) :
    Slc F sz R ((xs.drop l).take (h - l)) (.slice (if m = l then a else a.map (·.add (l * sz))) (h - l) (m - l)) := by
  have hlen : ((xs.drop l).take (h - l)).length = h - l := by rw [List.length_take, List.length_drop]; omega
  rcases hs with ⟨rfl, hv⟩ | ⟨b, k, c, hv, hc, hm, hq⟩
  · have h0 : h = 0 := by simpa using h4
    have l0 : l = 0 := by omega
    subst h0; subst l0
    have hcap : cap = 0 ∧ m = 0 := by
      rcases hv with hv | ⟨a', hv⟩ <;> cases hv <;> exact ⟨rfl, by omega⟩
    obtain ⟨rfl, rfl⟩ := hcap
    refine .inl ⟨by simp, ?_⟩
    rcases hv with hv | ⟨a', hv⟩ <;> cases hv
    · exact .inl rfl
    · exact .inr ⟨a', rfl⟩
  · cases hv
    by_cases e : m = l
    · have : h = l := by omega
      subst this; subst e
      exact .inl ⟨by simp, .inr ⟨⟨b, k, none⟩, by simp⟩⟩
    · refine .inr ⟨b, k + l * sz, m - l, by rw [if_neg e, hlen]; simp [addr_add], by rw [hlen]; omega, by omega, fun i x hi => ?_⟩
      rw [List.getElem?_take] at hi
      split at hi
      · rw [List.getElem?_drop] at hi
        obtain ⟨cs, q1, q2, q3⟩ := hq _ x hi
        refine ⟨cs, q1, ?_, q3⟩
        rw [show k + l * sz + i * sz = k + (l + i) * sz from by rw [Nat.add_mul]; omega]; exact q2
      · cases hi
end Go.Proofs.YtbbjonjhaoeidaaDoor.Sv
