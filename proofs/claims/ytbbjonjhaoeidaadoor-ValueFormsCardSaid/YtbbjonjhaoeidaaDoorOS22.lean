/- A law's frame: what came in, read as data of the symbolic evaluator. Program-agnostic. -/
import Derived.Test.YtbbjonjhaoeidaaDoorOS21
import Derived.Test.YtbbjonjhaoeidaaDoorOP2a
import Derived.ChangeArms
import Derived.SizedLaws
set_option linter.unusedVariables false
set_option linter.unusedSimpArgs false
namespace Go.Proofs.YtbbjonjhaoeidaaDoor.Sv
open Go.ChangeShapes Go.WideShapes Go.ChangeAt Go.RowKit Go.Proofs.YtbbjonjhaoeidaaDoor.W
variable {Γ : Gl}

mutual
/-- a datum of a type, whose numbers are in range, and whose texts and lists are of at most B -/
def GT (B : Nat) : DT → D → Prop
  | .i k, d => inK k d.int
  | .b, _ => True
  | .s, d => d.str.size ≤ B
  | .l e, d => d.list.length ≤ B ∧ ∀ x ∈ d.list, GT B e x
  | .t fs, d => GTs B fs d.tup
def GTs (B : Nat) : List DT → List D → Prop
  | [], _ => True
  | t :: r, ds => GT B t (nthD ds 0) ∧ GTs B r (tailD ds)
end
theorem GT.elem {B : Nat} {e : DT} {xs : List D} (h : ∀ x ∈ xs, GT B e x) {i : Nat} (hi : i < xs.length) : GT B e (nthD xs i) := h _ (List.mem_of_getElem? (get_nthD hi))
mutual
/-- a type of the program is a type of data -/
def chk (P : Program) : DT → TypeId → Bool
  | .i k, t => match P.underlying t with | some (.int k') => decide (k = k') | _ => false
  | .b, t => match P.underlying t with | some .bool => true | _ => false
  | .s, t => match P.underlying t with | some .string => true | _ => false
  | .l e, t => match P.underlying t with | some (.slice te) => Nat.beq (P.cellsOf te) e.sz && Nat.ble 1 e.sz && Nat.ble 1 (P.bytesOf te) && chk P e te | _ => false
  | .t fs, t => match P.underlying t with | some (.struct gs) => Nat.beq (P.cellsOf t) (DT.szs fs) && Nat.beq gs.size fs.length && chks P fs gs.toList 0 | _ => false
def chks (P : Program) : List DT → List Field → Nat → Bool
  | [], [], _ => true
  | t :: r, g :: gs, off => Nat.beq g.offset off && Nat.beq (P.cellsOf g.type) t.sz && chk P t g.type && chks P r gs (off + t.sz)
  | _, _, _ => false
end
/-- what bounds the data that came in -/
structure Bd {H : Type} (P : Program) (B : Nat) (Q : TypeId → DataW H → Prop) : Prop where
  str : ∀ t l, Q t (.lit (.string l)) → l.length ≤ B
  sl : ∀ t e es sp, P.underlying t = some (.slice e) → 1 ≤ P.bytesOf e → Q t (.slice es sp) → es.length ≤ B ∧ ∀ d ∈ es, Q e d
  st : ∀ t fs ps, P.underlying t = some (.struct fs) → Q t (.agg ps) → ∀ (i : Nat) (f : Field) (d : DataW H), fs[i]? = some f → ps[i]? = some d → Q f.type d
theorem wAll_mem {H : Type} {P : Program} {e : TypeId} : ∀ {l : List (DataW H)} {d : DataW H} {n : Nat}, d ∈ l → n ∈ DataW.weights P e d → n ∈ DataW.weightsAll P e l
  | x :: r, d, n, h, hn => by
    simp only [DataW.weightsAll, List.mem_append]
    rcases List.mem_cons.1 h with rfl | h
    · exact .inl hn
    · exact .inr (wAll_mem h hn)
theorem wEach_mem {H : Type} {P : Program} : ∀ {ts : List TypeId} {l : List (DataW H)} {i : Nat} {t : TypeId} {d : DataW H} {n : Nat}, ts[i]? = some t → l[i]? = some d → n ∈ DataW.weights P t d → n ∈ DataW.weightsEach P ts l
  | t :: ts, d :: r, 0, _, _, n, h1, h2, hn => by
    simp only [List.getElem?_cons_zero, Option.some.injEq] at h1 h2
    subst h1; subst h2
    simp only [DataW.weightsEach, List.mem_append]; exact .inl hn
  | t :: ts, d :: r, i + 1, _, _, n, h1, h2, hn => by
    simp only [DataW.weightsEach, List.mem_append]
    exact .inr (wEach_mem (by simpa using h1) (by simpa using h2) hn)
theorem Bd.sized (H : Type) (P : Program) : Bd (H := H) P reachBytes (fun t d => ∀ n ∈ DataW.weights P t d, n ≤ reachBytes) := by
  refine ⟨fun t l h => h _ (by simp [DataW.weights]), fun t e es sp ht hb h => ?_, fun t fs ps ht h i f d h1 h2 n hn => h n ?_⟩
  · simp only [DataW.weights, ht] at h
    refine ⟨?_, fun d hd n hn => h n (List.mem_cons_of_mem _ (List.mem_append.2 (.inl (wAll_mem hd hn))))⟩
    have h1 := h _ (List.mem_cons_self ..)
    have h2 : (es.length + sp.length) * 1 ≤ (es.length + sp.length) * P.bytesOf e := Nat.mul_le_mul_left _ hb
    omega
  · simp only [DataW.weights, ht]
    refine wEach_mem (i := i) (t := f.type) (d := d) ?_ h2 hn
    rw [List.getElem?_map]
    have : fs.toList[i]? = some f := by simpa using h1
    rw [this]; rfl
theorem cell_heap {w : World} {b k : Nat} {v : Value} (h : w.cell? ⟨b, k, none⟩ = some v) : ∃ arr et fz, w.heap[b]? = some (.cells arr et fz) ∧ arr[k]? = some v := by
  unfold World.cell? at h
  split at h
  · split at h
    · cases h
    · rename_i heq _
      exact ⟨_, _, _, heq, h⟩
  · cases h
theorem spot_none' {w : World} {a : Addr} {v : Value} (h : w.cell? a = some v) : a.spot = none := by
  unfold World.cell? at h
  split at h
  · split at h
    · cases h
    · rename_i hs; simpa using hs
  · cases h
theorem listD_of {n : Nat} {Q : Nat → D → Prop} (h : ∀ i, i < n → ∃ d, Q i d) : ∃ xs : List D, xs.length = n ∧ ∀ i x, xs[i]? = some x → Q i x := by
  induction n with
  | zero => exact ⟨[], rfl, by simp⟩
  | succ n ih =>
    obtain ⟨xs, hl, hx⟩ := ih fun i hi => h i (by omega)
    obtain ⟨d, hd⟩ := h n (Nat.lt_succ_self n)
    refine ⟨xs ++ [d], by simp [hl], fun i x hi => ?_⟩
    rw [List.getElem?_append] at hi
    split at hi
    · exact hx i x hi
    · rename_i hge
      have : i - xs.length = 0 := by
        rcases Nat.eq_zero_or_pos (i - xs.length) with h0 | h0
        · exact h0
        · rw [List.getElem?_eq_none (by simp; omega)] at hi; cases hi
      rw [this] at hi
      simp only [List.getElem?_cons_zero, Option.some.injEq] at hi
      subst hi
      obtain rfl : i = n := by omega
      exact hd
section
variable {H : Type} {enc : TypeId × Value → H} {P : Program} {B : Nat} {Q : TypeId → DataW H → Prop}
mutual
/-- what reads at a type is a datum of it -/
theorem rd_trod (hB : Bd P B Q) (w : World) : ∀ (t : DT) (ti : TypeId) (fuel : Nat) (cs : List Value) (x : DataW H × List MemPlace), chk P t ti = true → DataW.trod enc P w 0 (fun _ => true) true fuel ti cs = some x → Q ti x.1 → ∃ d, Rd (fun b => w.heap[b]?) t d cs ∧ GT B t d
  | .i k, ti, fuel, cs, x, hc, h, hQ => by
    simp only [chk] at hc
    split at hc
    · rename_i k' ht
      have : k = k' := of_decide_eq_true hc
      subst this
      obtain ⟨n, rfl, rfl, hwf⟩ := DataW.trod_int ht h
      exact ⟨.i n, by simp [Rd, D.int], by simp only [GT, D.int]; simpa [Lit.wf, inK] using hwf⟩
    · cases hc
  | .b, ti, fuel, cs, x, hc, h, hQ => by
    simp only [chk] at hc
    split at hc
    · rename_i ht
      obtain ⟨b, rfl, rfl⟩ := DataW.trod_bool ht h
      exact ⟨.b b, by simp [Rd, D.bool], trivial⟩
    · cases hc
  | .s, ti, fuel, cs, x, hc, h, hQ => by
    simp only [chk] at hc
    split at hc
    · rename_i ht
      obtain ⟨s, rfl, rfl, hs⟩ := DataW.trod_string ht h
      exact ⟨.s s, by simp [Rd, D.str], by simpa [GT, D.str] using hB.str _ _ hQ⟩
    · cases hc
  | .l e, ti, fuel, cs, x, hc, h, hQ => by
    simp only [chk] at hc
    split at hc
    case h_2 => cases hc
    rename_i te ht
    simp only [Bool.and_eq_true] at hc
    obtain ⟨⟨⟨c1, c2⟩, c3⟩, c4⟩ := hc
    have c1 : P.cellsOf te = e.sz := Nat.eq_of_beq_eq_true c1
    have c2 : 1 ≤ e.sz := Nat.le_of_ble_eq_true c2
    have c3 : 1 ≤ P.bytesOf te := Nat.le_of_ble_eq_true c3
    rcases DataW.trod_slice ht h with ⟨rfl, rfl⟩ | ⟨a, len, cap, elems, rest, n, _, rfl, rfl, _, hlc, hcm, hel, hat, hsp, _⟩
    · exact ⟨.l [], by simp only [Rd, D.list]; exact ⟨_, rfl, .inl ⟨rfl, .inl rfl⟩⟩, by simp [GT, D.list]⟩
    · obtain ⟨q1, q2⟩ := hB.sl _ _ _ _ ht c3 hQ
      have key : ∀ i, i < len → ∃ d, GT B e d ∧ ∃ cs, Rd (fun b => w.heap[b]?) e d cs ∧ w.cells? 0 (a.add (i * e.sz)) e.sz = some cs := by
        intro i hi
        have h1 := hat i hi
        have hlt : i < elems.length := by omega
        rw [List.getElem?_eq_getElem hlt, c1] at h1
        cases hcs : w.cells? 0 (a.add (i * e.sz)) e.sz with
        | none => rw [hcs] at h1; cases h1
        | some cs =>
          rw [hcs] at h1
          obtain ⟨d, hd, hg⟩ := rd_trod hB w e te n cs _ c4 h1 (q2 _ (List.mem_map.2 ⟨_, List.getElem_mem hlt, rfl⟩))
          exact ⟨d, hg, cs, hd, rfl⟩
      obtain ⟨xs, hlen, hxs⟩ := listD_of key
      have hbytes : len ≤ B := by rw [List.length_map, hel] at q1; exact q1
      refine ⟨.l xs, ?_, ?_⟩
      · simp only [Rd, D.list]
        refine ⟨_, rfl, ?_⟩
        by_cases hcap : cap = 0
        · have h0 : len = 0 := by omega
          have : xs = [] := List.eq_nil_of_length_eq_zero (by omega)
          subst this
          rw [hcap, h0]
          exact .inl ⟨rfl, .inr ⟨a, rfl⟩⟩
        · have h0 : ∃ cs, w.cells? 0 (a.add (0 * e.sz)) e.sz = some cs := by
            rcases Nat.eq_zero_or_pos len with hl | hl
            · obtain ⟨h1, h2⟩ := hsp rfl
              have h3 := h2 0 (by omega)
              rw [hl, Nat.zero_add, c1, List.getElem?_eq_getElem (by omega : 0 < rest.length)] at h3
              cases hcs : w.cells? 0 (a.add (0 * e.sz)) e.sz with
              | none => rw [hcs] at h3; cases h3
              | some cs => exact ⟨cs, rfl⟩
            · obtain ⟨_, _, cs, _, h1⟩ := key 0 hl
              exact ⟨cs, h1⟩
          have hspot : a.spot = none := by
            obtain ⟨cs, h1⟩ := h0
            obtain ⟨_, h2, h3⟩ := World.cells?_some h1
            have h4 := h3 0 (by omega)
            rw [List.getElem?_eq_getElem (by omega : 0 < cs.length)] at h4
            have := spot_none' h4
            simpa [Addr.add] using this
          obtain ⟨b, k, sp⟩ := a
          simp only at hspot
          subst hspot
          refine .inr ⟨b, k, cap, by rw [hlen], by omega, hcm, fun i x hx => ?_⟩
          obtain ⟨_, cs, hr, h1⟩ := hxs i x hx
          obtain ⟨_, h2, h3⟩ := World.cells?_some h1
          have hcell : ∀ j v, cs[j]? = some v → ∃ arr et fz, w.heap[b]? = some (.cells arr et fz) ∧ arr[k + i * e.sz + j]? = some v := by
            intro j v hj
            have hj' : j < cs.length := by
              rcases Nat.lt_or_ge j cs.length with h | h
              · exact h
              · rw [List.getElem?_eq_none h] at hj; cases hj
            have h4 := h3 j (by omega)
            rw [addr_add, addr_add, hj] at h4
            exact cell_heap h4
          refine ⟨cs, h2, ?_, hr⟩
          obtain ⟨arr, et, fz, g1, _⟩ := hcell 0 _ (List.getElem?_eq_getElem (by omega : 0 < cs.length))
          refine ⟨arr, et, fz, g1, fun j v hj => ?_⟩
          obtain ⟨arr', et', fz', g2, g3⟩ := hcell j v hj
          rw [g1] at g2
          cases g2
          exact g3
      · simp only [GT, D.list]
        exact ⟨by omega, fun x hx => by obtain ⟨i, hi⟩ := List.mem_iff_getElem?.1 hx; exact (hxs i x hi).1⟩
  | .t fs, ti, fuel, cs, x, hc, h, hQ => by
    simp only [chk] at hc
    split at hc
    case h_2 => cases hc
    rename_i gs ht
    simp only [Bool.and_eq_true] at hc
    obtain ⟨⟨c1, c2⟩, c3⟩ := hc
    have c1 : P.cellsOf ti = DT.szs fs := Nat.eq_of_beq_eq_true c1
    obtain ⟨xs, n, _, rfl, hl, hlen, hf⟩ := DataW.trod_struct ht h
    obtain ⟨ds, h1, h2⟩ := rds_trod hB w fs gs.toList 0 n cs c3 (by
      intro g hg
      obtain ⟨i, hi⟩ := List.mem_iff_getElem?.1 hg
      have hi' : gs[i]? = some g := by simpa using hi
      have hlt : i < xs.length := by rw [hlen]; exact (Array.getElem?_eq_some_iff.1 hi').1
      refine ⟨xs[i], (hf i g hi').trans (List.getElem?_eq_getElem hlt), hB.st _ _ _ ht hQ i g _ hi' ?_⟩
      rw [List.getElem?_map, List.getElem?_eq_getElem hlt]; rfl) (by omega)
    exact ⟨.t ds, by simpa [Rd, D.tup] using h1, by simpa [GT, D.tup] using h2⟩
theorem rds_trod (hB : Bd P B Q) (w : World) : ∀ (ts : List DT) (gs : List Field) (off n : Nat) (cs : List Value), chks P ts gs off = true →
    (∀ g ∈ gs, ∃ x : DataW H × List MemPlace, DataW.trod enc P w 0 (fun _ => true) true n g.type ((cs.drop g.offset).take (P.cellsOf g.type)) = some x ∧ Q g.type x.1) → off + DT.szs ts = cs.length → ∃ ds, Rds (fun b => w.heap[b]?) ts ds (cs.drop off) ∧ GTs B ts ds
  | [], [], off, n, cs, _, _, hl => ⟨[], by simp only [Rds, DT.szs] at hl ⊢; exact List.drop_eq_nil_of_le (by omega), trivial⟩
  | [], _ :: _, _, _, _, hc, _, _ => by simp [chks] at hc
  | _ :: _, [], _, _, _, hc, _, _ => by simp [chks] at hc
  | t :: ts, g :: gs, off, n, cs, hc, h, hl => by
    simp only [chks, Bool.and_eq_true] at hc
    obtain ⟨⟨⟨c1, c2⟩, c3⟩, c4⟩ := hc
    have c1 : g.offset = off := Nat.eq_of_beq_eq_true c1
    have c2 : P.cellsOf g.type = t.sz := Nat.eq_of_beq_eq_true c2
    obtain ⟨x, hx, hq⟩ := h g (by simp)
    obtain ⟨d, h1, h2⟩ := rd_trod hB w t g.type n _ x c3 hx hq
    simp only [DT.szs] at hl
    obtain ⟨ds, h3, h4⟩ := rds_trod hB w ts gs (off + t.sz) n cs c4 (fun g' hg' => h g' (List.mem_cons_of_mem _ hg')) (by omega)
    refine ⟨d :: ds, ?_, ?_⟩
    · simp only [Rds]
      refine ⟨_, _, ?_, h1, h3⟩
      rw [c1, c2, ← List.drop_drop, List.take_append_drop]
    · simp only [GTs]; exact ⟨h2, h4⟩
end
/-- an argument, by its type -/
theorem val_arg {W : World} {base : Nat} {t : DT} {ti : TypeId} {v : Value} {d : D} {F : Fz} (hc : chk P t ti = true) (hv : Value.okWide P W .any base ti v) (h : Rd F t d v.cells.toList) : ∃ cs, Rd F t d cs ∧ Val t.isT cs v := by
  cases t with
  | t fs =>
    simp only [chk] at hc
    split at hc
    case h_2 => cases hc
    rename_i gs ht
    obtain ⟨cs, rfl, _, h1⟩ := arg_cells ht hv
    refine ⟨cs, by simpa [Value.cells] using h, by simp [DT.isT, Val]⟩
  | _ =>
    refine ⟨_, h, ?_⟩
    simp only [chk] at hc
    split at hc
    case h_2 => cases hc
    rename_i ht
    have := arg_one ht rfl hv
    simp only [DT.isT, Val, cond_false]
    rw [cells_one this]
/-- all arguments -/
theorem args_trod (hB : Bd P B Q) (W : World) (base : Nat) : ∀ (ts : List DT) (tis : List TypeId) (vs : List Value) (dws : List (DataW H)) (ps : List MemPlace), (tis.length = ts.length ∧ ∀ (i : Nat) t ti, ts[i]? = some t → tis[i]? = some ti → chk P t ti = true) → DataW.TrodAll enc P W 0 (fun _ => true) true tis vs dws ps →
    (∀ (j : Nat) t v, tis[j]? = some t → vs[j]? = some v → Value.okWide P W .any base t v) → (∀ (i : Nat) ti d, tis[i]? = some ti → dws[i]? = some d → Q ti d) →
    ∃ ds, ds.length = ts.length ∧ ArgsRd (fun b => W.heap[b]?) (fun b => W.heap[b]?) W (ts.map (AK.d true)) ds vs [] ∧ GTs B ts ds
  | [], [], vs, dws, ps, _, h, _, _ => by obtain ⟨rfl, _, _⟩ := trodAll_nil h; exact ⟨[], rfl, ⟨rfl, rfl⟩, trivial⟩
  | [], _ :: _, _, _, _, h, _, _, _ => by simp at h
  | _ :: _, [], _, _, _, h, _, _, _ => by simp at h
  | t :: ts, ti :: tis, vs, dws, ps, hc, h, hv, hQ => by
    obtain ⟨v, vs', d, ds', p, q, rfl, rfl, rfl, ⟨fuel, h1⟩, h2⟩ := trodAll_cons h
    have c0 := hc.2 0 t ti rfl rfl
    obtain ⟨x, hx, hg⟩ := rd_trod hB W t ti fuel _ _ c0 h1 (hQ 0 ti d rfl rfl)
    obtain ⟨cs, k1, k2⟩ := val_arg c0 (hv 0 ti v rfl rfl) hx
    obtain ⟨xs, m1, m2, m3⟩ := args_trod hB W base ts tis vs' ds' q ⟨by simpa using hc.1, fun i t' ti' h3 h4 => hc.2 (i + 1) t' ti' (by simpa using h3) (by simpa using h4)⟩ h2 (fun j t' v' h3 h4 => hv (j + 1) t' v' (by simpa using h3) (by simpa using h4)) (fun i ti' d' h3 h4 => hQ (i + 1) ti' d' (by simpa using h3) (by simpa using h4))
    exact ⟨x :: xs, by simp [m1], ⟨v, vs', rfl, ⟨cs, k1, k2⟩, m2⟩, ⟨hg, m3⟩⟩
def chkAll (P : Program) : List DT → List TypeId → Bool
  | [], [] => true
  | t :: ts, ti :: tis => chk P t ti && P.readableRec ti && Nat.blt ti P.types.size && chkAll P ts tis
  | _, _ => false
theorem chkAll_ok : ∀ {ts : List DT} {tis : List TypeId}, chkAll P ts tis = true → (tis.length = ts.length ∧ ∀ (i : Nat) t ti, ts[i]? = some t → tis[i]? = some ti → chk P t ti = true) ∧ ∀ t ∈ tis, P.readableRec t = true ∧ t < P.types.size
  | [], [], _ => ⟨⟨rfl, by simp⟩, by simp⟩
  | [], _ :: _, h => by simp [chkAll] at h
  | _ :: _, [], h => by simp [chkAll] at h
  | t :: ts, ti :: tis, h => by
    simp only [chkAll, Bool.and_eq_true] at h
    obtain ⟨⟨⟨h1, h2⟩, h3⟩, h4⟩ := h
    obtain ⟨⟨g1, g2⟩, g3⟩ := chkAll_ok h4
    refine ⟨⟨by simp [g1], fun i t' ti' h5 h6 => ?_⟩, fun t' ht' => ?_⟩
    · cases i with
      | zero => simp at h5 h6; subst h5; subst h6; exact h1
      | succ i => exact g2 i t' ti' (by simpa using h5) (by simpa using h6)
    · rcases List.mem_cons.1 ht' with rfl | ht'
      · exact ⟨h2, Nat.le_of_ble_eq_true h3⟩
      · exact g3 t' ht'
theorem con_law {f : FuncId} {c : Con} {ts : List DT} (hc : ConOK P Γ f c) (ha : c.args = ts.map (AK.d true)) (hr : c.res = [.d .b]) (ho : ∀ ds, c.out ds = [.b true]) {W : World} {vs : List Value} {ds : List D} (hΓ : Γ.ok W) (hl : ds.length = ts.length) (h : ArgsRd (fun b => W.heap[b]?) (fun b => W.heap[b]?) W (ts.map (AK.d true)) ds vs []) (hp : ∀ p ∈ c.pre ds, p) : Fnc P f vs.toArray W fun v w' => v = .bool true ∧ Ext [] W w' := by
  refine Fnc.mono (hc _ _ W vs ds [] hΓ (by simp) (fun b o h => h) (Sub.refl _) List.nodup_nil (by simp) (by rw [ha]; exact h) (by rw [ha]; simpa using hl) hp) ?_
  rintro v w' ⟨G', os, rs, h1, _, _, _, _, _, h2, rfl, _⟩
  refine ⟨?_, h1⟩
  rw [hr, ho] at h2
  simp only [OutsRd] at h2
  obtain ⟨v, vs', cs, o1, o2, rfl, _, hv, hk, rfl, _⟩ := h2
  simp only [RkRd, Rd, nthD, D.bool] at hk
  obtain ⟨_, rfl⟩ := hk
  simp only [Val, RK.isAgg, DT.isT, cond_false] at hv
  cases hv
  rfl
/-- A law whose contract says that it returns true: what its claim asks for. -/
theorem law_frame {f : Func} {fi : FuncId} {s : ChangeSpec} {apart : Bool} {W : World} {base : Nat} {args : Array Value} {dws gs : List (DataW H)} {before : List MemPlace} {tb : TypeId} {c : Con} (hB : Bd P B Q) (tis : List TypeId) (ts : List DT)
    (hlaid : laidOutB P = true) (hpar : f.params.toList = tis) (hchk : chkAll P ts tis = true) (hs : s.vars = []) (hfn : ∀ dws : List (DataW H), dws.length = f.params.size → s.fn H (dws ++ []) = { results := [.lit (.bool true)], args := dws }) (hr : f.resultTypes = #[tb]) (hb : P.underlying tb = some .bool)
    (hc : ConOK P Γ fi c) (ha : c.args = ts.map (AK.d true)) (hres : c.res = [.d .b]) (ho : ∀ ds, c.out ds = [.b true]) (hpre : ∀ ds : List D, ds.length = ts.length → GTs B ts ds → ∀ p ∈ c.pre ds, p)
    (hval : ∀ (j : Nat) t v, f.params[j]? = some t → args[j]? = some v → Value.okWide P W .any base t v)
    (hW : DataW.Whole enc P f.params.toList s.vars apart W args.toList dws gs before) (hQ : ∀ (i : Nat) ti d, tis[i]? = some ti → dws[i]? = some d → Q ti d) (hΓ : Γ.ok W) :
    Calls P fi args W fun e W' => ∃ v, e = .returned v ∧ s.post enc P f apart true false false W args v W' := by
  have hW' := hW
  obtain ⟨p, q, hA, hV, hpq, hfz, hnd⟩ := hW
  obtain ⟨k1, k2⟩ := chkAll_ok hchk
  rw [hpar] at hA
  obtain ⟨ds, m1, m2, m3⟩ := args_trod (enc := enc) hB W base ts tis args.toList dws p k1 hA (fun j t v h1 h2 => hval j t v (by rw [← hpar] at h1; simpa using h1) (by simpa using h2)) hQ
  have hfn' := con_law hc ha hres ho hΓ m1 m2 (hpre ds m1 m3)
  simp only [Array.toArray_toList] at hfn'
  refine Calls.mono hfn' ?_
  rintro e W' ⟨v, rfl, rfl, hx⟩
  exact ⟨_, rfl, law_post (tb := tb) hlaid hW' hs (by rw [hpar]; exact k2) (fun h => hfn _ h) hr hb hx⟩
theorem sized_args {tis vts : List TypeId} {ds gs : List (DataW H)} (h : (DataW.weightsEach P (tis ++ vts) (ds ++ gs)).all (· ≤ reachBytes) = true) : ∀ (i : Nat) ti d, tis[i]? = some ti → ds[i]? = some d → ∀ n ∈ DataW.weights P ti d, n ≤ reachBytes := by
  intro i ti d h1 h2 n hn
  have h3 : (tis ++ vts)[i]? = some ti := by rw [List.getElem?_append_left (List.getElem?_eq_some_iff.1 h1).1]; exact h1
  have h4 : (ds ++ gs)[i]? = some d := by rw [List.getElem?_append_left (List.getElem?_eq_some_iff.1 h2).1]; exact h2
  simpa using List.all_eq_true.1 h n (wEach_mem h3 h4 hn)
/-- arguments of one cell that is no slice, as values -/
def argV : AK → D → Option Value
  | .d _ (.i k), d => some (.int k d.int)
  | .d _ .b, d => some (.bool d.bool)
  | .d _ .s, d => some (.string d.str)
  | _, _ => none
def argVs : List AK → List D → Option (List Value)
  | [], _ => some []
  | k :: ks, ds => match argV k (nthD ds 0), argVs ks (tailD ds) with
    | some v, some vs => some (v :: vs)
    | _, _ => none
theorem args_scal {F G : Fz} {w : World} : ∀ (ks : List AK) (ds : List D) (vs us : List Value) (bs : List Nat), ArgsRd F G w ks ds vs bs → argVs ks ds = some us → vs = us ∧ bs = []
  | [], ds, vs, us, bs, h, hu => by obtain ⟨rfl, rfl⟩ := h; simp only [argVs, Option.some.injEq] at hu; exact ⟨hu, rfl⟩
  | .box _ _ :: _, _, _, _, _, _, hu => by simp [argVs, argV] at hu
  | .d wf t :: r, ds, vs, us, bs, h, hu => by
    obtain ⟨v, vs', rfl, ⟨cs, h1, h2⟩, h3⟩ := h
    simp only [argVs] at hu
    split at hu
    case h_2 => cases hu
    rename_i u us' e1 e2
    cases hu
    obtain ⟨rfl, rfl⟩ := args_scal r _ vs' us' bs h3 e2
    refine ⟨?_, rfl⟩
    congr 1
    cases t with
    | i k => simp only [argV, Option.some.injEq] at e1; subst e1; simp only [Rd] at h1; subst h1; simp only [Val, DT.isT, cond_false] at h2; cases h2; rfl
    | b => simp only [argV, Option.some.injEq] at e1; subst e1; simp only [Rd] at h1; subst h1; simp only [Val, DT.isT, cond_false] at h2; cases h2; rfl
    | s => simp only [argV, Option.some.injEq] at e1; subst e1; simp only [Rd] at h1; subst h1; simp only [Val, DT.isT, cond_false] at h2; cases h2; rfl
    | l e => simp [argV] at e1
    | t fs => simp [argV] at e1
theorem outs_scal {G : Fz} {w : World} : ∀ (ks : List RK) (ds : List D), ks.all scalar = true → OutsRd G w ks ds (scalVs ks ds) []
  | [], _, _ => ⟨rfl, rfl⟩
  | k :: ks, ds, h => by
    simp only [List.all_cons, Bool.and_eq_true] at h
    refine ⟨scalV k (nthD ds 0), scalVs ks (tailD ds), [scalV k (nthD ds 0)], [], [], rfl, rfl, ?_, ?_, outs_scal ks _ h.2⟩
    · cases k with
      | d t => cases t <;> simp [scalar] at h <;> rfl
      | own _ _ => simp [scalar] at h
      | agg _ => simp [scalar] at h
    · cases k with
      | d t => cases t <;> simp [scalar] at h <;> simp [RkRd, Rd, scalV]
      | own _ _ => simp [scalar] at h
      | agg _ => simp [scalar] at h
theorem boxes_scal {G : Fz} {w : World} : ∀ (ks : List AK) (ds es : List D) (us : List Value), argVs ks ds = some us → BoxesRd G w ks es []
  | [], _, _, _, _ => trivial
  | .box _ _ :: _, _, _, _, hu => by simp [argVs, argV] at hu
  | .d _ _ :: r, ds, es, us, hu => by
    simp only [argVs] at hu
    split at hu
    case h_2 => cases hu
    rename_i e1 e2
    exact boxes_scal r _ es _ e2
/-- A contract of plain arguments and plain results, out of what is known of the function. -/
theorem scal_ok {f : FuncId} {c : Con} (hr : c.res.all scalar = true) (ha : ∀ ds, ∃ us, argVs c.args ds = some us)
    (h : ∀ (w : World) (ds : List D) (vs : List Value), argVs c.args ds = some vs → Γ.ok w → (∀ p ∈ c.pre ds, p) → Fnc P f vs.toArray w fun v w' => v = tupV (scalVs c.res (c.out ds)) ∧ Ext [] w w') : ConOK P Γ f c := by
  intro F G w vs ds bs hg _ hF hGF hnd hbF hargs hlen hpre
  obtain ⟨us, hus⟩ := ha ds
  obtain ⟨rfl, rfl⟩ := args_scal _ _ _ _ _ hargs hus
  refine Fnc.mono (h w ds _ hus hg hpre) ?_
  rintro v w' ⟨rfl, hx⟩
  exact ⟨G, [], scalVs c.res (c.out ds), hx, Sub.refl _, fun b o hb => Ext.keepB hx (hF b o (hGF b o hb)) (by simp), fun b h1 h2 => absurd h1 h2, List.nodup_nil, by simp, outs_scal _ _ hr, rfl, boxes_scal _ ds _ _ hus⟩
/-- What answers true as a contract. -/
def trueC : Con := ⟨[], fun _ => [], [.d .b], fun _ => [.b true], fun _ => []⟩
theorem true_ok {f : FuncId} (h : ∀ w, Γ.ok w → Fnc P f #[] w fun v w' => v = .bool true ∧ Ext [] w w') : ConOK P Γ f trueC :=
  scal_ok (by rfl) (fun ds => ⟨[], rfl⟩) fun w ds vs e hg _ => by
    simp only [trueC, argVs, Option.some.injEq] at e
    subst e
    exact h w hg
end
end Go.Proofs.YtbbjonjhaoeidaaDoor.Sv
