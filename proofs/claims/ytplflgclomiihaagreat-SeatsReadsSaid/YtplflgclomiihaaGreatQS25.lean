/- Contracts. -/
import Derived.Test.YtplflgclomiihaaGreatQS23x
import Derived.Test.YtplflgclomiihaaGreatQS18x
set_option linter.unusedVariables false
set_option linter.unusedSimpArgs false
namespace Go.Proofs.YtplflgclomiihaaGreat.Sv
open Go.ChangeShapes Go.WideShapes Go.ChangeAt Go.RowKit Go.Proofs.YtplflgclomiihaaGreat.W
variable {Γ : Gl}
mutual
def DT.by:DT → Nat
 | .i k=>Nat.div k.bits 8
 | .b=>1
 | .s=>16
 | .l _=>24
 | .t fs=>DT.bys fs
def DT.bys:List DT → Nat
 | []=>0
 | x :: r=>x.by + DT.bys r
end
mutual
def GC (B:Nat):DT → D → Prop
 | .i k,d=>inK k d.int∧D.i d.int=d
 | .b,d=>D.b d.bool=d
 | .s,d=>d.str.size ≤ B∧D.s d.str=d
 | .l e,d=>d.list.length * e.by ≤ B∧(∀ x ∈ d.list,GC B e x)∧D.l d.list=d
 | .t fs,d=>GCs B fs d.tup∧D.t d.tup=d∧d.tup.length=fs.length
def GCs (B:Nat):List DT → List D → Prop
 | [],_=>True
 | t :: r,ds=>GC B t (nthD ds 0)∧GCs B r (tailD ds)
end
theorem nthD_app:∀ (pre xs:List D) (j:Nat),nthD (pre ++ xs) (pre.length + j)=nthD xs j
 | [],xs,j=>by simp
 | p :: r,xs,j=>by
  have:(p :: r).length + j=(r.length + j) + 1:=by simp; omega
  rw [this]
  exact nthD_app r xs j
mutual
theorem GC.eta {B:Nat}:∀ (t:DT) (d:D),GC B t d → etaD t d=d
 | .i _,d,h=>by simp only [GC] at h; simp only [etaD]; exact h.2
 | .b,d,h=>by simp only [GC] at h; simp only [etaD]; exact h
 | .s,d,h=>by simp only [GC] at h; simp only [etaD]; exact h.2
 | .l _,d,h=>by simp only [GC] at h; simp only [etaD]; exact h.2.2
 | .t fs,d,h=>by
  simp only [GC] at h
  simp only [etaD]
  have:=GCs.eta fs d [] d.tup (by simp) h.2.2 h.1
  simp only [List.length_nil] at this
  rw [this]; exact h.2.1
theorem GCs.eta {B:Nat}:∀ (ts:List DT) (d:D) (pre xs:List D),d.tup=pre ++ xs → xs.length=ts.length → GCs B ts xs → etaDs ts d pre.length=xs
 | [],d,pre,xs,he,hl,h=>by simp only [etaDs]; exact (List.eq_nil_of_length_eq_zero (by simpa using hl)).symm
 | t :: r,d,pre,[],he,hl,h=>by simp at hl
 | t :: r,d,pre,x :: xs,he,hl,h=>by
  simp only [GCs,nthD,tailD] at h
  simp only [etaDs]
  have h1:d.fld pre.length=x:=by
   unfold D.fld
   rw [he]
   have:=nthD_app pre (x :: xs) 0
   rw [Nat.add_zero] at this
   rw [this]; rfl
  have h2:=GCs.eta r d (pre ++ [x]) xs (by rw [he]; simp) (by simpa using hl) h.2
  rw [List.length_append] at h2
  simp only [List.length_singleton] at h2
  rw [h1,GC.eta t x h.1,h2]
end
mutual
def chk2 (P:Program):DT → TypeId → Bool
 | .i k,t=>match P.underlying t with | some (.int k')=>decide (k=k') | _=>false
 | .b,t=>match P.underlying t with | some .bool=>true | _=>false
 | .s,t=>match P.underlying t with | some .string=>true | _=>false
 | .l e,t=>match P.underlying t with | some (.slice te)=>Nat.beq (P.cellsOf te) e.sz && Nat.ble 1 e.sz && Nat.ble e.by (P.bytesOf te) && chk2 P e te | _=>false
 | .t fs,t=>match P.underlying t with | some (.struct gs)=>Nat.beq (P.cellsOf t) (DT.szs fs) && Nat.beq gs.size fs.length && chk2s P fs gs.toList 0 | _=>false
def chk2s (P:Program):List DT → List Field → Nat → Bool
 | [],[],_=>true
 | t :: r,g :: gs,off=>Nat.beq g.offset off && Nat.beq (P.cellsOf g.type) t.sz && chk2 P t g.type && chk2s P r gs (off + t.sz)
 | _,_,_=>false
end
structure Bd2 {H:Type} (P:Program) (B:Nat) (Q:TypeId → DataW H → Prop):Prop where
 str:∀ t l,Q t (.lit (.string l)) → l.length ≤ B
 sl:∀ t e es sp,P.underlying t=some (.slice e) → Q t (.slice es sp) → es.length * P.bytesOf e ≤ B∧∀ d ∈ es,Q e d
 st:∀ t fs ps,P.underlying t=some (.struct fs) → Q t (.agg ps) → ∀ (i:Nat) (f:Field) (d:DataW H),fs[i]?=some f → ps[i]?=some d → Q f.type d
theorem Bd2.sized (H:Type) (P:Program):Bd2 (H:=H) P reachBytes (fun t d=>∀ n ∈ DataW.weights P t d,n ≤ reachBytes):=by
 refine ⟨fun t l h=>h _ (by simp [DataW.weights]),fun t e es sp ht h=>?_,fun t fs ps ht h i f d h1 h2 n hn=>h n ?_⟩
 ·simp only [DataW.weights,ht] at h
  refine ⟨?_,fun d hd n hn=>h n (List.mem_cons_of_mem _ (List.mem_append.2 (.inl (wAll_mem hd hn))))⟩
  have h1:=h _ (List.mem_cons_self ..)
  have h2:es.length * P.bytesOf e ≤ (es.length + sp.length) * P.bytesOf e:=Nat.mul_le_mul_right _ (by omega)
  exact Nat.le_trans h2 h1
 ·simp only [DataW.weights,ht]
  refine wEach_mem (i:=i) (t:=f.type) (d:=d) ?_ h2 hn
  rw [List.getElem?_map]
  have:fs.toList[i]?=some f:=by simpa using h1
  rw [this]; rfl
section
variable {H : Type} {enc : TypeId × Value → H} {P : Program} {B : Nat} {Q : TypeId → DataW H → Prop}
mutual
theorem rd_trod2 (hB : Bd2 P B Q) (w : World) : ∀ (t : DT) (ti : TypeId) (fuel : Nat) (cs : List Value) (x : DataW H × List MemPlace), chk2 P t ti = true → DataW.trod enc P w 0 (fun _ => true) true fuel ti cs = some x → Q ti x.1 → ∃ d, Rd (fun b => w.heap[b]?) t d cs ∧ GC B t d
  | .i k, ti, fuel, cs, x, hc, h, hQ => by
    simp only [chk2] at hc
    split at hc
    · rename_i k' ht
      have : k = k' := of_decide_eq_true hc
      subst this
      obtain ⟨n, rfl, rfl, hwf⟩ := DataW.trod_int ht h
      exact ⟨.i n, by simp [Rd, D.int], by simp only [GC, D.int]; exact ⟨by simpa [Lit.wf, inK] using hwf, trivial⟩⟩
    · cases hc
  | .b, ti, fuel, cs, x, hc, h, hQ => by
    simp only [chk2] at hc
    split at hc
    · rename_i ht
      obtain ⟨b, rfl, rfl⟩ := DataW.trod_bool ht h
      exact ⟨.b b, by simp [Rd, D.bool], by simp [GC, D.bool]⟩
    · cases hc
  | .s, ti, fuel, cs, x, hc, h, hQ => by
    simp only [chk2] at hc
    split at hc
    · rename_i ht
      obtain ⟨s, rfl, rfl, hs⟩ := DataW.trod_string ht h
      exact ⟨.s s, by simp [Rd, D.str], by simpa [GC, D.str] using hB.str _ _ hQ⟩
    · cases hc
  | .l e, ti, fuel, cs, x, hc, h, hQ => by
    simp only [chk2] at hc
    split at hc
    case h_2 => cases hc
    rename_i te ht
    simp only [Bool.and_eq_true] at hc
    obtain ⟨⟨⟨c1, c2⟩, c3⟩, c4⟩ := hc
    have c1 : P.cellsOf te = e.sz := Nat.eq_of_beq_eq_true c1
    have c2 : 1 ≤ e.sz := Nat.le_of_ble_eq_true c2
    have c3 : e.by ≤ P.bytesOf te := Nat.le_of_ble_eq_true c3
    rcases DataW.trod_slice ht h with ⟨rfl, rfl⟩ | ⟨a, len, cap, elems, rest, n, _, rfl, rfl, _, hlc, hcm, hel, hat, hsp, _⟩
    · exact ⟨.l [], by simp only [Rd, D.list]; exact ⟨_, rfl, .inl ⟨rfl, .inl rfl⟩⟩, by simp [GC, D.list]⟩
    · obtain ⟨q1, q2⟩ := hB.sl _ _ _ _ ht hQ
      have key : ∀ i, i < len → ∃ d, GC B e d ∧ ∃ cs, Rd (fun b => w.heap[b]?) e d cs ∧ w.cells? 0 (a.add (i * e.sz)) e.sz = some cs := by
        intro i hi
        have h1 := hat i hi
        have hlt : i < elems.length := by omega
        rw [List.getElem?_eq_getElem hlt, c1] at h1
        cases hcs : w.cells? 0 (a.add (i * e.sz)) e.sz with
        | none => rw [hcs] at h1; cases h1
        | some cs =>
          rw [hcs] at h1
          obtain ⟨d, hd, hg⟩ := rd_trod2 hB w e te n cs _ c4 h1 (q2 _ (List.mem_map.2 ⟨_, List.getElem_mem hlt, rfl⟩))
          exact ⟨d, hg, cs, hd, rfl⟩
      obtain ⟨xs, hlen, hxs⟩ := listD_of key
      have hbytes : len * e.by ≤ B := by rw [List.length_map, hel] at q1; exact Nat.le_trans (Nat.mul_le_mul_left _ c3) q1
      refine ⟨.l xs, ?_, ?_⟩
      · simp only [Rd, D.list]
        refine ⟨_, rfl, ?_⟩
        by_cases hcap : cap = 0
        · have h0 : len = 0 := by omega
          have : xs = [] := List.eq_nil_of_length_eq_zero (by omega)
          subst this
          rw [hcap, h0]
          exact .inl ⟨rfl, .inr ⟨a, rfl⟩⟩
        · have h0 : ∃ cs, w.cells? 0 (a.add (0 * e.sz)) e.sz = some cs := by
            rcases Nat.eq_zero_or_pos len with hl | hl
            · obtain ⟨h1, h2⟩ := hsp rfl
              have h3 := h2 0 (by omega)
              rw [hl, Nat.zero_add, c1, List.getElem?_eq_getElem (by omega : 0 < rest.length)] at h3
              cases hcs : w.cells? 0 (a.add (0 * e.sz)) e.sz with
              | none => rw [hcs] at h3; cases h3
              | some cs => exact ⟨cs, rfl⟩
            · obtain ⟨_, _, cs, _, h1⟩ := key 0 hl
              exact ⟨cs, h1⟩
          have hspot : a.spot = none := by
            obtain ⟨cs, h1⟩ := h0
            obtain ⟨_, h2, h3⟩ := World.cells?_some h1
            have h4 := h3 0 (by omega)
            rw [List.getElem?_eq_getElem (by omega : 0 < cs.length)] at h4
            have := spot_none' h4
            simpa [Addr.add] using this
          obtain ⟨b, k, sp⟩ := a
          simp only at hspot
          subst hspot
          refine .inr ⟨b, k, cap, by rw [hlen], by omega, hcm, fun i x hx => ?_⟩
          obtain ⟨_, cs, hr, h1⟩ := hxs i x hx
          obtain ⟨_, h2, h3⟩ := World.cells?_some h1
          have hcell : ∀ j v, cs[j]? = some v → ∃ arr et fz, w.heap[b]? = some (.cells arr et fz) ∧ arr[k + i * e.sz + j]? = some v := by
            intro j v hj
            have hj' : j < cs.length := by
              rcases Nat.lt_or_ge j cs.length with h | h
              · exact h
              · rw [List.getElem?_eq_none h] at hj; cases hj
            have h4 := h3 j (by omega)
            rw [addr_add, addr_add, hj] at h4
            exact cell_heap h4
          refine ⟨cs, h2, ?_, hr⟩
          obtain ⟨arr, et, fz, g1, _⟩ := hcell 0 _ (List.getElem?_eq_getElem (by omega : 0 < cs.length))
          refine ⟨arr, et, fz, g1, fun j v hj => ?_⟩
          obtain ⟨arr', et', fz', g2, g3⟩ := hcell j v hj
          rw [g1] at g2
          cases g2
          exact g3
      · simp only [GC, D.list]
        exact ⟨by rw [hlen]; exact hbytes, fun x hx => by obtain ⟨i, hi⟩ := List.mem_iff_getElem?.1 hx; exact (hxs i x hi).1, trivial⟩
  | .t fs, ti, fuel, cs, x, hc, h, hQ => by
    simp only [chk2] at hc
    split at hc
    case h_2 => cases hc
    rename_i gs ht
    simp only [Bool.and_eq_true] at hc
    obtain ⟨⟨c1, c2⟩, c3⟩ := hc
    have c1 : P.cellsOf ti = DT.szs fs := Nat.eq_of_beq_eq_true c1
    obtain ⟨xs, n, _, rfl, hl, hlen, hf⟩ := DataW.trod_struct ht h
    obtain ⟨ds, h1, h2⟩ := rds_trod2 hB w fs gs.toList 0 n cs c3 (by
      intro g hg
      obtain ⟨i, hi⟩ := List.mem_iff_getElem?.1 hg
      have hi' : gs[i]? = some g := by simpa using hi
      have hlt : i < xs.length := by rw [hlen]; exact (Array.getElem?_eq_some_iff.1 hi').1
      refine ⟨xs[i], (hf i g hi').trans (List.getElem?_eq_getElem hlt), hB.st _ _ _ ht hQ i g _ hi' ?_⟩
      rw [List.getElem?_map, List.getElem?_eq_getElem hlt]; rfl) (by omega)
    exact ⟨.t ds, by simpa [Rd, D.tup] using h1, by simpa [GC, D.tup] using h2⟩
theorem rds_trod2 (hB : Bd2 P B Q) (w : World) : ∀ (ts : List DT) (gs : List Field) (off n : Nat) (cs : List Value), chk2s P ts gs off = true →
    (∀ g ∈ gs, ∃ x : DataW H × List MemPlace, DataW.trod enc P w 0 (fun _ => true) true n g.type ((cs.drop g.offset).take (P.cellsOf g.type)) = some x ∧ Q g.type x.1) → off + DT.szs ts = cs.length → ∃ ds, Rds (fun b => w.heap[b]?) ts ds (cs.drop off) ∧ GCs B ts ds ∧ ds.length = ts.length
  | [], [], off, n, cs, _, _, hl => ⟨[], by simp only [Rds, DT.szs] at hl ⊢; exact List.drop_eq_nil_of_le (by omega), trivial, rfl⟩
  | [], _ :: _, _, _, _, hc, _, _ => by simp [chk2s] at hc
  | _ :: _, [], _, _, _, hc, _, _ => by simp [chk2s] at hc
  | t :: ts, g :: gs, off, n, cs, hc, h, hl => by
    simp only [chk2s, Bool.and_eq_true] at hc
    obtain ⟨⟨⟨c1, c2⟩, c3⟩, c4⟩ := hc
    have c1 : g.offset = off := Nat.eq_of_beq_eq_true c1
    have c2 : P.cellsOf g.type = t.sz := Nat.eq_of_beq_eq_true c2
    obtain ⟨x, hx, hq⟩ := h g (by simp)
    obtain ⟨d, h1, h2⟩ := rd_trod2 hB w t g.type n _ x c3 hx hq
    simp only [DT.szs] at hl
    obtain ⟨ds, h3, h4, h5⟩ := rds_trod2 hB w ts gs (off + t.sz) n cs c4 (fun g' hg' => h g' (List.mem_cons_of_mem _ hg')) (by omega)
    refine ⟨d :: ds, ?_, ?_⟩
    · simp only [Rds]
      refine ⟨_, _, ?_, h1, h3⟩
      rw [c1, c2, ← List.drop_drop, List.take_append_drop]
    · simp only [GCs]; exact ⟨⟨h2, h4⟩, by simp [h5]⟩
end
theorem val_arg2 {W:World} {base:Nat} {t:DT} {ti:TypeId} {v:Value} {d:D} {F:Fz} (hc:chk2 P t ti=true) (hv:Value.okWide P W .any base ti v) (h:Rd F t d v.cells.toList):∃ cs,Rd F t d cs∧Val t.isT cs v:=by
 cases t with
 | t fs =>
  simp only [chk2] at hc
  split at hc
  case h_2=>cases hc
  rename_i gs ht
  obtain ⟨cs,rfl,_,h1⟩:=arg_cells ht hv
  refine ⟨cs,by simpa [Value.cells] using h,by simp [DT.isT,Val]⟩
 | _ =>
  refine ⟨_,h,?_⟩
  simp only [chk2] at hc
  split at hc
  case h_2=>cases hc
  rename_i ht
  have:=arg_one ht rfl hv
  simp only [DT.isT,Val,cond_false]
  rw [cells_one this]
theorem args_trod2 (hB : Bd2 P B Q) (W : World) (base : Nat) : ∀ (ts : List DT) (tis : List TypeId) (vs : List Value) (dws : List (DataW H)) (ps : List MemPlace), (tis.length = ts.length ∧ ∀ (i : Nat) t ti, ts[i]? = some t → tis[i]? = some ti → chk2 P t ti = true) → DataW.TrodAll enc P W 0 (fun _ => true) true tis vs dws ps →
    (∀ (j : Nat) t v, tis[j]? = some t → vs[j]? = some v → Value.okWide P W .any base t v) → (∀ (i : Nat) ti d, tis[i]? = some ti → dws[i]? = some d → Q ti d) →
    ∃ ds, ds.length = ts.length ∧ ArgsRd (fun b => W.heap[b]?) (fun b => W.heap[b]?) W (ts.map (AK.d true)) ds vs [] ∧ GCs B ts ds
  | [], [], vs, dws, ps, _, h, _, _ => by obtain ⟨rfl, _, _⟩ := trodAll_nil h; exact ⟨[], rfl, ⟨rfl, rfl⟩, trivial⟩
  | [], _ :: _, _, _, _, h, _, _, _ => by simp at h
  | _ :: _, [], _, _, _, h, _, _, _ => by simp at h
  | t :: ts, ti :: tis, vs, dws, ps, hc, h, hv, hQ => by
    obtain ⟨v, vs', d, ds', p, q, rfl, rfl, rfl, ⟨fuel, h1⟩, h2⟩ := trodAll_cons h
    have c0 := hc.2 0 t ti rfl rfl
    obtain ⟨x, hx, hg⟩ := rd_trod2 hB W t ti fuel _ _ c0 h1 (hQ 0 ti d rfl rfl)
    obtain ⟨cs, k1, k2⟩ := val_arg2 c0 (hv 0 ti v rfl rfl) hx
    obtain ⟨xs, m1, m2, m3⟩ := args_trod2 hB W base ts tis vs' ds' q ⟨by simpa using hc.1, fun i t' ti' h3 h4 => hc.2 (i + 1) t' ti' (by simpa using h3) (by simpa using h4)⟩ h2 (fun j t' v' h3 h4 => hv (j + 1) t' v' (by simpa using h3) (by simpa using h4)) (fun i ti' d' h3 h4 => hQ (i + 1) ti' d' (by simpa using h3) (by simpa using h4))
    exact ⟨x :: xs, by simp [m1], ⟨v, vs', rfl, ⟨cs, k1, k2⟩, m2⟩, ⟨hg, m3⟩⟩
def chkAll2 (P:Program):List DT → List TypeId → Bool
 | [],[]=>true
 | t :: ts,ti :: tis=>chk2 P t ti && P.readableRec ti && Nat.blt ti P.types.size && chkAll2 P ts tis
 | _,_=>false
theorem chkAll2_ok:∀ {ts:List DT} {tis:List TypeId},chkAll2 P ts tis=true → (tis.length=ts.length∧∀ (i:Nat) t ti,ts[i]?=some t → tis[i]?=some ti → chk2 P t ti=true)∧∀ t ∈ tis,P.readableRec t=true∧t < P.types.size
 | [],[],_=>⟨⟨rfl,by simp⟩,by simp⟩
 | [],_ :: _,h=>by simp [chkAll2] at h
 | _ :: _,[],h=>by simp [chkAll2] at h
 | t :: ts,ti :: tis,h=>by
  simp only [chkAll2,Bool.and_eq_true] at h
  obtain ⟨⟨⟨h1,h2⟩,h3⟩,h4⟩:=h
  obtain ⟨⟨g1,g2⟩,g3⟩:=chkAll2_ok h4
  refine ⟨⟨by simp [g1],fun i t' ti' h5 h6=>?_⟩,fun t' ht'=>?_⟩
  ·cases i with
   | zero=>simp at h5 h6; subst h5; subst h6; exact h1
   | succ i=>exact g2 i t' ti' (by simpa using h5) (by simpa using h6)
  ·rcases List.mem_cons.1 ht' with rfl | ht'
   ·exact ⟨h2,Nat.le_of_ble_eq_true h3⟩
   ·exact g3 t' ht'
theorem law_frame2 {f : Func} {fi : FuncId} {s : ChangeSpec} {apart : Bool} {W : World} {base : Nat} {args : Array Value} {dws gs : List (DataW H)} {before : List MemPlace} {tb : TypeId} {c : Con} (hB : Bd2 P B Q) (tis : List TypeId) (ts : List DT)
    (hlaid : laidOutB P = true) (hpar : f.params.toList = tis) (hchk : chkAll2 P ts tis = true) (hs : s.vars = []) (hfn : ∀ dws : List (DataW H), dws.length = f.params.size → s.fn H (dws ++ []) = { results := [.lit (.bool true)], args := dws }) (hr : f.resultTypes = #[tb]) (hb : P.underlying tb = some .bool)
    (hc : ConOK P Γ fi c) (ha : c.args = ts.map (AK.d true)) (hres : c.res = [.d .b]) (ho : ∀ ds, c.out ds = [.b true]) (hpre : ∀ ds : List D, ds.length = ts.length → GCs B ts ds → ∀ p ∈ c.pre ds, p)
    (hval : ∀ (j : Nat) t v, f.params[j]? = some t → args[j]? = some v → Value.okWide P W .any base t v)
    (hW : DataW.Whole enc P f.params.toList s.vars apart W args.toList dws gs before) (hQ : ∀ (i : Nat) ti d, tis[i]? = some ti → dws[i]? = some d → Q ti d) (hΓ : Γ.ok W) :
    Calls P fi args W fun e W' => ∃ v, e = .returned v ∧ s.post enc P f apart true false false W args v W' := by
  have hW' := hW
  obtain ⟨p, q, hA, hV, hpq, hfz, hnd⟩ := hW
  obtain ⟨k1, k2⟩ := chkAll2_ok hchk
  rw [hpar] at hA
  obtain ⟨ds, m1, m2, m3⟩ := args_trod2 (enc := enc) hB W base ts tis args.toList dws p k1 hA (fun j t v h1 h2 => hval j t v (by rw [← hpar] at h1; simpa using h1) (by simpa using h2)) hQ
  have hfn' := con_law hc ha hres ho hΓ m1 m2 (hpre ds m1 m3)
  simp only [Array.toArray_toList] at hfn'
  refine Calls.mono hfn' ?_
  rintro e W' ⟨v, rfl, rfl, hx⟩
  exact ⟨_, rfl, law_post (tb := tb) hlaid hW' hs (by rw [hpar]; exact k2) (fun h => hfn _ h) hr hb hx⟩
end
end Go.Proofs.YtplflgclomiihaaGreat.Sv
