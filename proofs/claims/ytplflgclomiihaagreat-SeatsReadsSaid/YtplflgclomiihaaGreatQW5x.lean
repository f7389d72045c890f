/- Contracts. -/
import Derived.Test.YtplflgclomiihaaGreatQW1x
import Derived.Laws.AppendOwnNone
import Derived.WalkSpells
import Derived.ChangeKeysEq
set_option linter.unusedVariables false
set_option linter.unusedSimpArgs false
namespace Go.Proofs.YtplflgclomiihaaGreat.W
open Go.RowKit
theorem Ext.alloc {X:List Nat} (w:World) (o:Obj):Ext X w (w.alloc o):=Ext.push w o
section
variable {P : Program} {n : Fsz} {ro : Option Nat} {Q : K} {E : Env} {w : World} {ops : Array Oper} {o : Oper} {rest : List Oper}
theorem run_v {s:Sem Value} {v:Value} {w':World} (h:s.run P w=.ok v w'):(do pure (Next.value (← s)):Sem Next).run P w=.ok (.value v) w':=by
 simp only [Sem.run_bind,h,Result.andThen_ok,Sem.run_pure]
theorem run_u {s:Sem Unit} {w':World} (h:s.run P w=.ok () w'):(do s; pure Next.skip:Sem Next).run P w=.ok .skip w':=by
 simp only [Sem.run_bind,h,Result.andThen_ok,Sem.run_pure]
def Zero (P:Program) (t:TypeId) (v:Value):Prop:=(P.info? t).bind (·.zero)=some v
theorem zero_of {t:TypeId} {v:Value} (h:Zero P t v):(zeroValue t).run P w=.ok v w:=by
 unfold Zero at h
 cases hi:P.info? t with
 | none=>rw [hi] at h; cases h
 | some i=>rw [hi] at h; simp at h; simp [zeroValue,typeInfo,hi,go_sem,h]
theorem WL.alloc {t : TypeId} {v : Value} {cs : List Value} (hs : Sure ops o E) (hd : dstOk n o.dst = true) (ho : o.op = .alloc t) (hz : Zero P t v) (hc : v.cells = cs.toArray)
    (k : ∀ b w', Ext [] w w' → b = w.heap.size → Box w' b t cs → WLr ro P n ops Q rest (updO E o.dst (.pointer (some ⟨b, 0, none⟩))) w') : WLr ro P n ops Q (o :: rest) E w := by
  refine WL.x (u := .pointer (some ⟨w.heap.size, 0, none⟩)) (w' := w.alloc (.cells v.cells t)) hs hd (.inl ?_) (k _ _ (Ext.alloc w _) rfl ?_)
  · simp [execOp, ho, go_sem, Instr.alloc, zero_of hz, newVar, newRow]
  · rw [hc]; exact Blk.new w _
def splice (cs:List Value) (i:Nat) (vs:List Value):List Value:=cs.take i ++ vs ++ cs.drop (i + vs.length)
theorem Box.splice {b i:Nat} {t:TypeId} {cs:List Value} (vs:List Value) (hb:Box w b t cs):Box (w.setRow b (W.splice cs i vs).toArray) b t (W.splice cs i vs):=setRow_heap w b _ _ t _ hb
theorem WL.storeAgg {t t' : TypeId} {x y : Operand} {b i sz : Nat} {cs vs : List Value} (hs : Sure ops o E) (hd : dstOk n o.dst = true) (ho : o.op = .store t x y) (hz : Sized P t sz) (hx : ev E x = .pointer (some ⟨b, i, none⟩)) (hy : ev E y = .agg vs.toArray)
    (hl : vs.length = sz) (h1 : ∀ u ∈ vs, u.oneCell' = true) (hb : Box w b t' cs) (hi : i + sz ≤ cs.length) (k : ∀ w', Ext [b] w w' → Box w' b t' (splice cs i vs) → WLr ro P n ops Q rest (updO E o.dst undef) w') : WLr ro P n ops Q (o :: rest) E w := by
  subst hl
  have h := run_storeCells_at P b i t' vs 0 cs.toArray w hb (by simpa using hi) h1
  simp only [Nat.add_zero] at h
  refine WL.x (u := undef) (w' := w.setRow b (splice cs i vs).toArray) hs hd (.inr ⟨rfl, ?_⟩) (k _ ⟨rfl, rfl, rfl, by simp, fun k _ hk => setRow_other w b k _ (by simpa using hk)⟩ (hb.splice vs))
  have h' : (storeCells ⟨b, i, none⟩ vs 0).run P w = .ok () (w.setRow b (splice cs i vs).toArray) := by rw [h]; simp [splice]
  simp [execOp, ho, hx, hy, go_sem, Instr.storeAt, Instr.sureAddr, storeVar, size_of hz, Value.cells, h']
theorem V.build {t:TypeId} {ps:Array (Nat × Operand)} {vs:Array Value} (ho:o.op=.build t ps) (hb:P.built t (ps.map fun x=>(x.1,ev E x.2)).toList=some vs):OpV P o E w (.agg vs):=by
 have:=run_build (P:=P) w t (ps.map fun x=>(x.1,ev E x.2)) vs hb
 simp only [OpV,execOp,ho]
 exact run_v this
end
end Go.Proofs.YtplflgclomiihaaGreat.W
namespace Go.Proofs.YtplflgclomiihaaGreat.W
open Go.RowKit
section
variable {P : Program} {n : Fsz} {ro : Option Nat} {Q : K} {E : Env} {w : World} {ops : Array Oper} {o : Oper} {rest : List Oper}
end
section
variable {P : Program} {n : Fsz} {E : Env} {w : World} {ops : Array Oper} {o : Oper} {rest : List Oper} {Q : Env → World → Prop}
end
section
variable {P : Program} {o : Oper} {E : Env} {w : World} {f : FuncId} {tys : Array TypeId}
end
theorem At.seg {w:World} {b:Nat} {t:TypeId} {cs:List Value} (h:Box w b t cs) (k m:Nat):At w b k ((cs.drop k).take m):=by
 intro j v hj
 refine h.cell ?_
 rw [List.getElem?_take] at hj
 split at hj
 ·rw [List.getElem?_drop] at hj; exact hj
 ·cases hj
theorem run_loadVar_agg {P:Program} {w:World} {t sz b k:Nat} {cs:List Value} (ht:Aggr P t sz) (hv:At w b k cs) (hl:cs.length=sz):(loadVar t ⟨b,k,none⟩).run P w=.ok (.agg cs.toArray) w:=by
 subst hl
 have h:=load_cells (P:=P) (w:=w) (b:=b) (k:=k) cs 0 #[] (fun j v hj=>by rw [show k + (0 + j)=k + j from by omega]; exact hv j v hj)
 simp [loadVar,go_sem,is_agg_yes ht,size_of ht.2,loadCells,h]
theorem run_loadVar_one {P:Program} {w:World} {t:Nat} {a:Addr} {v:Value} (ht:Plain P t) (hv:w.cell? a=some v):(loadVar t a).run P w=.ok v w:=by
 simp [loadVar,go_sem,is_agg_no ht,hv]
def ResVal (P:Program) (E:Env) (w:World) (r:ResultVar) (v:Value):Prop:=match r with
 | .tmp t=>E t=v
 | .cell a t=>∃ b k,E a=.pointer (some ⟨b,k,none⟩)∧(loadVar t ⟨b,k,none⟩).run P w=.ok v w
def readVar (tmps:Array Value):ResultVar → Sem Value
 | .tmp t=>pure (tmps.getD t undef)
 | .cell a t=>do loadVar t (← asAddr (tmps.getD a undef))
theorem results_eq (fn:Func) (tmps:Array Value):results fn tmps=(do let vs ← fn.results.mapM (readVar tmps); pure (if h:vs.size=1 then vs[0] else .tuple vs)):=rfl
theorem ResVal.run {P : Program} {E : Env} {w : World} {r : ResultVar} {v : Value} (h : ResVal P E w r v) (tmps : Array Value) (he : (fun t => tmps.getD t undef) = E) :
    (readVar tmps r).run P w = .ok v w := by
  subst he
  cases r with
  | tmp t => simp only [ResVal] at h; simp only [readVar, h]; rfl
  | cell a t =>
    obtain ⟨b, k, h1, h2⟩ := h
    simp only [readVar, h1, asAddr, Sem.run_bind, Sem.run_pure, Result.andThen_ok, h2]
theorem resOf.c1 {fn : Func} {P : Program} {E : Env} {w : World} {R : Value → World → Prop} {r : ResultVar} {v : Value}
    (hr : fn.results = #[r]) (hv : ResVal P E w r v) (hR : R v w) : resOf fn P E w R := by
  intro tmps _ he
  refine ⟨v, ?_, hR⟩
  have h1 := hv.run tmps he
  rw [results_eq, hr]
  simp only [List.mapM_toArray, List.mapM_cons, List.mapM_nil, Sem.run_bind, Sem.run_pure, Sem.run_map, Result.andThen_ok, h1]
  rfl
def structFields (P:Program) (t:TypeId):Array Field:=match P.underlying t with | some (.struct fs)=>fs | _=>#[]
def fieldAt (P:Program) (t i:Nat):Field:=(structFields P t).getD i default
theorem getD_some {α:Type} {xs:List α} {i:Nat} (h:i < xs.length) (d:α):xs[i]?=some (xs.getD i d):=by
 rw [List.getD_eq_getElem?_getD,List.getElem?_eq_getElem h]; rfl
theorem int_eq {k:IntKind} {a b:Int} (h:a=b):Value.int k a=Value.int k b:=by rw [h]
theorem V.max {P:Program} {o:Oper} {E:Env} {w:World} {tys:Array TypeId} {x y:Operand} {k k':IntKind} {a b:Int} {t:Nat} (ho:o.op=.call ⟨.builtin .max,#[x,y],tys⟩) (ht:tys[0]?=some t) (hu:P.underlying t=some (.int k')) (hx:ev E x=.int k a) (hy:ev E y=.int k b):OpV P o E w (.int k (Max.max a b)):=by
 have e:#[x,y].map (ev E)=#[.int k a,.int k b]:=by simp [hx,hy]
 have e2:(if b > a then b else a)=Max.max a b:=by split <;> omega
 have h:(Builtin.max_ tys o.type #[.int k a,.int k b]).run P w=.ok (.int k (Max.max a b)) w:=by
  rw [← e2]; simp only [Builtin.max_]; rfl
 simp only [OpV,execOp,ho,resolve]
 rw [e]
 exact run_v h
theorem V.min {P:Program} {o:Oper} {E:Env} {w:World} {tys:Array TypeId} {x y:Operand} {k k':IntKind} {a b:Int} {t:Nat} (ho:o.op=.call ⟨.builtin .min,#[x,y],tys⟩) (ht:tys[0]?=some t) (hu:P.underlying t=some (.int k')) (hx:ev E x=.int k a) (hy:ev E y=.int k b):OpV P o E w (.int k (Min.min a b)):=by
 have e:#[x,y].map (ev E)=#[.int k a,.int k b]:=by simp [hx,hy]
 have e2:(if b < a then b else a)=Min.min a b:=by split <;> omega
 have h:(Builtin.min_ tys o.type #[.int k a,.int k b]).run P w=.ok (.int k (Min.min a b)) w:=by
  rw [← e2]; simp only [Builtin.min_]; rfl
 simp only [OpV,execOp,ho,resolve]
 rw [e]
 exact run_v h
end Go.Proofs.YtplflgclomiihaaGreat.W
namespace Go.Proofs.YtplflgclomiihaaGreat.W
open Go.RowKit
def unl (n:Nat) (listed:Array Bool):List Nat:=(List.range n).filter fun i=>!listed.getD i true
theorem unl_set {n i:Nat} {listed:Array Bool} (hs:listed.size=n) (hi:i < n) (hl:listed.getD i true=false):(unl n (listed.setIfInBounds i true)).length + 1 ≤ (unl n listed).length:=by
 have e:unl n (listed.setIfInBounds i true)=(unl n listed).filter (fun k=>decide (k ≠ i)):=by
  unfold unl
  rw [List.filter_filter]
  apply List.filter_congr
  intro k hk
  have hk':k < n:=List.mem_range.1 hk
  simp only [Array.getD_eq_getD_getElem?,Array.getElem?_setIfInBounds]
  by_cases h:i=k
  ·subst h; simp [hs,hi]
  ·rw [if_neg h]; have:k ≠ i:=fun e=>h e.symm; simp [this]
 rw [e]
 exact List.length_filter_lt_length_iff_exists.2 ⟨i,by simp only [unl,List.mem_filter,List.mem_range,hl]; exact ⟨hi,rfl⟩,by simp⟩
theorem getD_set {i j:Nat} {listed:Array Bool} {d:Bool}:(listed.setIfInBounds i true).getD j d=if i=j∧j < listed.size then true else listed.getD j d:=by
 simp only [Array.getD_eq_getD_getElem?,Array.getElem?_setIfInBounds]
 by_cases h:i=j
 ·subst h
  by_cases hb:i < listed.size
  ·simp [hb]
  ·simp [hb,Array.getElem?_eq_none (Nat.le_of_not_lt hb)]
 ·simp [h]
theorem mem_ready {ops:Array Oper} {listed:Array Bool} {i:Nat}:i ∈ Region.ready .any ops listed ↔ i < ops.size∧listed.getD i true=false∧∃ o,ops[i]?=some o∧∀ e ∈ o.after.toList,Region.binds .any e=true → listed.getD e.on false=true:=by
 unfold Region.ready
 simp only [List.mem_filter,List.mem_range,Bool.and_eq_true,Bool.not_eq_true']
 constructor
 ·rintro ⟨h1,h2,h3⟩
  refine ⟨h1,h2,?_⟩
  cases ho:ops[i]? with
  | none=>rw [ho] at h3; cases h3
  | some o =>
   rw [ho] at h3
   refine ⟨o,rfl,fun e he hb=>?_⟩
   simp only [Option.map_some,Option.getD_some,Array.all_eq_true',Bool.or_eq_true,Bool.not_eq_true'] at h3
   rcases h3 e (Array.mem_toList_iff.1 he) with h | h
   ·rw [hb] at h; cases h
   ·exact h
 ·rintro ⟨h1,h2,o,ho,h3⟩
  refine ⟨h1,h2,?_⟩
  rw [ho]
  simp only [Option.map_some,Option.getD_some,Array.all_eq_true',Bool.or_eq_true,Bool.not_eq_true']
  intro e he
  cases hb:Region.binds .any e with
  | false=>exact .inl rfl
  | true=>exact .inr (h3 e (Array.mem_toList_iff.2 he) hb)
end Go.Proofs.YtplflgclomiihaaGreat.W
namespace Go.Proofs.YtplflgclomiihaaGreat.W
open Go.RowKit
section
variable {α : Type} {R : Rep α} {e B : Nat} {X Y : List Nat} {w w' : World} {v : Value} {xs : List α}
end
theorem At.cells {w:World} {b k:Nat} {cs:List Value} (h:At w b k cs):∀ j u,cs[j]?=some u → w.cell? ((⟨b,k,none⟩:Addr).add j)=some u:=fun j u hj=>by rw [addr_add]; exact h j u hj
theorem take_drop_append {cells news:List Value} {i sz n:Nat} (h:cells.length=n * sz) (hi:i < n):((cells ++ news).drop (i * sz)).take sz=(cells.drop (i * sz)).take sz:=by
 have h1:(i + 1) * sz ≤ n * sz:=Nat.mul_le_mul_right sz hi
 rw [Nat.add_mul] at h1
 rw [List.drop_append_of_le_length (by omega),List.take_append_of_le_length (by rw [List.length_drop]; omega)]
theorem take_drop_append' {cells news:List Value} {i sz n:Nat} (h:cells.length=n * sz):((cells ++ news).drop ((n + i) * sz)).take sz=(news.drop (i * sz)).take sz:=by
 rw [Nat.add_mul,← h,List.drop_append,List.drop_of_length_le (by omega),List.nil_append,show cells.length + i * sz - cells.length=i * sz from by omega]
section
variable {P : Program} {n : Fsz} {ro : Option Nat} {Q : K} {E : Env} {w : World} {ops : Array Oper} {o : Oper} {rest : List Oper}
end
theorem foldl_set (vs : List Value) : ∀ (off j : Nat) (a b c : List Value), a.length = off + j → b.length = vs.length →
    ((vs.zipIdx j).foldl (fun (cs : Array Value) (x : Value × Nat) => cs.setIfInBounds (off + x.2) x.1) (a ++ b ++ c).toArray) = (a ++ vs ++ c).toArray := by
  induction vs with
  | nil => intro off j a b c _ hb; have : b = [] := List.eq_nil_of_length_eq_zero hb; subst this; simp
  | cons v vs ih =>
    intro off j a b c ha hb
    cases b with
    | nil => simp at hb
    | cons b0 b =>
      simp only [List.zipIdx_cons, List.foldl_cons]
      have e : (a ++ (b0 :: b) ++ c).toArray.setIfInBounds (off + j) v = ((a ++ [v]) ++ b ++ c).toArray := by
        rw [← ha]
        simp [List.set_append]
      rw [e, ih off (j + 1) (a ++ [v]) b c (by simp; omega) (by simpa using hb)]
      simp
section
variable {P : Program} {n : Fsz} {ro : Option Nat} {Q : K} {E : Env} {w : World} {ops : Array Oper} {o : Oper} {rest : List Oper}
end
def nilB:Value → Bool
 | .slice none _ _=>true
 | _=>false
theorem V.eqNil {P : Program} {o : Oper} {E : Env} {w : World} {t u e : TypeId} {x y : Operand} {a : Option Addr} {l c : Nat} {v : Value} (ho : o.op = .binOp .eql t x y u) (ht : P.underlying t = some (.slice e)) (hx : ev E x = v) (hv : v = .slice a l c) (hy : ev E y = .slice none 0 0) :
    OpV P o E w (.bool (nilB v)) := by
  subst hv
  have h : (binOp .eql t (.slice a l c) (.slice none 0 0)).run P w = .ok (.bool (nilB (.slice a l c))) w := by
    rw [Lib.run_eql_slice_nil w t e a l c 0 0 ht]
    cases a <;> rfl
  have hg : (eqGuard .eql t x y (.slice a l c) (.slice none 0 0)).run P w = .ok () w := rfl
  simp only [OpV, execOp, ho, hx, hy, Sem.run_bind, hg, h, Result.andThen_ok, Sem.run_pure]
end Go.Proofs.YtplflgclomiihaaGreat.W
namespace Go.Proofs.YtplflgclomiihaaGreat.W
open Go.RowKit
section
variable {P : Program} {o : Oper} {E : Env} {w : World}
theorem V.build1 {t:TypeId} {ps:Array (Nat × Operand)} {L:List (Nat × Value)} {vs:Array Value} (ho:o.op=.build t ps) (hps:ps.toList.map (fun x=>(x.1,ev E x.2))=L) (hb:P.built t L=some vs):OpV P o E w (.agg vs):=by
 refine V.build ho ?_
 rw [Array.toList_map,hps]; exact hb
end
section
variable {α : Type} {R : Rep α} {e B n : Nat} {X Y O : List Nat} {w w' : World} {v T : Value} {xs : List α}
end
def fieldB (P:Program) (t i ft off sz:Nat):Bool:=(match P.underlying t with
 | some (.struct fs)=>(match fs[i]? with
  | some f=>Nat.beq f.type ft && Nat.beq f.offset off
  | none=>false)
 | _=>false) && ((match P.info? ft with
 | some x=>Nat.beq x.size sz
 | none=>false) && !Nat.beq sz 0)
theorem fld {P:Program} {t i ft off sz:Nat} (h:fieldB P t i ft off sz=true):FieldOf P t i ft off sz:=by
 simp only [fieldB,Bool.and_eq_true,Bool.not_eq_true'] at h
 obtain ⟨h1,h2,h3⟩:=h
 split at h1
 ·rename_i fs hu
  split at h1
  ·rename_i f hf
   simp only [Bool.and_eq_true] at h1
   refine ⟨⟨fs,f,hu,hf,Nat.eq_of_beq_eq_true h1.1,Nat.eq_of_beq_eq_true h1.2⟩,?_,fun e=>?_⟩
   ·split at h2
    ·rename_i x hx
     unfold Sized; rw [hx]; exact congrArg some (Nat.eq_of_beq_eq_true h2)
    ·cases h2
   ·subst e; cases h3
  ·cases h1
 ·cases h1
def look:List (Nat × Option Bool) → Nat → Option (Option Bool)
 | [],_=>none
 | (t',v) :: r,t=>bif Nat.beq t' t then some v else look r t
def kv:Option Bool → Value
 | none=>undef
 | some b=>.bool b
def KnownAt (S:List (Nat × Option Bool)) (E:Env):Prop:=∀ t v,look S t=some v → E t=kv v
theorem kn {E:Env}:KnownAt [] E:=fun _ _ h=>by cases h
theorem kc {S:List (Nat × Option Bool)} {E:Env} {t:Nat} (v:Option Bool) (h:E t=kv v) (k:KnownAt S E):KnownAt ((t,v) :: S) E:=by
 intro t' v' hl
 simp only [look] at hl
 cases hb:Nat.beq t t' with
 | true =>
  rw [hb] at hl
  simp only [cond_true,Option.some.injEq] at hl
  subst hl
  have:=Nat.eq_of_beq_eq_true hb
  subst this
  exact h
 | false=>rw [hb] at hl; exact k t' v' hl
section
variable {P : Program} {n : Fsz} {ro : Option Nat} {E : Env} {w : World} {ops : Array Oper} {rest : List Oper}
theorem WP.sr {N R:Env → World → Prop} {X:Nat → Env → World → Prop} {id:Nat} {l:List Oper} {y:Code} (h:WLr ro P n l.toArray ⟨WPr ro P n y ⟨N,X,R⟩,X,R⟩ l E w):WPr ro P n (.seq (.region id l.toArray false) y) ⟨N,X,R⟩ E w:=WP.seq (WP.region h)
theorem WP.condp {Q:K} {c:Operand} {x y:Code} {t:Prop} [Decidable t] (hc:ev E c=.bool (decide t)) (ht:t → WPr ro P n x Q E w) (hf:¬t → WPr ro P n y Q E w):WPr ro P n (.cond c x y) Q E w:=WP.cond hc (fun e=>ht (of_decide_eq_true e)) (fun e=>hf (of_decide_eq_false e))
def handsOn:Op → Operand → Prop
 | .move x,y=>x=y
 | .assign x,y=>x=y
 | _,_=>False
end
end Go.Proofs.YtplflgclomiihaaGreat.W
