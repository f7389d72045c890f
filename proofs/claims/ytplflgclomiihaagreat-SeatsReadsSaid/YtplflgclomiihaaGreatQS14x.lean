/- Contracts. -/
import Derived.Test.YtplflgclomiihaaGreatQS9x
set_option linter.unusedVariables false
set_option linter.unusedSimpArgs false
namespace Go.Proofs.YtplflgclomiihaaGreat.Sv
open Go.RowKit Go.Proofs.YtplflgclomiihaaGreat.W
variable {Γ : Gl}
mutual
def renA (ρ:Nat → Nat):AV → AV
 | .ptr l o=>.ptr (ρ l) o
 | .sl l o n c=>.sl (ρ l) o n c
 | .agg cs=>.agg (renAs ρ cs)
 | .tup cs=>.tup (renAs ρ cs)
 | .fn f cs=>.fn f (renAs ρ cs)
 | .ow l n=>.ow (ρ l) n
 | .oc l n=>.oc (ρ l) n
 | .pe l i sz off js t=>.pe (ρ l) i sz off js t
 | .vw l lo n sz=>.vw (ρ l) lo n sz
 | a=>a
def renAs (ρ:Nat → Nat):List AV → List AV
 | []=>[]
 | a :: r=>renA ρ a :: renAs ρ r
end
theorem eqNs_ok:∀ {a b:List Nat},eqNs a b=true → a=b
 | [],[],_=>rfl
 | [],_ :: _,h=>by simp [eqNs] at h
 | _ :: _,[],h=>by simp [eqNs] at h
 | a :: r,b :: s,h=>by
  simp only [eqNs,Bool.and_eq_true] at h
  rw [beq_t h.1,eqNs_ok h.2]
mutual
theorem eqA_ok {ρ:Nat → Nat}:∀ {a b:AV} {ps:Ps},eqA ρ a b=some ps → (∀ p ∈ ps,p) → b=renA ρ a
 | .v x,b,ps,h,hp=>by
  cases b <;> simp only [eqA] at h <;> try (cases h; done)
  rename_i y
  simp only [renA]
  split at h
  ·rename_i k i k' j
   cases hk:decide (k=k') with
   | false=>rw [hk] at h; cases h
   | true =>
   rw [hk] at h
   cases h
   simp only [decide_eq_true_eq] at hk
   rw [hk,hp _ (List.mem_singleton.2 rfl)]
  ·cases h; rw [hp _ (List.mem_singleton.2 rfl)]
  ·cases h; rw [hp _ (List.mem_singleton.2 rfl)]
  ·rfl
  ·rfl
  ·rfl
  ·cases h; rw [hp _ (List.mem_singleton.2 rfl)]
 | .ptr l o,b,ps,h,hp=>by
  cases b <;> simp only [eqA] at h <;> try (cases h; done)
  rename_i l' o'
  cases hc:(Nat.beq (ρ l) l' && Nat.beq o o') with
  | false=>rw [hc] at h; cases h
  | true=>simp only [Bool.and_eq_true] at hc; simp only [renA]; rw [beq_t hc.1,beq_t hc.2]
 | .sl l o n c,b,ps,h,hp=>by
  cases b <;> simp only [eqA] at h <;> try (cases h; done)
  rename_i l' o' n' c'
  cases hc:(Nat.beq (ρ l) l' && Nat.beq o o' && Nat.beq n n' && Nat.beq c c') with
  | false=>rw [hc] at h; cases h
  | true=>simp only [Bool.and_eq_true] at hc; simp only [renA]; rw [beq_t hc.1.1.1,beq_t hc.1.1.2,beq_t hc.1.2,beq_t hc.2]
 | .agg cs,b,ps,h,hp=>by
  cases b <;> simp only [eqA] at h <;> try (cases h; done)
  simp only [renA]; rw [eqAs_ok h hp]
 | .tup cs,b,ps,h,hp=>by
  cases b <;> simp only [eqA] at h <;> try (cases h; done)
  simp only [renA]; rw [eqAs_ok h hp]
 | .fn f cs,b,ps,h,hp=>by
  cases b <;> simp only [eqA] at h <;> try (cases h; done)
  rename_i f' cs'
  cases hc:Nat.beq f f' with
  | false=>rw [hc] at h; cases h
  | true=>rw [hc] at h; simp only [renA]; rw [eqAs_ok h hp,beq_t hc]
 | .dl m t xs,b,ps,h,hp=>by
  cases b <;> simp only [eqA] at h <;> try (cases h; done)
  rename_i m' t' xs'
  cases hc:((m == m') && t.beq t') with
  | false=>rw [hc] at h; cases h
  | true =>
  rw [hc] at h
  cases h
  simp only [Bool.and_eq_true] at hc
  simp only [renA]; rw [eq_of_beq hc.1,DT.beq_ok hc.2,hp _ (List.mem_singleton.2 rfl)]
 | .e0,b,ps,h,hp=>by
  cases b <;> simp only [eqA] at h <;> try (cases h; done)
  rfl
 | .any,b,ps,h,hp=>by
  cases b <;> simp only [eqA] at h <;> try (cases h; done)
  rfl
 | .er x,b,ps,h,hp=>by
  cases b <;> simp only [eqA] at h <;> try (cases h; done)
  cases h
  simp only [renA]; rw [hp _ (List.mem_singleton.2 rfl)]
 | .pd m t d,b,ps,h,hp=>by
  cases b <;> simp only [eqA] at h <;> try (cases h; done)
  rename_i m' t' d'
  cases hc:((m == m') && t.beq t') with
  | false=>rw [hc] at h; cases h
  | true =>
  rw [hc] at h
  cases h
  simp only [Bool.and_eq_true] at hc
  simp only [renA]; rw [eq_of_beq hc.1,DT.beq_ok hc.2,hp _ (List.mem_singleton.2 rfl)]
 | .ow l n,b,ps,h,hp=>by
  cases b <;> simp only [eqA] at h <;> try (cases h; done)
  rename_i l' n'
  cases hc:Nat.beq (ρ l) l' with
  | false=>rw [hc] at h; cases h
  | true=>rw [hc] at h; cases h; simp only [renA]; rw [beq_t hc,hp _ (List.mem_singleton.2 rfl)]
 | .oc l n,b,ps,h,hp=>by
  cases b <;> simp only [eqA] at h <;> try (cases h; done)
  rename_i l' n'
  cases hc:Nat.beq (ρ l) l' with
  | false=>rw [hc] at h; cases h
  | true=>rw [hc] at h; cases h; simp only [renA]; rw [beq_t hc,hp _ (List.mem_singleton.2 rfl)]
 | .vw l lo n sz,b,ps,h,hp=>by
  cases b <;> simp only [eqA] at h <;> try (cases h; done)
  rename_i l' lo' n' sz'
  cases hc:(Nat.beq (ρ l) l' && Nat.beq sz sz') with
  | false=>rw [hc] at h; cases h
  | true =>
  rw [hc] at h
  cases h
  simp only [Bool.and_eq_true] at hc
  simp only [renA]
  rw [beq_t hc.1,beq_t hc.2,hp (lo'=lo) (by simp),hp (n'=n) (by simp)]
 | .pe l i sz off js t,b,ps,h,hp=>by
  cases b <;> simp only [eqA] at h <;> try (cases h; done)
  rename_i l' i' sz' off' js' t'
  cases hc:(Nat.beq (ρ l) l' && Nat.beq sz sz' && Nat.beq off off' && eqNs js js' && t.beq t') with
  | false=>rw [hc] at h; cases h
  | true =>
  rw [hc] at h
  cases h
  simp only [Bool.and_eq_true] at hc
  simp only [renA]
  rw [beq_t hc.1.1.1.1,beq_t hc.1.1.1.2,beq_t hc.1.1.2,eqNs_ok hc.1.2,DT.beq_ok hc.2,hp _ (List.mem_singleton.2 rfl)]
theorem eqAs_ok {ρ:Nat → Nat}:∀ {as' bs:List AV} {ps:Ps},eqAs ρ as' bs=some ps → (∀ p ∈ ps,p) → bs=renAs ρ as'
 | [],[],_,_,_=>by simp only [renAs]
 | [],_ :: _,_,h,_=>by simp [eqAs] at h
 | _ :: _,[],_,h,_=>by simp [eqAs] at h
 | a :: r,b :: s,ps,h,hp=>by
  simp only [eqAs] at h
  split at h
  ·rename_i ps1 ps2 h1 h2
   cases h
   simp only [renAs]
   rw [eqA_ok h1 (fun p hpp=>hp p (List.mem_append_left _ hpp)),eqAs_ok h2 (fun p hpp=>hp p (List.mem_append_right _ hpp))]
  ·cases h
end
mutual
theorem renA_id:∀ a:AV,renA (fun l=>l) a=a
 | .v _ | .ptr _ _ | .sl _ _ _ _ | .dl _ _ _ | .e0 | .any | .er _ | .pd _ _ _ | .ow _ _ | .oc _ _ | .vw _ _ _ _ | .pe _ _ _ _ _ _=>by simp only [renA]
 | .agg cs | .tup cs | .fn _ cs=>by simp only [renA,renAs_id cs]
theorem renAs_id:∀ as':List AV,renAs (fun l=>l) as'=as'
 | []=>by simp only [renAs]
 | a :: r=>by simp only [renAs,renA_id a,renAs_id r]
end
def cnt (G:List Inf) (i:Nat):Nat:=((G.take i).filter (·.mak)).length
theorem cnt_succ {G:List Inf} {i:Nat} {x:Inf} (h:G[i]?=some x):cnt G (i + 1)=cnt G i + (if x.mak then 1 else 0):=by
 unfold cnt
 rw [List.take_add_one,h,List.filter_append,List.length_append]
 cases hx:x.mak <;> simp [hx]
theorem cnt_mono (G : List Inf) {i j : Nat} (h : i ≤ j) : cnt G i ≤ cnt G j := by
  induction j with
  | zero => have : i = 0 := by omega
            subst this; exact Nat.le_refl _
  | succ j ih =>
    rcases Nat.lt_or_ge i (j + 1) with h1 | h1
    · refine Nat.le_trans (ih (by omega)) ?_
      cases hx : G[j]? with
      | none => unfold cnt; rw [List.take_of_length_le (by have := List.getElem?_eq_none_iff.1 hx; omega), List.take_of_length_le (by have := List.getElem?_eq_none_iff.1 hx; omega)]; exact Nat.le_refl _
      | some x => rw [cnt_succ hx]; omega
    · have : i = j + 1 := by omega
      subst this; exact Nat.le_refl _
structure Good (fr:Bool) (P:Program) (S:Sums) (l:List Oper) (A A0:AE) (G:List Inf) (T:List Stt) (i:Nat) (o:Oper) (x:Inf):Prop where
 num:x.num=cnt G i
 lo:∀ p ∈ preds o,∀ y,G[p]?=some y → y.aft ≤ x.lo
 lub:∀ k,(∀ p ∈ preds o,∀ y,G[p]?=some y → y.aft ≤ k) → x.lo ≤ k
 env:∀ (s:Sg) (E:Env),EnvOK s A0 E → (∀ p ∈ preds o,∀ y q d,G[p]?=some y → l[p]?=some q → q.dst=some d → Rel s y.u (E d)) → (∀ q ∈ l,i ∈ preds q → ∀ d,q.dst=some d → ∀ b,A.get d=some b → Rel s b (E d)) → EnvOK s x.env E
 val:∃ st,T[x.num]?=some st∧((x.mak=false∧x.aft=x.lo∧evOpG fr P S st x.env o=some (.rd x.ps x.u)) ∨
  (x.mak=true∧x.aft=x.num + 1∧∃ st',T[x.num + 1]?=some st'∧evOpG fr P S st x.env o=some (.wr x.ps x.u st')))
theorem predEnv_ok {l:List Oper} {tr:Tr Inf} {G:List Inf} (htr:∀ p y,tr.get p=some y → G[p]?=some y) (s:Sg) (E:Env):∀ (ps:List Nat) (A:AE),EnvOK s A E → (∀ p ∈ ps,∀ y q d,G[p]?=some y → l[p]?=some q → q.dst=some d → Rel s y.u (E d)) → EnvOK s (predEnv l.toArray tr ps A) E
 | [],A,h,_=>h
 | p :: r,A,h,k=>by
  unfold predEnv
  split
  ·rename_i y q hy hq
   refine predEnv_ok htr s E r _ ?_ (fun p' hp'=>k p' (by simp [hp']))
   have hq':l[p]?=some q:=by simpa using hq
   intro t a ht
   cases hd:q.dst with
   | none=>rw [hd] at ht; exact h t a ht
   | some d =>
    rw [hd] at ht
    rcases Ly.get_set ht with ⟨rfl,e⟩ | ⟨_,e⟩
    ·cases e; exact k p (by simp) y q _ (htr p y hy) hq' hd
    ·exact h t a e
  ·exact predEnv_ok htr s E r A h (fun p' hp'=>k p' (by simp [hp']))
theorem restore_ok {A:AE} {l:List Oper} {i:Nat} {s:Sg} {E:Env} (k:∀ q ∈ l,i ∈ preds q → ∀ d,q.dst=some d → ∀ b,A.get d=some b → Rel s b (E d)):∀ (xs:List Operand) (E0:AE),EnvOK s E0 E → EnvOK s (restore A l i xs E0) E
 | [],E0,h=>h
 | .tmp t :: r,E0,h=>by
  unfold restore
  refine restore_ok k r _ ?_
  split
  ·exact h
  ·split
   ·rename_i q hq
    cases hc:(preds q).contains i with
    | false=>exact h
    | true =>
     have hd:=List.find?_some hq
     have hm:=List.mem_of_find?_eq_some hq
     intro t' a ht
     rcases Ly.get_set ht with ⟨rfl,e⟩ | ⟨_,e⟩
     ·split at hd
      ·rename_i d hd'
       have:=beq_t hd
       subst this
       exact k q hm (by simpa using hc) d hd' a e
      ·cases hd
     ·exact h t' a e
   ·exact h
 | .const _ :: r,E0,h=>by unfold restore; exact restore_ok k r _ h
 | .global _ :: r,E0,h=>by unfold restore; exact restore_ok k r _ h
 | .func _ :: r,E0,h=>by unfold restore; exact restore_ok k r _ h
theorem loOf_ge {tr:Tr Inf}:∀ (ps:List Nat) (p:Nat) (y:Inf),p ∈ ps → tr.get p=some y → y.aft ≤ loOf tr ps
 | [],p,y,h,_=>by cases h
 | q :: r,p,y,h,hy=>by
  unfold loOf
  rcases List.mem_cons.1 h with rfl | h
  ·rw [hy]; exact Nat.le_max_left _ _
  ·have:=loOf_ge r p y h hy
   split
   ·exact Nat.le_trans this (Nat.le_max_right _ _)
   ·exact this
theorem loOf_le {tr:Tr Inf} {k:Nat}:∀ (ps:List Nat),(∀ p ∈ ps,∀ y,tr.get p=some y → y.aft ≤ k) → loOf tr ps ≤ k
 | [],_=>Nat.zero_le _
 | q :: r,h=>by
  unfold loOf
  have:=loOf_le r (fun p hp=>h p (by simp [hp]))
  split
  ·rename_i i hi; exact Nat.max_le.2 ⟨h q (by simp) i hi,this⟩
  ·exact this
theorem pass1_len {fr:Bool} {P:Program} {S:Sums} {ops:Array Oper} {A A0:AE}:∀ (r:List Oper) (i:Nat) (tr:Tr Inf) (st:Stt) (m:Nat) (xs:List Inf) (ss:List Stt),pass1 fr P S ops A A0 r i tr st m=some (xs,ss) → xs.length=r.length∧ss[0]?=some st∧ss.length=(xs.filter (·.mak)).length + 1:=by
 intro r
 induction r with
 | nil=>intro i tr st m xs ss h; simp only [pass1,Option.some.injEq,Prod.mk.injEq] at h; obtain ⟨rfl,rfl⟩:=h; simp
 | cons o r ih =>
  intro i tr st m xs ss h
  simp only [pass1] at h
  split at h
  ·cases h
  ·split at h
   ·rename_i hr; cases h; have:=ih _ _ _ _ _ _ hr; simpa using this
   ·cases h
  ·split at h
   ·rename_i hr; cases h; have:=ih _ _ _ _ _ _ hr; simp [this.1,this.2.2]
   ·cases h
theorem pass1_ok {fr : Bool} {P : Program} {S : Sums} {l : List Oper} {A A0 : AE} (hsm : l.length ≤ 4000) (hback : ∀ i o, l[i]? = some o → ∀ p ∈ preds o, p < i) (G : List Inf) (T : List Stt) : ∀ (r : List Oper) (i : Nat) (tr : Tr Inf) (st : Stt) (m : Nat) (xs : List Inf) (ss : List Stt),
    pass1 fr P S l.toArray A A0 r i tr st m = some (xs, ss) → l.drop i = r → G.drop i = xs → T.drop m = ss → m = cnt G i → (∀ p, tr.get p = if p < i then G[p]? else none) →
    ∀ j o, r[j]? = some o → ∃ x, G[i + j]? = some x ∧ Good fr P S l A A0 G T (i + j) o x := by
  intro r
  induction r with
  | nil => intro i tr st m xs ss h _ _ _ _ _ j o hj; simp at hj
  | cons o r ih =>
    intro i tr st m xs ss h hl hG hT hm htr
    have hi : i < l.length := by
      rcases Nat.lt_or_ge i l.length with h1 | h1
      · exact h1
      · rw [List.drop_of_length_le h1] at hl; cases hl
    have ho : l[i]? = some o := by
      have := congrArg (fun z => z[0]?) hl
      simpa [List.getElem?_drop] using this
    have hl' : l.drop (i + 1) = r := by rw [← List.drop_drop, hl]; rfl
    have htr' : ∀ p y, tr.get p = some y → G[p]? = some y := by
      intro p y hp; rw [htr] at hp; split at hp
      · exact hp
      · cases hp
    have step : ∀ (x : Inf) (xs' : List Inf) (ss' : List Stt) (st' : Stt) (m' : Nat), pass1 fr P S l.toArray A A0 r (i + 1) (tr.set 12 i (some x)) st' m' = some (xs', ss') → xs = x :: xs' → T.drop m' = ss' → m' = cnt G i + (if x.mak then 1 else 0) →
        Good fr P S l A A0 G T i o x → ∀ j o', (o :: r)[j]? = some o' → ∃ y, G[i + j]? = some y ∧ Good fr P S l A A0 G T (i + j) o' y := by
      intro x xs' ss' st' m' hp hx hs hm' hgood j o' hj
      subst hx
      have hGi : G[i]? = some x := by
        have := congrArg (fun z => z[0]?) hG
        simpa [List.getElem?_drop] using this
      cases j with
      | zero => simp only [List.getElem?_cons_zero, Option.some.injEq] at hj; subst hj; exact ⟨x, hGi, hgood⟩
      | succ j =>
        have := ih (i + 1) _ st' m' xs' ss' hp hl' (by rw [← List.drop_drop, hG]; rfl) hs (by rw [hm', cnt_succ hGi]) (fun p => by
          rw [Tr.get_set' 12 tr i p (some x) (by omega), htr]
          by_cases e : p = i
          · subst e; rw [if_pos rfl, if_pos (by omega), hGi]
          · rw [if_neg e]
            by_cases e2 : p < i
            · rw [if_pos e2, if_pos (by omega)]
            · rw [if_neg e2, if_neg (by omega)]) j o' (by simpa using hj)
        rwa [show i + 1 + j = i + (j + 1) from by omega] at this
    have lo_ge : ∀ p ∈ preds o, ∀ y, G[p]? = some y → y.aft ≤ loOf tr (preds o) := fun p hp y hy => loOf_ge _ p y hp (by rw [htr, if_pos (hback i o ho p hp)]; exact hy)
    have lo_le : ∀ k, (∀ p ∈ preds o, ∀ y, G[p]? = some y → y.aft ≤ k) → loOf tr (preds o) ≤ k := fun k hk => loOf_le _ fun p hp y hy => hk p hp y (htr' p y hy)
    have henv := fun (s : Sg) (E : Env) (h1 : EnvOK s A0 E) h2 (h3 : ∀ q ∈ l, i ∈ preds q → ∀ d, q.dst = some d → ∀ b, A.get d = some b → Rel s b (E d)) => restore_ok (A := A) h3 o.op.operands.toList _ (predEnv_ok (l := l) htr' s E (preds o) A0 h1 h2)
    have hT0 : ∀ (q : List Stt), T.drop m = st :: q → T[m]? = some st := by
      intro q hq
      have := congrArg (fun z => z[0]?) hq
      simpa [List.getElem?_drop] using this
    have hT1 : ∀ (q : List Stt), T.drop m = st :: q → T.drop (m + 1) = q := by
      intro q hq; rw [← List.drop_drop, hq]; rfl
    simp only [pass1] at h
    split at h
    · cases h
    · rename_i ps a hop
      split at h
      · rename_i xs' ss' hr
        cases h
        obtain ⟨_, h0, _⟩ := pass1_len _ _ _ _ _ _ _ hr
        have hTm : T[m]? = some st := by rw [← hT, List.getElem?_drop] at h0; simpa using h0
        exact step ⟨false, m, _, _, ps, a, _⟩ xs' _ st m hr rfl hT (by simpa using hm) ⟨hm, lo_ge, lo_le, henv, st, hTm, .inl ⟨rfl, rfl, hop⟩⟩
      · cases h
    · rename_i ps a st' hop
      split at h
      · rename_i xs' ss' hr
        cases h
        obtain ⟨_, h0, _⟩ := pass1_len _ _ _ _ _ _ _ hr
        have hT' := hT1 _ hT
        have hTm' : T[m + 1]? = some st' := by rw [← hT', List.getElem?_drop] at h0; simpa using h0
        exact step ⟨true, m, _, _, ps, a, _⟩ xs' _ st' (m + 1) hr rfl hT' (by simp [hm]) ⟨hm, lo_ge, lo_le, henv, st, hT0 _ hT, .inr ⟨rfl, rfl, st', hTm', hop⟩⟩
      · cases h
structure Sec (fr:Bool) (P:Program) (S:Sums) (l:List Oper) (G:List Inf) (T:List Stt) (M:Nat) (i:Nat) (o:Oper) (x:Inf):Prop where
 ps:∀ p ∈ x.ps,p
 mak:x.mak=true → x.lo=x.num
 rd:x.mak=false → M=0 ∨ noMem o.op=true ∨ ∃ qs,rdAt fr P S o x (hiOf i M l G) 0 T=some qs∧∀ p ∈ qs,p
theorem pass2_ok {fr:Bool} {P:Program} {S:Sums} {l:List Oper} {G:List Inf} {T:List Stt} {M:Nat}:∀ (r:List Oper) (xs:List Inf) (i:Nat) (qs:Ps),pass2 fr P S l.toArray G T M r xs i=some qs → (∀ p ∈ qs,p) → ∀ j o x,r[j]?=some o → xs[j]?=some x → Sec fr P S l G T M (i + j) o x:=by
 intro r
 induction r with
 | nil=>intro xs i qs _ _ j o x hj; simp at hj
 | cons o r ih =>
  intro xs i qs h hq j o' x' hj hx
  cases xs with
  | nil=>simp at hx
  | cons x xs =>
   simp only [pass2] at h
   split at h
   ·cases h
   rename_i qs' hrest
   have both:(∀ p ∈ qs',p)∧Sec fr P S l G T M i o x:=by
    cases hmk:x.mak with
    | true =>
     rw [hmk] at h
     simp only [cond_true] at h
     cases hc:Nat.beq x.lo x.num with
     | false=>rw [hc] at h; cases h
     | true =>
     rw [hc] at h
     cases h
     exact ⟨fun p hp=>hq p (List.mem_append_right _ hp),fun p hp=>hq p (List.mem_append_left _ hp),fun _=>beq_t hc,(fun e=>by rw [hmk] at e; cases e)⟩
    | false =>
     rw [hmk] at h
     simp only [cond_false] at h
     cases hc:(Nat.beq M 0 || noMem o.op) with
     | true =>
      rw [hc] at h
      cases h
      simp only [Bool.or_eq_true] at hc
      refine ⟨fun p hp=>hq p (List.mem_append_right _ hp),fun p hp=>hq p (List.mem_append_left _ hp),(fun e=>by rw [hmk] at e; cases e),fun _=>?_⟩
      rcases hc with hc | hc
      ·exact .inl (beq_t hc)
      ·exact .inr (.inl hc)
     | false =>
      rw [hc] at h
      simp only [cond_false] at h
      split at h
      ·rename_i es hes
       cases h
       refine ⟨fun p hp=>hq p (List.mem_append_right _ hp),fun p hp=>hq p (List.mem_append_left _ (List.mem_append_left _ hp)),(fun e=>by rw [hmk] at e; cases e),fun _=>.inr (.inr ⟨es,by simpa using hes,fun p hp=>hq p (List.mem_append_left _ (List.mem_append_right _ hp))⟩)⟩
      ·cases h
   cases j with
   | zero =>
    simp only [List.getElem?_cons_zero,Option.some.injEq] at hj hx
    subst hj; subst hx
    exact both.2
   | succ j =>
    have:=ih xs (i + 1) _ hrest both.1 j o' x' (by simpa using hj) (by simpa using hx)
    rwa [show i + 1 + j=i + (j + 1) from by omega] at this
theorem hiOf_ge {i M k:Nat} (hM:k ≤ M):∀ (r:List Oper) (xs:List Inf),(∀ (j:Nat) (o:Oper) (x:Inf),r[j]?=some o → xs[j]?=some x → x.mak=true → i ∈ preds o → k ≤ x.num) → k ≤ hiOf i M r xs
 | [],_,_=>by unfold hiOf; exact hM
 | _ :: _,[],_=>by unfold hiOf; exact hM
 | o :: r,x :: xs,h=>by
  have ih:=hiOf_ge hM r xs (fun j o' x' hj hx=>h (j + 1) o' x' (by simpa using hj) (by simpa using hx))
  unfold hiOf
  cases hc:(x.mak && (preds o).contains i) with
  | false=>exact ih
  | true =>
   simp only [Bool.and_eq_true] at hc
   exact Nat.le_min.2 ⟨h 0 o x rfl rfl hc.1 (by simpa using hc.2),ih⟩
theorem rdAt_ok {fr:Bool} {P:Program} {S:Sums} {o:Oper} {x:Inf} {hi:Nat}:∀ (ss:List Stt) (k0:Nat) (qs:Ps),rdAt fr P S o x hi k0 ss=some qs → (∀ p ∈ qs,p) → ∀ j st,ss[j]?=some st → x.lo ≤ k0 + j → k0 + j ≤ hi → k0 + j ≠ x.num → ∃ ps,evOpG fr P S st x.env o=some (.rd ps x.u)∧∀ p ∈ ps,p
 | [],_,_,_,_,j,st,hj,_,_,_=>by simp at hj
 | s1 :: r,k0,qs,h,hq,j,st,hj,h1,h2,h3=>by
  simp only [rdAt] at h
  split at h
  ·cases h
  rename_i qs' hrest
  cases j with
  | zero =>
   simp only [List.getElem?_cons_zero,Option.some.injEq] at hj
   subst hj
   have e:(Nat.ble x.lo k0 && Nat.ble k0 hi && !Nat.beq k0 x.num)=true:=by
    simp only [Bool.and_eq_true,Bool.not_eq_true']
    exact ⟨⟨Nat.ble_eq_true_of_le h1,Nat.ble_eq_true_of_le h2⟩,beq_no h3⟩
   rw [e] at h
   simp only [cond_true] at h
   split at h
   ·rename_i ps a hrd
    split at h
    ·rename_i es hes
     cases h
     have hau:=eqA_ok hes (fun p hp=>hq p (List.mem_append_left _ (List.mem_append_right _ hp)))
     rw [renA_id] at hau
     subst hau
     unfold evRd at hrd
     split at hrd
     ·rename_i ps' a' hop
      cases hrd
      exact ⟨_,hop,fun p hp=>hq p (List.mem_append_left _ (List.mem_append_left _ hp))⟩
     ·cases hrd
    ·cases h
   ·cases h
  | succ j =>
   have hq':∀ p ∈ qs',p:=by
    intro p hp
    refine hq p ?_
    cases hc:(Nat.ble x.lo k0 && Nat.ble k0 hi && !Nat.beq k0 x.num) with
    | true =>
     rw [hc] at h
     simp only [cond_true] at h
     split at h
     ·split at h
      ·cases h; exact List.mem_append_right _ hp
      ·cases h
     ·cases h
    | false=>rw [hc] at h; cases h; exact hp
   exact rdAt_ok r (k0 + 1) qs' hrest hq' j st (by simpa using hj) (by omega) (by omega) (by omega)
theorem noMem_op {P:Program} {S:Sums} {st st':Stt} {A:AE} {o:Oper} (h:noMem o.op=true):evOp P S st A o=evOp P S st' A o:=by
 have key:∀ op:Op,noMem op=true → evRdS P st A op=evRdS P st' A op∧evWrS P st A op=none∧evWrS P st' A op=none∧evCallS P A op=none:=by
  intro op h
  cases op <;> first | exact ⟨rfl,rfl,rfl,rfl⟩ | (cases h; done) | (rename_i q _ _; cases q <;> exact ⟨rfl,rfl,rfl,rfl⟩)
 obtain ⟨h1,h2,h3,h4⟩:=key o.op h
 unfold evOp
 rw [h1,h2,h3,h4]
theorem noMem_opG {fr:Bool} {P:Program} {S:Sums} {st st':Stt} {A:AE} {o:Oper} (h:noMem o.op=true):evOpG fr P S st A o=evOpG fr P S st' A o:=by
 have e:=noMem_op (P:=P) (S:=S) (st:=st) (st':=st') (A:=A) h
 have nw:∀ ps a st1,evOp P S st A o ≠ some (.wr ps a st1):=by
  intro ps a st1 hw
  have key:∀ op:Op,noMem op=true → evWrS P st A op=none∧evCallS P A op=none:=by
   intro op h
   cases op <;> first | exact ⟨rfl,rfl⟩ | (cases h; done) | (rename_i q _ _; cases q <;> exact ⟨rfl,rfl⟩)
  obtain ⟨h2,h4⟩:=key o.op h
  unfold evOp at hw
  rw [h2,h4] at hw
  split at hw
  ·cases hw
  ·simp only at hw
   split at hw <;> cases hw
 unfold evOpG
 rw [← e]
 split
 ·rfl
 ·rename_i hw; exact absurd hw (nw _ _ _)
 ·rfl
theorem putAll_ok {s:Sg} {E:Env}:∀ (l:List Oper) (G:List Inf) (A:AE),EnvOK s A E → (∀ (j:Nat) (o:Oper) (x:Inf) (d:Nat),l[j]?=some o → G[j]?=some x → o.dst=some d → Rel s x.u (E d)) → EnvOK s (putAll A l G) E
 | [],_,A,h,_=>by unfold putAll; exact h
 | _ :: _,[],A,h,_=>by unfold putAll; exact h
 | o :: r,x :: G,A,h,k=>by
  unfold putAll
  refine putAll_ok r G _ ?_ (fun j o' x' d hj hx=>k (j + 1) o' x' d (by simpa using hj) (by simpa using hx))
  intro t a ht
  cases hd:o.dst with
  | none=>rw [hd] at ht; exact h t a ht
  | some d =>
   rw [hd] at ht
   rcases Ly.get_set ht with ⟨rfl,e⟩ | ⟨_,e⟩
   ·cases e; exact k 0 o x _ rfl rfl hd
   ·exact h t a e
theorem cnt_hit {G:List Inf} {m:Nat}:∀ n,m < cnt G n → ∃ i x,G[i]?=some x∧x.mak=true∧cnt G i=m
 | 0,h=>by simp [cnt] at h
 | n + 1,h=>by
  cases hx:G[n]? with
  | none =>
   have hn:=List.getElem?_eq_none_iff.1 hx
   have:cnt G (n + 1)=cnt G n:=by unfold cnt; rw [List.take_of_length_le (by omega),List.take_of_length_le hn]
   exact cnt_hit n (by omega)
  | some x =>
   have e:=cnt_succ hx
   cases hm:x.mak with
   | false=>rw [hm] at e; exact cnt_hit n (by simp at e; omega)
   | true =>
    rw [hm] at e
    rcases Nat.lt_or_ge m (cnt G n) with h1 | h1
    ·exact cnt_hit n h1
    ·simp at e; exact ⟨n,x,hx,hm,by omega⟩
mutual
theorem Rel.ids {s:Sg} {n:Nat} (hd:∀ l,n ≤ l → s.f l=none):∀ (a:AV) (v:Value),Rel s a v → idsA n a=true
 | .v _,_,_=>by simp only [idsA]
 | .dl _ _ _,_,_=>by simp only [idsA]
 | .e0,_,_=>by simp only [idsA]
 | .any,_,_=>by simp only [idsA]
 | .er _,_,_=>by simp only [idsA]
 | .pd _ _ _,_,_=>by simp only [idsA]
 | .ptr l _,_,h=>by
  simp only [Rel] at h; obtain ⟨p,hp,_⟩:=h
  simp only [idsA]; refine Nat.ble_eq_true_of_le (Nat.lt_of_not_le fun hl=>?_); rw [hd l hl] at hp; cases hp
 | .sl l _ _ _,_,h=>by
  simp only [Rel] at h; obtain ⟨p,hp,_⟩:=h
  simp only [idsA]; refine Nat.ble_eq_true_of_le (Nat.lt_of_not_le fun hl=>?_); rw [hd l hl] at hp; cases hp
 | .ow l _,_,h=>by
  simp only [Rel] at h; obtain ⟨p,hp,_⟩:=h
  simp only [idsA]; refine Nat.ble_eq_true_of_le (Nat.lt_of_not_le fun hl=>?_); rw [hd l hl] at hp; cases hp
 | .oc l _,_,h=>by
  simp only [Rel] at h; obtain ⟨p,hp,_⟩:=h
  simp only [idsA]; refine Nat.ble_eq_true_of_le (Nat.lt_of_not_le fun hl=>?_); rw [hd l hl] at hp; cases hp
 | .vw l _ _ _,_,h=>by
  simp only [Rel] at h; obtain ⟨p,hp,_⟩:=h
  simp only [idsA]; refine Nat.ble_eq_true_of_le (Nat.lt_of_not_le fun hl=>?_); rw [hd l hl] at hp; cases hp
 | .pe l _ _ _ _ _,_,h=>by
  simp only [Rel] at h; obtain ⟨p,hp,_⟩:=h
  simp only [idsA]; refine Nat.ble_eq_true_of_le (Nat.lt_of_not_le fun hl=>?_); rw [hd l hl] at hp; cases hp
 | .agg cs,_,h=>by simp only [Rel] at h; obtain ⟨vs,h,_⟩:=h; simp only [idsA]; exact RelL.ids hd cs vs h
 | .tup cs,_,h=>by simp only [Rel] at h; obtain ⟨vs,h,_⟩:=h; simp only [idsA]; exact RelL.ids hd cs vs h
 | .fn _ cs,_,h=>by simp only [Rel] at h; obtain ⟨vs,h,_⟩:=h; simp only [idsA]; exact RelL.ids hd cs vs h
theorem RelL.ids {s:Sg} {n:Nat} (hd:∀ l,n ≤ l → s.f l=none):∀ (as':List AV) (vs:List Value),RelL s as' vs → idsAs n as'=true
 | [],_,_=>by simp only [idsAs]
 | a :: r,_,h=>by
  obtain ⟨v,vs',h1,h2,rfl⟩:=h.uncons
  simp only [idsAs,Bool.and_eq_true]; exact ⟨Rel.ids hd a v h1,RelL.ids hd r vs' h2⟩
end
structure Ren (s s':Sg) (ρ:Nat → Nat) (n:Nat):Prop where
 f:∀ l,l < n → ∀ p,s.f (ρ l)=some p → s'.f l=some p
 H:∀ m,Sub (s.H m) (s'.H m)
mutual
theorem Rel.ren {s s':Sg} {ρ:Nat → Nat} {n:Nat} (hr:Ren s s' ρ n):∀ (a:AV) (v:Value),idsA n a=true → Rel s (renA ρ a) v → Rel s' a v
 | .v _,_,_,h=>by simpa only [renA,Rel] using h
 | .dl m t xs,_,_,h=>by simp only [renA,Rel] at h ⊢; exact h.mono (hr.H m) fun x us hx=>Rd.mono (hr.H m) t x us hx
 | .e0,_,_,h=>by simpa only [renA,Rel] using h
 | .any,_,_,h=>by simpa only [renA,Rel] using h
 | .er _,_,_,h=>by simpa only [renA,Rel] using h
 | .pd m t d,_,_,h=>by simp only [renA,Rel] at h ⊢; obtain ⟨b,k,cs,h1,h2,h3⟩:=h; exact ⟨b,k,cs,h1,h2.mono (hr.H m),Rd.mono (hr.H m) t d cs h3⟩
 | .ptr l _,_,hi,h=>by simp only [idsA] at hi; simp only [renA,Rel] at h ⊢; obtain ⟨p,h1,h2⟩:=h; exact ⟨p,hr.f l (blt_t hi) p h1,h2⟩
 | .sl l _ _ _,_,hi,h=>by simp only [idsA] at hi; simp only [renA,Rel] at h ⊢; obtain ⟨p,h1,h2⟩:=h; exact ⟨p,hr.f l (blt_t hi) p h1,h2⟩
 | .ow l _,_,hi,h=>by simp only [idsA] at hi; simp only [renA,Rel] at h ⊢; obtain ⟨p,h1,h2⟩:=h; exact ⟨p,hr.f l (blt_t hi) p h1,h2⟩
 | .oc l _,_,hi,h=>by simp only [idsA] at hi; simp only [renA,Rel] at h ⊢; obtain ⟨p,h1,h2⟩:=h; exact ⟨p,hr.f l (blt_t hi) p h1,h2⟩
 | .vw l _ _ _,_,hi,h=>by simp only [idsA] at hi; simp only [renA,Rel] at h ⊢; obtain ⟨p,h1,h2⟩:=h; exact ⟨p,hr.f l (blt_t hi) p h1,h2⟩
 | .pe l _ _ _ _ _,_,hi,h=>by simp only [idsA] at hi; simp only [renA,Rel] at h ⊢; obtain ⟨p,h1,h2⟩:=h; exact ⟨p,hr.f l (blt_t hi) p h1,h2⟩
 | .agg cs,_,hi,h=>by simp only [idsA] at hi; simp only [renA,Rel] at h ⊢; obtain ⟨vs,h1,h2⟩:=h; exact ⟨vs,RelL.ren hr cs vs hi h1,h2⟩
 | .tup cs,_,hi,h=>by simp only [idsA] at hi; simp only [renA,Rel] at h ⊢; obtain ⟨vs,h1,h2⟩:=h; exact ⟨vs,RelL.ren hr cs vs hi h1,h2⟩
 | .fn _ cs,_,hi,h=>by simp only [idsA] at hi; simp only [renA,Rel] at h ⊢; obtain ⟨vs,h1,h2⟩:=h; exact ⟨vs,RelL.ren hr cs vs hi h1,h2⟩
theorem RelL.ren {s s':Sg} {ρ:Nat → Nat} {n:Nat} (hr:Ren s s' ρ n):∀ (as':List AV) (vs:List Value),idsAs n as'=true → RelL s (renAs ρ as') vs → RelL s' as' vs
 | [],_,_,h=>by simpa only [renAs,RelL] using h
 | a :: r,_,hi,h=>by
  simp only [idsAs,Bool.and_eq_true] at hi
  simp only [renAs] at h
  obtain ⟨v,vs',h1,h2,rfl⟩:=h.uncons
  exact RelL.cons (Rel.ren hr a v hi.1 h1) (RelL.ren hr r vs' hi.2 h2)
end
def renX (ρ:Nat → Nat):AX → AX
 | .c e cs=>.c e (renAs ρ cs)
 | .q e t xs=>.q e t xs
theorem ObjAt.ren {s s':Sg} {ρ:Nat → Nat} {n:Nat} {w:World} {p:Loc} (hr:Ren s s' ρ n) {x:AX} (hi:idsX n x=true) (h:ObjAt s w p (renX ρ x)):ObjAt s' w p x:=by
 cases x with
 | c e cs=>obtain ⟨vs,h1,h2⟩:=h; exact ⟨vs,h1,RelL.ren hr cs vs hi h2⟩
 | q e t xs =>
  obtain ⟨h1,h2,h3,h4⟩:=h
  refine ⟨h1,h2,h3,fun hc=>?_⟩
  obtain ⟨cur,h5,h6,h7,h8⟩:=h4 hc
  exact ⟨cur,h5,h6,h7,fun i x hi=>Rd.mono (hr.H true) t x _ (h8 i x hi)⟩
theorem renX_id (x:AX):renX (fun l=>l) x=x:=by cases x <;> simp [renX,renAs_id]
theorem there_ren {ρ:Nat → Nat} {x:AX} {p:Loc}:there (renX ρ x) p ↔ there x p:=by cases x <;> exact Iff.rfl
theorem isBox_ren {ρ:Nat → Nat} {x:AX}:isBox (renX ρ x)=isBox x:=by cases x <;> rfl
def Sg.ren (s:Sg) (ρ:Nat → Nat) (n:Nat):Sg:={ s with f:=fun l=>if l < n then s.f (ρ l) else none }
theorem Sg.ren_ok (s:Sg) (ρ:Nat → Nat) (n:Nat):Ren s (s.ren ρ n) ρ n:=⟨fun l hl p hp=>by simp only [Sg.ren]; rw [if_pos hl]; exact hp,fun m=>Sub.refl _⟩
end Go.Proofs.YtplflgclomiihaaGreat.Sv
namespace Go.Proofs.YtplflgclomiihaaGreat.Sv
open Go.RowKit Go.Proofs.YtplflgclomiihaaGreat.W
variable {Γ : Gl}
theorem Ly.get_set_ne {α:Type} {L:Ly α} {k j:Nat} {x:Option α} (h:j ≠ k):(L.set k x).get j=L.get j:=by
 unfold Ly.get
 cases hj:Nat.blt j 1000000 with
 | false=>rfl
 | true =>
  simp only [cond_true]
  unfold Ly.set
  cases hk:Nat.blt k 1000000 with
  | false=>rfl
  | true =>
   have hk':k < 1000000:=by simpa using hk
   simp only [cond_true]
   cases L with
   | nil=>simp only [Ly.go,Tr.get_set _ _ _ _ hk',if_neg h,Tr.get_nil]
   | cons t r=>simp only [Ly.go,Tr.get_set _ _ _ _ hk',if_neg h]
section
variable {s : Sg} {w0 w : World} {st st' : Stt} {A : AE} {E : Env} {P : Program} {o : Oper}
theorem evOpG_wr {fr:Bool} {S:Sums} {ps:Ps} {a:AV} (h:evOpG fr P S st A o=some (.wr ps a st')):evOp P S st A o=some (.wr ps a st'):=by
 unfold evOpG at h
 split at h
 ·cases h
 ·rename_i ps1 a1 st1 he
  split at h
  ·cases h
  ·cases h; exact he
 ·cases h
theorem setBoxes_none:∀ (ks:List AK) (ls:List Nat) (ds:List D) (st:Stt),ks.all (fun k=>!isBoxK k)=true → setBoxes st ks ls ds=st
 | [],_,_,_,_=>by simp [setBoxes]
 | .d _ _ :: r,ls,ds,st,h=>by
  simp only [List.all_cons,Bool.and_eq_true] at h
  simp only [setBoxes]; exact setBoxes_none r ls _ st h.2
 | .p _ :: r,ls,ds,st,h=>by
  simp only [List.all_cons,Bool.and_eq_true] at h
  simp only [setBoxes]; exact setBoxes_none r ls _ st h.2
 | .box _ _ :: _,_,_,_,h=>by simp [isBoxK] at h
 | .o _ _ _ :: _,_,_,_,h=>by simp [isBoxK] at h
theorem mkOuts_d:∀ (ks:List RK) (ds:List D) (st:Stt),ks.all isDk=true → (mkOuts st ks ds).2=st
 | [],_,_,_=>rfl
 | k :: ks,ds,st,h=>by
  simp only [List.all_cons,Bool.and_eq_true] at h
  cases k with
  | d t=>simp only [mkOuts,mkRes]; exact mkOuts_d ks _ st h.2
  | _=>simp [isDk] at h
theorem conStep_same {c:Con} {l:List AV} {ps:Ps} {a:AV} {q:Bool} (h1:c.res.all isDk=true) (h2:c.args.all (fun k=>!isBoxK k)=true) (h:conStep c l st=some (ps,a,st',q)):st'=st:=by
 unfold conStep at h
 split at h
 ·rename_i et t fs he
  match ha:c.args,he with
  | [.o _ _ _],_=>rw [ha] at h2; simp [isBoxK] at h2
 split at h
 case h_2=>cases h
 rename_i ds bs hm
 revert h
 cases (noDup bs && (noP c.args || bs.isEmpty)) with
 | false=>intro h; cases h
 | true =>
  intro h
  simp only [cond_true] at h
  have e:=mkOuts_d c.res (c.out ds) (setBoxes st c.args bs (c.boxes ds)) h1
  rw [setBoxes_none _ _ _ _ h2] at e h
  generalize mkOuts st c.res (c.out ds)=m at e h
  obtain ⟨r,st2⟩:=m
  simp only at e
  subst e
  cases h; rfl
theorem Hold.shrink {s0 s2:Sg} {st2:Stt} (h0:Hold Γ s0 w0 st w) {w':World} (hle:s0.le s2) (h:Hold Γ s2 w0 st2 w') (hsub:∀ k x,st.h.get k=some x → st2.h.get k=some x):∃ s3,s0.le s3∧Hold Γ s3 w0 st w'∧∀ m,Sub (s2.H m) (s3.H m):=by
 have hlow:∀ k x,st.h.get k=some x → k < st.nx:=fun k x hk=>by
  obtain ⟨p,h1,_⟩:=h0.obj k x hk
  exact Nat.lt_of_not_le fun hl=>by rw [h0.dom k hl] at h1; cases h1
 have hR:=Sg.ren_ok s2 (fun l=>l) st.nx
 refine ⟨s2.ren (fun l=>l) st.nx,⟨fun l p hp=>?_,hle.F,hle.G,hle.X,hle.G0⟩,⟨h.ext,h.frz,h.gf,fun l hl=>?_,fun k x hk=>?_,fun k k' x x' p p' hk hk' hp hp' ht ht' e=>?_,h.gnew,h.glob⟩,fun m=>Sub.refl _⟩
 ·have hl:l < st.nx:=Nat.lt_of_not_le fun h=>by rw [h0.dom l h] at hp; cases hp
  simp only [Sg.ren]; rw [if_pos hl]; exact hle.f l p hp
 ·simp only [Sg.ren]; rw [if_neg (by omega)]
 ·obtain ⟨p,h1,h2⟩:=h.obj k x (hsub k x hk)
  obtain ⟨p0,g1,g2⟩:=h0.obj k x hk
  have hid:idsX st.nx x=true:=by
   cases x with
   | c e cs=>obtain ⟨vs,_,hr⟩:=g2.cur; exact RelL.ids h0.dom cs vs hr
   | q e t xs=>rfl
  refine ⟨p,by simp only [Sg.ren]; rw [if_pos (hlow k x hk)]; exact h1,h2.free,?_⟩
  exact ObjAt.ren hR hid (by rw [renX_id]; exact h2.cur)
 ·simp only [Sg.ren] at hp hp'
  rw [if_pos (hlow k x hk)] at hp
  rw [if_pos (hlow k' x' hk')] at hp'
  exact h.inj k k' x x' p p' (hsub k x hk) (hsub k' x' hk') hp hp' ht ht' e
theorem evOpG_rd {fr:Bool} {S:Sums} (hS:SumsOK P Γ S) (hH:Hold Γ s w0 st w) (hE:EnvOK s A E) {ps:Ps} {a:AV} (h:evOpG fr P S st A o=some (.rd ps a)) (hp:∀ p ∈ ps,p):(∃ v,Rel s a v∧Quiet1 P o E w v) ∨ Made P o E w fun v w'=>∃ s',s.le s'∧Hold Γ s' w0 st w'∧Rel s' a v:=by
 unfold evOpG at h
 split at h
 ·rename_i ps1 a1 he
  cases h
  exact .inl (evOp_rd hS hH hE he hp)
 ·split at h
  ·rename_i ps2 a2 hf
   cases h
   cases fr with
   | false=>cases hf
   | true =>
    simp only [cond_true] at hf
    unfold evFr at hf
    split at hf
    ·rename_i f l hc
     split at hf
     case h_2=>cases hf
     rename_i c hfc
     cases hk:(c.res.all isDk && c.args.all (fun k=>!isBoxK k)) with
     | false=>rw [hk] at hf; cases hf
     | true =>
     rw [hk] at hf
     simp only [cond_true] at hf
     simp only [Bool.and_eq_true] at hk
     split at hf
     case h_2=>cases hf
     rename_i ps3 a3 st3 hcon
     cases hf
     have:=conStep_same hk.1 hk.2 hcon
     subst this
     obtain ⟨vs,h1,h2⟩:=call_op hE hc
     exact .inr (.inr ⟨f,vs.toArray,h2 w,con_ok (hS f c hfc) hH hcon hp h1⟩)
    ·split at hf
     case h_2=>cases hf
     rename_i t len qs hop
     split at hf
     case h_2=>cases hf
     rename_i ps3 l n st3 hw
     split at hf
     case h_2=>cases hf
     rename_i et dt xs hl
     cases hb:Nat.beq l st.nx with
     | false=>rw [hb] at hf; cases hf
     | true =>
     rw [hb] at hf
     cases hf
     have hlx:=beq_t hb
     obtain ⟨v,w',s',g1,g2,g3,g4⟩:=wr_ok hH hE hw hp
     have hfz:freeze st3 (.ow l n)=some (.dl true dt (xs.take n),delX st3 l):=by simp only [freeze,hl]
     obtain ⟨s2,k1,k2,k3,_⟩:=freeze_ok g3 hfz g4
     have hlow:∀ k x,st.h.get k=some x → k < st.nx:=fun k x hk=>by
      obtain ⟨p,h1,_⟩:=hH.obj k x hk
      exact Nat.lt_of_not_le fun hl=>by rw [hH.dom k hl] at h1; cases h1
     have hst:∃ y,st3=newX st y:=by
      rw [hop] at hw
      simp only [evWrS] at hw
      split at hw
      case h_2=>cases hw
      split at hw
      case h_2=>cases hw
      revert hw
      cases (Nat.ble _ 1024 && Nat.beq _ _ && Nat.ble 1 _) with
      | false=>intro hw; cases hw
      | true =>
       intro hw
       simp only [cond_true] at hw
       split at hw
       case h_2=>cases hw
       simp only [Option.some.injEq,Prod.mk.injEq] at hw
       obtain ⟨_,_,hw⟩:=hw
       rw [← hw]
       unfold newRowA
       split
       ·cases Nat.beq _ _ with
        | false=>exact ⟨_,rfl⟩
        | true =>
         simp only [cond_true]
         split
         ·exact ⟨_,rfl⟩
         ·exact ⟨_,rfl⟩
       ·exact ⟨_,rfl⟩
     obtain ⟨y,rfl⟩:=hst
     obtain ⟨s3,q1,q2,q3⟩:=Hold.shrink hH (g2.trans k1) k2 (fun k x hk=>by
      have hlt:=hlow k x hk
      have hne:k ≠ l:=by omega
      unfold delX
      rw [Ly.get_set_ne hne]
      rw [newX]
      exact (Ly.get_set_ne (by omega)).trans hk)
     refine .inr (.inl ⟨v,w',g1,s3,q1,q2,?_⟩)
     simp only [Rel] at k3 ⊢
     exact k3.mono (q3 true) fun x us hx=>Rd.mono (q3 true) dt x us hx
  ·cases h
 ·cases h
end
structure DV (Γ:Gl) (s0:Sg) (w0:World) (N:Nat) (l:List Oper) (A A0:AE) (G:List Inf) (T:List Stt) (listed:Array Bool) (a:Act) (w:World) (k:Nat) (s:Sg) (st:Stt):Prop where
 le:s0.le s
 at_:T[k]?=some st
 hold:Hold Γ s w0 st w
 maks:∀ i x,G[i]?=some x → x.mak=true → (listed.getD i false=true ↔ x.num < k)
 lo:∀ i x,G[i]?=some x → listed.getD i false=true → x.aft ≤ k
 vals:∀ i x o d,G[i]?=some x → l[i]?=some o → listed.getD i false=true → o.dst=some d → Rel s x.u (envOf a d)
 base:EnvOK s A0 (envOf a)
 old:∀ i o d b,l[i]?=some o → listed.getD i false=false → o.dst=some d → A.get d=some b → Rel s b (envOf a d)
 closed:∀ i o,l[i]?=some o → listed.getD i false=true → ∀ p ∈ preds o,listed.getD p false=true
section
variable {ro : Option Nat} {w0 : World} {P : Program}
theorem drawn_okF {fr : Bool} {S : Sums} (hS : SumsOK P Γ S) {N : Nat} {DD : List Deferred} {ops : Array Oper} {A A' : AE} {st0 st' : Stt} {ps : Ps} {Nn R : Env → World → Prop} {X : Nat → Env → World → Prop} (h : evDrawn fr P S N ops A st0 = some (ps, A', st')) (hps : ∀ p ∈ ps, p) (s0 : Sg) (E : Env) (w : World)
    (hH : Hold Γ s0 w0 st0 w) (hE : EnvOK s0 A E) (k : ∀ s' E' w', s0.le s' → Hold Γ s' w0 st' w' → EnvOK s' A' E' → Nn E' w') : AnyWPf P ro ⟨N, DD⟩ ops.toList (fun j v => ∀ infs sts, pass1 fr P S ops A (killA A (dsts ops.toList)) ops.toList 0 .nil st0 0 = some (infs, sts) → ∀ x, infs[j]? = some x → ∀ b, x.u = .v (.bool b) → v = .bool b) ⟨Nn, X, R⟩ E w := by
  obtain ⟨l⟩ := ops
  unfold evDrawn at h
  simp only at h
  cases hchk : (Nat.ble l.length 4000 && l.all (fun o => dstB N o.dst) && noDup (dsts l) && backOk l 0 && l.all (fun o => isNone o.guard)) with
  | false => rw [hchk] at h; cases h
  | true =>
  rw [hchk] at h
  simp only [cond_true] at h
  simp only [Bool.and_eq_true] at hchk
  obtain ⟨⟨⟨⟨c1, c2⟩, c3⟩, c4⟩, c5⟩ := hchk
  have c1 := ble_t c1
  have hback : ∀ i o, l[i]? = some o → ∀ p ∈ preds o, p < i := fun i o ho p hp => by have := backOk_ok l 0 c4 i o ho p hp; omega
  have hguard : ∀ (i : Nat) (o : Oper), l[i]? = some o → o.guard = none := fun i o ho => by
    have := List.all_eq_true.1 c5 o (List.mem_of_getElem? ho)
    cases hg : o.guard with
    | none => rfl
    | some g => rw [hg] at this; cases this
  split at h
  · cases h
  rename_i G T hp1
  split at h
  case h_2 => cases h
  rename_i ps2 stL hp2 hlast
  cases h
  obtain ⟨hGl, hS0, hSl⟩ := pass1_len _ _ _ _ _ _ _ hp1
  have hM : T.length - 1 = cnt G G.length := by rw [hSl]; unfold cnt; rw [List.take_of_length_le (Nat.le_refl _)]; omega
  have hgood : ∀ i o, l[i]? = some o → ∃ x, G[i]? = some x ∧ Good fr P S l A (killA A (dsts l)) G T i o x := fun i o ho => by
    have := pass1_ok c1 hback G T l 0 .nil st0 0 G T hp1 rfl rfl rfl (by simp [cnt]) (fun p => by simp [Tr.get]) i o ho
    simpa using this
  have hsec : ∀ i o x, l[i]? = some o → G[i]? = some x → Sec fr P S l G T (T.length - 1) i o x := fun i o x ho hx => by
    have := pass2_ok l G 0 _ hp2 hps i o x ho hx
    simpa using this
  have hnum : ∀ i x, G[i]? = some x → x.num = cnt G i := fun i x hx => by
    have hi : i < l.length := by rw [← hGl]; exact (List.getElem?_eq_some_iff.1 hx).1
    obtain ⟨y, hy, hg⟩ := hgood i _ (List.getElem?_eq_getElem hi)
    rw [hx] at hy; cases hy; exact hg.num
  have hapart := noDupD l c3
  refine ⟨(fun listed a w => listed.size = l.length ∧ Ok ⟨N, DD⟩ a ∧ ∃ k s st, DV Γ s0 w0 N l A (killA A (dsts l)) G T listed a w k s st), (fun _ _ _ hV => hV.1), ?_, ?_, ?_, ?_⟩
  · 
    rintro listed a w ⟨hsz, hok, kk, s, st, D⟩ hr
    have hall := all_listed' hsz hback hr
    have hall' : ∀ i, i < l.length → listed.getD i false = true := fun i hi => by
      have := hall i hi
      have hsz' : i < listed.size := by omega
      rw [Array.getD_eq_getD_getElem?, Array.getElem?_eq_getElem hsz'] at this ⊢
      exact this
    have hk : kk = T.length - 1 := by
      have h1 : kk < T.length := by
        have := D.at_
        exact (List.getElem?_eq_some_iff.1 this).1
      rcases Nat.lt_or_ge kk (T.length - 1) with h2 | h2
      · rw [hM] at h2
        obtain ⟨i, x, hx, hmk, hci⟩ := cnt_hit _ h2
        have hi : i < l.length := by rw [← hGl]; exact (List.getElem?_eq_some_iff.1 hx).1
        have := (D.maks i x hx hmk).1 (hall' i hi)
        rw [hnum i x hx] at this; omega
      · omega
    have hst : st = st' := by
      have := D.at_
      rw [hk] at this
      rw [List.getLast?_eq_getElem?] at hlast
      rw [hlast] at this; exact (Option.some.inj this).symm
    subst hst
    exact ⟨hok, k s _ _ D.le D.hold (putAll_ok l G _ D.base fun j o x d hj hx hd => D.vals j x o d hx hj (hall' j (List.getElem?_eq_some_iff.1 hj).1) hd)⟩
  · 
    rintro listed a w i o ⟨hsz, hok, kk, s, st, D⟩ ho hun hpre
    have hi : i < l.length := (List.getElem?_eq_some_iff.1 ho).1
    have hsz' : i < listed.size := by omega
    have hun' : listed.getD i false = false := by
      rw [Array.getD_eq_getD_getElem?, Array.getElem?_eq_getElem hsz'] at hun ⊢
      exact hun
    have hpre' : ∀ p ∈ preds o, listed.getD p false = true := by
      intro p hp
      obtain ⟨e, he, rfl⟩ := List.mem_map.1 hp
      obtain ⟨h1, h2⟩ := List.mem_filter.1 he
      exact hpre e h1 h2
    obtain ⟨x, hx, g⟩ := hgood i o ho
    have sec := hsec i o x ho hx
    have hdst : dstOk ⟨N, DD⟩ o.dst = true := dst_of (List.all_eq_true.1 c2 o (List.mem_of_getElem? ho))
    have hlo : x.lo ≤ kk := g.lub kk fun p hp y hy => D.lo p y hy (hpre' p hp)
    have henv : EnvOK s x.env (envOf a) := g.env s (envOf a) D.base (fun p hp y q d hy hq hd => D.vals p y q d hy hq (hpre' p hp) hd) (fun q hq hiq d hd b hb => by
      obtain ⟨j, hj⟩ := List.mem_iff_getElem?.1 hq
      refine D.old j q d b hj ?_ hd hb
      cases hjl : listed.getD j false with
      | false => rfl
      | true => rw [D.closed j q hj hjl i hiq] at hun'; cases hun')
    have hkM : kk ≤ T.length - 1 := by have := (List.getElem?_eq_some_iff.1 D.at_).1; omega
    have next : ∀ (s1 : Sg) (st1 : Stt) (k1 : Nat) (v : Value) (w1 : World), s.le s1 → T[k1]? = some st1 → Hold Γ s1 w0 st1 w1 → Rel s1 x.u v → kk ≤ k1 → x.aft ≤ k1 →
        (∀ j y, G[j]? = some y → y.mak = true → ((listed.setIfInBounds i true).getD j false = true ↔ y.num < k1)) →
        (listed.setIfInBounds i true).size = l.length ∧ Ok ⟨N, DD⟩ (a.put o.dst v) ∧ ∃ k s st, DV Γ s0 w0 N l A (killA A (dsts l)) G T (listed.setIfInBounds i true) (a.put o.dst v) w1 k s st := by
      intro s1 st1 k1 v w1 hle hat hh hrel hk1 haft hmaks
      have he : envOf (a.put o.dst v) = updO (envOf a) o.dst v := envOf_put hok o.dst hdst v
      have old : ∀ t, (∀ d, o.dst = some d → t ≠ d) → envOf (a.put o.dst v) t = envOf a t := by
        intro t ht
        rw [he]
        cases hd : o.dst with
        | none => rfl
        | some d => exact upd_ne _ _ _ _ (ht d hd)
      refine ⟨by simpa using hsz, hok.put _ _, k1, s1, st1, D.le.trans hle, hat, hh, hmaks, ?_, ?_, ?_, ?_, ?_⟩
      · intro j y hy hj
        rw [W.getD_set] at hj
        by_cases e : i = j
        · subst e; rw [hx] at hy; cases hy; exact haft
        · rw [if_neg (fun h => e h.1)] at hj; exact Nat.le_trans (D.lo j y hy hj) hk1
      · intro j y q d hy hq hj hd
        rw [W.getD_set] at hj
        by_cases e : i = j
        · subst e
          rw [hx] at hy; cases hy
          rw [ho] at hq; cases hq
          rw [he, hd, updO, upd_same]; exact hrel
        · rw [if_neg (fun h => e h.1)] at hj
          rw [old d (fun d' hd' e' => by subst e'; exact e (hapart i j o q d ho hq hd' hd))]
          exact Rel.mono hle _ _ (D.vals j y q d hy hq hj hd)
      · intro t b hb
        obtain ⟨hno, _⟩ := killA_get (dsts l) A t b hb
        rw [old t (fun d hd e => by subst e; exact hno (List.mem_filterMap.2 ⟨o, List.mem_of_getElem? ho, hd⟩))]
        exact Rel.mono hle _ _ (D.base t b hb)
      · intro j q d b hq hj hd hb
        rw [W.getD_set] at hj
        by_cases e : i = j
        · subst e
          rw [if_pos ⟨rfl, hsz'⟩] at hj; cases hj
        · rw [if_neg (fun h => e h.1)] at hj
          rw [old d (fun d' hd' e' => by subst e'; exact e (hapart i j o q d ho hq hd' hd))]
          exact Rel.mono hle _ _ (D.old j q d b hq hj hd hb)
      · intro j q hq hj p hp
        rw [W.getD_set] at hj ⊢
        by_cases e : i = j
        · subst e
          rw [ho] at hq; cases hq
          split
          · rfl
          · exact hpre' p hp
        · rw [if_neg (fun h => e h.1)] at hj
          split
          · rfl
          · exact D.closed j q hq hj p hp
    obtain ⟨stn, hstn, hval⟩ := g.val
    have hsure : Sure l.toArray o (envOf a) := Sure.none (hguard i o ho)
    rcases hval with ⟨hmk, haft, hrd⟩ | ⟨hmk, haft, stn', hstn', hop⟩
    · 
      have hrd' : ∃ qs, evOpG fr P S st x.env o = some (.rd qs x.u) ∧ ∀ p ∈ qs, p := by
        by_cases e : kk = x.num
        · have := D.at_; rw [e, hstn] at this; cases this; exact ⟨_, hrd, sec.ps⟩
        · rcases sec.rd hmk with hM0 | hno | ⟨qs, hrda, hqs⟩
          · have h1 := hnum i x hx
            have h2 : cnt G i ≤ cnt G G.length := cnt_mono G (by have := (List.getElem?_eq_some_iff.1 hx).1; omega)
            omega
          · exact ⟨_, (noMem_opG hno).trans hrd, sec.ps⟩
          · refine rdAt_ok T 0 qs hrda hqs kk st D.at_ (by omega) ?_ (by omega)
            rw [Nat.zero_add]
            refine hiOf_ge hkM l G fun j q y hq hy hmj hij => ?_
            have : ¬ (listed.getD j false = true) := fun hj => by rw [D.closed j q hq hj i hij] at hun'; cases hun'
            have := mt (D.maks j y hy hmj).2 this
            omega
      have maks' : ∀ j y, G[j]? = some y → y.mak = true → ((listed.setIfInBounds i true).getD j false = true ↔ y.num < kk) := by
        intro j y hy hmj
        rw [W.getD_set]
        by_cases e : i = j
        · subst e; rw [hx] at hy; cases hy; rw [hmk] at hmj; cases hmj
        · rw [if_neg (fun h => e h.1)]; exact D.maks j y hy hmj
      obtain ⟨qs, hop, hqs⟩ := hrd'
      rcases evOpG_rd hS D.hold henv hop hqs with ⟨v, hrel, hq⟩ | hmade
      · rcases hq with hq | ⟨f, args, h1, h2⟩
        · exact .inr ⟨hsure, .inl ⟨v, w, (hq w (Ext.refl _ _)).x, next s st kk v w (Sg.le.refl s) D.at_ D.hold hrel (Nat.le_refl _) (by omega) maks'⟩⟩
        · refine .inr ⟨hsure, .inr (.inl ⟨f, args, h1 w (Ext.refl _ _), Fnc.mono (h2 w (Ext.refl _ _)) ?_⟩)⟩
          rintro u w' ⟨rfl, hx'⟩
          exact next s st kk u w' (Sg.le.refl s) D.at_ (D.hold.grow hx') hrel (Nat.le_refl _) (by omega) maks'
      · rcases hmade with ⟨v, w', h1, s', h2, h3, h4⟩ | ⟨f, args, h1, h2⟩
        · exact .inr ⟨hsure, .inl ⟨v, w', h1, next s' st kk v w' h2 D.at_ h3 h4 (Nat.le_refl _) (by omega) maks'⟩⟩
        · refine .inr ⟨hsure, .inr (.inl ⟨f, args, h1, Fnc.mono h2 ?_⟩)⟩
          rintro u w' ⟨s', h2, h3, h4⟩
          exact next s' st kk u w' h2 D.at_ h3 h4 (Nat.le_refl _) (by omega) maks'
    · 
      have hk : kk = x.num := by
        have h1 : ¬ (x.num < kk) := fun hlt => by rw [(D.maks i x hx hmk).2 hlt] at hun'; cases hun'
        have h2 : x.num ≤ kk := by
          have := sec.mak hmk
          omega
        omega
      have hst : st = stn := by have := D.at_; rw [hk, hstn] at this; exact (Option.some.inj this).symm
      subst hst
      have maks' : ∀ j y, G[j]? = some y → y.mak = true → ((listed.setIfInBounds i true).getD j false = true ↔ y.num < x.num + 1) := by
        intro j y hy hmj
        rw [W.getD_set]
        by_cases e : i = j
        · subst e; rw [hx] at hy; cases hy; simp [hsz']
        · rw [if_neg (fun h => e h.1), D.maks j y hy hmj, hk]
          have e1 := hnum j y hy; have e2 := hnum i x hx
          have e3 := cnt_succ hy; have e4 := cnt_succ hx
          rw [hmj] at e3; rw [hmk] at e4
          simp only [if_true] at e3 e4
          constructor
          · intro hlt; omega
          · intro hlt
            rcases Nat.lt_or_ge j i with hji | hji
            · have := cnt_mono G (show j + 1 ≤ i by omega); omega
            · have := cnt_mono G (show i + 1 ≤ j by omega); omega
      rcases evOp_wr hS D.hold henv (evOpG_wr hop) sec.ps with ⟨v, w', hx1, s', hle, hH', hrel⟩ | ⟨f, args, hx1, hf⟩
      · exact .inr ⟨hsure, .inl ⟨v, w', hx1, next s' stn' (x.num + 1) v w' hle hstn' hH' hrel (by omega) (by omega) maks'⟩⟩
      · refine .inr ⟨hsure, .inr (.inl ⟨f, args, hx1, Fnc.mono hf ?_⟩)⟩
        rintro v w' ⟨s', hle, hH', hrel⟩
        exact next s' stn' (x.num + 1) v w' hle hstn' hH' hrel (by omega) (by omega) maks'
  · 
    intro a d hok he
    subst he
    have no : ∀ i, (Array.replicate l.length false).getD i false = false := by
      intro i; rw [Array.getD_eq_getD_getElem?]
      by_cases hi : i < l.length <;> simp [hi]
    refine ⟨by simp, hok, 0, s0, st0, Sg.le.refl s0, hS0, hH.drew d, ?_, ?_, ?_, ?_, ?_, ?_⟩
    · intro i x _ _; rw [no i]; simp
    · intro i x _ hi; rw [no i] at hi; cases hi
    · intro i x o d _ _ hi; rw [no i] at hi; cases hi
    · intro t b hb; exact hE t b (killA_get (dsts l) A t b hb).2
    · intro i o d b _ _ _ hb; exact hE d b hb
    · intro i o _ hi; rw [no i] at hi; cases hi
  · 
    rintro listed a w ⟨hsz, hok, kk, s, st, D⟩ j o d ho hd hl infs sts hp x hx b hb
    have hp' : pass1 fr P S l.toArray A (killA A (dsts l)) l 0 .nil st0 0 = some (infs, sts) := hp
    rw [hp1] at hp'
    cases hp'
    have := D.vals j x o d hx ho hl hd
    rw [hb] at this
    exact this.v_of
theorem drawn_okV {fr : Bool} {S : Sums} (hS : SumsOK P Γ S) {N : Nat} {DD : List Deferred} {ops : Array Oper} {A A' : AE} {st0 st' : Stt} {ps : Ps} {Nn R : Env → World → Prop} {X : Nat → Env → World → Prop} (h : evDrawn fr P S N ops A st0 = some (ps, A', st')) (hps : ∀ p ∈ ps, p) (s0 : Sg) (E : Env) (w : World)
    (hH : Hold Γ s0 w0 st0 w) (hE : EnvOK s0 A E) (k : ∀ s' E' w', s0.le s' → Hold Γ s' w0 st' w' → EnvOK s' A' E' → Nn E' w') : AnyWP P ro ⟨N, DD⟩ ops.toList ⟨Nn, X, R⟩ E w := (drawn_okF hS h hps s0 E w hH hE k).any
theorem drawn_ok {fr : Bool} (hm : P.follows .mixedOrders = true) {S : Sums} (hS : SumsOK P Γ S) {N id : Nat} {DD : List Deferred} {ops : Array Oper} {A A' : AE} {st0 st' : Stt} {ps : Ps} {Nn R : Env → World → Prop} {X : Nat → Env → World → Prop} (h : evDrawn fr P S N ops A st0 = some (ps, A', st')) (hps : ∀ p ∈ ps, p) (s0 : Sg) (E : Env) (w : World)
    (hH : Hold Γ s0 w0 st0 w) (hE : EnvOK s0 A E) (k : ∀ s' E' w', s0.le s' → Hold Γ s' w0 st' w' → EnvOK s' A' E' → Nn E' w') : WPr ro P ⟨N, DD⟩ (.region id ops true) ⟨Nn, X, R⟩ E w := by
  have := drawn_okV (ro := ro) (X := X) (R := R) (DD := DD) hS h hps s0 E w hH hE k
  exact AnyWP.wp (l := ops.toList) hm this
theorem wanted_shift {l:List Oper} {m:Nat} {o:Oper} {tmps:Array Value} (hg:∀ g,o.guard=some g → m ≤ g.1):Region.wanted (shiftO m o) (yielded ((l.drop m).map (shiftO m)).toArray tmps)=Region.wanted o (yielded l.toArray tmps):=by
 unfold Region.wanted
 cases h:o.guard with
 | none=>simp [shiftO,h]
 | some g =>
  obtain ⟨j,b⟩:=g
  have hm:=hg _ h
  simp only [shiftO,h,Option.map_some]
  congr 1
  unfold yielded
  have:((((l.drop m).map (shiftO m)).toArray[j - m]?).bind (·.dst))=((l.toArray[j]?).bind (·.dst)):=by
   simp only [List.getElem?_toArray,List.getElem?_map,List.getElem?_drop]
   rw [show m + (j - m)=j from by simp only at hm; omega]
   cases l[j]? <;> rfl
  rw [this]
theorem getD_app_left {a b:Array Bool} {i:Nat} {d:Bool} (h:i < a.size):(a ++ b).getD i d=a.getD i d:=by
 rw [Array.getD_eq_getD_getElem?,Array.getD_eq_getD_getElem?,Array.getElem?_append_left h]
theorem getD_app_right {a b:Array Bool} {i:Nat} {d:Bool} (h:a.size ≤ i):(a ++ b).getD i d=b.getD (i - a.size) d:=by
 rw [Array.getD_eq_getD_getElem?,Array.getD_eq_getD_getElem?,Array.getElem?_append_right h]
theorem getD_dflt {a:Array Bool} {i:Nat} {d e:Bool} (h:i < a.size):a.getD i d=a.getD i e:=by
 rw [Array.getD_eq_getD_getElem?,Array.getD_eq_getD_getElem?,Array.getElem?_eq_getElem h]; rfl
theorem getD_rep {n i:Nat} {b d:Bool} (h:i < n):(Array.replicate n b).getD i d=b:=by
 rw [Array.getD_eq_getD_getElem?,Array.getElem?_replicate,if_pos h]; rfl
theorem set_app_left {a b:Array Bool} {i:Nat} {x:Bool} (h:i < a.size):(a ++ b).setIfInBounds i x=a.setIfInBounds i x ++ b:=by
 apply Array.ext_getElem?
 intro j
 rw [Array.getElem?_setIfInBounds,Array.getElem?_append,Array.getElem?_append,Array.getElem?_setIfInBounds,Array.size_setIfInBounds,Array.size_append]
 by_cases hj:i=j
 ·subst hj
  rw [if_pos rfl,if_pos (by omega),if_pos h,if_pos rfl,if_pos h]
 ·rw [if_neg hj,if_neg hj]
theorem set_app_right {a b:Array Bool} {i:Nat} {x:Bool} (h:a.size ≤ i):(a ++ b).setIfInBounds i x=a ++ b.setIfInBounds (i - a.size) x:=by
 apply Array.ext_getElem?
 intro j
 rw [Array.getElem?_setIfInBounds,Array.getElem?_append,Array.getElem?_append,Array.getElem?_setIfInBounds,Array.size_append]
 by_cases hj:i=j
 ·subst hj
  by_cases hb:i < a.size + b.size
  ·simp [hb,show ¬ i < a.size by omega,show i - a.size < b.size by omega]
  ·simp [hb,show ¬ i < a.size by omega,show ¬ i - a.size < b.size by omega]
 ·rw [if_neg hj]
  split
  ·rfl
  ·rw [if_neg (by omega)]
theorem preds_mem {o:Oper} {p:Nat} (h:p ∈ preds o):∃ e ∈ o.after.toList,Region.binds .any e=true∧e.on=p:=by
 obtain ⟨e,he,h1⟩:=List.mem_map.1 h
 obtain ⟨h2,h3⟩:=List.mem_filter.1 he
 exact ⟨e,h2,h3,h1⟩
theorem AnyWP.split {P : Program} {ro : Option Nat} {n : Fsz} {l : List Oper} {m : Nat} {Q : K} {E : Env} {w : World} (hs : splitOk l m = true)
    (h : AnyWP P ro n (l.take m) ⟨fun E w => AnyWP P ro n ((l.drop m).map (shiftO m)) Q E w, Q.ex, Q.ret⟩ E w) : AnyWP P ro n l Q E w := by
  unfold splitOk at hs
  simp only [Bool.and_eq_true] at hs
  obtain ⟨⟨⟨⟨⟨s1, s2⟩, s3⟩, s4⟩, s5⟩, s6⟩ := hs
  have hml := blt_t s1
  have hback : ∀ i o, l[i]? = some o → ∀ p ∈ preds o, p < i := fun i o ho p hp => by have := backOk_ok l 0 s6 i o ho p hp; omega
  have hcov : ∀ i, i < m → ∃ j, i < j ∧ j ≤ m ∧ ∃ o, l[j]? = some o ∧ i ∈ preds o := by
    intro i hi
    have := List.all_eq_true.1 s2 i (List.mem_range.2 hi)
    obtain ⟨j, hj, h2⟩ := List.any_eq_true.1 this
    simp only [Bool.and_eq_true] at h2
    refine ⟨j, blt_t h2.1, by have := List.mem_range.1 hj; omega, ?_⟩
    have h3 := h2.2
    split at h3
    · rename_i o ho; exact ⟨o, ho, by simpa using h3⟩
    · cases h3
  have htail : ∀ j o, m < j → l[j]? = some o → ∃ p ∈ preds o, m ≤ p := by
    intro j o hj ho
    have := List.all_eq_true.1 s3 j (List.mem_range.2 (List.getElem?_eq_some_iff.1 ho).1)
    simp only [Bool.or_eq_true, ho] at this
    rcases this with h1 | h1
    · have := ble_t h1; omega
    · obtain ⟨p, hp, h2⟩ := List.any_eq_true.1 h1
      exact ⟨p, hp, ble_t h2⟩
  have hgd : ∀ j o, m ≤ j → l[j]? = some o → ∀ g, o.guard = some g → m ≤ g.1 := by
    intro j o hj ho g hg
    have hmem : o ∈ l.drop m := List.mem_of_getElem? (i := j - m) (by rw [List.getElem?_drop, show m + (j - m) = j from by omega]; exact ho)
    have := List.all_eq_true.1 s4 o hmem
    rw [hg] at this
    exact ble_t this
  have hg0 : ∀ j o, j < m → l[j]? = some o → o.guard = none := by
    intro j o hj ho
    have hmem : o ∈ l.take m := List.mem_of_getElem? (i := j) (by rw [List.getElem?_take, if_pos hj]; exact ho)
    have := List.all_eq_true.1 s5 o hmem
    cases hg : o.guard with
    | none => rfl
    | some g => rw [hg] at this; cases this
  have hlen1 : (l.take m).length = m := by rw [List.length_take]; omega
  have hlen2 : ((l.drop m).map (shiftO m)).length = l.length - m := by rw [List.length_map, List.length_drop]
  have hget2 : ∀ i, ((l.drop m).map (shiftO m))[i]? = (l[m + i]?).map (shiftO m) := fun i => by rw [List.getElem?_map, List.getElem?_drop]
  obtain ⟨V1, z1, f1, t1, i1⟩ := h
  let cl (L1 : Array Bool) : Prop := ∀ i o, l[i]? = some o → i < m → L1.getD i false = true → ∀ p ∈ preds o, L1.getD p false = true
  let VB (listed : Array Bool) (a : Act) (w : World) : Prop := ∃ V2 : Array Bool → Act → World → Prop,
    ((∀ listed a w, V2 listed a w → listed.size = ((l.drop m).map (shiftO m)).length) ∧
    (∀ listed a w, V2 listed a w → Region.ready .any ((l.drop m).map (shiftO m)).toArray listed = [] → lift n Q .normal a w) ∧
    (∀ listed a w i o, V2 listed a w → ((l.drop m).map (shiftO m))[i]? = some o → listed.getD i true = false → (∀ e ∈ o.after.toList, Region.binds .any e = true → listed.getD e.on false = true) →
      (Shut ((l.drop m).map (shiftO m)).toArray o (envOf a) ∧ V2 (listed.setIfInBounds i true) (a.put o.dst undef) w) ∨ (Sure ((l.drop m).map (shiftO m)).toArray o (envOf a) ∧
        ((∃ v w', OpX P o (envOf a) w v w' ∧ V2 (listed.setIfInBounds i true) (a.put o.dst v) w') ∨ (∃ f args, OpC P o (envOf a) w f args ∧ Fnc P f args w fun v w' => V2 (listed.setIfInBounds i true) (a.put o.dst v) w') ∨
          (∃ b f tmps asg body, (execOp (ev (envOf a)) o).run P w = .ok (.round b f tmps asg body) w ∧ RoundIn (Fr ro) 0 P b f tmps asg body w fun e w' => ∃ v, e = .returned v ∧ V2 (listed.setIfInBounds i true) (a.put o.dst v) w'))))) ∧
    ∃ L2, listed = Array.replicate m true ++ L2 ∧ V2 L2 a w
  let VA (listed : Array Bool) (a : Act) (w : World) : Prop := ∃ L1, listed = L1 ++ Array.replicate (l.length - m) false ∧ cl L1 ∧ V1 L1 a w
  have toB : ∀ {listed a w}, VA listed a w → (∀ i, i < m → listed.getD i false = true) → VB listed a w := by
    rintro listed a w ⟨L1, rfl, hcl, hV⟩ hall
    have hsz : L1.size = m := (z1 _ _ _ hV).trans hlen1
    have hL1 : L1 = Array.replicate m true := by
      apply Array.ext
      · rw [hsz, Array.size_replicate]
      · intro i h1 h2
        have := hall i (by omega)
        rw [getD_app_left h1, Array.getD_eq_getD_getElem?, Array.getElem?_eq_getElem h1] at this
        rw [Array.getElem_replicate]; simpa using this
    have hnil : Region.ready .any (l.take m).toArray L1 = [] := by
      rw [List.eq_nil_iff_forall_not_mem]
      intro i hi
      obtain ⟨h1, h2, _⟩ := W.mem_ready.1 hi
      rw [hL1, getD_rep (by simpa [hlen1] using h1)] at h2
      cases h2
    have hl := f1 _ _ _ hV hnil
    obtain ⟨hok, V2, z2, f2, t2, i2⟩ := hl
    refine ⟨V2, ⟨z2, f2, t2⟩, Array.replicate (l.length - m) false, by rw [hL1], ?_⟩
    have := i2 a w.drawn hok rfl
    rw [hlen2] at this
    exact this
  have stepB : ∀ {listed a w i o}, VB listed a w → l[i]? = some o → listed.getD i true = false → (∀ e ∈ o.after.toList, Region.binds .any e = true → listed.getD e.on false = true) →
      (Shut l.toArray o (envOf a) ∧ VB (listed.setIfInBounds i true) (a.put o.dst undef) w) ∨ (Sure l.toArray o (envOf a) ∧
        ((∃ v w', OpX P o (envOf a) w v w' ∧ VB (listed.setIfInBounds i true) (a.put o.dst v) w') ∨ (∃ f args, OpC P o (envOf a) w f args ∧ Fnc P f args w fun v w' => VB (listed.setIfInBounds i true) (a.put o.dst v) w') ∨
          (∃ b f tmps asg body, (execOp (ev (envOf a)) o).run P w = .ok (.round b f tmps asg body) w ∧ RoundIn (Fr ro) 0 P b f tmps asg body w fun e w' => ∃ v, e = .returned v ∧ VB (listed.setIfInBounds i true) (a.put o.dst v) w'))) := by
    rintro listed a w i o ⟨V2, ⟨z2, f2, t2⟩, L2, rfl, hV⟩ ho hun hpre
    have hr : (Array.replicate m true).size = m := Array.size_replicate
    have him : m ≤ i := by
      rcases Nat.lt_or_ge i m with h1 | h1
      · rw [getD_app_left (by rw [hr]; exact h1), getD_rep h1] at hun; cases hun
      · exact h1
    have hset : (Array.replicate m true ++ L2).setIfInBounds i true = Array.replicate m true ++ L2.setIfInBounds (i - m) true := by
      rw [set_app_right (by rw [hr]; exact him), hr]
    have ho2 : ((l.drop m).map (shiftO m))[i - m]? = some (shiftO m o) := by
      rw [hget2, show m + (i - m) = i from by omega, ho]; rfl
    have hgo := hgd i o him ho
    have hpre2 : ∀ e ∈ (shiftO m o).after.toList, Region.binds .any e = true → L2.getD e.on false = true := by
      intro e he hb
      simp only [shiftO, List.mem_map, List.mem_filter] at he
      obtain ⟨e0, ⟨h1, h2⟩, rfl⟩ := he
      have h2 := ble_t h2
      have := hpre e0 h1 hb
      rw [getD_app_right (by rw [hr]; exact h2), hr] at this
      exact this
    rw [getD_app_right (by rw [hr]; exact him), hr] at hun
    rcases t2 L2 a w (i - m) (shiftO m o) hV ho2 hun hpre2 with ⟨k1, k2⟩ | ⟨k1, k2⟩
    · exact .inl ⟨fun tmps ht => by rw [← wanted_shift hgo]; exact k1 tmps ht, V2, ⟨z2, f2, t2⟩, _, hset, k2⟩
    · refine .inr ⟨fun tmps ht => by rw [← wanted_shift hgo]; exact k1 tmps ht, ?_⟩
      rcases k2 with ⟨v, w', g1, g2⟩ | ⟨f, args, g1, g2⟩ | ⟨b, f, tmps, asg, body, g1, g2⟩
      · exact .inl ⟨v, w', g1, V2, ⟨z2, f2, t2⟩, _, hset, g2⟩
      · exact .inr (.inl ⟨f, args, g1, Fnc.mono g2 fun v w' g => ⟨V2, ⟨z2, f2, t2⟩, _, hset, g⟩⟩)
      · refine .inr (.inr ⟨b, f, tmps, asg, body, g1, RoundIn.mono g2 ?_⟩)
        rintro e w' ⟨v, e1, g⟩
        exact ⟨v, e1, V2, ⟨z2, f2, t2⟩, _, hset, g⟩
  refine ⟨fun listed a w => VA listed a w ∨ VB listed a w, ?_, ?_, ?_, ?_⟩
  · rintro listed a w (⟨L1, rfl, hcl, hV⟩ | ⟨V2, ⟨z2, _⟩, L2, rfl, hV⟩)
    · rw [Array.size_append, Array.size_replicate, z1 _ _ _ hV, hlen1]; omega
    · rw [Array.size_append, Array.size_replicate, z2 _ _ _ hV, hlen2]; omega
  · intro listed a w hV hr
    have hsz : listed.size = l.length := by
      rcases hV with ⟨L1, rfl, hcl, hV⟩ | ⟨V2, ⟨z2, _⟩, L2, rfl, hV⟩
      · rw [Array.size_append, Array.size_replicate, z1 _ _ _ hV, hlen1]; omega
      · rw [Array.size_append, Array.size_replicate, z2 _ _ _ hV, hlen2]; omega
    have hall := all_listed' hsz hback hr
    have hVB : VB listed a w := by
      rcases hV with hV | hV
      · exact toB hV fun i hi => by rw [getD_dflt (e := true) (by omega)]; exact hall i (by omega)
      · exact hV
    obtain ⟨V2, ⟨z2, f2, t2⟩, L2, rfl, hV2⟩ := hVB
    refine f2 _ _ _ hV2 ?_
    rw [List.eq_nil_iff_forall_not_mem]
    intro i hi
    obtain ⟨h1, h2, _⟩ := W.mem_ready.1 hi
    have h1' : i < l.length - m := by rw [← hlen2]; simpa using h1
    have := hall (m + i) (by omega)
    rw [getD_app_right (by rw [Array.size_replicate]; omega), Array.size_replicate, show m + i - m = i from by omega, h2] at this
    cases this
  · intro listed a w i o hV ho hun hpre
    rcases hV with hV | hV
    · have hV' := hV
      obtain ⟨L1, rfl, hcl, hV1⟩ := hV
      have hsz : L1.size = m := (z1 _ _ _ hV1).trans hlen1
      by_cases him : i < m
      · have ho1 : (l.take m)[i]? = some o := by rw [List.getElem?_take, if_pos him]; exact ho
        have hun1 : L1.getD i true = false := by rwa [getD_app_left (by omega)] at hun
        have hpre1 : ∀ e ∈ o.after.toList, Region.binds .any e = true → L1.getD e.on false = true := by
          intro e he hb
          have hlt := hback i o ho e.on (List.mem_map.2 ⟨e, List.mem_filter.2 ⟨he, hb⟩, rfl⟩)
          have := hpre e he hb
          rwa [getD_app_left (by omega)] at this
        have hset : (L1 ++ Array.replicate (l.length - m) false).setIfInBounds i true = L1.setIfInBounds i true ++ Array.replicate (l.length - m) false := set_app_left (by omega)
        have hcl' : cl (L1.setIfInBounds i true) := by
          intro j q hq hj hjl p hp
          have hpj := hback j q hq p hp
          rw [Array.getD_eq_getD_getElem?, Array.getElem?_setIfInBounds] at hjl ⊢
          by_cases hip : i = p
          · rw [if_pos hip, if_pos (by omega)]; rfl
          · rw [if_neg hip]
            by_cases hij : i = j
            · subst hij
              rw [ho] at hq; cases hq
              obtain ⟨e, he, hb, rfl⟩ := preds_mem hp
              have := hpre1 e he hb
              rwa [Array.getD_eq_getD_getElem?] at this
            · rw [if_neg hij] at hjl
              have := hcl j q hq hj (by rw [Array.getD_eq_getD_getElem?]; exact hjl) p hp
              rwa [Array.getD_eq_getD_getElem?] at this
        have hno := hg0 i o him ho
        have hsure : ∀ {E : Env}, Sure l.toArray o E := Sure.none hno
        rcases t1 L1 a w i o hV1 ho1 hun1 hpre1 with ⟨k1, k2⟩ | ⟨k1, k2⟩
        · have := k1 a.tmps rfl
          simp [Region.wanted, hno] at this
        · refine .inr ⟨hsure, ?_⟩
          rcases k2 with ⟨v, w', g1, g2⟩ | ⟨f, args, g1, g2⟩ | ⟨b, f, tmps, asg, body, g1, g2⟩
          · exact .inl ⟨v, w', g1, .inl ⟨_, hset, hcl', g2⟩⟩
          · exact .inr (.inl ⟨f, args, g1, Fnc.mono g2 fun v w' g => .inl ⟨_, hset, hcl', g⟩⟩)
          · refine .inr (.inr ⟨b, f, tmps, asg, body, g1, RoundIn.mono g2 ?_⟩)
            rintro e w' ⟨v, e1, g⟩
            exact ⟨v, e1, .inl ⟨_, hset, hcl', g⟩⟩
      · have hr : (Array.replicate (l.length - m) false : Array Bool).size = l.length - m := Array.size_replicate
        have hil : i < l.length := (List.getElem?_eq_some_iff.1 ho).1
        have him' : i = m := by
          rcases Nat.lt_or_ge m i with h1 | h1
          · obtain ⟨p, hp, hmp⟩ := htail i o h1 ho
            obtain ⟨e, he, hb, rfl⟩ := preds_mem hp
            have h2 := hpre e he hb
            have h3 := hback i o ho e.on hp
            rw [getD_app_right (by omega), getD_rep (by omega)] at h2
            cases h2
          · omega
        subst him'
        have hall : ∀ k, k ≤ i → ∀ j, j < i → i - k ≤ j → L1.getD j false = true := by
          intro k
          induction k with
          | zero => intro _ j h1 h2; omega
          | succ k ih =>
            intro hk j h1 h2
            obtain ⟨j', h3, h4, q, hq, hmem⟩ := hcov j h1
            rcases Nat.lt_or_ge j' i with h5 | h5
            · exact hcl j' q hq h5 (ih (by omega) j' h5 (by omega)) j hmem
            · have : j' = i := by omega
              subst this
              rw [ho] at hq; cases hq
              obtain ⟨e, he, hb, rfl⟩ := preds_mem hmem
              have := hpre e he hb
              rwa [getD_app_left (by omega)] at this
        have hB := toB hV' fun j hj => by rw [getD_app_left (by omega)]; exact hall i (Nat.le_refl _) j hj (by omega)
        rcases stepB hB ho hun hpre with ⟨k1, k2⟩ | ⟨k1, k2⟩
        · exact .inl ⟨k1, .inr k2⟩
        · refine .inr ⟨k1, ?_⟩
          rcases k2 with ⟨v, w', g1, g2⟩ | ⟨f, args, g1, g2⟩ | ⟨b, f, tmps, asg, body, g1, g2⟩
          · exact .inl ⟨v, w', g1, .inr g2⟩
          · exact .inr (.inl ⟨f, args, g1, Fnc.mono g2 fun v w' g => .inr g⟩)
          · refine .inr (.inr ⟨b, f, tmps, asg, body, g1, RoundIn.mono g2 ?_⟩)
            rintro e w' ⟨v, e1, g⟩
            exact ⟨v, e1, .inr g⟩
    · rcases stepB hV ho hun hpre with ⟨k1, k2⟩ | ⟨k1, k2⟩
      · exact .inl ⟨k1, .inr k2⟩
      · refine .inr ⟨k1, ?_⟩
        rcases k2 with ⟨v, w', g1, g2⟩ | ⟨f, args, g1, g2⟩ | ⟨b, f, tmps, asg, body, g1, g2⟩
        · exact .inl ⟨v, w', g1, .inr g2⟩
        · exact .inr (.inl ⟨f, args, g1, Fnc.mono g2 fun v w' g => .inr g⟩)
        · refine .inr (.inr ⟨b, f, tmps, asg, body, g1, RoundIn.mono g2 ?_⟩)
          rintro e w' ⟨v, e1, g⟩
          exact ⟨v, e1, .inr g⟩
  · intro a d ha he
    refine .inl ⟨Array.replicate m false, ?_, ?_, ?_⟩
    · apply Array.ext_getElem?
      intro i
      rw [Array.getElem?_append, Array.getElem?_replicate, Array.getElem?_replicate, Array.getElem?_replicate, Array.size_replicate]
      by_cases h1 : i < m
      · rw [if_pos (by omega), if_pos h1, if_pos h1]
      · rw [if_neg h1]
        by_cases h2 : i < l.length
        · rw [if_pos h2, if_pos (by omega)]
        · rw [if_neg h2, if_neg (by omega)]
    · intro i o ho hi hl
      rw [getD_rep hi] at hl; cases hl
    · have := i1 a d ha he
      rwa [hlen1] at this
theorem gobl_ok {l:List Oper} {infs:List Inf}:∀ {r:List Oper} {gs:Ps},gobl l infs r=some gs → (∀ p ∈ gs,p) → ∀ o ∈ r,∀ g,o.guard=some g → g.1 ∈ preds o∧∃ q d x,l[g.1]?=some q∧q.dst=some d∧infs[g.1]?=some x∧x.u=.v (.bool g.2)
 | [],_,_,_,o,ho,_,_=>by simp at ho
 | p :: r,gs,h,hp,o,ho,g,hg=>by
  simp only [gobl] at h
  split at h
  ·rename_i hn
   rcases List.mem_cons.1 ho with rfl | ho
   ·rw [hn] at hg; cases hg
   ·exact gobl_ok h hp o ho g hg
  ·rename_i j want hw
   split at h
   case h_2=>cases h
   rename_i x d ps hx hd hr
   split at h
   case h_2=>cases h
   rename_i b hb
   cases hc:(preds p).contains j with
   | false=>rw [hc] at h; cases h
   | true =>
   rw [hc] at h
   cases h
   rcases List.mem_cons.1 ho with rfl | ho
   ·rw [hw] at hg; cases hg
    have hbw:b=want:=hp _ (List.mem_cons_self ..)
    subst hbw
    obtain ⟨q,hq,hqd⟩:=Option.bind_eq_some_iff.1 hd
    exact ⟨by simpa using hc,q,d,x,hq,hqd,hx,hb⟩
   ·exact gobl_ok hr (fun p hpp=>hp p (List.mem_cons_of_mem _ hpp)) o ho g hg
theorem AnyWPf.unguard {P : Program} {ro : Option Nat} {n : Fsz} {l : List Oper} {F : Nat → Value → Prop} {Q : K} {E : Env} {w : World} (h : AnyWPf P ro n (l.map stripO) F Q E w)
    (hg : ∀ o ∈ l, ∀ g, o.guard = some g → g.1 ∈ preds o ∧ ∃ q d, l[g.1]? = some q ∧ q.dst = some d ∧ ∀ v, F g.1 v → v = .bool g.2) : AnyWP P ro n l Q E w := by
  obtain ⟨V, h1, h2, h3, h4, h5⟩ := h
  have hget : ∀ i, (l.map stripO)[i]? = (l[i]?).map stripO := fun i => List.getElem?_map ..
  refine ⟨V, fun listed a w hV => by rw [h1 _ _ _ hV, List.length_map], fun listed a w hV hr => h2 _ _ _ hV ?_, ?_, fun a d ha he => by have := h4 a d ha he; rwa [List.length_map] at this⟩
  · rw [List.eq_nil_iff_forall_not_mem] at hr ⊢
    intro i hi
    obtain ⟨g1, g2, o, g3, g4⟩ := W.mem_ready.1 hi
    have g3' : (l[i]?).map stripO = some o := by rw [← hget]; simpa using g3
    obtain ⟨o', e1, rfl⟩ := Option.map_eq_some_iff.1 g3'
    exact hr i (W.mem_ready.2 ⟨by simpa using g1, g2, o', by simpa using e1, g4⟩)
  · intro listed a w i o hV ho hun hpre
    have ho' : (l.map stripO)[i]? = some (stripO o) := by rw [hget, ho]; rfl
    have hsure : Sure l.toArray o (envOf a) := by
      cases hgd : o.guard with
      | none => exact Sure.none hgd
      | some g =>
        obtain ⟨k1, q, d, k2, k3, k4⟩ := hg o (List.mem_of_getElem? ho) g hgd
        obtain ⟨e, he, hb, hon⟩ := preds_mem k1
        have hl := hpre e he hb
        rw [hon] at hl
        have hv := k4 _ (h5 listed a w hV g.1 (stripO q) d (by rw [hget, k2]; rfl) k3 hl)
        intro tmps ht
        have hy : yielded l.toArray tmps g.1 = some g.2 := yielded_of (g := d) (by simp [k2, k3]) hv tmps ht
        simp [Region.wanted, hgd, hy]
    rcases h3 listed a w i (stripO o) hV ho' hun hpre with ⟨k1, _⟩ | ⟨_, k2⟩
    · have := k1 a.tmps rfl
      simp [Region.wanted, stripO] at this
    · refine .inr ⟨hsure, ?_⟩
      rcases k2 with ⟨v, w', g1, g2⟩ | ⟨f, args, g1, g2⟩ | ⟨b, f, tmps, asg, body, g1, g2⟩
      · exact .inl ⟨v, w', g1, g2⟩
      · exact .inr (.inl ⟨f, args, g1, g2⟩)
      · exact .inr (.inr ⟨b, f, tmps, asg, body, g1, g2⟩)
theorem force_ok (hm : P.follows .mixedOrders = true) {S : Sums} (hS : SumsOK P Γ S) {N id : Nat} {DD : List Deferred} {ops : Array Oper} {A A' : AE} {st0 st' : Stt} {gs ps : Ps} {Nn R : Env → World → Prop} {X : Nat → Env → World → Prop} (h : evForce P S N ops A st0 = some (gs, ps, A', st')) (hgs : ∀ p ∈ gs, p) (hps : ∀ p ∈ ps, p) (s0 : Sg) (E : Env) (w : World)
    (hH : Hold Γ s0 w0 st0 w) (hE : EnvOK s0 A E) (k : ∀ s' E' w', s0.le s' → Hold Γ s' w0 st' w' → EnvOK s' A' E' → Nn E' w') : WPr ro P ⟨N, DD⟩ (.region id ops true) ⟨Nn, X, R⟩ E w := by
  obtain ⟨l⟩ := ops
  unfold evForce at h
  split at h
  case h_2 => cases h
  rename_i ps1 A1 st1 hd
  split at h
  case h_2 => cases h
  rename_i infs sts hp1
  split at h
  case h_2 => cases h
  rename_i gs1 hgo
  cases h
  have hF := drawn_okF (ro := ro) (X := X) (R := R) (DD := DD) hS hd hps s0 E w hH hE k
  refine AnyWP.wp hm (AnyWPf.unguard hF fun o ho g hg => ?_)
  obtain ⟨k1, q, d, x, k2, k3, k4, k5⟩ := gobl_ok hgo hgs o ho g hg
  exact ⟨k1, q, d, k2, k3, fun v hv => hv infs sts hp1 x k4 g.2 k5⟩
end
end Go.Proofs.YtplflgclomiihaaGreat.Sv
namespace Go.Proofs.YtplflgclomiihaaGreat.Sv
open Go.RowKit Go.Proofs.YtplflgclomiihaaGreat.W
variable {Γ : Gl}
def Suf {α:Type} (H L:Ly α):Prop:=∃ T tl Ls T',H=T :: tl∧L=Ls ++ T' :: tl
theorem Suf.refl {α:Type} {H:Ly α} (h:H ≠ []):Suf H H:=by
 cases H with
 | nil=>exact absurd rfl h
 | cons T tl=>exact ⟨T,tl,[],T,rfl,rfl⟩
theorem Suf.ne {α:Type} {H L:Ly α} (h:Suf H L):L ≠ []:=by
 obtain ⟨T,tl,Ls,T',rfl,rfl⟩:=h
 simp
theorem Suf.set {α:Type} {H L:Ly α} (h:Suf H L) (k:Nat) (x:Option α):Suf H (L.set k x):=by
 obtain ⟨T,tl,Ls,T',rfl,rfl⟩:=h
 unfold Ly.set
 cases Nat.blt k 1000000 with
 | false=>exact ⟨T,tl,Ls,T',rfl,rfl⟩
 | true =>
  simp only [cond_true]
  cases Ls with
  | nil=>exact ⟨T,tl,[],_,rfl,rfl⟩
  | cons a r=>exact ⟨T,tl,_ :: r,T',rfl,rfl⟩
theorem Suf.trans {α:Type} {A B C:Ly α} (h:Suf A B) (k:Suf B C):Suf A C:=by
 obtain ⟨T,tl,Ls,T',rfl,rfl⟩:=h
 obtain ⟨U,ul,Ms,U',e,rfl⟩:=k
 cases Ls with
 | nil=>simp only [List.nil_append,List.cons.injEq] at e; obtain ⟨rfl,rfl⟩:=e; exact ⟨T,_,Ms,U',rfl,rfl⟩
 | cons a r =>
  simp only [List.cons_append,List.cons.injEq] at e
  obtain ⟨rfl,rfl⟩:=e
  exact ⟨T,tl,Ms ++ U' :: r,T',rfl,by simp⟩
theorem Suf.head {α:Type} {A:Ly α} (h:A ≠ []) (a b:Tr (Option α)):Suf A (a :: b :: A):=by
 cases A with
 | nil=>exact absurd rfl h
 | cons T tl=>exact ⟨T,tl,[a,b],T,rfl,rfl⟩
def SufS (st st':Stt):Prop:=Suf st.h st'.h∧st.nx ≤ st'.nx
theorem SufS.refl {st:Stt} (h:st.h ≠ []):SufS st st:=⟨Suf.refl h,Nat.le_refl _⟩
theorem SufS.trans {a b c:Stt} (h:SufS a b) (k:SufS b c):SufS a c:=⟨h.1.trans k.1,Nat.le_trans h.2 k.2⟩
theorem SufS.new {a b:Stt} (h:SufS a b) (x:AX):SufS a (newX b x):=⟨h.1.set _ _,Nat.le_trans h.2 (Nat.le_succ _)⟩
theorem SufS.setx {a b:Stt} (h:SufS a b) (l:Nat) (x:AX):SufS a (setX b l x):=⟨h.1.set _ _,h.2⟩
theorem SufS.del {a b:Stt} (h:SufS a b) (l:Nat):SufS a (delX b l):=⟨h.1.set _ _,h.2⟩
theorem suf_put {H A:AE} (h:Suf H A) (d:Option Nat) (a:AV):Suf H (putA A d a):=by
 cases d with
 | none=>exact h
 | some d=>exact h.set _ _
theorem suf_kill {H:AE}:∀ (ds:List Nat) {A:AE},Suf H A → Suf H (killA A ds)
 | [],_,h=>h
 | d :: r,_,h=>suf_kill r (h.set d none)
theorem suf_freeze {st0 st st' : Stt} {a a' : AV} (h : freeze st a = some (a', st')) (hs : SufS st0 st) : SufS st0 st' := by
  cases a <;> simp only [freeze] at h <;> first
    | (simp only [Option.some.injEq, Prod.mk.injEq] at h; obtain ⟨_, rfl⟩ := h; exact hs)
    | (split at h
       · cases h; exact hs.del _
       · cases h)
theorem suf_freezeL:∀ {cs cs':List AV} {st0 st st':Stt},freezeL st cs=some (cs',st') → SufS st0 st → SufS st0 st'
 | [],_,_,_,_,h,hs=>by simp only [freezeL,Option.some.injEq,Prod.mk.injEq] at h; obtain ⟨_,rfl⟩:=h; exact hs
 | a :: r,_,_,_,_,h,hs=>by
  simp only [freezeL] at h
  split at h
  ·rename_i h1
   split at h
   ·rename_i h2; cases h; exact suf_freezeL h2 (suf_freeze h1 hs)
   ·cases h
  ·cases h
theorem suf_src {st0 st st':Stt} {dt:DT} {y:AV} {ys:List D} (h:srcD st dt y=some (ys,st')) (hs:SufS st0 st):SufS st0 st':=by
 unfold srcD at h
 split at h
 ·cases h; exact hs
 ·cases h; exact hs
 ·split at h
  case h_2=>cases h
  revert h
  cases Nat.beq _ _ with
  | false=>intro h; cases h
  | true =>
   intro h
   simp only [cond_true] at h
   split at h
   case h_2=>cases h
   rename_i hf
   split at h
   case h_2=>cases h
   cases h
   exact suf_freezeL hf hs
 ·revert h
  cases (DT.beq _ _ && (_ || _)) with
  | false=>intro h; cases h
  | true=>intro h; cases h; exact hs
 ·split at h
  case h_2=>cases h
  revert h
  cases DT.beq _ _ with
  | false=>intro h; cases h
  | true=>intro h; cases h; exact hs
 ·split at h
  case h_2=>cases h
  revert h
  cases (DT.beq _ _ && Nat.beq _ _) with
  | false=>intro h; cases h
  | true=>intro h; cases h; exact hs
 ·cases h
theorem suf_row {P:Program} {st:Stt} {e len sz:Nat} {cs:List AV} (h0:SufS st st):SufS st (newRowA P st e len sz cs).2:=by
 unfold newRowA
 split
 ·cases Nat.beq _ _ with
  | false=>exact h0.new _
  | true =>
   simp only [cond_true]
   split
   ·exact h0.new _
   ·exact h0.new _
 ·exact h0.new _
theorem suf_wr {P:Program} {st st':Stt} {A:AE} {op:Op} {ps:Ps} {a:AV} (h:evWrS P st A op=some (ps,a,st')) (hn:st.h ≠ []):SufS st st':=by
 have h0:=SufS.refl hn
 unfold evWrS at h
 split at h
 ·split at h
  case h_2=>cases h
  split at h
  case h_2=>cases h
  revert h
  cases (Nat.ble _ 1024 && Nat.beq _ _ && Nat.ble 1 _) with
  | false=>intro h; cases h
  | true =>
   intro h
   simp only [cond_true] at h
   split at h
   case h_2=>cases h
   cases h; exact suf_row h0
 ·split at h
  case h_2=>cases h
  cases h
  unfold newArrA
  split
  ·exact h0.new _
  ·exact h0.new _
 ·split at h
  case h_2=>cases h
  split at h
  case h_2=>cases h
  revert h
  cases (Nat.ble 1 _ && Nat.beq _ _ && Nat.beq _ _ && List.all _ _) with
  | false=>intro h; cases h
  | true =>
   intro h
   simp only [cond_true] at h
   split at h
   case h_2=>cases h
   cases h; exact h0.new _
 ·split at h
  case h_2=>cases h
  cases h; exact h0.new _
 ·split at h
  case h_2=>cases h
  split at h
  case h_2=>cases h
  rename_i hst
  cases h
  unfold evStore at hst
  split at hst
  ·split at hst
   case h_2=>cases hst
   revert hst
   cases (Nat.beq _ _ && Nat.ble _ _ && List.all _ _) with
   | false=>intro h; cases h
   | true=>intro h; cases h; exact h0.setx _ _
  ·split at hst
   case h_2=>cases hst
   rename_i hf
   split at hst
   case h_2=>cases hst
   revert hst
   cases (Nat.beq _ _ && Nat.beq _ _ && pathIs _ _ _ _) with
   | false=>intro h; cases h
   | true =>
    intro h
    simp only [cond_true] at h
    split at h
    case h_2=>cases h
    cases h; exact (suf_freezeL hf h0).setx _ _
  ·cases hst
 ·split at h
  case h_2=>cases h
  split at h
  case h_2=>cases h
  revert h
  cases Nat.beq _ _ with
  | false=>intro h; cases h
  | true =>
   intro h
   simp only [cond_true] at h
   unfold evAppend at h
   split at h
   case h_2=>cases h
   split at h
   case h_2=>cases h
   revert h
   cases (Nat.ble 1 _ && Nat.beq _ _ && Nat.beq _ _ && List.all _ _) with
   | false=>intro h; cases h
   | true =>
    intro h
    simp only [cond_true] at h
    split at h
    case h_2=>cases h
    rename_i hs
    have h1:=suf_src hs h0
    split at h
    ·cases h; exact h1.new _
    ·cases h; exact h1.new _
    ·split at h
     case h_2=>cases h
     revert h
     cases (Nat.beq _ _ && DT.beq _ _) with
     | false=>intro h; cases h
     | true=>intro h; cases h; exact (h1.del _).new _
    ·split at h
     case h_2=>cases h
     revert h
     cases (Nat.beq _ _ && DT.beq _ _) with
     | false=>intro h; cases h
     | true=>intro h; cases h; exact (h1.del _).new _
    ·cases h
 ·split at h
  case h_2=>cases h
  split at h
  case h_2=>cases h
  split at h
  case h_2=>cases h
  revert h
  cases (Nat.beq _ _ && Nat.beq _ _ && Nat.ble 1 _ && List.all _ _) with
  | false=>intro h; cases h
  | true =>
   intro h
   simp only [cond_true] at h
   split at h
   case h_2=>cases h
   cases h; exact h0.setx _ _
 ·split at h
  case h_2=>cases h
  split at h
  case h_2=>cases h
  cases h; exact h0
 ·cases h
theorem suf_boxes:∀ (ks:List AK) (ls:List Nat) (es:List D) {st0 st:Stt},SufS st0 st → SufS st0 (setBoxes st ks ls es)
 | [],_,_,_,_,h=>by simpa [setBoxes] using h
 | .d _ _ :: r,ls,es,_,_,h=>by simp only [setBoxes]; exact suf_boxes r ls es h
 | .p _ :: r,ls,es,_,_,h=>by simp only [setBoxes]; exact suf_boxes r ls es h
 | .o _ _ _ :: r,ls,es,_,_,h=>by simpa [setBoxes] using h
 | .box _ _ :: r,[],_,_,_,h=>by simpa [setBoxes] using h
 | .box _ _ :: r,l :: ls,es,_,_,h=>by simp only [setBoxes]; exact suf_boxes r ls _ (h.setx _ _)
mutual
theorem suf_res:∀ (k:RK) (d:D) {st0 st:Stt},SufS st0 st → SufS st0 (mkRes st k d).2
 | .d _,_,_,_,h=>by simp only [mkRes]; exact h
 | .own _ _,_,_,_,h=>by simp only [mkRes]; exact h.new _
 | .agg ks,d,_,_,h=>by simp only [mkRes]; exact suf_ress ks d.tup h
 | .any,_,_,_,h=>by simp only [mkRes]; exact h
 | .er,_,_,_,h=>by simp only [mkRes]; exact h
theorem suf_ress:∀ (ks:List RK) (ds:List D) {st0 st:Stt},SufS st0 st → SufS st0 (mkRess st ks ds).2
 | [],_,_,_,h=>by simp only [mkRess]; exact h
 | k :: ks,ds,_,_,h=>by simp only [mkRess]; exact suf_ress ks _ (suf_res k _ h)
end
theorem suf_outs:∀ (ks:List RK) (ds:List D) {st0 st:Stt},SufS st0 st → SufS st0 (mkOuts st ks ds).2
 | [],_,_,_,h=>by simp only [mkOuts]; exact h
 | k :: ks,ds,_,_,h=>by simp only [mkOuts]; exact suf_outs ks _ (suf_res k _ h)
theorem suf_op {P:Program} {S:Sums} {st st':Stt} {A:AE} {o:Oper} {ps:Ps} {a:AV} (h:evOp P S st A o=some (.wr ps a st')) (hn:st.h ≠ []):SufS st st':=by
 unfold evOp at h
 split at h
 ·cases h
 ·split at h
  ·rename_i hw; cases h; exact suf_wr hw hn
  ·split at h
   ·split at h
    case h_2=>cases h
    split at h
    case h_2=>cases h
    rename_i q hcon
    cases q with
    | true=>cases h
    | false =>
     cases h
     unfold conStep at hcon
     split at hcon
     ·rename_i et t fs he
      unfold rowStep at hcon
      split at hcon
      case h_2=>cases hcon
      split at hcon
      case h_2=>cases hcon
      revert hcon
      cases (isFns _ _ && Nat.beq _ _ && DT.beq _ _) with
      | false=>intro h; cases h
      | true =>
       intro hcon
       simp only [cond_true,Option.some.injEq,Prod.mk.injEq] at hcon
       obtain ⟨_,_,rfl,_⟩:=hcon
       exact (SufS.refl hn).setx _ _
     split at hcon
     case h_2=>cases hcon
     rename_i ds ls hm
     revert hcon
     cases (noDup ls && _) with
     | false=>intro h; cases h
     | true =>
      intro h
      simp only [cond_true,Option.some.injEq,Prod.mk.injEq] at h
      obtain ⟨_,_,rfl,_⟩:=h
      exact suf_outs _ _ (suf_boxes _ _ _ (SufS.refl hn))
   ·split at h <;> cases h
theorem suf_blk {P:Program} {S:Sums} {N:Nat} {ops:Array Oper} {st:Stt}:∀ (n:Nat) (cx:Cx) (dl:List Nat) (l:List Oper) {H A A':AE} {ps:Ps},evBlk P S N ops st n cx dl l A=some (ps,A') → Suf H A → Suf H A'
 | 0,_,_,_,_,_,_,_,h,_=>by simp [evBlk] at h
 | n + 1,cx,dl,[],_,_,_,_,h,hs=>by simp only [evBlk,Option.some.injEq,Prod.mk.injEq] at h; obtain ⟨_,rfl⟩:=h; exact hs
 | n + 1,cx,dl,o :: r,_,_,_,_,h,hs=>by
  simp only [evBlk] at h
  cases hc:cxIs o.guard cx with
  | true =>
   rw [hc] at h
   simp only [cond_true] at h
   revert h
   cases dstB N o.dst with
   | false=>intro h; cases h
   | true =>
    intro h
    simp only [cond_true] at h
    split at h
    case h_2=>cases h
    split at h
    case h_2=>cases h
    rename_i hr
    cases h
    exact suf_blk n cx _ r hr (suf_put hs _ _)
  | false =>
   rw [hc] at h
   simp only [cond_false] at h
   split at h
   ·cases h
   ·split at h
    case h_2=>cases h
    revert h
    cases ((cxTop cx || _) && !_ && dstB N _) with
    | false=>intro h; cases h
    | true =>
     intro h
     simp only [cond_true] at h
     split at h
     case h_2=>cases h
     split at h
     case h_2=>cases h
     split at h
     case h_2=>cases h
     rename_i hr
     cases h
     exact suf_blk n cx _ _ hr (suf_put (suf_kill _ hs) _ _)
theorem suf_pass1 {fr:Bool} {P:Program} {S:Sums} {ops:Array Oper} {A A0:AE}:∀ (r:List Oper) (i:Nat) (tr:Tr Inf) (st0 st:Stt) (m:Nat) (xs:List Inf) (ss:List Stt),pass1 fr P S ops A A0 r i tr st m=some (xs,ss) → SufS st0 st → ∀ t ∈ ss,SufS st0 t
 | [],i,tr,st0,st,m,xs,ss,h,hs=>by
  simp only [pass1,Option.some.injEq,Prod.mk.injEq] at h
  obtain ⟨_,rfl⟩:=h
  intro t ht
  simp only [List.mem_singleton] at ht
  subst ht; exact hs
 | o :: r,i,tr,st0,st,m,xs,ss,h,hs=>by
  simp only [pass1] at h
  split at h
  ·cases h
  ·split at h
   ·rename_i hr; cases h; exact suf_pass1 r _ _ st0 st _ _ _ hr hs
   ·cases h
  ·rename_i hop
   split at h
   ·rename_i hr
    cases h
    intro t ht
    rcases List.mem_cons.1 ht with rfl | ht
    ·exact hs
    ·exact suf_pass1 r _ _ st0 _ _ _ _ hr (hs.trans (suf_op (evOpG_wr hop) hs.1.ne)) t ht
   ·cases h
theorem suf_putAll {H:AE}:∀ (l:List Oper) (G:List Inf) {A:AE},Suf H A → Suf H (putAll A l G)
 | [],_,_,h=>by unfold putAll; exact h
 | _ :: _,[],_,h=>by unfold putAll; exact h
 | o :: r,x :: G,_,h=>by unfold putAll; exact suf_putAll r G (suf_put h _ _)
theorem suf_drawn {fr:Bool} {P:Program} {S:Sums} {N:Nat} {ops:Array Oper} {A A':AE} {st st':Stt} {ps:Ps} (h:evDrawn fr P S N ops A st=some (ps,A',st')) (hA:A ≠ []) (hn:st.h ≠ []):Suf A A'∧SufS st st':=by
 unfold evDrawn at h
 simp only at h
 revert h
 cases (Nat.ble _ 4000 && List.all _ _ && noDup _ && backOk _ 0 && List.all _ _) with
 | false=>intro h; cases h
 | true =>
  intro h
  simp only [cond_true] at h
  split at h
  ·cases h
  ·rename_i hp1
   split at h
   case h_2=>cases h
   rename_i hlast
   cases h
   exact ⟨suf_putAll _ _ (suf_kill _ (Suf.refl hA)),suf_pass1 _ _ _ st st _ _ _ hp1 (SufS.refl hn) _ (List.mem_of_getLast? hlast)⟩
theorem obs_imp:∀ {ps:Ps} {q q':Prop},obs ps q → (q → q') → obs ps q'
 | [],_,_,h,k=>k h
 | _ :: r,_,_,h,k=>⟨h.1,obs_imp (ps:=r) h.2 k⟩
def CallImp (cf:CallF):Prop:=∀ f l st (k k':KV),cf f l st k → st.h ≠ [] → (∀ a st',SufS st st' → k a st' → k' a st') → cf f l st k'
theorem one_imp {P:Program} {S:Sums} {cf:CallF} (hcf:CallImp cf) {A:AE} {st:Stt} {o:Oper} {k k':AE → Stt → Prop} (h:evOne P S cf A st o k) (hA:A ≠ []) (hn:st.h ≠ []) (hk:∀ A' st',Suf A A' → SufS st st' → k A' st' → k' A' st'):evOne P S cf A st o k':=by
 unfold evOne at h ⊢
 cases hop:evOp P S st A o with
 | some rs =>
  rw [hop] at h
  cases rs with
  | rd ps a =>
   simp only at h ⊢
   exact obs_imp h fun h=>hk _ _ (suf_put (Suf.refl hA) o.dst a) (SufS.refl hn) h
  | wr ps a st1 =>
   simp only at h ⊢
   exact obs_imp h fun h=>hk _ _ (suf_put (Suf.refl hA) o.dst a) (suf_op hop hn) h
 | none =>
  rw [hop] at h
  simp only at h ⊢
  cases hc:evCallS P A o.op with
  | none=>rw [hc] at h; exact h.elim
  | some fl =>
   rw [hc] at h
   obtain ⟨f,l⟩:=fl
   simp only at h ⊢
   exact hcf f l st _ _ h hn fun a st1 hs1 h=>hk _ _ (suf_put (Suf.refl hA) o.dst a) hs1 h
theorem list_imp {P:Program} {S:Sums} {cf:CallF} (hcf:CallImp cf) {N:Nat} {ops:Array Oper}:∀ (l:List Oper) (n:Nat) (A:AE) (st:Stt) (k k':AE → Stt → Prop),evList P S cf N ops l n A st k → A ≠ [] → st.h ≠ [] → (∀ A' st',Suf A A' → SufS st st' → k A' st' → k' A' st') → evList P S cf N ops l n A st k'
 | [],n,A,st,k,k',h,hA,hn,hk=>by simp only [evList] at h ⊢; exact hk A st (Suf.refl hA) (SufS.refl hn) h
 | o :: r,n + 1,A,st,k,k',h,hA,hn,hk=>by rw [evList] at h ⊢; exact list_imp hcf r n A st k k' h hA hn hk
 | o :: r,0,A,st,k,k',h,hA,hn,hk=>by
  rw [evList] at h ⊢
  cases hd:dstB N o.dst with
  | false=>rw [hd] at h; exact h.elim
  | true =>
  rw [hd] at h
  simp only [cond_true] at h ⊢
  cases hg:o.guard with
  | none =>
   rw [hg] at h
   simp only at h ⊢
   cases hop:evOp P S st A o with
   | some rs =>
    rw [hop] at h
    cases rs with
    | rd ps a =>
     simp only at h ⊢
     have hs:=suf_put (Suf.refl hA) o.dst a
     exact obs_imp h fun h=>list_imp hcf r 0 _ st k k' h hs.ne hn fun A' st' h1=>hk A' st' (hs.trans h1)
    | wr ps a st1 =>
     simp only at h ⊢
     have hs:=suf_put (Suf.refl hA) o.dst a
     have hs1:=suf_op hop hn
     exact obs_imp h fun h=>list_imp hcf r 0 _ st1 k k' h hs.ne hs1.1.ne fun A' st' h1 h2=>hk A' st' (hs.trans h1) (hs1.trans h2)
   | none =>
    rw [hop] at h
    simp only at h ⊢
    cases hc:evCallS P A o.op with
    | none=>rw [hc] at h; exact h.elim
    | some fl =>
     rw [hc] at h
     obtain ⟨f,l⟩:=fl
     simp only at h ⊢
     refine hcf f l st _ _ h hn fun a st1 hs1 h=>?_
     have hs:=suf_put (Suf.refl hA) o.dst a
     exact list_imp hcf r 0 _ st1 k k' h hs.ne hs1.1.ne fun A' st' h1 h2=>hk A' st' (hs.trans h1) (hs1.trans h2)
  | some g =>
   rw [hg] at h
   simp only at h ⊢
   split at h
   ·exact h.elim
   ·rename_i d b hgs
    try simp only [hgs]
    split at h
    case h_2 =>
     rename_i hno
     have hs0:∀ x:Bool,Suf A (setB A d x):=fun x=>suf_put (Suf.refl hA) (some d) (.v (.bool x))
     cases hb:eqvB g.2 b with
     | true =>
      rw [hb] at h
      simp only [cond_true] at h ⊢
      exact one_imp hcf h (hs0 _).ne hn fun A1 st1 h1 h2 h3=>list_imp hcf r 0 A1 st1 k k' h3 h1.ne h2.1.ne fun A' st' h4 h5=>hk A' st' (((hs0 _).trans h1).trans h4) (h2.trans h5)
     | false =>
      rw [hb] at h
      simp only [cond_false] at h ⊢
      have hs:=(hs0 (!g.2)).trans (suf_put (Suf.refl (hs0 (!g.2)).ne) o.dst (.v undef))
      exact list_imp hcf r 0 _ st k k' h hs.ne hn fun A' st' h4 h5=>hk A' st' (hs.trans h4) h5
    rename_i p r' ps A1 hbe hB
    try simp only [hbe,hB]
    cases hck:(!(dsts (ahead none (o :: r))).contains d && dstB N p.dst) with
    | false=>rw [hck] at h; exact h.elim
    | true =>
    rw [hck] at h
    simp only [cond_true] at h ⊢
    split at h
    case h_2=>exact h.elim
    rename_i a hpk
    try simp only [hpk]
    have hs:=suf_put (suf_kill (dsts (ahead none (o :: r))) (Suf.refl hA)) p.dst a
    exact obs_imp h fun h=>list_imp hcf r _ _ st k k' h hs.ne hn fun A' st' h1=>hk A' st' (hs.trans h1)
theorem suf_split {P:Program} {S:Sums} {N:Nat} {ops:Array Oper} {A A':AE} {st st':Stt} {ps qs:Ps} (h:evSplit P S N ops A st=some (ps,qs,A',st')) (hA:A ≠ []) (hn:st.h ≠ []):Suf A A'∧SufS st st':=by
 unfold evSplit at h
 split at h
 ·cases h
 rename_i m hm
 revert h
 cases (splitOk ops.toList m && regOk ((ops.toList.drop m).map (shiftO m)).toArray) with
 | false=>intro h; cases h
 | true =>
  intro h
  simp only [cond_true] at h
  split at h
  case h_2=>cases h
  rename_i ps1 A1 st1 hd
  split at h
  case h_2=>cases h
  rename_i qs1 A2 hb
  cases h
  obtain ⟨h1,h2⟩:=suf_drawn hd hA hn
  exact ⟨suf_blk _ _ _ _ hb h1,h2⟩
theorem suf_force {P:Program} {S:Sums} {N:Nat} {ops:Array Oper} {A A':AE} {st st':Stt} {ps qs:Ps} (h:evForce P S N ops A st=some (ps,qs,A',st')) (hA:A ≠ []) (hn:st.h ≠ []):Suf A A'∧SufS st st':=by
 unfold evForce at h
 split at h
 case h_2=>cases h
 rename_i hd
 split at h
 case h_2=>cases h
 split at h
 case h_2=>cases h
 cases h
 exact suf_drawn hd hA hn
theorem reg_imp {P:Program} {S:Sums} {cf:CallF} (hcf:CallImp cf) {N:Nat} {ops:Array Oper} {d:Bool} {A:AE} {st:Stt} {k k':AE → Stt → Prop} (h:evReg P S cf N ops d A st k) (hA:A ≠ []) (hn:st.h ≠ []) (hk:∀ A' st',Suf A A' → SufS st st' → k A' st' → k' A' st'):evReg P S cf N ops d A st k':=by
 unfold evReg at h ⊢
 split at h
 ·rename_i ps A' hq
  try simp only [hq]
  refine obs_imp h fun h=>hk A' st ?_ (SufS.refl hn) h
  revert hq
  cases (d && !regOk ops) with
  | true=>intro h; cases h
  | false=>intro hq; exact suf_blk _ _ _ _ hq (Suf.refl hA)
 ·rename_i hq
  try simp only [hq]
  cases d with
  | true =>
   simp only [cond_true] at h ⊢
   split at h
   ·rename_i ps A' st' hd
    try simp only [hd]
    obtain ⟨h1,h2⟩:=suf_drawn hd hA hn
    exact obs_imp h fun h=>hk A' st' h1 h2 h
   ·rename_i hd0
    try simp only [hd0]
    split at h
    ·rename_i ps qs A' st' hd
     try simp only [hd]
     obtain ⟨h1,h2⟩:=suf_split hd hA hn
     exact obs_imp h fun h=>obs_imp h fun h=>hk A' st' h1 h2 h
    ·rename_i hd1
     try simp only [hd1]
     split at h
     ·rename_i gs ps A' st' hd
      try simp only [hd]
      obtain ⟨h1,h2⟩:=suf_force hd hA hn
      exact obs_imp h fun h=>obs_imp h fun h=>hk A' st' h1 h2 h
     ·exact h.elim
  | false =>
   simp only [cond_false] at h ⊢
   exact list_imp hcf _ _ _ _ _ _ h hA hn hk
def SufO (A:AE) (st:Stt):Out → Prop
 | .norm A' st'=>Suf A A'∧SufS st st'
 | .exit _ A' st'=>Suf A A'∧SufS st st'
 | .ret A' st'=>Suf A A'∧SufS st st'
theorem SufO.up {A A1:AE} {st st1:Stt} {o:Out} (h:SufO A1 st1 o) (h1:Suf A A1) (h2:SufS st st1):SufO A st o:=by
 cases o <;> exact ⟨h1.trans h.1,h2.trans h.2⟩
def EvImp (ev:AE → Stt → (Out → Prop) → Prop):Prop:=∀ A st (k k':Out → Prop),ev A st k → A ≠ [] → st.h ≠ [] → (∀ o,SufO A st o → k o → k' o) → ev A st k'
theorem loop_imp {ev:AE → Stt → (Out → Prop) → Prop} (he:EvImp ev):∀ m,EvImp (evLoop ev m)
 | 0,_,_,_,_,h,_,_,_=>h.elim
 | m + 1,A,st,k,k',h,hA,hn,hk=>by
  refine he A st _ _ h hA hn fun o ho h=>?_
  cases o with
  | norm A' st'=>exact loop_imp he m A' st' k k' h ho.1.ne ho.2.1.ne fun o' ho'=>hk o' (ho'.up ho.1 ho.2)
  | exit i A' st'=>exact hk _ ho h
  | ret A' st'=>exact hk _ ho h
theorem ann_imp {ev:AE → Stt → (Out → Prop) → Prop} (he:EvImp ev) (kill:List Nat) (L:LAnn) (A:AE) (st:Stt) (k k':Out → Prop) (h:evAnn ev kill L A st k) (hA:A ≠ []) (hn:st.h ≠ []) (hk:∀ o,SufO A st o → k o → k' o):evAnn ev kill L A st k':=by
 obtain ⟨g0,h⟩:=h
 refine ⟨g0,?_⟩
 split at h
 ·exact h.elim
 ·rename_i ps hm
  try simp only [hm]
  revert h
  cases (small kill && small (elder st.nx (L.sl g0) (L.ob g0) A st)) with
  | false=>intro h; exact h.elim
  | true =>
   intro h
   simp only [cond_true] at h ⊢
   refine obs_imp h fun h=>⟨h.1,fun g hg=>he _ _ _ _ (h.2 g hg) (by simp [headA]) (by simp [headS]) fun o ho h=>?_⟩
   have hh:SufO A st o:=ho.up (Suf.head hA _ _) ⟨Suf.head hn _ _,Nat.le_add_right _ _⟩
   cases o with
   | norm A' st'=>exact h
   | exit i A' st'=>exact hk _ hh h
   | ret A' st'=>exact hk _ hh h
theorem nils_suf:∀ (l:List (Nat × AX)) {A:AE} {st:Stt} {x:AE × Stt},nilsA l A st=some x → A ≠ [] → st.h ≠ [] → Suf A x.1∧SufS st x.2
 | [],A,st,x,h,hA,hn=>by
  simp only [nilsA,Option.some.injEq] at h
  subst h
  exact ⟨Suf.refl hA,SufS.refl hn⟩
 | (t,.q e dt []) :: r,A,st,x,h,hA,hn=>by
  simp only [nilsA] at h
  split at h
  ·have a1:Suf A (putA A (some t) (.ow st.nx 0)):=(Suf.refl hA).set _ _
   have a2:SufS st (newX st (.q e dt [])):=(SufS.refl hn).new _
   obtain ⟨b1,b2⟩:=nils_suf r h a1.ne a2.1.ne
   exact ⟨a1.trans b1,a2.trans b2⟩
  ·rename_i l k _
   split at h
   ·rename_i et cs _
    split at h
    case h_2=>cases h
    cases hb:(Nat.blt l st.nx && Nat.blt st.nx 1000000) with
    | false=>rw [hb] at h; cases h
    | true =>
     rw [hb] at h
     simp only [cond_true] at h
     have a2:SufS st (setX (newX st (.q e dt [])) l (.c et (spliceA cs k [.ow st.nx 0]))):=((SufS.refl hn).new _).setx _ _
     obtain ⟨b1,b2⟩:=nils_suf r h hA a2.1.ne
     exact ⟨b1,a2.trans b2⟩
   ·cases h
  ·cases h
 | (t,.q e dt (_ :: _)) :: r,A,st,x,h,hA,hn=>by simp only [nilsA] at h; cases h
 | (t,.c e cs) :: r,A,st,x,h,hA,hn=>by
  simp only [nilsA] at h
  split at h
  case h_2=>cases h
  rename_i et cs0 hl
  split at h
  case h_2=>cases h
  rename_i cs' st' hf
  split at h
  case h_2=>cases h
  have a2:SufS st (setX st' t (.c et cs')):=(suf_freezeL hf (SufS.refl hn)).setx _ _
  obtain ⟨b1,b2⟩:=nils_suf r h hA a2.1.ne
  exact ⟨b1,a2.trans b2⟩
theorem nils_imp {o:Option (AE → Stt → LAnn)} {A:AE} {st:Stt} {go go':AE → Stt → Prop} (h:evNils o A st go) (hA:A ≠ []) (hn:st.h ≠ []) (hk:∀ A' st',Suf A A' → SufS st st' → go A' st' → go' A' st'):evNils o A st go':=by
 unfold evNils at h ⊢
 split at h
 ·exact hk A st (Suf.refl hA) (SufS.refl hn) h
 ·rename_i M
  obtain ⟨g,h⟩:=h
  refine ⟨g,?_⟩
  split at h
  ·rename_i x hx
   try simp only [hx]
   obtain ⟨a1,a2⟩:=nils_suf _ hx hA hn
   exact hk _ _ a1 a2 h
  ·exact h.elim
theorem cut_imp {eva evb:AE → Stt → (Out → Prop) → Prop} (ha:EvImp eva) (hb:EvImp evb) (kill:List Nat) (L:LAnn) (A:AE) (st:Stt) (k k':Out → Prop) (h:evCut eva evb kill L A st k) (hA:A ≠ []) (hn:st.h ≠ []) (hk:∀ o,SufO A st o → k o → k' o):evCut eva evb kill L A st k':=by
 refine ⟨ha _ _ _ _ h.1 (by simp) (by simp) fun o ho h=>?_,fun g hg=>hb _ _ _ _ (h.2 g hg) (by simp [headA]) (by simp [headS]) fun o ho h=>hk o (ho.up (Suf.head hA _ _) ⟨Suf.head hn _ _,Nat.le_add_right _ _⟩) h⟩
 have hh:SufO A st o:=ho.up (Suf.head hA _ _) ⟨Suf.head hn _ _,Nat.le_refl _⟩
 cases o with
 | norm A' st'=>exact h
 | exit i A' st'=>exact hk _ hh h
 | ret A' st'=>exact hk _ hh h
theorem inl_imp {P:Program} {ev:FuncId → Nat → Code → AE → Stt → (Out → Prop) → Prop} (he:∀ f N c,EvImp (ev f N c)):CallImp (callInl P ev):=by
 intro f l st k k' h hn hk
 unfold callInl at h ⊢
 split at h
 ·exact h.elim
 ·rename_i fn hf
  revert h
  cases Nat.blt fn.ntmps l.length with
  | true=>intro h; exact h.elim
  | false =>
   intro h
   simp only [cond_false] at h ⊢
   split at h
   ·exact h.elim
   ·rename_i c hb
    have hne:∀ (l:List AV) (i:Nat),argsA l i ≠ []:=by
     intro l
     induction l with
     | nil=>intro i; simp [argsA]
     | cons a r ih =>
      intro i
      exact ((Suf.refl (ih (i + 1))).set i (some a)).ne
    have key:∀ A' st',SufS st st' → retA P fn A' st' k → retA P fn A' st' k':=by
     intro A' st' hs h
     unfold retA at h ⊢
     split at h
     ·exact hk _ _ hs h
     ·exact h.elim
    refine he f _ c _ _ _ _ h (hne l 0) hn fun o ho h=>?_
    cases o with
    | norm A' st'=>exact key A' st' ho.2 h
    | ret A' st'=>exact key A' st' ho.2 h
    | exit i A' st'=>exact h
theorem code_imp {P:Program} {S:Sums} {an:Anns}:∀ (n:Nat) (f:FuncId) (N:Nat) (c:Code),EvImp (evCode P S an n f N c)
 | 0,_,_,_,_,_,_,_,h,_,_,_=>by simp only [evCode] at h
 | n + 1,f,N,c,A,st,k,k',h,hA,hn,hk=>by
  have ih:=code_imp (P:=P) (S:=S) (an:=an) n
  unfold evCode at h ⊢
  split at h
  ·exact hk _ ⟨Suf.refl hA,SufS.refl hn⟩ h
  ·exact hk _ ⟨Suf.refl hA,SufS.refl hn⟩ h
  ·exact reg_imp (inl_imp ih) h hA hn fun A' st' h1 h2 h=>hk _ ⟨h1,h2⟩ h
  ·refine nils_imp h hA hn fun A1 st1 s1 s2 h=>?_
   split at h
   ·exact cut_imp (ih f N _) (ih f N _) _ _ A1 st1 k k' h s1.ne s2.1.ne fun o ho h=>hk o (ho.up s1 s2) h
   ·refine ih f N _ A1 st1 _ _ h s1.ne s2.1.ne fun o ho h=>?_
    cases o with
    | norm A' st'=>exact ih f N _ A' st' _ _ h ho.1.ne ho.2.1.ne fun o' ho' h=>hk o' ((ho'.up ho.1 ho.2).up s1 s2) h
    | exit i A' st'=>exact hk _ (ho.up s1 s2) h
    | ret A' st'=>exact hk _ (ho.up s1 s2) h
  ·split at h
   ·rename_i t ht
    try simp only
    cases t with
    | true=>exact ih f N _ A st _ _ h hA hn hk
    | false=>exact ih f N _ A st _ _ h hA hn hk
   ·exact h.elim
  ·refine ih f N _ A st _ _ h hA hn fun o ho h=>?_
   cases o with
   | norm A' st'=>exact hk _ ho h
   | exit i A' st' =>
    simp only at h ⊢
    revert h
    cases Nat.beq i _ with
    | true=>intro h; exact hk (.norm A' st') ho h
    | false=>intro h; exact hk (.exit i A' st') ho h
   | ret A' st'=>exact hk _ ho h
  ·split at h
   ·exact nils_imp h hA hn fun A' st' s1 s2 h=>ann_imp (ih f N _) _ _ A' st' k k' h s1.ne s2.1.ne fun o ho h=>hk o (ho.up s1 s2) h
   ·exact loop_imp (ih f N _) n A st k k' h hA hn hk
  ·exact hk _ ⟨Suf.refl hA,SufS.refl hn⟩ h
  ·exact hk _ ⟨Suf.refl hA,SufS.refl hn⟩ h
  ·exact ih f N _ A st _ _ h hA hn hk
  ·exact h.elim
end Go.Proofs.YtplflgclomiihaaGreat.Sv
namespace Go.Proofs.YtplflgclomiihaaGreat.Sv
open Go.RowKit Go.Proofs.YtplflgclomiihaaGreat.W
variable {Γ : Gl}
theorem small_cons {k:Nat} {r:List Nat} (h:small (k :: r)=true):k < 1000000∧small r=true:=by
 simp only [small,List.all_cons,Bool.and_eq_true] at h
 exact ⟨blt_t h.1,h.2⟩
theorem setsT_get {α:Type}:∀ (l:List (Nat × α)) (t:Tr (Option α)) (k:Nat),small (l.map (·.1))=true → (∃ x,(setsT t l).get k=some (some x)∧(k,x) ∈ l) ∨ (k ∉ l.map (·.1)∧(setsT t l).get k=t.get k)
 | [],t,k,_=>.inr ⟨by simp,rfl⟩
 | (j,x) :: r,t,k,h=>by
  obtain ⟨h1,h2⟩:=small_cons h
  rcases setsT_get r (Tr.set 24 t j (some (some x))) k h2 with ⟨y,h3,h4⟩ | ⟨h3,h4⟩
  ·exact .inl ⟨y,h3,List.mem_cons_of_mem _ h4⟩
  ·rw [Tr.get_set _ _ _ _ h1] at h4
   by_cases e:k=j
   ·subst e
    rw [if_pos rfl] at h4
    exact .inl ⟨x,h4,by simp⟩
   ·rw [if_neg e] at h4
    exact .inr ⟨by simp [e]; simpa using h3,h4⟩
theorem delsT_get {α:Type}:∀ (l:List Nat) (t:Tr (Option α)) (k:Nat),small l=true → (k ∈ l∧(delsT t l).get k=some none) ∨ (k ∉ l∧(delsT t l).get k=t.get k)
 | [],t,k,_=>.inr ⟨by simp,rfl⟩
 | j :: r,t,k,h=>by
  obtain ⟨h1,h2⟩:=small_cons h
  rcases delsT_get r (Tr.set 24 t j (some none)) k h2 with ⟨h3,h4⟩ | ⟨h3,h4⟩
  ·exact .inl ⟨List.mem_cons_of_mem _ h3,h4⟩
  ·rw [Tr.get_set _ _ _ _ h1] at h4
   by_cases e:k=j
   ·subst e
    rw [if_pos rfl] at h4
    exact .inl ⟨by simp,h4⟩
   ·rw [if_neg e] at h4
    exact .inr ⟨by simp [e,h3],h4⟩
theorem head_get {α:Type} {L:Ly α} {kill:List Nat} {sl:List (Nat × α)} {k:Nat} {x:α} (h1:small kill=true) (h2:small (sl.map (·.1))=true) (h:Ly.get (.nil :: setsT (delsT .nil kill) sl :: L) k=some x):(k,x) ∈ sl ∨ (k ∉ sl.map (·.1)∧k ∉ kill∧L.get k=some x):=by
 unfold Ly.get at h ⊢
 cases hk:Nat.blt k 1000000 with
 | false=>rw [hk] at h; cases h
 | true =>
 rw [hk] at h
 simp only [cond_true,Ly.go,Tr.get] at h ⊢
 rcases setsT_get sl (delsT .nil kill) k h2 with ⟨y,h3,h4⟩ | ⟨h3,h4⟩
 ·rw [h3] at h; cases h; exact .inl h4
 ·rw [h4] at h
  rcases delsT_get kill (.nil:Tr (Option α)) k h1 with ⟨h5,h6⟩ | ⟨h5,h6⟩
  ·rw [h6] at h; cases h
  ·rw [h6] at h; exact .inr ⟨h3,h5,h⟩
theorem bare_get {α:Type}:∀ {t:Tr α},t.bare=true → ∀ k,t.get k=none
 | .nil,_,_=>rfl
 | .node l v r,h,k=>by
  simp only [Tr.bare,Bool.and_eq_true] at h
  simp only [Tr.get]
  cases Nat.beq k 0 with
  | true =>
   simp only [cond_true]
   cases v with
   | none=>rfl
   | some x=>exact absurd h.1.1 (by simp)
  | false =>
   simp only [cond_false]
   cases Nat.beq (Nat.mod k 2) 1 with
   | true=>exact bare_get h.1.2 _
   | false=>exact bare_get h.2 _
theorem clear_get {α:Type}:∀ (ks:List Nat) (t:Tr α) (k:Nat),small ks=true → k ∉ ks → (t.clear ks).get k=t.get k
 | [],_,_,_,_=>rfl
 | j :: r,t,k,h,hk=>by
  obtain ⟨h1,h2⟩:=small_cons h
  simp only [List.mem_cons,not_or] at hk
  simp only [Tr.clear]
  rw [clear_get r _ k h2 hk.2,Tr.get_set _ _ _ _ h1,if_neg hk.1]
theorem bare_go {α:Type}:∀ (Ls:Ly α) (L:Ly α) (ks:List Nat) (k:Nat),small ks=true → k ∉ ks → allBare ks Ls=true → (Ls ++ L).go k=L.go k
 | [],_,_,_,_,_,_=>rfl
 | t :: r,L,ks,k,hs,hk,h=>by
  simp only [allBare,Bool.and_eq_true] at h
  have:=bare_get h.1 k
  rw [clear_get ks t k hs hk] at this
  simp only [List.cons_append,Ly.go,this]
  exact bare_go r L ks k hs hk h.2
theorem only_ok {α:Type} {L L':Ly α} {a b:Tr (Option α)} {ks:List Nat} (h:only L L' ks=true) (hs:Suf (a :: b :: L) L'):∀ k,k ∉ ks → L'.get k=L.get k:=by
 intro k hk
 unfold only at h
 simp only [Bool.and_eq_true] at h
 obtain ⟨⟨h1,h2⟩,h3⟩:=h
 obtain ⟨T,tl,Ls,T',e,rfl⟩:=hs
 cases e
 have hsplit:Ls ++ T' :: b :: L=(Ls ++ [T',b]) ++ L:=by simp
 rw [hsplit] at h3 ⊢
 rw [List.length_append,Nat.add_sub_cancel,List.take_left] at h3
 unfold Ly.get
 rw [bare_go _ L ks k h1 hk h3]
theorem eqX_ok {ρ:Nat → Nat} {x c:AX} {ps:Ps} (h:eqX ρ x c=some ps) (hp:∀ p ∈ ps,p):c=renX ρ x:=by
 unfold eqX at h
 split at h
 ·rename_i e cs e' cs'
  cases hc:Nat.beq e e' with
  | false=>rw [hc] at h; cases h
  | true=>rw [hc] at h; simp only [renX]; rw [beq_t hc,eqAs_ok h hp]
 ·rename_i e t xs e' t' xs'
  cases hc:(Nat.beq e e' && t.beq t') with
  | false=>rw [hc] at h; cases h
  | true =>
  rw [hc] at h
  cases h
  simp only [Bool.and_eq_true] at hc
  simp only [renX]
  rw [beq_t hc.1,DT.beq_ok hc.2,hp _ (List.mem_singleton.2 rfl)]
 ·cases h
theorem eqSl_ok {ρ:Nat → Nat} {A:AE}:∀ {sl:List (Nat × AV)} {ps:Ps},eqSl ρ A sl=some ps → (∀ p ∈ ps,p) → ∀ t h,(t,h) ∈ sl → A.get t=some (renA ρ h)
 | [],_,_,_,_,_,hm=>by simp at hm
 | (t0,h0) :: r,ps,h,hp,t,a,hm=>by
  simp only [eqSl] at h
  split at h
  case h_2=>cases h
  rename_i c hc
  split at h
  case h_2=>cases h
  rename_i ps1 ps2 h1 h2
  cases h
  rcases List.mem_cons.1 hm with e | hm
  ·cases e
   rw [hc,eqA_ok h1 (fun p hpp=>hp p (List.mem_append_left _ hpp))]
  ·exact eqSl_ok h2 (fun p hpp=>hp p (List.mem_append_right _ hpp)) t a hm
theorem eqOb_ok {ρ:Nat → Nat} {st:Stt}:∀ {ob:List (Nat × AX)} {ps:Ps},eqOb ρ st ob=some ps → (∀ p ∈ ps,p) → ∀ l x,(l,x) ∈ ob → st.h.get (ρ l)=some (renX ρ x)
 | [],_,_,_,_,_,hm=>by simp at hm
 | (t0,h0) :: r,ps,h,hp,t,a,hm=>by
  simp only [eqOb] at h
  split at h
  case h_2=>cases h
  rename_i c hc
  split at h
  case h_2=>cases h
  rename_i ps1 ps2 h1 h2
  cases h
  rcases List.mem_cons.1 hm with e | hm
  ·cases e
   rw [hc,eqX_ok h1 (fun p hpp=>hp p (List.mem_append_left _ hpp))]
  ·exact eqOb_ok h2 (fun p hpp=>hp p (List.mem_append_right _ hpp)) t a hm
theorem mapTo_low {nx:Nat} {m:List (Nat × Nat)} {l:Nat} (h:l < nx):mapTo nx m l=l:=by
 unfold mapTo
 rw [show Nat.blt l nx=true from Nat.ble_eq_true_of_le h]; rfl
theorem noDup_map {α:Type} {f:α → Nat}:∀ {l:List α},noDup (l.map f)=true → ∀ a b,a ∈ l → b ∈ l → f a=f b → a=b
 | [],_,_,_,h,_,_=>by simp at h
 | x :: r,h,a,b,ha,hb,e=>by
  simp only [List.map_cons,noDup,Bool.and_eq_true,Bool.not_eq_true'] at h
  have hx:∀ y ∈ r,f x ≠ f y:=fun y hy e'=>by
   have:(r.map f).contains (f x)=true:=by simp; exact ⟨y,hy,e'.symm⟩
   rw [h.1] at this; cases this
  rcases List.mem_cons.1 ha with e1 | ha'
  ·rcases List.mem_cons.1 hb with e2 | hb'
   ·rw [e1,e2]
   ·rw [e1] at e; exact absurd e (hx b hb')
  ·rcases List.mem_cons.1 hb with e2 | hb'
   ·rw [e2] at e; exact absurd e.symm (hx a ha')
   ·exact noDup_map h.2 a b ha' hb' e
theorem meets_ok {s s2 : Sg} {w0 w : World} {st st' : Stt} {A A' : AE} {E : Env} {low : Bool} {sl : List (Nat × AV)} {ob : List (Nat × AX)} {ps : Ps} {kill del : List Nat} (hm : meets st.nx low sl ob A' st' = some ps) (hp : ∀ p ∈ ps, p) (hH : Hold Γ s2 w0 st' w) (hE : EnvOK s2 A' E) (hle : s.le s2) (hdom : ∀ l, st.nx ≤ l → s.f l = none)
    (hkill : small kill = true) (hdel : small del = true)
    (hob : ∀ k x, k ∉ ob.map (·.1) → k ∉ del → st.h.get k = some x → st'.h.get k = some x ∧ idsX st.nx x = true ∧ k < st.nx)
    (hsl : ∀ t a, t ∉ sl.map (·.1) → t ∉ kill → A.get t = some a → A'.get t = some a ∧ idsA st.nx a = true)
    (hnew : ∀ l ∈ news st.nx ob, mapTo st.nx (mapAll st.nx A' st' sl ob) l < st.nx → mapTo st.nx (mapAll st.nx A' st' sl ob) l ∈ del) :
    ∃ s', s.le s' ∧ Hold Γ s' w0 (headS st del ob) w ∧ EnvOK s' (headA A kill sl) E := by
  unfold meets at hm
  simp only at hm
  generalize hρ : mapTo st.nx (mapAll st.nx A' st' sl ob) = ρ at hm hnew
  have hlow : ∀ l, l < st.nx → ρ l = l := fun l hl => by rw [← hρ]; exact mapTo_low hl
  generalize hn : st.nx + (news st.nx ob).length = n at hm
  cases hc : (noDup (ob.map (·.1)) && noDup ((ob.map (·.1)).map ρ) && ob.all (fun x => Nat.blt x.1 n && idsX n x.2) && sl.all (fun x => idsA n x.2) && (low || (news st.nx ob).all fun l => Nat.ble st.nx (ρ l)) && small (sl.map (·.1)) && small (ob.map (·.1))) with
  | false => rw [hc] at hm; cases hm
  | true =>
  rw [hc] at hm
  simp only [cond_true] at hm
  simp only [Bool.and_eq_true] at hc
  obtain ⟨⟨⟨⟨⟨⟨c1, c2⟩, c3⟩, c4⟩, c5⟩, c6⟩, c7⟩ := hc
  split at hm
  case h_2 => cases hm
  rename_i ps1 ps2 h1 h2
  cases hm
  have hSl := eqSl_ok h1 (fun p hpp => hp p (List.mem_append_left _ hpp))
  have hOb := eqOb_ok h2 (fun p hpp => hp p (List.mem_append_right _ hpp))
  have hR := Sg.ren_ok s2 ρ n
  have hR0 : Ren s2 (s2.ren ρ n) (fun l => l) st.nx := ⟨fun l hl p hp => by
    simp only [Sg.ren]
    rw [if_pos (by omega), hlow l hl]; exact hp, fun m => Sub.refl _⟩
  have obn : ∀ l x, (l, x) ∈ ob → l < n ∧ idsX n x = true := fun l x hx => by
    have := List.all_eq_true.1 c3 (l, x) hx
    simp only [Bool.and_eq_true] at this
    exact ⟨blt_t this.1, this.2⟩
  refine ⟨s2.ren ρ n, ⟨fun l p hp => ?_, hle.F, hle.G, hle.X, hle.G0⟩, ⟨hH.ext, hH.frz, hH.gf, fun l hl => ?_, fun k x hk => ?_, fun k k' x x' p p' hk hk' hp1 hp2 ht ht' e => ?_, hH.gnew, hH.glob⟩, fun t a ht => ?_⟩
  · have hl : l < st.nx := Nat.lt_of_not_le fun h => by rw [hdom l h] at hp; cases hp
    simp only [Sg.ren]
    rw [if_pos (by omega), hlow l hl]; exact hle.f l p hp
  · have hl' : n ≤ l := by rw [← hn]; exact hl
    simp only [Sg.ren]
    rw [if_neg (by omega)]
  · rcases head_get hdel c7 hk with hx | ⟨h3, h4, h5⟩
    · obtain ⟨hln, hid⟩ := obn k x hx
      obtain ⟨p, h6, h7⟩ := hH.obj _ _ (hOb k x hx)
      exact ⟨p, hR.f k hln p h6, (fun ht => by have := h7.free (there_ren.2 ht); rw [isBox_ren] at this; exact this), h7.cur.ren hR hid⟩
    · obtain ⟨h6, h7, h8⟩ := hob k x h3 h4 h5
      obtain ⟨p, h9, h10⟩ := hH.obj _ _ h6
      exact ⟨p, hR0.f k h8 p h9, h10.free, ObjAt.ren hR0 h7 (by rw [renX_id]; exact h10.cur)⟩
  · have loc : ∀ k x p, (headS st del ob).h.get k = some x → (s2.ren ρ n).f k = some p → there x p → ∃ x0, st'.h.get (ρ k) = some x0 ∧ s2.f (ρ k) = some p ∧ there x0 p ∧ ((∃ y, (k, y) ∈ ob) ∨ (k ∉ ob.map (·.1) ∧ k ∉ del ∧ k < st.nx)) := by
      intro k x p hk hp1 ht
      have hf : s2.f (ρ k) = some p := by
        simp only [Sg.ren] at hp1
        split at hp1
        · exact hp1
        · cases hp1
      rcases head_get hdel c7 hk with hx | ⟨h3, h4, h5⟩
      · exact ⟨_, hOb k x hx, hf, there_ren.2 ht, .inl ⟨x, hx⟩⟩
      · obtain ⟨h6, _, h8⟩ := hob k x h3 h4 h5
        rw [hlow k h8] at hf ⊢
        exact ⟨x, h6, hf, ht, .inr ⟨h3, h4, h8⟩⟩
    obtain ⟨x0, a1, a2, a3, a4⟩ := loc k x p hk hp1 ht
    obtain ⟨x0', b1, b2, b3, b4⟩ := loc k' x' p' hk' hp2 ht'
    have heq : ρ k = ρ k' := hH.inj _ _ _ _ p p' a1 b1 a2 b2 a3 b3 e
    have inOb : ∀ {j y}, (j, y) ∈ ob → j ∈ ob.map (·.1) := fun h => List.mem_map.2 ⟨_, h, rfl⟩
    have apart : ∀ {j i y}, (j, y) ∈ ob → i ∉ ob.map (·.1) → i ∉ del → i < st.nx → ρ j = ρ i → False := by
      intro j i y hj hi hd hlt he
      rw [hlow i hlt] at he
      rcases Nat.lt_or_ge j st.nx with hjl | hjl
      · rw [hlow j hjl] at he
        exact hi (he ▸ inOb hj)
      · have hjn : j ∈ news st.nx ob := List.mem_filter.2 ⟨inOb hj, Nat.ble_eq_true_of_le hjl⟩
        exact hd (he ▸ hnew j hjn (by rw [he]; exact hlt))
    rcases a4 with ⟨y, hy⟩ | ⟨a5, a6, a7⟩
    · rcases b4 with ⟨y', hy'⟩ | ⟨b5, b6, b7⟩
      · exact noDup_map (f := ρ) c2 k k' (inOb hy) (inOb hy') heq
      · exact (apart hy b5 b6 b7 heq).elim
    · rcases b4 with ⟨y', hy'⟩ | ⟨b5, b6, b7⟩
      · exact (apart hy' a5 a6 a7 heq.symm).elim
      · rw [hlow k a7, hlow k' b7] at heq; exact heq
  · rcases head_get hkill c6 ht with hx | ⟨h3, h4, h5⟩
    · have := List.all_eq_true.1 c4 (t, a) hx
      exact Rel.ren hR a _ this (hE t _ (hSl t a hx))
    · obtain ⟨h6, h7⟩ := hsl t a h3 h4 h5
      exact Rel.ren hR0 a _ h7 (by rw [renA_id]; exact hE t a h6)
end Go.Proofs.YtplflgclomiihaaGreat.Sv
