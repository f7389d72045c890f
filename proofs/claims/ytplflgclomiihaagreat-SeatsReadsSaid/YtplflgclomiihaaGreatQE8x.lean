/- Contracts. -/
import Derived.Test.YtplflgclomiihaaGreatQE5x
import Derived.OrdersIn
import Derived.RangeFuncLeaves
import Derived.RangeFuncRecord
import Derived.LoopNIn
import Derived.Test.YtplflgclomiihaaGreatQP1x
set_option linter.unusedVariables false
set_option linter.unusedSimpArgs false
namespace Go.Proofs.YtplflgclomiihaaGreat.Ev
open Go.RowKit Go.Proofs.YtplflgclomiihaaGreat.W
theorem Tr.get_set' {α:Type}:∀ (d:Nat) (t:Tr α) (k j:Nat) (x:Option α),k + 1 < 2 ^ d → (Tr.set d t k x).get j=if j=k then x else t.get j
 | 0,t,k,j,x,h=>by simp at h
 | d + 1,t,k,j,x,h=>by
  have hd:Tr.set (d + 1) t k x=bif Nat.beq k 0 then .node t.left x t.right else bif Nat.beq (k % 2) 1 then .node (Tr.set d t.left (k / 2) x) t.val t.right else .node t.left t.val (Tr.set d t.right ((k - 1) / 2) x):=rfl
  have hpow:2 ^ (d + 1)=2 * 2 ^ d:=by rw [Nat.pow_succ]; omega
  rw [hd,Tr.get_eq t j]
  by_cases hk:k=0
  ·subst hk
   simp only [beq_self,cond_true]
   rw [Tr.get_eq]
   simp only [Tr.left,Tr.val,Tr.right]
   by_cases hj:j=0
   ·subst hj; simp [beq_self]
   ·simp only [beq_no hj,cond_false,if_neg hj]
  ·simp only [beq_no hk,cond_false]
   by_cases hp:k % 2=1
   ·simp only [hp,beq_self,cond_true]
    rw [Tr.get_eq]
    simp only [Tr.left,Tr.val,Tr.right]
    by_cases hj:j=0
    ·subst hj; simp only [beq_self,cond_true]; rw [if_neg (fun e=>hk e.symm)]
    ·simp only [beq_no hj,cond_false]
     by_cases hq:j % 2=1
     ·simp only [hq,beq_self,cond_true]
      rw [Tr.get_set' d _ _ _ _ (by omega)]
      by_cases e:j=k
      ·subst e; simp
      ·rw [if_neg (by omega),if_neg e]
     ·simp only [beq_no hq,cond_false]; rw [if_neg (fun e:j=k=>hq (by rw [e]; exact hp))]
   ·simp only [beq_no hp,cond_false]
    rw [Tr.get_eq]
    simp only [Tr.left,Tr.val,Tr.right]
    by_cases hj:j=0
    ·subst hj; simp only [beq_self,cond_true]; rw [if_neg (fun e=>hk e.symm)]
    ·simp only [beq_no hj,cond_false]
     by_cases hq:j % 2=1
     ·simp only [hq,beq_self,cond_true]; rw [if_neg (fun e:j=k=>hp (by rw [← e]; exact hq))]
     ·simp only [beq_no hq,cond_false]
      rw [Tr.get_set' d _ _ _ _ (by omega)]
      by_cases e:j=k
      ·subst e; simp
      ·rw [if_neg (by omega),if_neg e]
theorem eqVs_ok {f:Value → Value → Bool} (hf:∀ a b,f a b=true → a=b):∀ {l r:List Value},eqVs f l r=true → l=r
 | [],[],_=>rfl
 | [],_ :: _,h=>by simp [eqVs] at h
 | _ :: _,[],h=>by simp [eqVs] at h
 | a :: l,b :: r,h=>by
  simp only [eqVs,Bool.and_eq_true] at h
  rw [hf _ _ h.1,eqVs_ok hf h.2]
theorem eqV_ok:∀ (n:Nat) (a b:Value),eqV n a b=true → a=b
 | 0,a,b,h=>by simp [eqV] at h
 | n + 1,a,b,h=>by
  unfold eqV at h
  split at h
  ·cases ‹_ + 1=0›
  ·simp only [Bool.and_eq_true,decide_eq_true_eq] at h; rw [h.1,h.2]
  ·simp at h; rw [h]
  ·simp only [decide_eq_true_eq] at h
   congr 1
   exact ByteArray.ext (Array.ext' h)
  ·rfl
  ·simp only [Bool.and_eq_true] at h; rw [beq_t h.1,beq_t h.2]
  ·rfl
  ·rfl
  ·rfl
  ·rename_i heq; cases heq; congr 1; exact Array.ext' (eqVs_ok (eqV_ok n) h)
  ·rename_i heq; cases heq; congr 1; exact Array.ext' (eqVs_ok (eqV_ok n) h)
  ·cases h
theorem eqAs_ok {f:AV → AV → Bool} (hf:∀ a b,f a b=true → a=b):∀ {l r:List AV},eqAs f l r=true → l=r
 | [],[],_=>rfl
 | [],_ :: _,h=>by simp [eqAs] at h
 | _ :: _,[],h=>by simp [eqAs] at h
 | a :: l,b :: r,h=>by
  simp only [eqAs,Bool.and_eq_true] at h
  rw [hf _ _ h.1,eqAs_ok hf h.2]
theorem eqA_ok:∀ (n:Nat) (a b:AV),eqA n a b=true → a=b
 | 0,a,b,h=>by simp [eqA] at h
 | n + 1,a,b,h=>by
  unfold eqA at h
  split at h
  ·cases ‹_ + 1=0›
  ·rename_i heq; cases heq; rw [eqV_ok _ _ _ h]
  ·simp only [Bool.and_eq_true] at h; rw [beq_t h.1,beq_t h.2]
  ·simp only [Bool.and_eq_true] at h
   obtain ⟨⟨⟨⟨h1,h2⟩,h3⟩,h4⟩,h5⟩:=h
   rw [beq_t h1,beq_t h2,beq_t h3,beq_t h4,eq_of_beq h5]
  ·rename_i heq; cases heq; rw [eqAs_ok (eqA_ok n) h]
  ·rename_i heq; cases heq; rw [eqAs_ok (eqA_ok n) h]
  ·rename_i heq; cases heq; simp only [Bool.and_eq_true] at h; rw [beq_t h.1,eqAs_ok (eqA_ok n) h.2]
  ·rw [beq_t h]
  ·rw [beq_t h]
  ·rw [beq_t h]
  ·rw [beq_t h]
  ·rfl
  ·rfl
  ·simp only [Bool.and_eq_true] at h; rw [beq_t h.1,beq_t h.2]
  ·cases h
theorem wpAny_gen {P : Program} {n : Fsz} {ro : Option Nat} {l : List Oper} {N R : Env → World → Prop} {X : Nat → Env → World → Prop} (V : Array Bool → Act → World → Prop)
    (hsize : ∀ listed a w, V listed a w → listed.size = l.length)
    (hfin : ∀ listed a w, V listed a w → Region.ready .any l.toArray listed = [] → lift n ⟨N, X, R⟩ .normal a w)
    (hstep : ∀ listed a w i o, V listed a w → l[i]? = some o → listed.getD i true = false → (∀ e ∈ o.after.toList, Region.binds .any e = true → listed.getD e.on false = true) →
      (Shut l.toArray o (envOf a) ∧ V (listed.setIfInBounds i true) (a.put o.dst undef) w) ∨ (Sure l.toArray o (envOf a) ∧
        ((∃ v w', OpX P o (envOf a) w v w' ∧ V (listed.setIfInBounds i true) (a.put o.dst v) w') ∨ (∃ f args, OpC P o (envOf a) w f args ∧ Fnc P f args w fun v w' => V (listed.setIfInBounds i true) (a.put o.dst v) w') ∨
          (∃ b f tmps asg body, (execOp (ev (envOf a)) o).run P w = .ok (.round b f tmps asg body) w ∧ RoundIn (Fr ro) 0 P b f tmps asg body w fun e w' => ∃ v, e = .returned v ∧ V (listed.setIfInBounds i true) (a.put o.dst v) w')))) :
    ∀ (fuel : Nat) (listed : Array Bool) (a : Act) (w : World), V listed a w → (unl l.length listed).length ≤ fuel → wpAnyIn (Fr ro) 1 P .any l.toArray (lift n ⟨N, X, R⟩) fuel listed a w := by
  intro fuel
  induction fuel with
  | zero =>
    intro listed a w hV hu
    have hnil : Region.ready .any l.toArray listed = [] := by
      rw [List.eq_nil_iff_forall_not_mem]
      intro i hi
      obtain ⟨h1, h2, _⟩ := W.mem_ready.1 hi
      have : i ∈ unl l.length listed := by simp only [unl, List.mem_filter, List.mem_range, h2]; exact ⟨by simpa using h1, rfl⟩
      rw [List.eq_nil_of_length_eq_zero (by omega : (unl l.length listed).length = 0)] at this
      cases this
    exact ⟨hnil, hfin _ _ _ hV hnil⟩
  | succ fuel ih =>
    intro listed a w hV hu
    refine ⟨hfin _ _ _ hV, fun i hi => ?_⟩
    obtain ⟨h1, h2, o, ho, h3⟩ := W.mem_ready.1 hi
    have h1' : i < l.length := by simpa using h1
    have ho' : l[i]? = some o := by simpa using ho
    have hcount : (unl l.length (listed.setIfInBounds i true)).length ≤ fuel := by
      have := unl_set (listed := listed) (hsize _ _ _ hV) h1' h2; omega
    unfold wpOpIn
    simp only [ho]
    rcases hstep listed a w i o hV ho' h2 h3 with ⟨hs, hF⟩ | ⟨hs, hx | ⟨f, args, hc, hf⟩ | ⟨b, f, tmps, asg, body, hx, hrd⟩⟩
    · rw [if_neg (by rw [hs a.tmps rfl]; simp)]
      exact ⟨fun _ _ => trivial, ih _ _ _ hF hcount⟩
    · rw [if_pos (hs a.tmps rfl)]
      obtain ⟨v, w', hx, hV'⟩ := hx
      refine ⟨fun _ _ => trivial, ?_⟩
      rw [eval_envOf]
      rcases hx with hx | ⟨rfl, hx⟩
      · rw [semAt_of hx (by simp)]; exact ih _ _ _ hV' hcount
      · rw [semAt_of hx (by simp)]; exact ih _ _ _ hV' hcount
    · rw [if_pos (hs a.tmps rfl)]
      refine ⟨fun _ _ => trivial, ?_⟩
      rw [eval_envOf, semAt_of hc (by simp)]
      refine ⟨fun _ => Nat.le_refl 1, ?_⟩
      have hc' : CallsIn (Fr ro) (1 - 1) P f args w (fun e w' => ∃ v, e = .returned v ∧ V (listed.setIfInBounds i true) (a.put o.dst v) w') := by
        have := (callsIn_wide (n := 1 - 1)).2 hf
        exact this
      refine CallsIn.mono hc' ?_
      rintro e w' ⟨v, rfl, hV'⟩
      exact ih _ _ _ hV' hcount
    · rw [if_pos (hs a.tmps rfl)]
      refine ⟨fun _ _ => trivial, ?_⟩
      rw [eval_envOf, semAt_of hx (by simp)]
      refine ⟨fun _ => Nat.le_refl 1, RoundIn.mono hrd ?_⟩
      rintro e w' ⟨v, rfl, hV'⟩
      exact ih _ _ _ hV' hcount
theorem WP.anyGen {P : Program} {n : Fsz} {ro : Option Nat} {id : Nat} {l : List Oper} {E : Env} {w : World} {N R : Env → World → Prop} {X : Nat → Env → World → Prop} (hm : P.follows .mixedOrders = true) (V : Array Bool → Act → World → Prop)
    (hsize : ∀ listed a w, V listed a w → listed.size = l.length)
    (hfin : ∀ listed a w, V listed a w → Region.ready .any l.toArray listed = [] → lift n ⟨N, X, R⟩ .normal a w)
    (hstep : ∀ listed a w i o, V listed a w → l[i]? = some o → listed.getD i true = false → (∀ e ∈ o.after.toList, Region.binds .any e = true → listed.getD e.on false = true) →
      (Shut l.toArray o (envOf a) ∧ V (listed.setIfInBounds i true) (a.put o.dst undef) w) ∨ (Sure l.toArray o (envOf a) ∧
        ((∃ v w', OpX P o (envOf a) w v w' ∧ V (listed.setIfInBounds i true) (a.put o.dst v) w') ∨ (∃ f args, OpC P o (envOf a) w f args ∧ Fnc P f args w fun v w' => V (listed.setIfInBounds i true) (a.put o.dst v) w') ∨
          (∃ b f tmps asg body, (execOp (ev (envOf a)) o).run P w = .ok (.round b f tmps asg body) w ∧ RoundIn (Fr ro) 0 P b f tmps asg body w fun e w' => ∃ v, e = .returned v ∧ V (listed.setIfInBounds i true) (a.put o.dst v) w'))))
    (h0 : ∀ a d, Ok n a → envOf a = E → V (Array.replicate l.length false) a { w with drawn := d }) : WPr ro P n (.region id l.toArray true) ⟨N, X, R⟩ E w := by
  intro a ha he
  refine wpIn_region_any hm ?_
  have hsz : l.toArray.size = l.length := by simp
  rw [hsz]
  refine wpAny_gen V hsize hfin hstep _ _ _ _ (h0 a _ ha he) ?_
  have := List.length_filter_le (fun i => !(Array.replicate l.length false).getD i true) (List.range l.length)
  simpa [unl] using this
def cnt (G:List Inf) (i:Nat):Nat:=((G.take i).filter (·.mak)).length
theorem cnt_succ {G:List Inf} {i:Nat} {x:Inf} (h:G[i]?=some x):cnt G (i + 1)=cnt G i + (if x.mak then 1 else 0):=by
 unfold cnt
 rw [List.take_add_one,h,List.filter_append,List.length_append]
 cases hx:x.mak <;> simp [hx]
theorem cnt_mono (G : List Inf) {i j : Nat} (h : i ≤ j) : cnt G i ≤ cnt G j := by
  induction j with
  | zero => have : i = 0 := by omega
            subst this; exact Nat.le_refl _
  | succ j ih =>
    rcases Nat.lt_or_ge i (j + 1) with h1 | h1
    · refine Nat.le_trans (ih (by omega)) ?_
      cases hx : G[j]? with
      | none => unfold cnt; rw [List.take_of_length_le (by have := List.getElem?_eq_none_iff.1 hx; omega), List.take_of_length_le (by have := List.getElem?_eq_none_iff.1 hx; omega)]; exact Nat.le_refl _
      | some x => rw [cnt_succ hx]; omega
    · have : i = j + 1 := by omega
      subst this; exact Nat.le_refl _
structure Good (P:Program) (cf:CallF) (rf:RndF) (l:List Oper) (A A0:AE) (G:List Inf) (S:List Stt) (i:Nat) (o:Oper) (x:Inf):Prop where
 num:x.num=cnt G i
 lo:∀ p ∈ preds o,∀ y,G[p]?=some y → y.aft ≤ x.lo
 lub:∀ k,(∀ p ∈ preds o,∀ y,G[p]?=some y → y.aft ≤ k) → x.lo ≤ k
 env:∀ (ω:Nat → Value) (s:Sg) (E:Env),EnvOK ω s A0 E → (∀ p ∈ preds o,∀ y q d,G[p]?=some y → l[p]?=some q → q.dst=some d → Rel ω s y.u (E d)) → (∀ q ∈ l,i ∈ preds q → ∀ d,q.dst=some d → ∀ b,A.get d=some b → Rel ω s b (E d)) → EnvOK ω s x.env E
 val:∃ st,S[x.num]?=some st∧((x.mak=false∧x.aft=x.lo∧evRd P l.toArray st x.env o=some x.u) ∨
  (x.mak=true∧x.aft=x.num + 1∧guardA x.env l.toArray o=some .run∧∃ st',S[x.num + 1]?=some st'∧(evOp P st x.env o=some (.wr x.u st') ∨ (∃ f as',evOp P st x.env o=some (.call f as')∧cf f as' st=some (x.u,st')) ∨ ∃ b as',evOp P st x.env o=some (.rnd b as')∧rf b as' st=some (x.u,st'))))
theorem predEnv_ok {l:List Oper} {tr:Tr Inf} {G:List Inf} (htr:∀ p y,tr.get p=some y → G[p]?=some y) (ω:Nat → Value) (s:Sg) (E:Env):∀ (ps:List Nat) (A:AE),EnvOK ω s A E → (∀ p ∈ ps,∀ y q d,G[p]?=some y → l[p]?=some q → q.dst=some d → Rel ω s y.u (E d)) → EnvOK ω s (predEnv l.toArray tr ps A) E
 | [],A,h,_=>h
 | p :: r,A,h,k=>by
  unfold predEnv
  split
  ·rename_i y q hy hq
   refine predEnv_ok htr ω s E r _ ?_ (fun p' hp'=>k p' (by simp [hp']))
   have hq':l[p]?=some q:=by simpa using hq
   intro t a ht
   cases hd:q.dst with
   | none=>rw [hd] at ht; exact h t a ht
   | some d =>
    rw [hd] at ht
    rcases Tr.get_set _ _ _ _ _ _ ht with ⟨rfl,e⟩ | ⟨_,e⟩
    ·cases e; exact k p (by simp) y q _ (htr p y hy) hq' hd
    ·exact h t a e
  ·exact predEnv_ok htr ω s E r A h (fun p' hp'=>k p' (by simp [hp']))
theorem restore_ok {A:AE} {l:List Oper} {i:Nat} {ω:Nat → Value} {s:Sg} {E:Env} (k:∀ q ∈ l,i ∈ preds q → ∀ d,q.dst=some d → ∀ b,A.get d=some b → Rel ω s b (E d)):∀ (xs:List Operand) (E0:AE),EnvOK ω s E0 E → EnvOK ω s (restore A l i xs E0) E
 | [],E0,h=>h
 | .tmp t :: r,E0,h=>by
  unfold restore
  refine restore_ok k r _ ?_
  split
  ·exact h
  ·split
   ·rename_i q hq
    cases hc:(preds q).contains i with
    | false=>exact h
    | true =>
     have hd:=List.find?_some hq
     have hm:=List.mem_of_find?_eq_some hq
     intro t' a ht
     rcases Tr.get_set _ _ _ _ _ _ ht with ⟨rfl,e⟩ | ⟨_,e⟩
     ·split at hd
      ·rename_i d hd'
       have:=beq_t hd
       subst this
       exact k q hm (by simpa using hc) d hd' a e
      ·cases hd
     ·exact h t' a e
   ·exact h
 | .const _ :: r,E0,h=>by unfold restore; exact restore_ok k r _ h
 | .global _ :: r,E0,h=>by unfold restore; exact restore_ok k r _ h
 | .func _ :: r,E0,h=>by unfold restore; exact restore_ok k r _ h
theorem loOf_ge {tr:Tr Inf}:∀ (ps:List Nat) (p:Nat) (y:Inf),p ∈ ps → tr.get p=some y → y.aft ≤ loOf tr ps
 | [],p,y,h,_=>by cases h
 | q :: r,p,y,h,hy=>by
  unfold loOf
  rcases List.mem_cons.1 h with rfl | h
  ·rw [hy]; exact Nat.le_max_left _ _
  ·have:=loOf_ge r p y h hy
   split
   ·exact Nat.le_trans this (Nat.le_max_right _ _)
   ·exact this
theorem loOf_le {tr:Tr Inf} {k:Nat}:∀ (ps:List Nat),(∀ p ∈ ps,∀ y,tr.get p=some y → y.aft ≤ k) → loOf tr ps ≤ k
 | [],_=>Nat.zero_le _
 | q :: r,h=>by
  unfold loOf
  have:=loOf_le r (fun p hp=>h p (by simp [hp]))
  split
  ·rename_i i hi; exact Nat.max_le.2 ⟨h q (by simp) i hi,this⟩
  ·exact this
theorem pass1_len {P:Program} {cf:CallF} {rf:RndF} {ops:Array Oper} {A A0:AE}:∀ (r:List Oper) (i:Nat) (tr:Tr Inf) (st:Stt) (m:Nat) (xs:List Inf) (ss:List Stt),pass1 P cf rf ops A A0 r i tr st m=some (xs,ss) → xs.length=r.length∧ss[0]?=some st∧ss.length=(xs.filter (·.mak)).length + 1:=by
 intro r
 induction r with
 | nil=>intro i tr st m xs ss h; simp only [pass1,Option.some.injEq,Prod.mk.injEq] at h; obtain ⟨rfl,rfl⟩:=h; simp
 | cons o r ih =>
  intro i tr st m xs ss h
  simp only [pass1] at h
  split at h
  ·cases h
  ·split at h
   ·rename_i hr; cases h; have:=ih _ _ _ _ _ _ hr; simpa using this
   ·cases h
  ·split at h
   ·cases h
   ·split at h
    ·rename_i hr; cases h; have:=ih _ _ _ _ _ _ hr; simpa using this
    ·cases h
   ·split at h
    ·rename_i hr; cases h; have:=ih _ _ _ _ _ _ hr; simp [this.1,this.2.2]
    ·cases h
   ·split at h
    ·cases h
    ·split at h
     ·rename_i hr; cases h; have:=ih _ _ _ _ _ _ hr; simp [this.1,this.2.2]
     ·cases h
   ·split at h
    ·cases h
    ·split at h
     ·rename_i hr; cases h; have:=ih _ _ _ _ _ _ hr; simp [this.1,this.2.2]
     ·cases h
theorem pass1_ok {P : Program} {cf : CallF} {rf : RndF} {l : List Oper} {A A0 : AE} (hsm : l.length ≤ 4000) (hback : ∀ i o, l[i]? = some o → ∀ p ∈ preds o, p < i) (G : List Inf) (S : List Stt) : ∀ (r : List Oper) (i : Nat) (tr : Tr Inf) (st : Stt) (m : Nat) (xs : List Inf) (ss : List Stt),
    pass1 P cf rf l.toArray A A0 r i tr st m = some (xs, ss) → l.drop i = r → G.drop i = xs → S.drop m = ss → m = cnt G i → (∀ p, tr.get p = if p < i then G[p]? else none) →
    ∀ j o, r[j]? = some o → ∃ x, G[i + j]? = some x ∧ Good P cf rf l A A0 G S (i + j) o x := by
  intro r
  induction r with
  | nil => intro i tr st m xs ss h _ _ _ _ _ j o hj; simp at hj
  | cons o r ih =>
    intro i tr st m xs ss h hl hG hS hm htr
    have hi : i < l.length := by
      rcases Nat.lt_or_ge i l.length with h1 | h1
      · exact h1
      · rw [List.drop_of_length_le h1] at hl; cases hl
    have ho : l[i]? = some o := by
      have := congrArg (fun z => z[0]?) hl
      simpa [List.getElem?_drop] using this
    have hl' : l.drop (i + 1) = r := by rw [← List.drop_drop, hl]; rfl
    have htr' : ∀ p y, tr.get p = some y → G[p]? = some y := by
      intro p y hp; rw [htr] at hp; split at hp
      · exact hp
      · cases hp
    have step : ∀ (x : Inf) (xs' : List Inf) (ss' : List Stt) (st' : Stt) (m' : Nat), pass1 P cf rf l.toArray A A0 r (i + 1) (tr.set 12 i (some x)) st' m' = some (xs', ss') → xs = x :: xs' → S.drop m' = ss' → m' = cnt G i + (if x.mak then 1 else 0) →
        Good P cf rf l A A0 G S i o x → ∀ j o', (o :: r)[j]? = some o' → ∃ y, G[i + j]? = some y ∧ Good P cf rf l A A0 G S (i + j) o' y := by
      intro x xs' ss' st' m' hp hx hs hm' hgood j o' hj
      subst hx
      have hGi : G[i]? = some x := by
        have := congrArg (fun z => z[0]?) hG
        simpa [List.getElem?_drop] using this
      cases j with
      | zero => simp only [List.getElem?_cons_zero, Option.some.injEq] at hj; subst hj; exact ⟨x, hGi, hgood⟩
      | succ j =>
        have := ih (i + 1) _ st' m' xs' ss' hp hl' (by rw [← List.drop_drop, hG]; rfl) hs (by rw [hm', cnt_succ hGi]) (fun p => by
          rw [Tr.get_set' 12 tr i p (some x) (by omega), htr]
          by_cases e : p = i
          · subst e; rw [if_pos rfl, if_pos (by omega), hGi]
          · rw [if_neg e]
            by_cases e2 : p < i
            · rw [if_pos e2, if_pos (by omega)]
            · rw [if_neg e2, if_neg (by omega)]) j o' (by simpa using hj)
        rwa [show i + 1 + j = i + (j + 1) from by omega] at this
    have lo_ge : ∀ p ∈ preds o, ∀ y, G[p]? = some y → y.aft ≤ loOf tr (preds o) := fun p hp y hy => loOf_ge _ p y hp (by rw [htr, if_pos (hback i o ho p hp)]; exact hy)
    have lo_le : ∀ k, (∀ p ∈ preds o, ∀ y, G[p]? = some y → y.aft ≤ k) → loOf tr (preds o) ≤ k := fun k hk => loOf_le _ fun p hp y hy => hk p hp y (htr' p y hy)
    have henv := fun (ω : Nat → Value) (s : Sg) (E : Env) (h1 : EnvOK ω s A0 E) h2 (h3 : ∀ q ∈ l, i ∈ preds q → ∀ d, q.dst = some d → ∀ b, A.get d = some b → Rel ω s b (E d)) => restore_ok (A := A) h3 o.op.operands.toList _ (predEnv_ok (l := l) htr' ω s E (preds o) A0 h1 h2)
    have hS0 : ∀ (q : List Stt), S.drop m = st :: q → S[m]? = some st := by
      intro q hq
      have := congrArg (fun z => z[0]?) hq
      simpa [List.getElem?_drop] using this
    have hS1 : ∀ (q : List Stt), S.drop m = st :: q → S.drop (m + 1) = q := by
      intro q hq; rw [← List.drop_drop, hq]; rfl
    simp only [pass1] at h
    split at h
    · cases h
    · rename_i hg
      split at h
      · rename_i xs' ss' hr
        cases h
        obtain ⟨_, h0, _⟩ := pass1_len _ _ _ _ _ _ _ hr
        have hSm : S[m]? = some st := by rw [← hS, List.getElem?_drop] at h0; simpa using h0
        refine step ⟨false, m, _, _, .v undef, _⟩ xs' _ st m hr rfl hS (by simpa using hm) ⟨hm, lo_ge, lo_le, henv, st, hSm, .inl ⟨rfl, rfl, ?_⟩⟩
        unfold evRd; rw [hg]
      · cases h
    · rename_i hg
      split at h
      · cases h
      · rename_i a hop
        split at h
        · rename_i xs' ss' hr
          cases h
          obtain ⟨_, h0, _⟩ := pass1_len _ _ _ _ _ _ _ hr
          have hSm : S[m]? = some st := by rw [← hS, List.getElem?_drop] at h0; simpa using h0
          refine step ⟨false, m, _, _, a, _⟩ xs' _ st m hr rfl hS (by simpa using hm) ⟨hm, lo_ge, lo_le, henv, st, hSm, .inl ⟨rfl, rfl, ?_⟩⟩
          unfold evRd; rw [hg]; simp only [hop]
        · cases h
      · rename_i a st' hop
        split at h
        · rename_i xs' ss' hr
          cases h
          obtain ⟨_, h0, _⟩ := pass1_len _ _ _ _ _ _ _ hr
          have hS' := hS1 _ hS
          have hSm' : S[m + 1]? = some st' := by rw [← hS', List.getElem?_drop] at h0; simpa using h0
          exact step ⟨true, m, _, _, a, _⟩ xs' _ st' (m + 1) hr rfl hS' (by simp [hm]) ⟨hm, lo_ge, lo_le, henv, st, hS0 _ hS, .inr ⟨rfl, rfl, hg, st', hSm', .inl hop⟩⟩
        · cases h
      · rename_i f as' hop
        split at h
        · cases h
        · rename_i a st' hcf
          split at h
          · rename_i xs' ss' hr
            cases h
            obtain ⟨_, h0, _⟩ := pass1_len _ _ _ _ _ _ _ hr
            have hS' := hS1 _ hS
            have hSm' : S[m + 1]? = some st' := by rw [← hS', List.getElem?_drop] at h0; simpa using h0
            exact step ⟨true, m, _, _, a, _⟩ xs' _ st' (m + 1) hr rfl hS' (by simp [hm]) ⟨hm, lo_ge, lo_le, henv, st, hS0 _ hS, .inr ⟨rfl, rfl, hg, st', hSm', .inr (.inl ⟨f, as', hop, hcf⟩)⟩⟩
          · cases h
      · rename_i f as' hop
        split at h
        · cases h
        · rename_i a st' hcf
          split at h
          · rename_i xs' ss' hr
            cases h
            obtain ⟨_, h0, _⟩ := pass1_len _ _ _ _ _ _ _ hr
            have hS' := hS1 _ hS
            have hSm' : S[m + 1]? = some st' := by rw [← hS', List.getElem?_drop] at h0; simpa using h0
            exact step ⟨true, m, _, _, a, _⟩ xs' _ st' (m + 1) hr rfl hS' (by simp [hm]) ⟨hm, lo_ge, lo_le, henv, st, hS0 _ hS, .inr ⟨rfl, rfl, hg, st', hSm', .inr (.inr ⟨f, as', hop, hcf⟩)⟩⟩
          · cases h
end Go.Proofs.YtplflgclomiihaaGreat.Ev
namespace Go.Proofs.YtplflgclomiihaaGreat.Ev
open Go.RowKit Go.Proofs.YtplflgclomiihaaGreat.W
structure Sec (P:Program) (l:List Oper) (G:List Inf) (S:List Stt) (M:Nat) (i:Nat) (o:Oper) (x:Inf):Prop where
 mak:x.mak=true → x.lo=x.num
 rd:x.mak=false → M=0 ∨ rdAt P l.toArray o x (hiOf i M l G) 0 S=true
theorem pass2_ok {P:Program} {l:List Oper} {G:List Inf} {S:List Stt} {M:Nat}:∀ (r:List Oper) (xs:List Inf) (i:Nat) (last:Option Nat),pass2 P l.toArray G S M r xs i last=true → ∀ j o x,r[j]?=some o → xs[j]?=some x → Sec P l G S M (i + j) o x:=by
 intro r
 induction r with
 | nil=>intro xs i last _ j o x hj; simp at hj
 | cons o r ih =>
  intro xs i last h j o' x' hj hx
  cases xs with
  | nil=>simp at hx
  | cons x xs =>
   simp only [pass2,Bool.and_eq_true] at h
   obtain ⟨ha,hb⟩:=h
   cases j with
   | zero =>
    simp only [List.getElem?_cons_zero,Option.some.injEq] at hj hx
    subst hj; subst hx
    constructor
    ·intro hm
     rw [hm] at ha
     simp only [cond_true] at ha
     exact beq_t ha
    ·intro hm
     rw [hm] at ha
     simp only [cond_false,List.toList_toArray] at ha
     cases hM:Nat.beq M 0 with
     | true=>exact .inl (beq_t hM)
     | false=>rw [hM] at ha; exact .inr ha
   | succ j =>
    have:=ih xs (i + 1) _ hb j o' x' (by simpa using hj) (by simpa using hx)
    rwa [show i + 1 + j=i + (j + 1) from by omega] at this
theorem hiOf_ge {i M k:Nat} (hM:k ≤ M):∀ (r:List Oper) (xs:List Inf),(∀ (j:Nat) (o:Oper) (x:Inf),r[j]?=some o → xs[j]?=some x → x.mak=true → i ∈ preds o → k ≤ x.num) → k ≤ hiOf i M r xs
 | [],_,_=>by unfold hiOf; exact hM
 | _ :: _,[],_=>by unfold hiOf; exact hM
 | o :: r,x :: xs,h=>by
  have ih:=hiOf_ge hM r xs (fun j o' x' hj hx=>h (j + 1) o' x' (by simpa using hj) (by simpa using hx))
  unfold hiOf
  cases hc:(x.mak && (preds o).contains i) with
  | false=>exact ih
  | true =>
   simp only [Bool.and_eq_true] at hc
   exact Nat.le_min.2 ⟨h 0 o x rfl rfl hc.1 (by simpa using hc.2),ih⟩
theorem rdAt_ok {P:Program} {ops:Array Oper} {o:Oper} {x:Inf} {hi:Nat}:∀ (ss:List Stt) (k0:Nat),rdAt P ops o x hi k0 ss=true → ∀ j st,ss[j]?=some st → x.lo ≤ k0 + j → k0 + j ≤ hi → k0 + j ≠ x.num → evRd P ops st x.env o=some x.u
 | [],_,_,j,st,hj,_,_,_=>by simp at hj
 | s1 :: r,k0,h,j,st,hj,h1,h2,h3=>by
  simp only [rdAt,Bool.and_eq_true] at h
  cases j with
  | zero =>
   simp only [List.getElem?_cons_zero,Option.some.injEq] at hj
   subst hj
   have e:(Nat.ble x.lo k0 && Nat.ble k0 hi && !Nat.beq k0 x.num)=true:=by
    simp only [Bool.and_eq_true,Bool.not_eq_true']
    exact ⟨⟨Nat.ble_eq_true_of_le h1,Nat.ble_eq_true_of_le h2⟩,beq_no h3⟩
   rw [e] at h
   simp only [cond_true] at h
   have h4:=h.1
   split at h4
   ·rename_i a ha; rw [ha,eqA_ok _ _ _ h4]
   ·cases h4
  | succ j =>
   exact rdAt_ok r (k0 + 1) h.2 j st (by simpa using hj) (by omega) (by omega) (by omega)
theorem backOk_ok:∀ (l:List Oper) (i:Nat),backOk l i=true → ∀ j o,l[j]?=some o → ∀ p ∈ preds o,p < i + j
 | [],_,_,j,o,hj,_,_=>by simp at hj
 | a :: r,i,h,j,o,hj,p,hp=>by
  simp only [backOk,Bool.and_eq_true] at h
  cases j with
  | zero =>
   simp only [List.getElem?_cons_zero,Option.some.injEq] at hj
   subst hj
   exact blt_t (List.all_eq_true.1 h.1 p hp)
  | succ j=>have:=backOk_ok r (i + 1) h.2 j o (by simpa using hj) p hp; omega
theorem noDup_ok:∀ (l:List Oper),noDup (l.filterMap (·.dst))=true → ∀ (i j:Nat) (oi oj:Oper) (d:Nat),l[i]?=some oi → l[j]?=some oj → oi.dst=some d → oj.dst=some d → i=j
 | [],_,i,_,_,_,_,hi,_,_,_=>by simp at hi
 | a :: r,h,i,j,oi,oj,d,hi,hj,di,dj=>by
  have tail:noDup (r.filterMap (·.dst))=true:=by
   cases ha:a.dst with
   | none=>simpa [List.filterMap_cons,ha] using h
   | some d'=>simp only [List.filterMap_cons,ha,noDup,Bool.and_eq_true] at h; exact h.2
  have head:∀ d',a.dst=some d' → d' ∉ r.filterMap (·.dst):=by
   intro d' ha
   simp only [List.filterMap_cons,ha,noDup,Bool.and_eq_true,Bool.not_eq_true'] at h
   simpa using h.1
  cases i with
  | zero =>
   simp only [List.getElem?_cons_zero,Option.some.injEq] at hi
   subst hi
   cases j with
   | zero=>rfl
   | succ j =>
    simp only [List.getElem?_cons_succ] at hj
    exact absurd (List.mem_filterMap.2 ⟨oj,List.mem_of_getElem? hj,dj⟩) (head d di)
  | succ i =>
   simp only [List.getElem?_cons_succ] at hi
   cases j with
   | zero =>
    simp only [List.getElem?_cons_zero,Option.some.injEq] at hj
    subst hj
    exact absurd (List.mem_filterMap.2 ⟨oi,List.mem_of_getElem? hi,di⟩) (head d dj)
   | succ j =>
    simp only [List.getElem?_cons_succ] at hj
    rw [noDup_ok r tail i j oi oj d hi hj di dj]
theorem clear_get:∀ (l:List Oper) (A:AE) (t:Nat) (a:AV),(clear A l).get t=some a → A.get t=some a∧∀ o ∈ l,o.dst ≠ some t
 | [],A,t,a,h=>⟨h,by simp⟩
 | o :: r,A,t,a,h=>by
  simp only [clear] at h
  split at h
  ·rename_i d hd
   obtain ⟨h1,h2⟩:=clear_get r _ t a h
   rcases Tr.get_set _ _ _ _ _ _ h1 with ⟨_,e⟩ | ⟨hne,e⟩
   ·cases e
   ·refine ⟨e,fun o' ho'=>?_⟩
    rcases List.mem_cons.1 ho' with rfl | ho'
    ·rw [hd]; intro e'; cases e'; exact hne rfl
    ·exact h2 o' ho'
  ·rename_i hd
   obtain ⟨h1,h2⟩:=clear_get r A t a h
   refine ⟨h1,fun o' ho'=>?_⟩
   rcases List.mem_cons.1 ho' with rfl | ho'
   ·rw [hd]; simp
   ·exact h2 o' ho'
theorem putAll_ok {ω:Nat → Value} {s:Sg} {E:Env}:∀ (l:List Oper) (G:List Inf) (A:AE),EnvOK ω s A E → (∀ (j:Nat) (o:Oper) (x:Inf) (d:Nat),l[j]?=some o → G[j]?=some x → o.dst=some d → Rel ω s x.u (E d)) → EnvOK ω s (putAll A l G) E
 | [],_,A,h,_=>by unfold putAll; exact h
 | _ :: _,[],A,h,_=>by unfold putAll; exact h
 | o :: r,x :: G,A,h,k=>by
  unfold putAll
  refine putAll_ok r G _ ?_ (fun j o' x' d hj hx=>k (j + 1) o' x' d (by simpa using hj) (by simpa using hx))
  intro t a ht
  cases hd:o.dst with
  | none=>rw [hd] at ht; exact h t a ht
  | some d =>
   rw [hd] at ht
   rcases Tr.get_set _ _ _ _ _ _ ht with ⟨rfl,e⟩ | ⟨_,e⟩
   ·cases e; exact k 0 o x _ rfl rfl hd
   ·exact h t a e
theorem all_listed' {l:List Oper} {listed:Array Bool} (hsize:listed.size=l.length) (hback:∀ i o,l[i]?=some o → ∀ p ∈ preds o,p < i) (h:Region.ready .any l.toArray listed=[]):∀ k,k < l.length → listed.getD k true=true:=by
 intro k
 induction k using Nat.strongRecOn with
 | _ k ih =>
  intro hk
  cases hl:listed.getD k true with
  | true=>rfl
  | false =>
   have ho:l[k]?=some l[k]:=List.getElem?_eq_getElem hk
   have:k ∈ Region.ready .any l.toArray listed:=W.mem_ready.2 ⟨by simpa using hk,hl,l[k],by simp [ho],fun e he hb=>by
    have hlt:=hback k _ ho e.on (List.mem_map.2 ⟨e,List.mem_filter.2 ⟨he,hb⟩,rfl⟩)
    have:=ih e.on hlt (by omega)
    have hsz:e.on < listed.size:=by omega
    rw [Array.getD_eq_getD_getElem?,Array.getElem?_eq_getElem hsz] at this ⊢
    exact this⟩
   rw [h] at this; cases this
theorem cnt_hit {G:List Inf} {m:Nat}:∀ n,m < cnt G n → ∃ i x,G[i]?=some x∧x.mak=true∧cnt G i=m
 | 0,h=>by simp [cnt] at h
 | n + 1,h=>by
  cases hx:G[n]? with
  | none =>
   have hn:=List.getElem?_eq_none_iff.1 hx
   have:cnt G (n + 1)=cnt G n:=by unfold cnt; rw [List.take_of_length_le (by omega),List.take_of_length_le hn]
   exact cnt_hit n (by omega)
  | some x =>
   have e:=cnt_succ hx
   cases hm:x.mak with
   | false=>rw [hm] at e; exact cnt_hit n (by simp at e; omega)
   | true =>
    rw [hm] at e
    rcases Nat.lt_or_ge m (cnt G n) with h1 | h1
    ·exact cnt_hit n h1
    ·simp at e; exact ⟨n,x,hx,hm,by omega⟩
theorem evOp_rd {P:Program} {st:Stt} {A:AE} {o:Oper} {a:AV} (h:evOp P st A o=some (.rd a)) {ω:Nat → Value} {s:Sg} {w0 w:World} {E:Env} (hω:OneW ω) (hH:Hold ω s w0 st w) (hE:EnvOK ω s A E):∃ v,OpV P o E w v∧Rel ω s a v:=by
 unfold evOp at h
 split at h
 ·rename_i a1 h1; cases h; exact rd_ok hω hH hE h1
 ·split at h
  ·cases h
  ·split at h
   ·cases h
   ·split at h
    ·cases h
    ·split at h
     ·rename_i a1 h1; cases h; exact pure_ok hE h1
     ·cases h
theorem evOp_wr {P:Program} {st st':Stt} {A:AE} {o:Oper} {a:AV} (h:evOp P st A o=some (.wr a st')):evWrSp P st A o.op=some (a,st'):=by
 unfold evOp at h
 split at h
 ·cases h
 ·split at h
  ·rename_i h1; cases h; exact h1
  ·split at h
   ·cases h
   ·split at h
    ·cases h
    ·split at h <;> cases h
theorem evOp_rnd {P:Program} {st:Stt} {A:AE} {o:Oper} {b:Nat} {l:List AV} (h:evOp P st A o=some (.rnd b l)):evRndSp A o.op=some (b,l):=by
 unfold evOp at h
 split at h
 ·cases h
 ·split at h
  ·cases h
  ·split at h
   ·cases h
   ·split at h
    ·rename_i h1; cases h; exact h1
    ·split at h <;> cases h
theorem evOp_call {P:Program} {st:Stt} {A:AE} {o:Oper} {f:FuncId} {l:List AV} (h:evOp P st A o=some (.call f l)):evCallSp P A o.op=some (f,l):=by
 unfold evOp at h
 split at h
 ·cases h
 ·split at h
  ·cases h
  ·split at h
   ·rename_i h1; cases h; exact h1
   ·split at h
    ·cases h
    ·split at h <;> cases h
structure DV (ω:Nat → Value) (s0:Sg) (w0:World) (N:Nat) (l:List Oper) (A A0:AE) (G:List Inf) (S:List Stt) (listed:Array Bool) (a:Act) (w:World) (k:Nat) (s:Sg) (st:Stt):Prop where
 le:s0.le s
 at_:S[k]?=some st
 hold:Hold ω s w0 st w
 maks:∀ i x,G[i]?=some x → x.mak=true → (listed.getD i false=true ↔ x.num < k)
 lo:∀ i x,G[i]?=some x → listed.getD i false=true → x.aft ≤ k
 vals:∀ i x o d,G[i]?=some x → l[i]?=some o → listed.getD i false=true → o.dst=some d → Rel ω s x.u (envOf a d)
 base:EnvOK ω s A0 (envOf a)
 old:∀ i o d b,l[i]?=some o → listed.getD i false=false → o.dst=some d → A.get d=some b → Rel ω s b (envOf a d)
 closed:∀ i o,l[i]?=some o → listed.getD i false=true → ∀ p ∈ preds o,listed.getD p false=true
section
variable {ω : Nat → Value} {w0 : World} {P : Program}
theorem drawn_ok (hω : OneW ω) (hm : P.follows .mixedOrders = true) {cf : CallF} (hc : CallOK ω w0 P cf) {N id : Nat} {DD : List Deferred} {ro : Option Nat} {rf : RndF} (hrf : RoundOK ω w0 P rf ro) {ops : Array Oper} {A A' : AE} {st0 st' : Stt} {Nn R : Env → World → Prop} {X : Nat → Env → World → Prop} (h : evDrawn P cf rf N ops A st0 = some (A', st')) (s0 : Sg) (E : Env) (w : World)
    (hH : Hold ω s0 w0 st0 w) (hE : EnvOK ω s0 A E) (k : ∀ s' E' w', s0.le s' → Hold ω s' w0 st' w' → EnvOK ω s' A' E' → Nn E' w') : WPr ro P ⟨N, DD⟩ (.region id ops true) ⟨Nn, X, R⟩ E w := by
  obtain ⟨l⟩ := ops
  unfold evDrawn at h
  simp only at h
  cases hchk : (Nat.ble l.length 4000 && l.all (fun o => dstB N o.dst) && noDup (l.filterMap (·.dst)) && backOk l 0) with
  | false => rw [hchk] at h; cases h
  | true =>
  rw [hchk] at h
  simp only [cond_true] at h
  simp only [Bool.and_eq_true] at hchk
  obtain ⟨⟨⟨c1, c2⟩, c3⟩, c4⟩ := hchk
  have c1 := ble_t c1
  have hback : ∀ i o, l[i]? = some o → ∀ p ∈ preds o, p < i := fun i o ho p hp => by have := backOk_ok l 0 c4 i o ho p hp; omega
  split at h
  · cases h
  rename_i G S hp1
  cases hp2 : pass2 P l.toArray G S (S.length - 1) l G 0 none with
  | false => rw [hp2] at h; cases h
  | true =>
  rw [hp2] at h
  simp only [cond_true] at h
  split at h
  case h_2 => cases h
  rename_i stL hlast
  cases h
  obtain ⟨hGl, hS0, hSl⟩ := pass1_len _ _ _ _ _ _ _ hp1
  have hM : S.length - 1 = cnt G G.length := by rw [hSl]; unfold cnt; rw [List.take_of_length_le (Nat.le_refl _)]; omega
  have hgood : ∀ i o, l[i]? = some o → ∃ x, G[i]? = some x ∧ Good P cf rf l A (clear A l) G S i o x := fun i o ho => by
    have := pass1_ok c1 hback G S l 0 .nil st0 0 G S hp1 rfl rfl rfl (by simp [cnt]) (fun p => by simp [Tr.get_nil]) i o ho
    simpa using this
  have hsec : ∀ i o x, l[i]? = some o → G[i]? = some x → Sec P l G S (S.length - 1) i o x := fun i o x ho hx => by
    have := pass2_ok l G 0 none hp2 i o x ho hx
    simpa using this
  have hnum : ∀ i x, G[i]? = some x → x.num = cnt G i := fun i x hx => by
    have hi : i < l.length := by rw [← hGl]; exact (List.getElem?_eq_some_iff.1 hx).1
    obtain ⟨y, hy, hg⟩ := hgood i _ (List.getElem?_eq_getElem hi)
    rw [hx] at hy; cases hy; exact hg.num
  have hapart := noDup_ok l c3
  refine WP.anyGen hm (fun listed a w => listed.size = l.length ∧ Ok ⟨N, DD⟩ a ∧ ∃ k s st, DV ω s0 w0 N l A (clear A l) G S listed a w k s st) (fun _ _ _ hV => hV.1) ?_ ?_ ?_
  · 
    rintro listed a w ⟨hsz, hok, kk, s, st, D⟩ hr
    have hall := all_listed' hsz hback hr
    have hall' : ∀ i, i < l.length → listed.getD i false = true := fun i hi => by
      have := hall i hi
      have hsz' : i < listed.size := by omega
      rw [Array.getD_eq_getD_getElem?, Array.getElem?_eq_getElem hsz'] at this ⊢
      exact this
    have hk : kk = S.length - 1 := by
      have h1 : kk < S.length := by
        have := D.at_
        exact (List.getElem?_eq_some_iff.1 this).1
      rcases Nat.lt_or_ge kk (S.length - 1) with h2 | h2
      · rw [hM] at h2
        obtain ⟨i, x, hx, hmk, hci⟩ := cnt_hit _ h2
        have hi : i < l.length := by rw [← hGl]; exact (List.getElem?_eq_some_iff.1 hx).1
        have := (D.maks i x hx hmk).1 (hall' i hi)
        rw [hnum i x hx] at this; omega
      · omega
    have hst : st = st' := by
      have := D.at_
      rw [hk] at this
      rw [List.getLast?_eq_getElem?] at hlast
      rw [hlast] at this; exact (Option.some.inj this).symm
    subst hst
    exact ⟨hok, k s _ _ D.le D.hold (putAll_ok l G _ D.base fun j o x d hj hx hd => D.vals j x o d hx hj (hall' j (List.getElem?_eq_some_iff.1 hj).1) hd)⟩
  · 
    rintro listed a w i o ⟨hsz, hok, kk, s, st, D⟩ ho hun hpre
    have hi : i < l.length := (List.getElem?_eq_some_iff.1 ho).1
    have hsz' : i < listed.size := by omega
    have hun' : listed.getD i false = false := by
      rw [Array.getD_eq_getD_getElem?, Array.getElem?_eq_getElem hsz'] at hun ⊢
      exact hun
    have hpre' : ∀ p ∈ preds o, listed.getD p false = true := by
      intro p hp
      obtain ⟨e, he, rfl⟩ := List.mem_map.1 hp
      obtain ⟨h1, h2⟩ := List.mem_filter.1 he
      exact hpre e h1 h2
    obtain ⟨x, hx, g⟩ := hgood i o ho
    have sec := hsec i o x ho hx
    have hdst : dstOk ⟨N, DD⟩ o.dst = true := dst_of (List.all_eq_true.1 c2 o (List.mem_of_getElem? ho))
    have hlo : x.lo ≤ kk := g.lub kk fun p hp y hy => D.lo p y hy (hpre' p hp)
    have henv : EnvOK ω s x.env (envOf a) := g.env ω s (envOf a) D.base (fun p hp y q d hy hq hd => D.vals p y q d hy hq (hpre' p hp) hd) (fun q hq hiq d hd b hb => by
      obtain ⟨j, hj⟩ := List.mem_iff_getElem?.1 hq
      refine D.old j q d b hj ?_ hd hb
      cases hjl : listed.getD j false with
      | false => rfl
      | true => rw [D.closed j q hj hjl i hiq] at hun'; cases hun')
    have hkM : kk ≤ S.length - 1 := by have := (List.getElem?_eq_some_iff.1 D.at_).1; omega
    have next : ∀ (s1 : Sg) (st1 : Stt) (k1 : Nat) (v : Value) (w1 : World), s.le s1 → S[k1]? = some st1 → Hold ω s1 w0 st1 w1 → Rel ω s1 x.u v → kk ≤ k1 → x.aft ≤ k1 →
        (∀ j y, G[j]? = some y → y.mak = true → ((listed.setIfInBounds i true).getD j false = true ↔ y.num < k1)) →
        (listed.setIfInBounds i true).size = l.length ∧ Ok ⟨N, DD⟩ (a.put o.dst v) ∧ ∃ k s st, DV ω s0 w0 N l A (clear A l) G S (listed.setIfInBounds i true) (a.put o.dst v) w1 k s st := by
      intro s1 st1 k1 v w1 hle hat hh hrel hk1 haft hmaks
      have he : envOf (a.put o.dst v) = updO (envOf a) o.dst v := envOf_put hok o.dst hdst v
      have old : ∀ t, (∀ d, o.dst = some d → t ≠ d) → envOf (a.put o.dst v) t = envOf a t := by
        intro t ht
        rw [he]
        cases hd : o.dst with
        | none => rfl
        | some d => exact upd_ne _ _ _ _ (ht d hd)
      refine ⟨by simpa using hsz, hok.put _ _, k1, s1, st1, D.le.trans hle, hat, hh, hmaks, ?_, ?_, ?_, ?_, ?_⟩
      · intro j y hy hj
        rw [W.getD_set] at hj
        by_cases e : i = j
        · subst e; rw [hx] at hy; cases hy; exact haft
        · rw [if_neg (fun h => e h.1)] at hj; exact Nat.le_trans (D.lo j y hy hj) hk1
      · intro j y q d hy hq hj hd
        rw [W.getD_set] at hj
        by_cases e : i = j
        · subst e
          rw [hx] at hy; cases hy
          rw [ho] at hq; cases hq
          rw [he, hd, updO, upd_same]; exact hrel
        · rw [if_neg (fun h => e h.1)] at hj
          rw [old d (fun d' hd' e' => by subst e'; exact e (hapart i j o q d ho hq hd' hd))]
          exact Rel.mono hle _ _ (D.vals j y q d hy hq hj hd)
      · intro t b hb
        obtain ⟨_, hno⟩ := clear_get l A t b hb
        rw [old t (fun d hd e => by subst e; exact hno o (List.mem_of_getElem? ho) hd)]
        exact Rel.mono hle _ _ (D.base t b hb)
      · intro j q d b hq hj hd hb
        rw [W.getD_set] at hj
        by_cases e : i = j
        · subst e
          rw [if_pos ⟨rfl, hsz'⟩] at hj; cases hj
        · rw [if_neg (fun h => e h.1)] at hj
          rw [old d (fun d' hd' e' => by subst e'; exact e (hapart i j o q d ho hq hd' hd))]
          exact Rel.mono hle _ _ (D.old j q d b hq hj hd hb)
      · intro j q hq hj p hp
        rw [W.getD_set] at hj ⊢
        by_cases e : i = j
        · subst e
          rw [ho] at hq; cases hq
          split
          · rfl
          · exact hpre' p hp
        · rw [if_neg (fun h => e h.1)] at hj
          split
          · rfl
          · exact D.closed j q hq hj p hp
    obtain ⟨stn, hstn, hval⟩ := g.val
    rcases hval with ⟨hmk, haft, hrd⟩ | ⟨hmk, haft, hgd, stn', hstn', hop⟩
    · 
      have hrd' : evRd P l.toArray st x.env o = some x.u := by
        by_cases e : kk = x.num
        · have := D.at_; rw [e, hstn] at this; cases this; exact hrd
        · rcases sec.rd hmk with hM0 | hrda
          · have h1 := hnum i x hx
            have h2 : cnt G i ≤ cnt G G.length := cnt_mono G (by have := (List.getElem?_eq_some_iff.1 hx).1; omega)
            omega
          · refine rdAt_ok S 0 hrda kk st D.at_ (by omega) ?_ (by omega)
            rw [Nat.zero_add]
            refine hiOf_ge hkM l G fun j q y hq hy hmj hij => ?_
            have : ¬ (listed.getD j false = true) := fun hj => by rw [D.closed j q hq hj i hij] at hun'; cases hun'
            have := mt (D.maks j y hy hmj).2 this
            omega
      have maks' : ∀ j y, G[j]? = some y → y.mak = true → ((listed.setIfInBounds i true).getD j false = true ↔ y.num < kk) := by
        intro j y hy hmj
        rw [W.getD_set]
        by_cases e : i = j
        · subst e; rw [hx] at hy; cases hy; rw [hmk] at hmj; cases hmj
        · rw [if_neg (fun h => e h.1)]; exact D.maks j y hy hmj
      unfold evRd at hrd'
      split at hrd'
      · rename_i hg
        simp only [Option.some.injEq] at hrd'
        exact .inl ⟨guard_skip henv hg, next s st kk undef w (Sg.le.refl s) D.at_ D.hold (hrd' ▸ Rel.mkv _) (Nat.le_refl _) (by omega) maks'⟩
      · rename_i hg
        split at hrd'
        · rename_i a' hop
          cases hrd'
          obtain ⟨v, hv, hrel⟩ := evOp_rd hop hω D.hold henv
          exact .inr ⟨guard_run henv hg, .inl ⟨v, w, hv.x, next s st kk v w (Sg.le.refl s) D.at_ D.hold hrel (Nat.le_refl _) (by omega) maks'⟩⟩
        · cases hrd'
      · cases hrd'
    · 
      have hk : kk = x.num := by
        have h1 : ¬ (x.num < kk) := fun hlt => by rw [(D.maks i x hx hmk).2 hlt] at hun'; cases hun'
        have h2 : x.num ≤ kk := by
          have := sec.mak hmk
          omega
        omega
      have hst : st = stn := by have := D.at_; rw [hk, hstn] at this; exact (Option.some.inj this).symm
      subst hst
      have maks' : ∀ j y, G[j]? = some y → y.mak = true → ((listed.setIfInBounds i true).getD j false = true ↔ y.num < x.num + 1) := by
        intro j y hy hmj
        rw [W.getD_set]
        by_cases e : i = j
        · subst e; rw [hx] at hy; cases hy; simp [hsz']
        · rw [if_neg (fun h => e h.1), D.maks j y hy hmj, hk]
          have e1 := hnum j y hy; have e2 := hnum i x hx
          have e3 := cnt_succ hy; have e4 := cnt_succ hx
          rw [hmj] at e3; rw [hmk] at e4
          simp only [if_true] at e3 e4
          constructor
          · intro hlt; omega
          · intro hlt
            rcases Nat.lt_or_ge j i with hji | hji
            · have := cnt_mono G (show j + 1 ≤ i by omega); omega
            · have := cnt_mono G (show i + 1 ≤ j by omega); omega
      have hsure := guard_run (ops := l.toArray) henv hgd
      rcases hop with hop | ⟨f, as', hop, hcf⟩ | ⟨bl, as', hop, hcf⟩
      · obtain ⟨v, w', s', hx1, hle, hH', hrel⟩ := wr_ok hω D.hold henv (evOp_wr hop)
        exact .inr ⟨hsure, .inl ⟨v, w', hx1, next s' stn' (x.num + 1) v w' hle hstn' hH' hrel (by omega) (by omega) maks'⟩⟩
      · obtain ⟨vs, hx1, hr⟩ := call_ok (w := w) henv (evOp_call hop)
        refine .inr ⟨hsure, .inr (.inl ⟨f, _, hx1, Fnc.mono (hc f as' st x.u stn' hcf s w vs D.hold hr) ?_⟩)⟩
        rintro v w' ⟨s', hle, hH', hrel⟩
        exact next s' stn' (x.num + 1) v w' hle hstn' hH' hrel (by omega) (by omega) maks'
      · obtain ⟨b, c, vs, hb, hr, hx1⟩ := rnd_ok henv (evOp_rnd hop)
        obtain ⟨r, hl, hsz2, hrd⟩ := hrf bl as' st x.u stn' hcf s w vs b c D.hold hr hb
        refine .inr ⟨hsure, .inr (.inr ⟨_, _, _, _, _, hx1 P w _ _ _ _ _ (run_yield hl hsz2), RoundIn.mono hrd ?_⟩)⟩
        rintro e w' ⟨v, s', rfl, hle, hH', hrel⟩
        exact ⟨v, rfl, next s' stn' (x.num + 1) v w' hle hstn' hH' hrel (by omega) (by omega) maks'⟩
  · 
    intro a d hok he
    subst he
    have no : ∀ i, (Array.replicate l.length false).getD i false = false := by
      intro i; rw [Array.getD_eq_getD_getElem?]
      by_cases hi : i < l.length <;> simp [hi]
    refine ⟨by simp, hok, 0, s0, st0, Sg.le.refl s0, hS0, hH.drew d, ?_, ?_, ?_, ?_, ?_, ?_⟩
    · intro i x _ _; rw [no i]; simp
    · intro i x _ hi; rw [no i] at hi; cases hi
    · intro i x o d _ _ hi; rw [no i] at hi; cases hi
    · intro t b hb; exact hE t b (clear_get l A t b hb).1
    · intro i o d b _ _ _ hb; exact hE d b hb
    · intro i o _ hi; rw [no i] at hi; cases hi
end
end Go.Proofs.YtplflgclomiihaaGreat.Ev
namespace Go.Proofs.YtplflgclomiihaaGreat.Ev
open Go.RowKit Go.Proofs.YtplflgclomiihaaGreat.W
def MarkOK (s:Sg):List Nat → List Deferred → Prop
 | [],ds=>ds=[]
 | l :: r,ds=>∃ b c ds',s l=some (b,c)∧MarkOK s r ds'∧ds={ target:=.collected b,args:=#[] } :: ds'
theorem MarkOK.mono {s s':Sg} (h:s.le s'):∀ (D:List Nat) (ds:List Deferred),MarkOK s D ds → MarkOK s' D ds
 | [],_,k=>k
 | l :: r,_,⟨b,c,ds',h1,h2,h3⟩=>⟨b,c,ds',h _ _ h1,MarkOK.mono h r ds' h2,h3⟩
def OutOK (ω:Nat → Value) (w0:World) (s:Sg) (N:Nat) (out:Out) (e:Exit) (a:Act) (w:World):Prop :=
 a.tmps.size=N∧∃ A D st s',(match e with | .normal=>out=.norm A D st | .exit i=>out=.exit i A D st | .ret=>out=.ret A D st | _=>False)∧s.le s'∧Hold ω s' w0 st w∧EnvOK ω s' A (envOf a)∧MarkOK s' D a.defers
def CodeOK (ω:Nat → Value) (w0:World) (P:Program) (inr:Bool) (ec:CodeF):Prop:=∀ N c A D st out,ec N c A D st=some out → ∀ ro,(inr=false → ro=none) → ∀ s a w,a.tmps.size=N → Hold ω s w0 st w → EnvOK ω s A (envOf a) → MarkOK s D a.defers →
 c.wpIn (Fr ro) 1 P (OutOK ω w0 s N out) a w
theorem wpIn_n {ro:Option Nat} {P:Program} {c:Code} {Q:Exit → Act → World → Prop} {a:Act} {w:World} (n m:Nat) (h:c.wpIn (Fr ro) n P Q a w):c.wpIn (Fr ro) m P Q a w :=
 fun b k cs hro hb _=>h b k cs hro hb (fun _ hd=>by cases hd)
section
variable {ω : Nat → Value} {s : Sg} {w0 w : World} {st : Stt} {P : Program}
theorem Hold.drop (h:Hold ω s w0 st w) {l b c:Nat} {o:AX} {w':World} (hl:st.h.get l=some o) (hb:s l=some (b,c)) (hx:Ext [b] w w'):Hold ω s w0 (delO st l) w':=by
 obtain ⟨b',c',h1,h2⟩:=h.obj l o hl
 rw [hb] at h1; cases h1
 have key:∀ k o1,(delO st l).h.get k=some o1 → k ≠ l∧st.h.get k=some o1:=by
  intro k o1 hk
  rcases Tr.get_set _ _ _ _ _ _ hk with ⟨_,e⟩ | ⟨hne,e⟩
  ·cases e
  ·exact ⟨hne,e⟩
 refine ⟨h.ext.new hx (by simpa using h2.ge),h.dom,fun k o1 hk=>?_,fun k k' o1 o2 b1 c1 c2 hk hk'=>h.inj k k' o1 o2 b1 c1 c2 (key k o1 hk).2 (key k' o2 hk').2⟩
 obtain ⟨hne,e⟩:=key k o1 hk
 obtain ⟨b1,c1,h3,h4⟩:=h.obj k o1 e
 refine ⟨b1,c1,h3,h4.step (Sg.le.refl s) (hx.block b1 h4.lt ?_)⟩
 simp only [List.mem_singleton]
 intro e1; subst e1
 exact hne (h.inj k l o1 o b1 c1 c e hl h3 hb)
theorem resA_ok {A:AE} {tmps:Array Value} {r:ResultVar} {a:AV} (hH:Hold ω s w0 st w) (hE:EnvOK ω s A (fun t=>tmps.getD t undef)) (h:resA P A st r=some a):∃ v,(readVar tmps r).run P w=.ok v w∧Rel ω s a v:=by
 cases r with
 | tmp t=>exact ⟨_,rfl,hE t a h⟩
 | cell x t =>
  simp only [resA] at h
  split at h
  ·rename_i p hp
   obtain ⟨b,k,u,h1,h2,h3⟩:=loadVar_ok hH (hE x p hp) h
   refine ⟨u,?_,h3⟩
   simp only [readVar,h1,asAddr,Sem.run_bind,Sem.run_pure,Result.andThen_ok,h2]
  ·cases h
theorem resAs_ok {A:AE} {tmps:Array Value} (hH:Hold ω s w0 st w) (hE:EnvOK ω s A (fun t=>tmps.getD t undef)):∀ (rs:List ResultVar) (as':List AV),resAs P A st rs=some as' → ∃ vs,(rs.mapM (readVar tmps)).run P w=.ok vs w∧RelL ω s as' vs
 | [],as',h=>by simp only [resAs,Option.some.injEq] at h; subst h; exact ⟨[],by simp,RelL.nil⟩
 | r :: rs,as',h=>by
  simp only [resAs] at h
  split at h
  ·rename_i a ha
   split at h
   ·rename_i as2 h2
    cases h
    obtain ⟨v,h3,h4⟩:=resA_ok hH hE ha
    obtain ⟨vs,h5,h6⟩:=resAs_ok hH hE rs as2 h2
    exact ⟨v :: vs,by simp only [List.mapM_cons,Sem.run_bind,Sem.run_pure,Result.andThen_ok,h3,h5],RelL.cons h4 h6⟩
   ·cases h
  ·cases h
theorem results_ok {A : AE} {D : List Nat} {tmps : Array Value} {fn : Func} {a : AV} {st' : Stt} (hH : Hold ω s w0 (delAll D st) w) (hE : EnvOK ω s A (fun t => tmps.getD t undef)) (h : retA P fn A D st = some (a, st')) :
    st' = delAll D st ∧ ∃ v, (results fn tmps).run P w = .ok v w ∧ Rel ω s a v := by
  have hrun : ∀ vs : List Value, (fn.results.toList.mapM (readVar tmps)).run P w = .ok vs w → (results fn tmps).run P w = .ok (if h : vs.toArray.size = 1 then vs.toArray[0] else .tuple vs.toArray) w := by
    intro vs hv
    rw [results_eq]
    have e : fn.results.mapM (readVar tmps) = List.toArray <$> fn.results.toList.mapM (readVar tmps) := by
      obtain ⟨rs⟩ := fn.results
      simp
    rw [e]
    simp only [Sem.run_bind, Sem.run_map, Sem.run_pure, Result.andThen_ok, hv]
  unfold retA at h
  simp only at h
  split at h
  · rename_i a' hr
    cases h
    obtain ⟨vs, h1, h2⟩ := resAs_ok hH hE _ _ hr
    obtain ⟨v, vs', h3, h4, rfl⟩ := h2.uncons
    have := h4.unnil
    subst this
    exact ⟨rfl, v, by have := hrun _ h1; simpa using this, h3⟩
  · rename_i as' hne hr
    cases h
    obtain ⟨vs, h1, h2⟩ := resAs_ok hH hE _ _ hr
    refine ⟨rfl, .tuple vs.toArray, ?_, Rel.mkTup h2⟩
    have h3 := hrun _ h1
    have hl : vs.length ≠ 1 := by
      rw [← h2.len]
      intro e
      obtain ⟨x, hx⟩ := List.length_eq_one_iff.1 e
      exact hne x hx
    rw [h3, dif_neg (by simpa using hl)]
  · cases h
theorem leaves_ok {fn:Func} {tmps:Array Value} {R:Ending → World → Prop}:∀ (D:List Nat) (ds:List Deferred) (st:Stt) (w:World),MarkOK s D ds → marksB st D=true → Hold ω s w0 st w → (∀ w',Hold ω s w0 (delAll D st) w' → LeavesIn (Fr none) 1 P fn tmps R [] .returning w') → LeavesInM (Fr none) 1 P fn tmps R ds .returning w
 | [],ds,st,w,hm,_,hH,k=>by
  have:ds=[]:=hm
  subst this
  exact k w hH
 | l :: r,ds,st,w,hm,hb,hH,k=>by
  obtain ⟨b,c,ds',h1,h2,rfl⟩:=hm
  simp only [marksB,noDup,List.all_cons,Bool.and_eq_true,Bool.not_eq_true'] at hb
  obtain ⟨⟨hno,hnd⟩,⟨hlt,hl⟩,hall⟩:=hb
  have hlive:st.h.get l=some .d:=by
   cases hg:st.h.get l with
   | none=>rw [hg] at hl; cases hl
   | some x=>cases x with
    | d=>rfl
    | c _=>rw [hg] at hl; cases hl
    | l _=>rw [hg] at hl; cases hl
    | z _ _ _=>rw [hg] at hl; cases hl
    | m _ _=>rw [hg] at hl; cases hl
    | mi _ _ _ _=>rw [hg] at hl; cases hl
    | si _ _=>rw [hg] at hl; cases hl
  obtain ⟨b',c',h3,h4⟩:=hH.obj l .d hlive
  rw [h1] at h3; cases h3
  have hd:w.heap[b]?=some (.deferred (some [])):=h4.cur
  refine ⟨by simp,.inl ⟨b,_,rfl,run_takeDeferred hd,?_⟩⟩
  refine leaves_ok r ds' (delO st l) _ h2 ?_ (hH.drop hlive h1 (Ext.putObj w b _)) (fun w' hw'=>k w' hw')
  simp only [marksB,Bool.and_eq_true]
  refine ⟨hnd,List.all_eq_true.2 fun x hx=>?_⟩
  have hx':=List.all_eq_true.1 hall x hx
  simp only [Bool.and_eq_true] at hx' ⊢
  refine ⟨hx'.1,?_⟩
  have hne:x ≠ l:=by intro e; subst e; rw [List.contains_iff_mem.2 hx] at hno; cases hno
  have e:(delO st l).h.get x=st.h.get x:=by
   have:=Tr.get_set' 24 st.h l x none (by have:=blt_t hlt; omega)
   rw [if_neg hne] at this; exact this
  rw [e]; exact hx'.2
theorem argsA_get:∀ (l:List AV) (k t:Nat) (a:AV),(argsA l k).get t=some a → k ≤ t∧l[t - k]?=some a
 | [],k,t,a,h=>by simp [argsA,Tr.get_nil] at h
 | x :: r,k,t,a,h=>by
  simp only [argsA] at h
  rcases Tr.get_set _ _ _ _ _ _ h with ⟨rfl,e⟩ | ⟨_,e⟩
  ·cases e; exact ⟨Nat.le_refl _,by simp⟩
  ·obtain ⟨h1,h2⟩:=argsA_get r (k + 1) t a e
   refine ⟨by omega,?_⟩
   rw [show t - k=(t - (k + 1)) + 1 from by omega]
   simpa using h2
theorem callPlain_ok {ec:CodeF} (hec:CodeOK ω w0 P false ec):CallOK ω w0 P (callPlain P ec):=by
 intro f l st a st' h s w vs hH hr
 unfold callPlain at h
 split at h
 ·cases h
 ·rename_i fn hfn
  cases hb0:Nat.blt fn.ntmps l.length with
  | true=>rw [hb0] at h; cases h
  | false =>
  rw [hb0] at h
  simp only [cond_false] at h
  have hlen:vs.length ≤ fn.ntmps:=by
   rw [← hr.len]
   rcases Nat.lt_or_ge fn.ntmps l.length with h1 | h1
   ·have:Nat.blt fn.ntmps l.length=true:=Nat.ble_eq_true_of_le h1
    rw [this] at hb0; cases hb0
   ·exact h1
  split at h
  ·cases h
  ·rename_i c hb
   have key:∀ out,ec fn.ntmps c (argsA l 0) [] st=some out → (∀ A D st1,(out=.norm A D st1 ∨ out=.ret A D st1) → marksB st1 D=true∧retA P fn A D st1=some (a,st')) → (∀ i A D st1,out ≠ .exit i A D st1) → Fnc P f vs.toArray w fun v w'=>∃ s',s.le s'∧Hold ω s' w0 st' w'∧Rel ω s' a v:=by
    intro out ho hk hne
    unfold Fnc
    refine (callsIn_wide (n:=1)).1 (callsIn_of_wp_marks (F:=Fr none) hfn hb trivial ?_)
    have hcode:=hec fn.ntmps c _ [] st out ho none (fun _=>rfl) s { tmps:=vs.toArray ++ Array.replicate (fn.ntmps - vs.toArray.size) undef,defers:=[] } w (by simp; omega) hH (by
     intro t x ht
     obtain ⟨_,h2⟩:=argsA_get l 0 t x ht
     obtain ⟨v,h3,h4⟩:=hr.get h2
     have hlt:t < vs.length:=(List.getElem?_eq_some_iff.1 h3).1
     have:envOf { tmps:=vs.toArray ++ Array.replicate (fn.ntmps - vs.toArray.size) undef,defers:=[] } t=v:=by
      have h3':vs[t]?=some v:=h3
      simp [envOf,Array.getD_eq_getD_getElem?,Array.getElem?_append,hlt]
      rw [List.getElem?_eq_getElem hlt] at h3'; exact Option.some.inj h3'
     rw [this]; exact h4) rfl
    refine wpIn_mono hcode ?_
    rintro e act w' ⟨hsz,A,D,st1,s',hout,hle,hH',hE',hM'⟩
    cases e with
    | normal =>
     obtain ⟨h1,h2⟩:=hk A D st1 (.inl hout)
     refine leaves_ok D act.defers st1 w' hM' h1 hH' fun w2 hw2=>?_
     obtain ⟨e1,v,h3,h4⟩:=results_ok hw2 hE' h2
     subst e1
     exact ⟨v,h3,v,rfl,s',hle,hw2,h4⟩
    | ret =>
     obtain ⟨h1,h2⟩:=hk A D st1 (.inr hout)
     refine leaves_ok D act.defers st1 w' hM' h1 hH' fun w2 hw2=>?_
     obtain ⟨e1,v,h3,h4⟩:=results_ok hw2 hE' h2
     subst e1
     exact ⟨v,h3,v,rfl,s',hle,hw2,h4⟩
    | exit i=>exact (hne i A D st1 hout).elim
    | goto l=>exact hout.elim
    | panic ch=>exact hout.elim
    | outgrown=>exact hout.elim
   split at h
   ·rename_i A D st1 ho
    refine key _ ho (fun A' D' st2 hh=>?_) (by intro i A' D' st2 hh; cases hh)
    rcases hh with hh | hh <;> cases hh
    cases hb1:marksB st1 D with
    | false=>rw [hb1] at h; cases h
    | true=>rw [hb1] at h; exact ⟨rfl,h⟩
   ·rename_i A D st1 ho
    refine key _ ho (fun A' D' st2 hh=>?_) (by intro i A' D' st2 hh; cases hh)
    rcases hh with hh | hh <;> cases hh
    cases hb1:marksB st1 D with
    | false=>rw [hb1] at h; cases h
    | true=>rw [hb1] at h; exact ⟨rfl,h⟩
   ·cases h
theorem optEq_ok:∀ {a b:Option Nat},optEq a b=true → a=b
 | none,none,_=>rfl
 | some a,some b,h=>by simp only [optEq] at h; rw [beq_t h]
 | none,some _,h=>by simp [optEq] at h
 | some _,none,h=>by simp [optEq] at h
theorem eqNs_ok:∀ {a b:List Nat},eqNs a b=true → a=b
 | [],[],_=>rfl
 | a :: r,b :: s,h=>by simp only [eqNs,Bool.and_eq_true] at h; rw [beq_t h.1,eqNs_ok h.2]
 | [],_ :: _,h=>by simp [eqNs] at h
 | _ :: _,[],h=>by simp [eqNs] at h
theorem eqEs_ok:∀ {a b:List (Value × AV × Nat)},eqEs a b=true → a=b
 | [],[],_=>rfl
 | (k,a,n) :: r,(k',a',n') :: s,h=>by
  simp only [eqEs,Bool.and_eq_true] at h
  obtain ⟨⟨⟨h1,h2⟩,h3⟩,h4⟩:=h
  rw [eqV_ok _ _ _ h1,eqA_ok _ _ _ h2,beq_t h3,eqEs_ok h4]
 | [],_ :: _,h=>by simp [eqEs] at h
 | _ :: _,[],h=>by simp [eqEs] at h
theorem eqX_ok:∀ {a b:AX},eqX a b=true → a=b:=by
 intro a b h
 unfold eqX at h
 split at h
 ·rename_i x y
  simp only [Bool.and_eq_true] at h
  obtain ⟨⟨⟨⟨h1,h2⟩,h3⟩,h4⟩,h5⟩:=h
  obtain ⟨e1,c1,s1,r1,i1⟩:=x
  obtain ⟨e2,c2,s2,r2,i2⟩:=y
  simp only at h1 h2 h3 h4 h5
  rw [beq_t h1,beq_t h2,eq_of_beq h3,optEq_ok h4,eqAs_ok (eqA_ok 30) h5]
 ·rfl
 ·simp only [Bool.and_eq_true] at h; rw [beq_t h.1.1,eqV_ok _ _ _ h.1.2,beq_t h.2]
 ·simp only [Bool.and_eq_true] at h; rw [beq_t h.1,eqEs_ok h.2]
 ·simp only [Bool.and_eq_true] at h; rw [optEq_ok h.1.1.1,beq_t h.1.1.2,eqNs_ok h.1.2,beq_t h.2]
 ·cases h
theorem mergeT_node (l:Tr AX) (v:Option AX) (r u:Tr AX):mergeT (.node l v r) u=.node (mergeT l u.left) (match v,u.val with | some x,some y=>bif eqX x y then some x else none | _,_=>none) (mergeT r u.right):=rfl
theorem mergeT_get:∀ (t u:Tr AX) (k:Nat) (x:AX),(mergeT t u).get k=some x → t.get k=some x∧u.get k=some x
 | .nil,u,k,x,h=>by simp [mergeT,Tr.get_nil] at h
 | .node l v r,u,k,x,h=>by
  rw [mergeT_node] at h
  rw [Tr.get_eq u k]
  simp only [Tr.get] at h ⊢
  cases h0:Nat.beq k 0 with
  | true =>
   rw [h0] at h
   simp only [cond_true] at h ⊢
   split at h
   ·rename_i a b hb
    cases he:eqX a b with
    | true=>rw [he] at h; cases h; rw [hb,← eqX_ok he]; exact ⟨rfl,rfl⟩
    | false=>rw [he] at h; cases h
   ·cases h
  | false =>
   rw [h0] at h
   simp only [cond_false] at h ⊢
   cases h1:Nat.beq (k.mod 2) 1 with
   | true =>
    rw [h1] at h
    simp only [cond_true] at h ⊢
    have:=mergeT_get l u.left _ x h
    exact this
   | false =>
    rw [h1] at h
    simp only [cond_false] at h ⊢
    have:=mergeT_get r u.right _ x h
    exact this
theorem Hold.sub (h:Hold ω s w0 st w) {st':Stt} (hh:∀ l o,st'.h.get l=some o → st.h.get l=some o) (hn:st.nx ≤ st'.nx):Hold ω s w0 st' w :=
 ⟨h.ext,fun l hl=>h.dom l (by omega),fun l o hl=>h.obj l o (hh l o hl),fun l l' o o' b c c' h1 h2=>h.inj l l' o o' b c c' (hh l o h1) (hh l' o' h2)⟩
theorem Hold.alias (h:Hold ω s w0 st w) {l b c nx:Nat} {o o':AX} {h':Tr AX} (hl:st.h.get l=some o) (hb:s l=some (b,c)) (hn:st.nx ≤ nx) (ho:ObjAt ω s w b c o') (hh:∀ k x,h'.get k=some x → (k=nx∧x=o') ∨ (k ≠ nx∧k ≠ l∧st.h.get k=some x)):Hold ω (s.ins nx (b,c)) w0 ⟨h',nx + 1⟩ w:=by
 obtain ⟨b',c',h1,h2⟩:=h.obj l o hl
 rw [hb] at h1; cases h1
 have hle:s.le (s.ins nx (b,c)):=Sg.le_ins (h.dom _ hn)
 have far:∀ k o1 b1 c1,k ≠ l → st.h.get k=some o1 → s k=some (b1,c1) → b1 ≠ b:=fun k o1 b1 c1 hne e hs eb=>by
  subst eb; exact hne (h.inj k l o1 o b1 c1 c e hl hs hb)
 refine ⟨h.ext,?_,?_,?_⟩
 ·intro k hk
  have hk':nx + 1 ≤ k:=hk
  simp only [Sg.ins]
  rw [if_neg (by omega)]
  exact h.dom k (by omega)
 ·intro k o1 hk
  rcases hh k o1 hk with ⟨rfl,rfl⟩ | ⟨hne,hne',e⟩
  ·exact ⟨b,c,Sg.ins_same,(ObjOK.mk h2.ge ho).step hle rfl⟩
  ·obtain ⟨b1,c1,h3,h4⟩:=h.obj k o1 e
   exact ⟨b1,c1,hle _ _ h3,h4.step hle rfl⟩
 ·intro k k' o1 o2 b1 c1 c2 hk hk' hs hs'
  rcases hh k o1 hk with ⟨rfl,rfl⟩ | ⟨hne,hnl,e⟩
  ·rcases hh k' o2 hk' with ⟨rfl,rfl⟩ | ⟨hne',hnl',e'⟩
   ·rfl
   ·simp only [Sg.ins_same,Option.some.injEq,Prod.mk.injEq] at hs
    simp only [Sg.ins,if_neg hne'] at hs'
    exact absurd hs.1.symm (far k' o2 b1 c2 hnl' e' hs')
  ·simp only [Sg.ins,if_neg hne] at hs
   rcases hh k' o2 hk' with ⟨rfl,rfl⟩ | ⟨hne',hnl',e'⟩
   ·simp only [Sg.ins_same,Option.some.injEq,Prod.mk.injEq] at hs'
    exact absurd hs'.1.symm (far k o1 b1 c1 hnl e hs)
   ·simp only [Sg.ins,if_neg hne'] at hs'
    exact h.inj k k' o1 o2 b1 c1 c2 e e' hs hs'
theorem row_take {b c n:Nat} {o:AO} (h:ObjAt ω s w b c (.c o)) (hr:o.row=true) (h1:1 ≤ o.sz) (hn:n * o.sz ≤ o.cs.length):ObjAt ω s w b c (.c { o with cs:=o.cs.take (n * o.sz),hi:=none }):=by
 obtain ⟨cur,vs,g1,g2,g3,g4,g5⟩:=h
 obtain ⟨n',a1,a2,a3,a4,a5,a6⟩:=g5 hr
 have hl:=g2.len
 refine ⟨cur,vs.take (n * o.sz),g1,g2.take _,?_,(fun e=>by rw [hr] at e; cases e),fun _=>⟨n,by show (vs.take (n * o.sz)).length=n * o.sz; rw [List.length_take,Nat.min_eq_left (by omega)],?_,a3,a4,(fun h e=>by cases e),a6⟩⟩
 ·rw [List.length_take,Nat.min_eq_left (by omega),← g3,List.take_take,Nat.min_eq_left]
  omega
 ·have:n * o.sz ≤ n' * o.sz:=by rw [← a1]; omega
  have:=Nat.le_of_mul_le_mul_right this h1
  omega
theorem join_ok {r1 r2 : AV × Stt} {a : AV} {st' : Stt} (h : joinR r1 r2 = some (a, st')) {v : Value} :
    (Hold ω s w0 r1.2 w → Rel ω s r1.1 v → ∃ s', s.le s' ∧ Hold ω s' w0 st' w ∧ Rel ω s' a v) ∧ (Hold ω s w0 r2.2 w → Rel ω s r2.1 v → ∃ s', s.le s' ∧ Hold ω s' w0 st' w ∧ Rel ω s' a v) := by
  unfold joinR at h
  simp only at h
  have hm := mergeT_get r1.2.h r2.2.h
  have n1 : r1.2.nx ≤ Nat.max r1.2.nx r2.2.nx := Nat.le_max_left _ _
  have n2 : r2.2.nx ≤ Nat.max r1.2.nx r2.2.nx := Nat.le_max_right _ _
  cases he : eqA 30 r1.1 r2.1 with
  | true =>
    rw [he] at h
    cases h
    have hab := eqA_ok _ _ _ he
    refine ⟨fun hH hr => ⟨s, Sg.le.refl s, hH.sub (fun l o hl => (hm l o hl).1) n1, hr⟩, fun hH hr => ⟨s, Sg.le.refl s, hH.sub (fun l o hl => (hm l o hl).2) n2, hab ▸ hr⟩⟩
  | false =>
    rw [he] at h
    simp only [cond_false] at h
    split at h
    case h_2 => cases h
    rename_i l1 m1 l2 m2 e1 e2
    split at h
    case h_2 => cases h
    rename_i b1 b2 hb1 hb2
    rw [e1, e2]
    generalize hnx : Nat.max r1.2.nx r2.2.nx = nx at h n1 n2
    cases hc : (Nat.beq m1 m2 && b1.row && b2.row && Nat.beq b1.et b2.et && Nat.beq b1.sz b2.sz && Nat.ble 1 b1.sz && Nat.ble (m1 * b1.sz) b1.cs.length && Nat.ble (m1 * b1.sz) b2.cs.length && eqAs (eqA 30) (b1.cs.take (m1 * b1.sz)) (b2.cs.take (m1 * b1.sz)) && Nat.ble nx 1000000) with
    | false => rw [hc] at h; cases h
    | true =>
    rw [hc] at h
    cases h
    simp only [Bool.and_eq_true] at hc
    obtain ⟨⟨⟨⟨⟨⟨⟨⟨⟨q1, q2⟩, q3⟩, q4⟩, q5⟩, q6⟩, q7⟩, q8⟩, q9⟩, q10⟩ := hc
    have q1 := beq_t q1; have q4 := beq_t q4; have q5 := beq_t q5; have q6 := ble_t q6; have q7 := ble_t q7; have q8 := ble_t q8
    have q9 := eqAs_ok (eqA_ok 30) q9
    have hget : ∀ k x, (((mergeT r1.2.h r2.2.h).set 24 l1 none).set 24 l2 none |>.set 24 nx (some (.c { b1 with cs := b1.cs.take (m1 * b1.sz), hi := none }))).get k = some x → (k = nx ∧ x = .c { b1 with cs := b1.cs.take (m1 * b1.sz), hi := none }) ∨ (k ≠ nx ∧ k ≠ l1 ∧ k ≠ l2 ∧ r1.2.h.get k = some x ∧ r2.2.h.get k = some x) := by
      intro k x hk
      rcases Tr.get_set _ _ _ _ _ _ hk with ⟨e1, e⟩ | ⟨hne, e⟩
      · cases e; exact .inl ⟨e1, rfl⟩
      · rcases Tr.get_set _ _ _ _ _ _ e with ⟨_, e2⟩ | ⟨hne2, e2⟩
        · cases e2
        · rcases Tr.get_set _ _ _ _ _ _ e2 with ⟨_, e3⟩ | ⟨hne3, e3⟩
          · cases e3
          · obtain ⟨g1, g2⟩ := hm k x e3
            exact .inr ⟨hne, hne3, hne2, g1, g2⟩
    constructor
    · intro hH hr
      obtain ⟨b, c, hb, hv⟩ := hr.sl_of
      obtain ⟨b', c', h3, hob⟩ := hH.obj l1 _ hb1
      rw [hb] at h3; cases h3
      refine ⟨s.ins nx (b, c), Sg.le_ins (hH.dom _ n1), hH.alias hb1 hb n1 (row_take hob.cur q2 q6 q7) (fun k x hk => ?_), ?_⟩
      · rcases hget k x hk with hq | ⟨g1, g2, _, g3, _⟩
        · exact .inl hq
        · exact .inr ⟨g1, g2, g3⟩
      · simp only [Rel]; exact ⟨b, c, Sg.ins_same, hv⟩
    · intro hH hr
      obtain ⟨b, c, hb, hv⟩ := hr.sl_of
      obtain ⟨b', c', h3, hob⟩ := hH.obj l2 _ hb2
      rw [hb] at h3; cases h3
      have hrow := row_take (n := m1) hob.cur q3 (by omega) (by rw [← q5]; exact q8)
      have heq : ({ b2 with cs := b2.cs.take (m1 * b2.sz), hi := none } : AO) = { b1 with cs := b1.cs.take (m1 * b1.sz), hi := none } := by
        rw [← q4, ← q5, ← q9, q2, q3]
      rw [heq] at hrow
      refine ⟨s.ins nx (b, c), Sg.le_ins (hH.dom _ n2), hH.alias hb2 hb n2 hrow (fun k x hk => ?_), ?_⟩
      · rcases hget k x hk with hq | ⟨g1, _, g2, _, g3⟩
        · exact .inl hq
        · exact .inr ⟨g1, g2, g3⟩
      · simp only [Rel]; exact ⟨b, c, Sg.ins_same, by rw [q1]; exact hv⟩
theorem unk_list:∀ {us:List Value},(∀ u ∈ us,u.oneCell'=true) → RelL ω s (List.replicate us.length .unk) us
 | [],_=>RelL.nil
 | u :: us,h=>by
  rw [List.length_cons,List.replicate_succ]
  exact RelL.cons (by simp only [Rel]; exact h u (by simp)) (unk_list fun v hv=>h v (by simp [hv]))
theorem split_ok {as':List AV} {stA stB:Stt} {vs:List Value} (h:splitOn as' st=some (stA,stB)) (hH:Hold ω s w0 st w) (hr:RelL ω s as' vs):Hold ω s w0 stA w ∨ Hold ω s w0 stB w:=by
 unfold splitOn at h
 split at h
 case h_2=>cases h
 rename_i l n _ y
 split at h
 case h_2=>cases h
 rename_i m o hm hl
 cases hc:(o.row && Nat.ble 1 o.sz && Nat.ble (n * o.sz) o.cs.length) with
 | false=>rw [hc] at h; cases h
 | true =>
 rw [hc] at h
 cases h
 simp only [Bool.and_eq_true] at hc
 obtain ⟨⟨c1,c2⟩,c3⟩:=hc
 have c2:=ble_t c2; have c3:=ble_t c3
 obtain ⟨v1,_,r1,_,_⟩:=hr.uncons
 obtain ⟨b,c,hb,_⟩:=r1.sl_of
 obtain ⟨b',c',e1,hob⟩:=hH.obj l _ hl
 rw [hb] at e1; cases e1
 obtain ⟨cur,us,g1,g2,g3,g4,g5⟩:=hob.cur
 obtain ⟨n',a1,a2,a3,a4,a5,a6⟩:=g5 c1
 have hx:Ext [b] w w:=Ext.refl _ _
 rcases Nat.lt_or_ge c (n + m) with hlt | hge
 ·left
  exact hH.turn hl hb hx ⟨hob.ge,cur,us,g1,g2,g3,g4,fun _=>⟨n',a1,a2,a3,a4,(fun h e=>by cases e; exact hlt),a6⟩⟩
 ·right
  have hlen:=g2.len
  have hN:(n + m) * o.sz ≤ cur.size:=by rw [a4]; exact Nat.mul_le_mul_right _ hge
  have hcl:cur.toList.length=cur.size:=Array.length_toList
  have hul:us.length ≤ cur.toList.length:=by
   have:=congrArg List.length g3
   rw [List.length_take] at this; omega
  have hkl:((cur.toList.drop us.length).take ((n + m) * o.sz - us.length)).length=(n + m) * o.sz - us.length:=by
   rw [List.length_take,List.length_drop]; omega
  have hone:∀ u ∈ (cur.toList.drop us.length).take ((n + m) * o.sz - us.length),u.oneCell'=true:=fun u hu=>a6 u (List.mem_of_mem_drop (List.mem_of_mem_take hu))
  have hu:=unk_list (ω:=ω) (s:=s) hone
  rw [hkl] at hu
  refine hH.turn hl hb hx ⟨hob.ge,cur,us ++ (cur.toList.drop us.length).take ((n + m) * o.sz - us.length),g1,?_,?_,(fun e=>by rw [c1] at e; cases e),fun _=>⟨Nat.max n' (n + m),?_,Nat.max_le.2 ⟨a2,hge⟩,a3,a4,a5,a6⟩⟩
  ·unfold padA; rw [hlen]; exact g2.append hu
  ·rw [List.length_append,hkl,List.take_add,g3]
  ·show (us ++ _).length=Nat.max n' (n + m) * o.sz
   rw [List.length_append,hkl]
   rcases Nat.le_total n' (n + m) with h1 | h1
   ·rw [show Nat.max n' (n + m)=n + m from Nat.max_eq_right h1]
    have:=Nat.mul_le_mul_right o.sz h1
    omega
   ·rw [show Nat.max n' (n + m)=n' from Nat.max_eq_left h1]
    have:=Nat.mul_le_mul_right o.sz h1
    omega
theorem callBy_ok {S:Sums} {ec:CodeF} (hS:CallOK ω w0 P S) (hec:CodeOK ω w0 P false ec):CallOK ω w0 P (callBy P S ec):=by
 intro f l st a st' h s w vs hH hr
 unfold callBy at h
 split at h
 ·rename_i r hs; cases h; exact hS f l st a st' hs s w vs hH hr
 ·split at h
  ·rename_i r hs; cases h; exact callPlain_ok hec f l st a st' hs s w vs hH hr
  ·split at h
   ·cases h
   ·rename_i stA stB hsp
    split at h
    ·rename_i r q hr1 hr2
     rcases split_ok hsp hH hr with hA | hB
     ·refine Fnc.mono (callPlain_ok hec f l stA r.1 r.2 hr1 s w vs hA hr) ?_
      rintro v w' ⟨s',hle,hH',hrel⟩
      obtain ⟨s2,h1,h2,h3⟩:=(join_ok h).1 hH' hrel
      exact ⟨s2,hle.trans h1,h2,h3⟩
     ·refine Fnc.mono (callPlain_ok hec f l stB q.1 q.2 hr2 s w vs hB hr) ?_
      rintro v w' ⟨s',hle,hH',hrel⟩
      obtain ⟨s2,h1,h2,h3⟩:=(join_ok h).2 hH' hrel
      exact ⟨s2,hle.trans h1,h2,h3⟩
    ·cases h
theorem putPs_ok {N : Nat} : ∀ (ps : List Nat) (l : List AV) (vs : List Value) (A A1 : AE) (tmps : Array Value), putPs N A ps l = some A1 → RelL ω s l vs → tmps.size = N → EnvOK ω s A (fun t => tmps.getD t undef) →
    ps.length = vs.length ∧ ((ps.zip vs).foldl (fun (tmps : Array Value) (x : Nat × Value) => tmps.setIfInBounds x.1 x.2) tmps).size = N ∧ EnvOK ω s A1 (fun t => ((ps.zip vs).foldl (fun (tmps : Array Value) (x : Nat × Value) => tmps.setIfInBounds x.1 x.2) tmps).getD t undef)
  | [], [], vs, A, A1, tmps, h, hr, hs, hE => by
    simp only [putPs, Option.some.injEq] at h
    subst h
    rw [hr.unnil]
    exact ⟨rfl, hs, hE⟩
  | [], _ :: _, _, _, _, _, h, _, _, _ => by simp [putPs] at h
  | _ :: _, [], _, _, _, _, h, _, _, _ => by simp [putPs] at h
  | p :: ps, a :: l, vs, A, A1, tmps, h, hr, hs, hE => by
    obtain ⟨v, vs', h1, h2, rfl⟩ := hr.uncons
    simp only [putPs] at h
    cases hb : Nat.blt p N with
    | false => rw [hb] at h; cases h
    | true =>
      rw [hb] at h
      simp only [cond_true] at h
      obtain ⟨q1, q2, q3⟩ := putPs_ok ps l vs' _ A1 (tmps.setIfInBounds p v) h h2 (by simpa using hs) (by
        intro t x ht
        rcases Tr.get_set _ _ _ _ _ _ ht with ⟨rfl, e⟩ | ⟨hne, e⟩
        · cases e
          have hp := blt_t hb
          simp only [Array.getD_eq_getD_getElem?, Array.getElem?_setIfInBounds, if_true]
          rw [if_pos (by omega)]; exact h1
        · simp only [Array.getD_eq_getD_getElem?, Array.getElem?_setIfInBounds]
          rw [if_neg (fun e => hne e.symm)]
          have := hE t x e
          simpa only [Array.getD_eq_getD_getElem?] using this)
      exact ⟨by simp [q1], q2, q3⟩
theorem roundBy_ok {ec : CodeF} (hec : CodeOK ω w0 P true ec) (ro : Option Nat) : RoundOK ω w0 P (roundBy ec) ro := by
  intro l as' st a st' h s w vs b c hH hr hb
  unfold roundBy at h
  split at h
  case h_2 => cases h
  rename_i lo hl
  obtain ⟨b', c', e1, hob⟩ := hH.obj l _ hl
  rw [hb] at e1; cases e1
  obtain ⟨fn, tmps, df, hheap, hsz, hE0⟩ := hob.cur
  cases hrd : isReady lo.state with
  | false => rw [hrd] at h; cases h
  | true =>
  rw [hrd] at h
  simp only [cond_true] at h
  split at h
  case h_2 => cases h
  rename_i A1 hps
  obtain ⟨q1, q2, q3⟩ := putPs_ok lo.ps as' vs lo.A A1 tmps hps hr hsz hE0
  have hfold : (lo.ps.toArray.zip vs.toArray).foldl (fun (tmps : Array Value) (x : Nat × Value) => tmps.setIfInBounds x.1 x.2) tmps = (lo.ps.zip vs).foldl (fun (tmps : Array Value) (x : Nat × Value) => tmps.setIfInBounds x.1 x.2) tmps := by simp
  refine ⟨_, hheap, by simp [q1], ?_⟩
  split at h
  case h_2 => cases h
  rename_i A2 st2 hasg
  split at h
  case h_2 => cases h
  rename_i lo2 hl2
  cases hrd2 : isReady lo2.state with
  | false => rw [hrd2] at h; cases h
  | true =>
  rw [hrd2] at h
  simp only [cond_true] at h
  refine roundIn_of_wpIn (F := Fr ro) trivial ?_
  have hasg' := wpIn_n 1 0 (hec lo.N lo.asg A1 [] st _ hasg (some b) (fun e => by cases e) s { tmps := (lo.ps.zip vs).foldl (fun (tmps : Array Value) (x : Nat × Value) => tmps.setIfInBounds x.1 x.2) tmps, defers := [] } w q2 hH q3 rfl)
  show lo.asg.wpIn (Fr (some b)) 0 P _ { tmps := (lo.ps.toArray.zip vs.toArray).foldl (fun (tmps : Array Value) (x : Nat × Value) => tmps.setIfInBounds x.1 x.2) tmps, defers := [] } w
  rw [hfold]
  refine wpIn_mono hasg' ?_
  rintro e act w1 ⟨hsz1, A', D', st1, s1, hout, hle1, hH1, hE1, hM1⟩
  cases e with
  | normal =>
    cases hout
    have hb1 := hle1 _ _ hb
    obtain ⟨b2, c2, e2, hob2⟩ := hH1.obj l _ hl2
    rw [hb1] at e2; cases e2
    obtain ⟨fn2, tmps2, df2, hheap2, hsz2, hE2⟩ := hob2.cur
    have hready : lo2.state = .ready := by
      cases hst : lo2.state <;> rw [hst] at hrd2 <;> first | rfl | cases hrd2
    refine ⟨_, run_beginRound hheap2 hready, ?_⟩
    have hlt2 := hob2.lt
    have hH2 : Hold ω s1 w0 (setX st2 l (.l { lo2 with state := .busy })) (w1.putObj b (.loop { state := .busy, pending := lo2.jump, fn := fn2, tmps := tmps2, params := lo2.ps.toArray, assign := lo2.asg, body := lo2.body, defers := df2 })) :=
      hH1.turn hl2 hb1 (Ext.putObj w1 b _) ⟨hob2.ge, fn2, tmps2, df2, World.putObj_heap_same hlt2, hsz2, hE2⟩
    have hD : act.defers = [] := hM1
    have hbody : ∀ out, ec lo.N lo.body A2 [] (setX st2 l (.l { lo2 with state := .busy })) = some out → lo.body.wpIn (Fr (some b)) 0 P (OutOK ω w0 s1 lo.N out) act _ := fun out ho => wpIn_n 1 0 (hec lo.N lo.body A2 [] _ out ho (some b) (fun e => by cases e) s1 act _ hsz1 hH2 hE1 hD)
    have fin : ∀ (st3 : Stt) (s3 : Sg) (w3 : World) (lo3 : LO) (jump : Option Code), s1.le s3 → Hold ω s3 w0 st3 w3 → st3.h.get l = some (.l lo3) → ∃ w4, (Instr.endRound b jump).run P w3 = .ok (.bool jump.isNone) w4 ∧
        Hold ω s3 w0 (setX st3 l (.l { lo3 with state := if jump.isNone then .ready else .done, jump := jump })) w4 := by
      intro st3 s3 w3 lo3 jump hle3 hH3 hl3
      have hb3 := hle3 _ _ hb1
      obtain ⟨b4, c4, e4, hob4⟩ := hH3.obj l _ hl3
      rw [hb3] at e4; cases e4
      obtain ⟨fn4, tmps4, df4, hheap4, hsz4, hE4⟩ := hob4.cur
      exact ⟨_, run_endRound jump hheap4, hH3.turn hl3 hb3 (Ext.putObj w3 b _) ⟨hob4.ge, fn4, tmps4, df4, World.putObj_heap_same hob4.lt, hsz4, hE4⟩⟩
    split at h
    · rename_i A3 st3 hbd
      split at h
      · rename_i lo3 hl3
        cases h
        refine wpIn_mono (hbody _ hbd) ?_
        rintro e act3 w3 ⟨_, A', D', st', s3, hout, hle3, hH3, _, _⟩
        cases e with
        | normal =>
          cases hout
          obtain ⟨w4, h4, h5⟩ := fin _ s3 w3 lo3 none hle3 hH3 hl3
          exact ⟨_, w4, h4, _, s3, rfl, hle1.trans hle3, h5, Rel.mkv _⟩
        | exit i => cases hout
        | ret => cases hout
        | goto l => exact hout.elim
        | panic ch => exact hout.elim
        | outgrown => exact hout.elim
      · cases h
    · rename_i A3 st3 hbd
      split at h
      · rename_i lo3 hl3
        cases h
        refine wpIn_mono (hbody _ hbd) ?_
        rintro e act3 w3 ⟨_, A', D', st', s3, hout, hle3, hH3, _, _⟩
        cases e with
        | ret =>
          cases hout
          obtain ⟨w4, h4, h5⟩ := fin _ s3 w3 lo3 (some .ret) hle3 hH3 hl3
          exact ⟨_, w4, h4, _, s3, rfl, hle1.trans hle3, h5, Rel.mkv _⟩
        | exit i => cases hout
        | normal => cases hout
        | goto l => exact hout.elim
        | panic ch => exact hout.elim
        | outgrown => exact hout.elim
      · cases h
    · rename_i id A3 st3 hbd
      split at h
      · rename_i lo3 hl3
        cases h
        refine wpIn_mono (hbody _ hbd) ?_
        rintro e act3 w3 ⟨_, A', D', st', s3, hout, hle3, hH3, _, _⟩
        cases e with
        | exit i =>
          cases hout
          obtain ⟨w4, h4, h5⟩ := fin _ s3 w3 lo3 (some (.exit id)) hle3 hH3 hl3
          exact ⟨_, w4, h4, _, s3, rfl, hle1.trans hle3, h5, Rel.mkv _⟩
        | ret => cases hout
        | normal => cases hout
        | goto l => exact hout.elim
        | panic ch => exact hout.elim
        | outgrown => exact hout.elim
      · cases h
    · cases h
  | exit i => cases hout
  | ret => cases hout
  | goto l => exact hout.elim
  | panic ch => exact hout.elim
  | outgrown => exact hout.elim
end
end Go.Proofs.YtplflgclomiihaaGreat.Ev
namespace Go.Proofs.YtplflgclomiihaaGreat.Ev
open Go.RowKit Go.Proofs.YtplflgclomiihaaGreat.W
section
variable {ω : Nat → Value} {s : Sg} {w0 w : World} {st : Stt} {P : Program}
theorem run_callable {f:FuncId} (h:callableB P f=true) (args:Array Value) (w:World):(callFunc f args).run P w=.ok (.enter f args) w:=by
 obtain ⟨fn,hfn,hname,hb⟩:=callable_of h
 have hn':¬ fn.name="runtime.NumGoroutine":=by simpa using hname
 have hb':¬ fn.body=none:=by intro e; rw [e] at hb; cases hb
 simp [go_sem,callFunc,hfn,hn',hb']
theorem seq_ok {A:AE} {E:Env} {g:Operand} {f:FuncId} {cs:List AV} (hE:EnvOK ω s A E) (h:seqOf P A g=some (f,cs)):callableB P f=true∧∃ vs,ev E g=.func (.func f) #[] vs.toArray∧RelL ω s cs vs:=by
 unfold seqOf at h
 split at h
 ·rename_i f' fs cs' hg
  cases hc:(Nat.beq fs.size 0 && callableB P f') with
  | false=>rw [hc] at h; cases h
  | true =>
   rw [hc] at h
   cases h
   simp only [Bool.and_eq_true] at hc
   have hfs:fs=#[]:=Array.eq_empty_of_size_eq_zero (beq_t hc.1)
   subst hfs
   exact ⟨hc.2,cs'.toList,by simpa using (opd_ok hg hE).v_of,RelL.vs _⟩
 ·rename_i f' cs' hg
  cases hc:callableB P f' with
  | false=>rw [hc] at h; cases h
  | true =>
   rw [hc] at h
   cases h
   have hr:=opd_ok hg hE
   simp only [Rel] at hr
   obtain ⟨vs,hr,he⟩:=hr
   exact ⟨hc,vs,he,hr⟩
 ·cases h
theorem range_ok {cf : CallF} (hc : CallOK ω w0 P cf) {N : Nat} {g : Operand} {ps : Array Nat} {asg body : Code} {A : AE} {D : List Nat} {out : Out} (h : evRange P cf N g ps.toList asg body A D st = some out) (a : Act) (hsz : a.tmps.size = N) (hH : Hold ω s w0 st w) (hE : EnvOK ω s A (envOf a)) (hM : MarkOK s D a.defers) :
    (Code.rangeFunc g ps asg body).wpIn (Fr none) 1 P (OutOK ω w0 s N out) a w := by
  unfold evRange at h
  split at h
  · cases h
  rename_i f cs hs
  obtain ⟨hcal, vs, hg, hr⟩ := seq_ok hE hs
  simp only at h
  split at h
  · cases h
  rename_i av st2 hcf
  refine wpIn_rangeFunc fun fn hfn => ?_
  have hH1 : Hold ω (s.ins st.nx (w.heap.size, 0)) w0 (newX st .d) (w.alloc (.deferred (some []))) := hH.new (Ext.alloc w _) ⟨hH.ge, heap_alloc_new w _⟩
  have hle1 : s.le (s.ins st.nx (w.heap.size, 0)) := hH.le_new _
  obtain ⟨rec, hrec⟩ : ∃ rec : Loop, rec = { state := .ready, pending := none, fn := fn, tmps := a.tmps, params := ps, assign := asg, body := body, defers := w.heap.size } := ⟨_, rfl⟩
  have hsize1 : (w.alloc (.deferred (some []))).heap.size = w.heap.size + 1 := by simp
  have hH2 : Hold ω ((s.ins st.nx (w.heap.size, 0)).ins (st.nx + 1) (w.heap.size + 1, 0)) w0 (newX (newX st .d) (.l ⟨.ready, N, A, ps.toList, asg, body, none⟩)) ((w.alloc (.deferred (some []))).alloc (.loop rec)) := by
    have := hH1.new (o := .l ⟨.ready, N, A, ps.toList, asg, body, none⟩) (w' := (w.alloc (.deferred (some []))).alloc (.loop rec)) (c := 0) (Ext.alloc _ _) ⟨hH1.ge, fn, a.tmps, w.heap.size, by
      rw [heap_alloc_new, hrec], hsz, hE.mono hle1⟩
    rw [hsize1] at this
    exact this
  have hle2 : (s.ins st.nx (w.heap.size, 0)).le ((s.ins st.nx (w.heap.size, 0)).ins (st.nx + 1) (w.heap.size + 1, 0)) := by
    have := hH1.le_new (w.heap.size + 1, 0)
    exact this
  have hl0 : (s.ins st.nx (w.heap.size, 0)).ins (st.nx + 1) (w.heap.size + 1, 0) (st.nx + 1) = some (w.heap.size + 1, 0) := Sg.ins_same
  have hd0 : (s.ins st.nx (w.heap.size, 0)).ins (st.nx + 1) (w.heap.size + 1, 0) st.nx = some (w.heap.size, 0) := hle2 _ _ Sg.ins_same
  refine ⟨w.heap.size + 1, [{ target := .collected w.heap.size, args := #[] }], (w.alloc (.deferred (some []))).alloc (.loop rec), { target := .fn (.func f) vs.toArray, args := #[.func (.yield (w.heap.size + 1)) #[] #[]] }, (w.alloc (.deferred (some []))).alloc (.loop rec), f,
    #[.func (.yield (w.heap.size + 1)) #[] #[]] ++ vs.toArray, (w.alloc (.deferred (some []))).alloc (.loop rec), ?_, ?_, ?_, ?_, fun h => (by cases h), ?_⟩
  · rw [hrec]; exact run_enterLoop_outer _ _ _ _ _
  · have hg' : a.eval g = .func (.func f) #[] vs.toArray := by rw [eval_envOf]; exact hg
    simp only [resolve, hg']
    simp [go_sem]
  · intro f' _; trivial
  · simp only [invoke]
    exact run_callable hcal _ _
  · have hargs : #[.func (.yield (w.heap.size + 1)) #[] #[]] ++ vs.toArray = (Value.func (.yield (w.heap.size + 1)) #[] #[] :: vs).toArray := by simp
    rw [hargs]
    have hcall := hc f (.yld (st.nx + 1) :: cs) _ av st2 hcf _ _ _ hH2 (RelL.cons (by simp only [Rel]; exact ⟨_, _, hl0, rfl⟩) (RelL.mono (hle1.trans hle2) _ _ hr))
    have hcall' : CallsIn (Fr none) (1 - 1) P f (Value.func (.yield (w.heap.size + 1)) #[] #[] :: vs).toArray ((w.alloc (.deferred (some []))).alloc (.loop rec)) _ := (callsIn_wide (n := 1 - 1)).2 hcall
    refine CallsIn.mono hcall' ?_
    rintro e w3 ⟨v, rfl, s3, hle3, hH3, _⟩
    split at h
    case h_2 => cases h
    rename_i lo hl hdd
    cases hbz : isBusy lo.state with
    | true => rw [hbz] at h; cases h
    | false =>
    rw [hbz] at h
    simp only [cond_false] at h
    have hl3 := hle3 _ _ hl0
    have hd3 := hle3 _ _ hd0
    obtain ⟨b4, c4, e4, hob4⟩ := hH3.obj _ _ hl
    rw [hl3] at e4; cases e4
    obtain ⟨fn4, tmps4, df4, hheap4, _, _⟩ := hob4.cur
    have hnb : lo.state ≠ .busy := by intro e; rw [e] at hbz; cases hbz
    have hend := run_endLoop (P := P) hheap4 (by exact hnb)
    have hH4 := hH3.drop hl hl3 (Ext.putObj w3 (w.heap.size + 1) (.loop { state := .exhausted, pending := lo.jump, fn := fn4, tmps := tmps4, params := lo.ps.toArray, assign := lo.asg, body := lo.body, defers := df4 }))
    have hleA : s.le s3 := (hle1.trans hle2).trans hle3
    have fin : ∃ A' D' st' s', (A' = A ∧ D' = st.nx :: D ∧ st' = delO st2 (st.nx + 1)) ∧ s.le s' ∧ Hold ω s' w0 st' (w3.putObj (w.heap.size + 1) (.loop { state := .exhausted, pending := lo.jump, fn := fn4, tmps := tmps4, params := lo.ps.toArray, assign := lo.asg, body := lo.body, defers := df4 })) ∧ EnvOK ω s' A' (envOf { a with defers := [{ target := .collected w.heap.size, args := #[] }] ++ a.defers }) ∧ MarkOK s' D' ([{ target := .collected w.heap.size, args := #[] }] ++ a.defers) :=
      ⟨A, _, _, s3, ⟨rfl, rfl, rfl⟩, hleA, hH4, hE.mono hleA, w.heap.size, 0, a.defers, hd3, MarkOK.mono hleA D _ hM, rfl⟩
    obtain ⟨A', D', st', s', ⟨rfl, rfl, rfl⟩, f1, f2, f3, f4⟩ := fin
    refine ⟨lo.jump, _, hend, ?_⟩
    split at h
    · rename_i hj
      cases h
      simp only [hj]
      rw [hj] at f2
      exact ⟨hsz, _, _, _, s', rfl, f1, f2, f3, f4⟩
    · rename_i hj
      cases h
      simp only [hj]
      rw [hj] at f2
      exact wpIn_ret ⟨hsz, _, _, _, s', rfl, f1, f2, f3, f4⟩
    · rename_i id hj
      cases h
      simp only [hj]
      rw [hj] at f2
      exact wpIn_exit ⟨hsz, _, _, _, s', rfl, f1, f2, f3, f4⟩
    · cases h
theorem region_of {N : Nat} {ro : Option Nat} {c : Code} {A' : AE} {D : List Nat} {st' : Stt} {a : Act} (hsz : a.tmps.size = N) (hM : MarkOK s D a.defers) (h : ∀ Nn : Env → World → Prop, (∀ s' E' w', s.le s' → Hold ω s' w0 st' w' → EnvOK ω s' A' E' → Nn E' w') → WPr ro P ⟨N, a.defers⟩ c ⟨Nn, fun _ _ _ => False, fun _ _ => False⟩ (envOf a) w) :
    c.wpIn (Fr ro) 1 P (OutOK ω w0 s N (.norm A' D st')) a w := by
  have := h (fun E' w' => ∃ s', s.le s' ∧ Hold ω s' w0 st' w' ∧ EnvOK ω s' A' E') (fun s' E' w' h1 h2 h3 => ⟨s', h1, h2, h3⟩) a ⟨hsz, rfl⟩ rfl
  refine wpIn_mono this ?_
  rintro e a' w' ⟨⟨h1, h2⟩, h3⟩
  cases e with
  | normal =>
    obtain ⟨s', q1, q2, q3⟩ := h3
    exact ⟨h1, A', D, st', s', rfl, q1, q2, q3, by rw [h2]; exact MarkOK.mono q1 D _ hM⟩
  | exit i => exact h3.elim
  | ret => exact h3.elim
  | goto l => exact h3.elim
  | panic ch => exact h3.elim
  | outgrown => exact h3.elim
theorem OutOK.mono {s s':Sg} {N:Nat} {out:Out} {e:Exit} {a:Act} {w:World} (hle:s.le s') (h:OutOK ω w0 s' N out e a w):OutOK ω w0 s N out e a w:=by
 obtain ⟨h1,A,D,st,s2,h2,h3,h4⟩:=h
 exact ⟨h1,A,D,st,s2,h2,hle.trans h3,h4⟩
theorem loop_ok {N : Nat} {ro : Option Nat} {c : Code} {f : AE → List Nat → Stt → Option Out} (hf : ∀ A D st out, f A D st = some out → ∀ s a w, a.tmps.size = N → Hold ω s w0 st w → EnvOK ω s A (envOf a) → MarkOK s D a.defers → c.wpIn (Fr ro) 1 P (OutOK ω w0 s N out) a w) :
    ∀ (m : Nat) (A : AE) (D : List Nat) (st : Stt) (out : Out), evLoop f m A D st = some out → ∀ s a w, a.tmps.size = N → Hold ω s w0 st w → EnvOK ω s A (envOf a) → MarkOK s D a.defers → Code.roundsIn (Fr ro) 1 P c (OutOK ω w0 s N out) m a w
  | 0, A, D, st, out, h, _, _, _, _, _, _, _ => by simp [evLoop] at h
  | m + 1, A, D, st, out, h, s, a, w, hsz, hH, hE, hM => by
    simp only [evLoop] at h
    unfold Code.roundsIn
    split at h
    · rename_i A' D' st' ho
      refine wpIn_mono (hf A D st _ ho s a w hsz hH hE hM) ?_
      rintro e a1 w1 ⟨h1, A2, D2, st2, s2, hout, hle, hH2, hE2, hM2⟩
      cases e with
      | normal =>
        cases hout
        have hrec := loop_ok hf m _ _ _ out h s2 a1 w1 h1 hH2 hE2 hM2
        have lower : ∀ m a w, Code.roundsIn (Fr ro) 1 P c (OutOK ω w0 s2 N out) m a w → Code.roundsIn (Fr ro) 1 P c (OutOK ω w0 s N out) m a w := by
          intro m
          induction m with
          | zero => intro a w h; exact h
          | succ m ih =>
            intro a w h
            unfold Code.roundsIn at h ⊢
            refine wpIn_mono h ?_
            intro e a w h
            have lift : ∀ e', OutOK ω w0 s2 N out e' a w → OutOK ω w0 s N out e' a w := fun e' q => OutOK.mono hle q
            cases e with
            | normal => exact ih _ _ h
            | exit i => exact lift (.exit i) h
            | ret => exact lift .ret h
            | goto l => exact lift (.goto l) h
            | panic ch => exact lift (.panic ch) h
            | outgrown => exact lift .outgrown h
        exact lower _ _ _ hrec
      | exit i => cases hout
      | ret => cases hout
      | goto l => exact hout.elim
      | panic ch => exact hout.elim
      | outgrown => exact hout.elim
    · rename_i hne
      refine wpIn_mono (hf A D st _ h s a w hsz hH hE hM) ?_
      intro e a1 w1 hq
      cases e with
      | normal => obtain ⟨h1, A2, D2, st2, s2, hout, _⟩ := hq; cases hout; exact absurd h (hne _ _ _)
      | exit i => exact hq
      | ret => exact hq
      | goto l => exact hq
      | panic ch => exact hq
      | outgrown => exact hq
theorem code_ok (hω:OneW ω) (hm:P.follows .mixedOrders=true) {S:Sums} (hS:CallOK ω w0 P S):∀ (n:Nat) (inr:Bool),CodeOK ω w0 P inr (evCode P S n inr):=by
 intro n
 induction n with
 | zero=>intro inr N c A D st out h; simp [evCode] at h
 | succ n ih =>
  intro inr N c A D st out h ro hro s a w hsz hH hE hM
  have hcall:=callBy_ok hS (ih false)
  have hrnd:=roundBy_ok (ih true)
  cases c with
  | skip=>simp only [evCode,Option.some.injEq] at h; subst h; exact wpIn_skip ⟨hsz,A,D,st,s,rfl,Sg.le.refl s,hH,hE,hM⟩
  | label l=>simp only [evCode,Option.some.injEq] at h; subst h; exact wpIn_label ⟨hsz,A,D,st,s,rfl,Sg.le.refl s,hH,hE,hM⟩
  | exit id=>simp only [evCode,Option.some.injEq] at h; subst h; exact wpIn_exit ⟨hsz,A,D,st,s,rfl,Sg.le.refl s,hH,hE,hM⟩
  | ret=>simp only [evCode,Option.some.injEq] at h; subst h; exact wpIn_ret ⟨hsz,A,D,st,s,rfl,Sg.le.refl s,hH,hE,hM⟩
  | region id ops d =>
   simp only [evCode] at h
   cases d with
   | true =>
    simp only [cond_true] at h
    split at h
    ·rename_i A' st' ho
     cases h
     exact region_of hsz hM fun Nn k=>drawn_ok hω hm hcall (hrnd ro) ho s (envOf a) w hH hE k
    ·cases h
   | false =>
    simp only [cond_false] at h
    split at h
    ·rename_i A' st' ho
     cases h
     refine region_of hsz hM fun Nn k=>?_
     have:ops=ops.toList.toArray:=by simp
     rw [this]
     refine WP.region ?_
     rw [← this]
     exact list_ok hω hcall (hrnd ro) ops.toList A st A' st' ho s (envOf a) w hH hE k
    ·cases h
  | seq x y =>
   simp only [evCode] at h
   split at h
   ·rename_i A' D' st' ho
    refine wpIn_seq (wpIn_mono (ih inr N x A D st _ ho ro hro s a w hsz hH hE hM) ?_)
    rintro e a1 w1 ⟨h1,A2,D2,st2,s2,hout,hle,hH2,hE2,hM2⟩
    cases e with
    | normal=>cases hout; exact wpIn_mono (ih inr N y _ _ _ out h ro hro s2 a1 w1 h1 hH2 hE2 hM2) fun e a w q=>OutOK.mono hle q
    | exit i=>cases hout
    | ret=>cases hout
    | goto l=>exact hout.elim
    | panic ch=>exact hout.elim
    | outgrown=>exact hout.elim
   ·rename_i hne
    refine wpIn_seq (wpIn_mono (ih inr N x A D st _ h ro hro s a w hsz hH hE hM) ?_)
    intro e a1 w1 hq
    cases e with
    | normal=>obtain ⟨h1,A2,D2,st2,s2,hout,_⟩:=hq; cases hout; exact absurd h (hne _ _ _)
    | exit i=>exact hq
    | ret=>exact hq
    | goto l=>exact hq
    | panic ch=>exact hq
    | outgrown=>exact hq
  | cond x b1 b2 =>
   simp only [evCode] at h
   split at h
   ·rename_i t hx
    have hc:a.eval x=.bool t:=by rw [eval_envOf]; exact (opd_ok hx hE).v_of
    cases t with
    | true=>exact wpIn_cond_true hc (ih inr N b1 A D st out h ro hro s a w hsz hH hE hM)
    | false=>exact wpIn_cond_false hc (ih inr N b2 A D st out h ro hro s a w hsz hH hE hM)
   ·cases h
  | block id b =>
   simp only [evCode] at h
   split at h
   ·rename_i i A' D' st' ho
    refine wpIn_block (wpIn_mono (ih inr N b A D st _ ho ro hro s a w hsz hH hE hM) ?_)
    rintro e a1 w1 ⟨h1,A2,D2,st2,s2,hout,hle,hH2,hE2,hM2⟩
    cases e with
    | exit j =>
     cases hout
     simp only [Exit.inBlock]
     cases hb:Nat.beq i id with
     | true =>
      rw [hb] at h
      simp only [cond_true,Option.some.injEq] at h
      subst h
      rw [if_pos (beq_t hb)]
      exact ⟨h1,_,_,_,s2,rfl,hle,hH2,hE2,hM2⟩
     | false =>
      rw [hb] at h
      simp only [cond_false,Option.some.injEq] at h
      subst h
      rw [if_neg (beq_f hb)]
      exact ⟨h1,_,_,_,s2,rfl,hle,hH2,hE2,hM2⟩
    | normal=>cases hout
    | ret=>cases hout
    | goto l=>exact hout.elim
    | panic ch=>exact hout.elim
    | outgrown=>exact hout.elim
   ·rename_i hne
    refine wpIn_block (wpIn_mono (ih inr N b A D st _ h ro hro s a w hsz hH hE hM) ?_)
    intro e a1 w1 hq
    cases e with
    | exit i=>obtain ⟨h1,A2,D2,st2,s2,hout,_⟩:=hq; cases hout; exact absurd h (hne _ _ _ _)
    | normal=>exact hq
    | ret=>exact hq
    | goto l=>exact hq
    | panic ch=>exact hq
    | outgrown=>exact hq
  | loop b =>
   simp only [evCode] at h
   exact wpIn_loop_rounds n (loop_ok (fun A D st out ho s a w=>ih inr N b A D st out ho ro hro s a w) n A D st out h s a w hsz hH hE hM)
  | rangeFunc g ps asg body =>
   simp only [evCode] at h
   cases hi:inr with
   | true=>rw [hi] at h; cases h
   | false =>
    rw [hi] at h
    simp only [cond_false] at h
    have:=hro hi
    subst this
    exact range_ok hcall h a hsz hH hE hM
  | _=>simp [evCode] at h
theorem fn_ok (hω:OneW ω) (hm:P.follows .mixedOrders=true) {S:Sums} (hS:CallOK ω w0 P S) (n:Nat):CallOK ω w0 P (evFn P S n):=callBy_ok hS (code_ok hω hm hS n false)
theorem noSum_ok:CallOK ω w0 P (fun _ _ _=>none):=fun _ _ _ _ _ h=>by cases h
theorem Hold.start (w:World):Hold ω (fun _=>none) w ⟨.nil,0⟩ w:=⟨Ext.refl [] w,fun _ _=>rfl,fun l o h=>by simp [Tr.get_nil] at h,fun l l' o o' b c c' h=>by simp [Tr.get_nil] at h⟩
end
def answers (r:Option (AV × Stt)) (p:Value → Bool):Bool:=match r with
 | some (.v x,_)=>p x
 | _=>false
end Go.Proofs.YtplflgclomiihaaGreat.Ev
namespace Go.Proofs.YtplflgclomiihaaGreat.Ev
open Go.RowKit Go.Proofs.YtplflgclomiihaaGreat.W
def evHeads (ec:CodeF) (N:Nat):Nat → Code → AE → Stt → Option (AE × Stt × Code)
 | 0,c,A,st=>some (A,st,c)
 | k + 1,.seq a b,A,st=>match ec N a A [] st with
  | some (.norm A' [] st')=>evHeads ec N k b A' st'
  | _=>none
 | _,_,_,_=>none
def evRet (P:Program) (fn:Func):Option Out → Option (AV × Stt)
 | some (.norm A D st)=>bif marksB st D then retA P fn A D st else none
 | some (.ret A D st)=>bif marksB st D then retA P fn A D st else none
 | _=>none
def cutEval (P : Program) (n : Nat) (fn : Func) (c : Code) (k j : Nat) (a : AV) (as' : List AV) : Option (AV × Stt) :=
  match evHeads (evCode P (fun _ _ _ => none) n false) fn.ntmps k c (argsA as' 0) ⟨.nil, 0⟩ with
  | some (A1, st1, .seq (.region _ ops false) rest) => match evList P (callBy P (fun _ _ _ => none) (evCode P (fun _ _ _ => none) n false)) (roundBy (evCode P (fun _ _ _ => none) n true)) fn.ntmps ops (ops.toList.take j) A1 st1 with
    | some (A2, st2) => match ops.toList.drop j with
      | o :: post => match o.guard with
        | none => bif dstB fn.ntmps o.dst then match evList P (callBy P (fun _ _ _ => none) (evCode P (fun _ _ _ => none) n false)) (roundBy (evCode P (fun _ _ _ => none) n true)) fn.ntmps ops post (putA A2 o.dst a) st2 with
            | some (A3, st3) => evRet P fn (evCode P (fun _ _ _ => none) n false fn.ntmps rest A3 [] st3)
            | none => none
          else none
        | some _ => none
      | [] => none
    | none => none
  | _ => none
def cutOp (P:Program) (n:Nat) (fn:Func) (c:Code) (k j:Nat) (as':List AV):Option (Oper × AE) :=
 match evHeads (evCode P (fun _ _ _=>none) n false) fn.ntmps k c (argsA as' 0) ⟨.nil,0⟩ with
 | some (A1,st1,.seq (.region _ ops false) _)=>match evList P (callBy P (fun _ _ _=>none) (evCode P (fun _ _ _=>none) n false)) (roundBy (evCode P (fun _ _ _=>none) n true)) fn.ntmps ops (ops.toList.take j) A1 st1 with
  | some (A2,_)=>match ops.toList.drop j with
   | o :: _=>some (o,A2)
   | []=>none
  | none=>none
 | _=>none
section
variable {ω : Nat → Value} {s : Sg} {w0 w : World} {st : Stt} {P : Program}
theorem heads_ok {ec : CodeF} (hec : CodeOK ω w0 P false ec) {N : Nat} {Q : Exit → Act → World → Prop} : ∀ (k : Nat) (c : Code) (A : AE) (st : Stt) (A' : AE) (st' : Stt) (t : Code), evHeads ec N k c A st = some (A', st', t) → ∀ s a w, a.tmps.size = N → a.defers = [] → Hold ω s w0 st w → EnvOK ω s A (envOf a) →
    (∀ s' a' w', s.le s' → a'.tmps.size = N → a'.defers = [] → Hold ω s' w0 st' w' → EnvOK ω s' A' (envOf a') → t.wpIn (Fr none) 1 P Q a' w') → c.wpIn (Fr none) 1 P Q a w
  | 0, c, A, st, A', st', t, h, s, a, w, h1, h2, h3, h4, k => by
    simp only [evHeads, Option.some.injEq, Prod.mk.injEq] at h
    obtain ⟨rfl, rfl, rfl⟩ := h
    exact k s a w (Sg.le.refl s) h1 h2 h3 h4
  | m + 1, c, A, st, A', st', t, h, s, a, w, h1, h2, h3, h4, k => by
    unfold evHeads at h
    split at h
    · cases ‹m + 1 = 0›
    · rename_i heq
      cases heq
      split at h
      · rename_i A1 st1 ho
        refine wpIn_seq (wpIn_mono (hec N _ _ [] _ _ ho none (fun _ => rfl) s a w h1 h3 h4 h2) ?_)
        rintro e a1 w1 ⟨g1, A2, D2, st2, s2, hout, hle, hH2, hE2, hM2⟩
        cases e with
        | normal =>
          cases hout
          exact heads_ok hec m _ _ _ A' st' t h s2 a1 w1 g1 hM2 hH2 hE2 fun s' a' w' q => k s' a' w' (hle.trans q)
        | exit i => cases hout
        | ret => cases hout
        | goto l => exact hout.elim
        | panic ch => exact hout.elim
        | outgrown => exact hout.elim
      · cases h
    · cases h
theorem ret_ok {fn : Func} {N : Nat} {out : Out} {u : AV} {st' : Stt} {R : Value → World → Prop} (h : evRet P fn (some out) = some (u, st')) {e : Exit} {a : Act} {w : World} (ho : OutOK ω w0 s N out e a w) (k : ∀ s' v w', s.le s' → Hold ω s' w0 st' w' → Rel ω s' u v → R v w') :
    bodyPostM (Fr none) 1 P fn (fun e w' => ∃ v, e = .returned v ∧ R v w') e a w := by
  obtain ⟨hsz, A, D, st1, s', hout, hle, hH', hE', hM'⟩ := ho
  have key : marksB st1 D = true → retA P fn A D st1 = some (u, st') → LeavesInM (Fr none) 1 P fn a.tmps (fun e w' => ∃ v, e = .returned v ∧ R v w') a.defers .returning w := by
    intro h1 h2
    refine leaves_ok D a.defers st1 w hM' h1 hH' fun w2 hw2 => ?_
    obtain ⟨e1, v, h3, h4⟩ := results_ok hw2 hE' h2
    subst e1
    exact ⟨v, h3, v, rfl, k s' v w2 hle hw2 h4⟩
  cases e with
  | normal =>
    subst hout
    simp only [evRet] at h
    cases hb : marksB st1 D with
    | false => rw [hb] at h; cases h
    | true => rw [hb] at h; exact key hb h
  | ret =>
    subst hout
    simp only [evRet] at h
    cases hb : marksB st1 D with
    | false => rw [hb] at h; cases h
    | true => rw [hb] at h; exact key hb h
  | exit i => subst hout; simp [evRet] at h
  | goto l => exact hout.elim
  | panic ch => exact hout.elim
  | outgrown => exact hout.elim
theorem cut_ok (hω : OneW ω) (hm : P.follows .mixedOrders = true) {f : FuncId} {fn : Func} {c : Code} (hf : P.funcs[f]? = some fn) (hb : fn.body = some c) (n k j : Nat) {a : AV} {as' : List AV} {vs : List Value} (hr : ∀ s, RelL ω s as' vs) (hlen : vs.length ≤ fn.ntmps) {u : AV} {st' : Stt} {o : Oper} {A2 : AE}
    (h : cutEval P n fn c k j a as' = some (u, st')) (ho : cutOp P n fn c k j as' = some (o, A2)) (hop : ∀ s E w, EnvOK ω s A2 E → ∃ v, OpV P o E w v ∧ Rel ω s a v) (w : World) :
    Fnc P f vs.toArray w fun v w' => ∃ s', Hold ω s' w st' w' ∧ Rel ω s' u v := by
  have hS : CallOK ω w P (fun _ _ _ => none) := noSum_ok
  have hcode := fun inr => code_ok hω hm hS n inr
  have hcall := callBy_ok hS (hcode false)
  have hrnd := roundBy_ok (hcode true)
  unfold Fnc
  refine (callsIn_wide (n := 1)).1 (callsIn_of_wp_marks (F := Fr none) hf hb trivial ?_)
  unfold cutEval at h
  unfold cutOp at ho
  split at h
  case h_2 => cases h
  rename_i A1 st1 id ops rest hh
  rw [hh] at ho
  simp only at ho
  split at h
  case h_2 => cases h
  rename_i A2' st2 hpre
  rw [hpre] at ho
  simp only at ho
  split at h
  case h_2 => cases h
  rename_i o' post hdrop
  rw [hdrop] at ho
  cases ho
  split at h
  case h_2 => cases h
  rename_i hg
  cases hd : dstB fn.ntmps o.dst with
  | false => rw [hd] at h; cases h
  | true =>
  rw [hd] at h
  simp only [cond_true] at h
  split at h
  case h_2 => cases h
  rename_i A3 st3 hpost
  have henv : EnvOK ω (fun _ => none) (argsA as' 0) (envOf { tmps := vs.toArray ++ Array.replicate (fn.ntmps - vs.toArray.size) undef, defers := [] }) := by
    intro t x ht
    obtain ⟨_, h2⟩ := argsA_get as' 0 t x ht
    obtain ⟨v, h3, h4⟩ := (hr (fun _ => none)).get h2
    have hlt : t < vs.length := (List.getElem?_eq_some_iff.1 h3).1
    have : envOf { tmps := vs.toArray ++ Array.replicate (fn.ntmps - vs.toArray.size) undef, defers := [] } t = v := by
      have h3' : vs[t]? = some v := h3
      simp [envOf, Array.getD_eq_getD_getElem?, Array.getElem?_append, hlt]
      rw [List.getElem?_eq_getElem hlt] at h3'; exact Option.some.inj h3'
    rw [this]; exact h4
  refine heads_ok (hcode false) k c _ _ A1 st1 _ hh (fun _ => none) _ w (by simp; omega) rfl (Hold.start w) henv ?_
  intro s1 a1 w1 _ hsz1 hdef1 hH1 hE1
  refine wpIn_seq ?_
  have hreg : WPr none P ⟨fn.ntmps, []⟩ (.region id ops false) ⟨fun E' w' => ∃ s', Hold ω s' w st3 w' ∧ EnvOK ω s' A3 E', fun _ _ _ => False, fun _ _ => False⟩ (envOf a1) w1 := by
    have e : ops = ops.toList.toArray := by simp
    rw [e]
    refine WP.region ?_
    rw [← e]
    have e2 : ops.toList = ops.toList.take j ++ o :: post := by rw [← hdrop, List.take_append_drop]
    rw [e2]
    refine list_app hω hcall (hrnd none) _ A1 st1 _ st2 hpre s1 (envOf a1) w1 hH1 hE1 _ fun s2 E2 w2 _ hH2 hE2 => ?_
    obtain ⟨v, hv, hrel⟩ := hop s2 E2 w2 hE2
    refine WL.v (Sure.none hg) (dst_of hd) hv ?_
    exact list_ok hω hcall (hrnd none) post _ st2 A3 st3 hpost s2 _ w2 hH2 (hE2.put hrel) fun s3 E3 w3 _ hH3 hE3 => ⟨s3, hH3, hE3⟩
  refine wpIn_mono (hreg a1 ⟨hsz1, hdef1⟩ rfl) ?_
  rintro e a2 w2 ⟨⟨g1, g2⟩, g3⟩
  cases e with
  | normal =>
    obtain ⟨s3, hH3, hE3⟩ := g3
    cases hout : evCode P (fun _ _ _ => none) n false fn.ntmps rest A3 [] st3 with
    | none => rw [hout] at h; cases h
    | some out =>
      rw [hout] at h
      exact wpIn_mono (hcode false fn.ntmps rest A3 [] st3 out hout none (fun _ => rfl) s3 a2 w2 g1 hH3 hE3 g2) fun e a w ho => ret_ok h ho fun s' v w' _ h1 h2 => ⟨s', h1, h2⟩
  | exit i => exact g3.elim
  | ret => exact g3.elim
  | goto l => exact g3.elim
  | panic ch => exact g3.elim
  | outgrown => exact g3.elim
end
end Go.Proofs.YtplflgclomiihaaGreat.Ev
namespace Go.Proofs.YtplflgclomiihaaGreat.W
open Go.ChangeShapes Go.WideShapes Go.ChangeAt Go.RowKit Go.Proofs.YtplflgclomiihaaGreat.Ev
theorem call_true {P : Program} (hm : P.follows .mixedOrders = true) {f : FuncId} (n : Nat) {ω : Nat → Value} (hω : OneW ω) {as' : List AV} {vs : List Value} (hr : ∀ s, RelL ω s as' vs) (h : answers (evFn P (fun _ _ _ => none) n f as' ⟨.nil, 0⟩) (fun x => match x with | .bool true => true | _ => false) = true) (w : World) :
    Fnc P f vs.toArray w fun v w' => v = .bool true ∧ Ext [] w w' := by
  unfold answers at h
  split at h
  · rename_i x st' hq
    simp only at h
    split at h
    · refine Fnc.mono (fn_ok (w0 := w) hω hm noSum_ok n f as' _ _ st' hq _ w vs (Hold.start w) (hr _)) ?_
      rintro v w' ⟨s', _, hH, hrel⟩
      exact ⟨hrel.v_of, hH.ext⟩
    · cases h
  · cases h
end Go.Proofs.YtplflgclomiihaaGreat.W
