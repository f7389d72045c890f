/- Contracts. -/
import Derived.Test.YtplflgclomiihaaGreatQS18x
import Derived.Test.YtplflgclomiihaaGreatQW10x
set_option linter.unusedVariables false
set_option linter.unusedSimpArgs false
namespace Go.Proofs.YtplflgclomiihaaGreat.Sv
open Go.RowKit Go.Proofs.YtplflgclomiihaaGreat.W
variable {Γ : Gl}
def EnvAt (E:Env):List Nat → List Value → Prop
 | [],vs=>vs=[]
 | t :: ts,vs=>∃ v vs',vs=v :: vs'∧E t=v∧EnvAt E ts vs'
def putTs:List Nat → List AV → AE
 | t :: ts,a :: r=>(putTs ts r).set t (some a)
 | _,_=>[.nil]
theorem putTs_ne:∀ (ts:List Nat) (as':List AV),putTs ts as' ≠ []
 | [],_=>by simp [putTs]
 | _ :: _,[]=>by simp [putTs]
 | t :: ts,a :: r=>by simp only [putTs]; exact ((Suf.refl (putTs_ne ts r)).set t (some a)).ne
theorem nil_get {t:Nat} {a:AV} (h:Ly.get ([.nil]:AE) t=some a):False:=by
 simp only [Ly.get,Ly.go,Tr.get] at h
 cases hb:Nat.blt t 1000000 <;> rw [hb] at h <;> cases h
theorem putTs_ok {s:Sg} {E:Env}:∀ (ts:List Nat) (as':List AV) (vs:List Value),RelL s as' vs → EnvAt E ts vs → EnvOK s (putTs ts as') E
 | [],_,_,_,_=>fun t a h=>by simp only [putTs] at h; exact (nil_get h).elim
 | _ :: _,[],_,_,_=>fun t a h=>by simp only [putTs] at h; exact (nil_get h).elim
 | t :: ts,a :: r,vs,hr,hE=>by
  obtain ⟨v,vs',h1,h2,rfl⟩:=hr.uncons
  obtain ⟨u,us,e,h3,h4⟩:=hE
  cases e
  intro x b hx
  simp only [putTs] at hx
  rcases Ly.get_set hx with ⟨rfl,e⟩ | ⟨_,e⟩
  ·cases e; rw [h3]; exact h1
  ·exact putTs_ok ts r _ h2 h4 x b e
def hasB (st:Stt):Nat → Nat → Bool
 | _,0=>true
 | k,n + 1=>(match st.h.get k with | some (.c _ _)=>true | _=>false) && hasB st (k + 1) n
section
variable {P : Program} {w0 w : World}
theorem hasB_at {st:Stt}:∀ (n k:Nat),hasB st k n=true → ∀ j,j < n → ∃ et cs,st.h.get (k + j)=some (.c et cs)
 | 0,_,_,j,hj=>by omega
 | n + 1,k,h,j,hj=>by
  simp only [hasB,Bool.and_eq_true] at h
  cases j with
  | zero =>
   have h1:=h.1
   split at h1
   ·rename_i et cs e; exact ⟨et,cs,e⟩
   ·cases h1
  | succ j =>
   obtain ⟨et,cs,e⟩:=hasB_at n (k + 1) h.2 j (by omega)
   exact ⟨et,cs,by rw [show k + (j + 1)=k + 1 + j from by omega]; exact e⟩
theorem hasB_ids {s:Sg} {st:Stt} (hH:Hold Γ s w0 st w):∀ (n k:Nat),hasB st k n=true → ∃ bs:List Nat,Ids s k bs∧bs.length=n∧bs.Nodup∧∀ b ∈ bs,∃ l o p,k ≤ l∧st.h.get l=some o∧s.f l=some p∧there o p∧p.b=b
 | 0,k,_=>⟨[],trivial,rfl,List.nodup_nil,by simp⟩
 | n + 1,k,h=>by
  obtain ⟨et,cs,e⟩:=hasB_at (n + 1) k h 0 (by omega)
  simp only [Nat.add_zero] at e
  simp only [hasB,Bool.and_eq_true] at h
  obtain ⟨bs,h1,h2,h3,h4⟩:=hasB_ids hH n (k + 1) h.2
  obtain ⟨p,hp,_⟩:=hH.obj k _ e
  refine ⟨p.b :: bs,⟨⟨p,hp,rfl⟩,h1⟩,by simp [h2],List.nodup_cons.2 ⟨fun hm=>?_,h3⟩,fun b hb=>?_⟩
  ·obtain ⟨l,o,q,g1,g2,g3,g4,g5⟩:=h4 _ hm
   have:=hH.inj k l _ o p q e g2 hp g3 trivial g4 g5.symm
   omega
  ·rcases List.mem_cons.1 hb with rfl | hb
   ·exact ⟨k,_,p,Nat.le_refl _,e,hp,trivial,rfl⟩
   ·obtain ⟨l,o,q,g1,g2⟩:=h4 b hb
    exact ⟨l,o,q,by omega,g2⟩
theorem ids_free {s s':Sg} {st st':Stt} (hf:s'.f=s.f) (hH:Hold Γ s' w0 st' w):∀ (bs:List Nat) (k:Nat),Ids s k bs → hasB st' k bs.length=true → ∀ b ∈ bs,s'.F b=none∧(w0.heap.size ≤ b ∨ b ∈ s'.X)
 | [],_,_,_,b,hb=>by simp at hb
 | c :: bs,k,hI,hB,b,hb=>by
  obtain ⟨⟨p,h1,rfl⟩,h2⟩:=hI
  obtain ⟨et,cs,e⟩:=hasB_at _ k hB 0 (by simp)
  simp only [Nat.add_zero] at e
  simp only [List.length_cons,hasB,Bool.and_eq_true] at hB
  rcases List.mem_cons.1 hb with rfl | hb
  ·obtain ⟨q,hq,hob⟩:=hH.obj k _ e
   rw [hf,h1] at hq; cases hq
   obtain ⟨g1,g2⟩:=hob.free trivial
   exact ⟨g1,g2.imp id (fun h=>h.1)⟩
  ·exact ids_free (st:=st) hf hH bs (k + 1) h2 hB.2 b hb
def segB (ks:List AK) (es:List D) (st:Stt):Prop:=match retBoxes st ks 0 es with
 | some (ps,st')=>bif hasB st 0 (nBox ks) && hasB st' 0 (nBox ks) then conj ps else False
 | none=>False
def SegPost (G:Fz) (ks:List AK) (es:List D) (bs:List Nat) (w w':World):Prop :=
 Ext bs w w'∧∃ G':Fz,Sub G G'∧(∀ b o,G' b=some o → w'.heap[b]?=some o)∧(∀ b,G b=none → G' b ≠ none → w.heap.size ≤ b)∧BoxesRd G' w' ks es bs
theorem seg_start {F G : Fz} {w : World} {ks : List AK} {ds : List D} {vs : List Value} {bs : List Nat} (hgl : Γ.ok w) (hgb : ∀ b ∈ bs, Γ.n ≤ b) (hF : ∀ b o, F b = some o → w.heap[b]? = some o) (hGF : Sub G F) (hnd : bs.Nodup) (hbF : ∀ b ∈ bs, F b = none) (hargs : ArgsRd F G w ks ds vs bs) :
    ∃ s : Sg, s.X = bs ∧ s.G0 = G ∧ s.F = F ∧ s.G = G ∧ Hold Γ s w (startSt ks ds ⟨[.nil], 0⟩) w ∧ RelL s (startAs ks ds 0) vs ∧ Ids s 0 bs ∧ (startSt ks ds ⟨[.nil], 0⟩).h ≠ [] := by
  have hH0 : Hold Γ ⟨fun _ => none, F, G, bs, G⟩ w ⟨[.nil], 0⟩ w := by
    have hno : ∀ l o, (⟨[.nil], 0⟩ : Stt).h.get l = some o → False := by
      intro l o hl
      simp only [Ly.get, Ly.go, Tr.get] at hl
      cases hb : Nat.blt l 1000000 <;> rw [hb] at hl <;> cases hl
    exact ⟨Ext.refl _ w, hF, hGF, fun _ _ => rfl, fun l o hl => (hno l o hl).elim, fun l l' o o' p p' hl => (hno l o hl).elim, fun b hb => .inl hb, hgl, hgb⟩
  obtain ⟨s, k1, k2, k3, k4, k5, k6, k7⟩ := start_ok ks ds vs bs ⟨fun _ => none, F, G, bs, G⟩ ⟨[.nil], 0⟩ hargs hH0 rfl rfl (fun b hb => ⟨hbF b hb, hb⟩) hnd (fun l o p _ hp => by cases hp) (by simp)
  exact ⟨s, k1.X, k1.G0, k2, k3, k4, k5, k6, k7⟩
theorem segB_ok {s : Sg} {st : Stt} {ks : List AK} {es : List D} {bs : List Nat} (h : segB ks es st) (hH : Hold Γ s w0 st w) (hI : Ids s 0 bs) (hl : bs.length = nBox ks) :
    Ext s.X w0 w ∧ ∃ G' : Fz, Sub s.G G' ∧ (∀ b o, G' b = some o → w.heap[b]? = some o) ∧ (∀ b, G' b ≠ none → s.G0 b ≠ none ∨ w0.heap.size ≤ b) ∧ BoxesRd G' w ks es bs ∧ ∀ b ∈ bs, G' b = none ∧ (w0.heap.size ≤ b ∨ b ∈ s.X) := by
  unfold segB at h
  split at h
  case h_2 => exact h.elim
  rename_i ps st' hr
  cases h2 : (hasB st 0 (nBox ks) && hasB st' 0 (nBox ks)) with
  | false => rw [h2] at h; exact h.elim
  | true =>
  rw [h2] at h
  have h1 : conj ps := h
  simp only [Bool.and_eq_true] at h2
  obtain ⟨s', k1, k2, k3, k4⟩ := retBoxes_ok ks 0 es ps s st st' bs hr (conj_ok h1) hH hI hl
  refine ⟨hH.ext, s'.G, k1.G, fun b o hb => k2.frz b o (k2.gf b o hb), fun b hb => ?_, k4, fun b hb => ?_⟩
  · have := k2.gnew b hb
    rw [k1.G0] at this
    exact this
  · obtain ⟨g1, g2⟩ := ids_free (st := st) k3.f k2 bs 0 hI (by rw [hl]; exact h2.2) b hb
    rw [k1.X] at g2
    refine ⟨?_, g2⟩
    cases hg : s'.G b with
    | none => rfl
    | some o => have := k2.gf b o hg; rw [g1] at this; cases this
def segN (ks:List AK) (es:List D):Out → Prop
 | .norm _ st=>segB ks es st
 | _=>False
theorem segB_has {ks:List AK} {es:List D} {st:Stt} (h:segB ks es st):hasB st 0 (nBox ks)=true:=by
 unfold segB at h
 split at h
 case h_2=>exact h.elim
 rename_i ps st' hr
 cases h2:hasB st 0 (nBox ks) with
 | false=>rw [h2] at h; exact h.elim
 | true=>rfl
theorem BoxesRd.ext {G:Fz} {w w':World} {X:List Nat} (hx:Ext X w w'):∀ (ks:List AK) (es:List D) (bs:List Nat),BoxesRd G w ks es bs → (∀ b ∈ bs,b ∉ X) → BoxesRd G w' ks es bs
 | [],_,_,_,_=>trivial
 | .d _ _ :: r,es,bs,h,hb=>BoxesRd.ext hx r es bs h hb
 | .p _ :: r,es,bs,h,hb=>BoxesRd.ext hx r es bs h hb
 | .o _ _ _ :: _,_,_,h,_=>h.elim
 | .box et ts :: r,es,bs,h,hb=>by
  obtain ⟨b,bs',rfl,⟨cs,h2,h3⟩,h4⟩:=h
  exact ⟨b,bs',rfl,⟨cs,Ext.keepB hx h2 (hb b (by simp)),h3⟩,BoxesRd.ext hx r _ bs' h4 (fun c hc=>hb c (List.mem_cons_of_mem _ hc))⟩
theorem rds1 {G:Fz} {t:DT} {ds:List D} {cs:List Value} (h:Rds G [t] ds cs):Rd G t (nthD ds 0) cs:=by
 simp only [Rds] at h
 obtain ⟨us,vs,rfl,h1,rfl⟩:=h
 rw [List.append_nil]; exact h1
def evPre (P:Program) (S:Sums) (an:Anns) (n:Nat) (f N:Nat):List Code → AE → Stt → (Out → Prop) → Prop
 | [],A,st,k=>k (.norm A st)
 | c :: cs,A,st,k=>evCode P S an n f N c A st fun o=>match o with | .norm A' st'=>evPre P S an n f N cs A' st' k | r=>k r
def seqs:List Code → Code → Code
 | [],T=>T
 | c :: cs,T=>.seq c (seqs cs T)
theorem pre_ok (hm : P.follows .mixedOrders = true) {S : Sums} (hS : SumsOK P Γ S) {an : Anns} (n : Nat) (f N : Nat) {DD : List Deferred} {T : Code} {Q : Exit → Act → World → Prop} : ∀ (cs : List Code) (A : AE) (st : Stt) (k : Out → Prop), evPre P S an n f N cs A st k → A ≠ [] → st.h ≠ [] → ∀ (s : Sg) (w0 : World) (E : Env) (w : World), Hold Γ s w0 st w → EnvOK s A E →
    (∀ A' st' s' E' w', k (.norm A' st') → A' ≠ [] → st'.h ≠ [] → s.le s' → Hold Γ s' w0 st' w' → EnvOK s' A' E' → WX P ⟨N, DD⟩ T Q E' w') →
    (∀ A' st' s' E' w', k (.ret A' st') → s.le s' → Hold Γ s' w0 st' w' → EnvOK s' A' E' → ∀ a, Ok ⟨N, DD⟩ a → envOf a = E' → Q .ret a w') → (∀ i A st, ¬ k (.exit i A st)) → WX P ⟨N, DD⟩ (seqs cs T) Q E w
  | [], A, st, k, h, hA, hn, s, w0, E, w, hH, hE, h1, _, _ => h1 A st s E w h hA hn (Sg.le.refl s) hH hE
  | c :: cs, A, st, k, h, hA, hn, s, w0, E, w, hH, hE, h1, h2, h3 => by
    have h' := code_imp (P := P) (S := S) (an := an) n f N c A st _ (fun o => SufO A st o ∧ (match o with | .norm A' st' => evPre P S an n f N cs A' st' k | r => k r)) h hA hn (fun o ho h => ⟨ho, h⟩)
    refine WX.seq (WP.mono (code_ok hm hS n f N c A st _ h' hA hn s w0 E w hH hE) ?_ ?_ ?_)
    · rintro E' w' ⟨A', st', s', ⟨g0, g1⟩, g2, g3, g4⟩
      exact pre_ok hm hS n f N cs A' st' k g1 g0.1.ne g0.2.1.ne s' w0 E' w' g3 g4 (fun A2 st2 s2 E2 w2 q1 qa qb q2 q3 q4 => h1 A2 st2 s2 E2 w2 q1 qa qb (g2.trans q2) q3 q4) (fun A2 st2 s2 E2 w2 q1 q2 q3 q4 => h2 A2 st2 s2 E2 w2 q1 (g2.trans q2) q3 q4) h3
    · rintro i E' w' ⟨A', st', s', ⟨_, g1⟩, _⟩
      exact (h3 _ _ _ g1).elim
    · rintro E' w' ⟨A', st', s', ⟨_, g1⟩, g2, g3, g4⟩
      exact h2 A' st' s' E' w' g1 g2 g3 g4
end
section
variable {P : Program} {o : Oper} {E : Env} {w : World}
end
end Go.Proofs.YtplflgclomiihaaGreat.Sv
namespace Go.Proofs.YtplflgclomiihaaGreat.Sv
open Go.RowKit Go.Proofs.YtplflgclomiihaaGreat.W
variable {Γ : Gl}
section
variable {P : Program} {w0 w : World}
theorem SegPost.of {s s':Sg} {st:Stt} {ks:List AK} {es:List D} {bs:List Nat} {G:Fz} {w':World} (h:segB ks es st) (hX:s.X=bs) (hG0:s.G0=G) (hG:s.G=G) (hle:s.le s') (hH:Hold Γ s' w st w') (hI:Ids s 0 bs) (hl:bs.length=nBox ks):SegPost G ks es bs w w':=by
 obtain ⟨g1,G',g2,g3,g4,g5,g6⟩:=segB_ok h hH (Ids.mono hle bs 0 hI) hl
 rw [hle.X,hX] at g1
 refine ⟨g1,G',?_,g3,fun b hb hb'=>?_,g5⟩
 ·have:=hle.G
  rw [hG] at this
  exact fun b o hb=>g2 b o (this b o hb)
 ·rcases g4 b hb' with g | g
  ·rw [hle.G0,hG0] at g; exact absurd hb g
  ·exact g
def segX (ks:List AK) (en:Option (List D)) (ex:Nat → Option (List D)):Out → Prop
 | .norm _ st=>match en with
  | some es=>segB ks es st
  | none=>False
 | .exit i _ st=>match ex i with
  | some es=>segB ks es st
  | none=>False
 | .ret _ _=>False
theorem seg_ok2 (hm : P.follows .mixedOrders = true) {S : Sums} (hS : SumsOK P Γ S) {an : Anns} (n : Nat) (f : FuncId) (N : Nat) (c : Code) {ro : Option Nat} {DD : List Deferred} {F G : Fz} {ks : List AK} {ds : List D} {en : Option (List D)} {ex : Nat → Option (List D)} {ts : List Nat} {vs : List Value} {bs : List Nat} {E : Env}
    (hgl : Γ.ok w) (hgb : ∀ b ∈ bs, Γ.n ≤ b) (hF : ∀ b o, F b = some o → w.heap[b]? = some o) (hGF : Sub G F) (hnd : bs.Nodup) (hbF : ∀ b ∈ bs, F b = none) (hargs : ArgsRd F G w ks ds vs bs) (hE : EnvAt E ts vs)
    (h : evCode P S an n f N c (putTs ts (startAs ks ds 0)) (startSt ks ds ⟨[.nil], 0⟩) (segX ks en ex)) :
    WPr ro P ⟨N, DD⟩ c ⟨fun _ w' => ∃ es, en = some es ∧ SegPost G ks es bs w w', fun i _ w' => ∃ es, ex i = some es ∧ SegPost G ks es bs w w', fun _ _ => False⟩ E w := by
  obtain ⟨s, k1, k2, k3, k4, k5, k6, k7, k8⟩ := seg_start hgl hgb hF hGF hnd hbF hargs
  have hl := args_nBox _ _ _ _ hargs
  refine WP.mono (code_ok hm hS n f N c _ _ _ h (putTs_ne _ _) k8 s w E w k5 (putTs_ok ts _ _ k6 hE)) ?_ ?_ ?_
  · rintro E' w' ⟨A', st', s', h1, h2, h3, h4⟩
    simp only [segX] at h1
    split at h1
    · rename_i es; exact ⟨es, rfl, SegPost.of h1 k1 k2 k4 h2 h3 k7 hl⟩
    · exact h1.elim
  · rintro i E' w' ⟨A', st', s', h1, h2, h3, h4⟩
    simp only [segX] at h1
    split at h1
    · rename_i es e; exact ⟨es, e, SegPost.of h1 k1 k2 k4 h2 h3 k7 hl⟩
    · exact h1.elim
  · rintro E' w' ⟨A', st', s', h1, _⟩; exact h1
def isTmp:ResultVar → Bool
 | .tmp _=>true
 | _=>false
def isDat:RK → Bool
 | .d _=>true
 | _=>false
theorem mapM_tmp {tmps : Array Value} : ∀ (rs : List ResultVar), rs.all isTmp = true → ∃ vs, ∀ w : World, (rs.mapM (readVar tmps)).run P w = .ok vs w
  | [], _ => ⟨[], fun w => by simp⟩
  | r :: rs, h => by
    simp only [List.all_cons, Bool.and_eq_true] at h
    obtain ⟨vs, hv⟩ := mapM_tmp (tmps := tmps) rs h.2
    cases r with
    | tmp t => exact ⟨tmps.getD t undef :: vs, fun w => by
        have h1 : (readVar tmps (.tmp t)).run P w = .ok (tmps.getD t undef) w := rfl
        simp only [List.mapM_cons, Sem.run_bind, Sem.run_pure, Result.andThen_ok, hv w, h1]⟩
    | cell a t => simp [isTmp] at h
theorem results_tmp {fn:Func} {tmps:Array Value} (h:fn.results.toList.all isTmp=true):∃ v,∀ w:World,(results fn tmps).run P w=.ok v w:=by
 obtain ⟨vs,hv⟩:=mapM_tmp (P:=P) (tmps:=tmps) _ h
 have e:fn.results.mapM (readVar tmps)=List.toArray <$> fn.results.toList.mapM (readVar tmps):=by
  obtain ⟨rs⟩:=fn.results
  simp
 refine ⟨tupV vs,fun w=>?_⟩
 rw [results_eq,e]
 simp only [Sem.run_bind,Sem.run_map,Sem.run_pure,Result.andThen_ok,hv w]
 congr 1
 match vs with
 | []=>rfl
 | [v]=>rfl
 | v :: u :: r=>simp [tupV]
theorem outs_dat {G:Fz} {w w':World}:∀ (rs:List RK) (ds:List D) (vs:List Value) (os:List Nat),rs.all isDat=true → OutsRd G w rs ds vs os → OutsRd G w' rs ds vs os
 | [],_,_,_,_,h=>h
 | r :: rs,ds,vs,os,hd,h=>by
  simp only [List.all_cons,Bool.and_eq_true] at hd
  obtain ⟨v,vs',cs,o1,o2,h1,h2,h3,h4,h5⟩:=h
  refine ⟨v,vs',cs,o1,o2,h1,h2,h3,?_,outs_dat rs _ _ _ hd.2 h5⟩
  cases r with
  | d t=>simpa only [RkRd] using h4
  | _=>simp [isDat] at hd
def segR (rs:List ResultVar) (P:Program) (res:List RK) (out:List D):Out → Prop
 | .ret A st=>match resAs P A st rs with
  | some as'=>match retOuts st res as' out with
   | some (qs,_)=>conj qs
   | none=>False
  | none=>False
 | _=>False
def RetPost (w w':World) (X:List Nat) (G:Fz) (res:List RK) (out:List D) (v:Value):Prop :=
 ∃ G' os rs,Ext X w w'∧Sub G G'∧(∀ b o,G' b=some o → w'.heap[b]?=some o)∧(∀ b,G b=none → G' b ≠ none → w.heap.size ≤ b)∧os.Nodup∧(∀ b ∈ os,w.heap.size ≤ b∧G' b=none)∧OutsRd G' w' res out rs os∧v=tupV rs
theorem seg_ret (hm : P.follows .mixedOrders = true) {S : Sums} (hS : SumsOK P Γ S) {an : Anns} (n : Nat) (f : FuncId) {fn : Func} {N d : Nat} (c : Code) {F G : Fz} {ks : List AK} {ds out : List D} {res : List RK} {ts : List Nat} {vs : List Value} {bs : List Nat} {E : Env} {R : Value → World → Prop}
    (hN : fn.ntmps = N) (htm : fn.results.toList.all isTmp = true) (hdat : res.all isDat = true) (hgl : Γ.ok w) (hgb : ∀ b ∈ bs, Γ.n ≤ b) (hF : ∀ b o, F b = some o → w.heap[b]? = some o) (hGF : Sub G F) (hnd : bs.Nodup) (hbF : ∀ b ∈ bs, F b = none) (hdG : G d = none) (hd : w.heap[d]? = some (.deferred (some []))) (hbd : d ∉ bs) (hargs : ArgsRd F G w ks ds vs bs) (hE : EnvAt E ts vs)
    (h : evCode P S an n f N c (putTs ts (startAs ks ds 0)) (startSt ks ds ⟨[.nil], 0⟩) (segR fn.results.toList P res out))
    (hR : ∀ v w', RetPost w w' (d :: bs) G res out v → R v w') :
    WX P ⟨N, [W.mark d]⟩ c (PostM P fn R) E w := by
  obtain ⟨s, k1, k2, k3, k4, k5, k6, k7, k8⟩ := seg_start hgl hgb hF hGF hnd hbF hargs
  have hdl : d < w.heap.size := heap_lt hd
  refine WX.of (WP.mono (code_ok hm hS n f N c _ _ _ h (putTs_ne _ _) k8 s w E w k5 (putTs_ok ts _ _ k6 hE)) ?_ ?_ ?_)
  · rintro E' w' ⟨A', st', s', h1, _⟩; exact h1.elim
  · rintro i E' w' ⟨A', st', s', h1, _⟩; exact h1.elim
  · rintro E' w' ⟨A', st', s', h1, h2, h3, h4⟩ a ha he
    have hx : Ext bs w w' := by have := h3.ext; rw [h2.X, k1] at this; exact this
    refine PostM.marked hN ha (Ext.keepB hx hd hbd) fun w'' hx'' => ?_
    rw [he]
    intro tmps hs hte
    subst hte
    simp only [segR] at h1
    split at h1
    case h_2 => exact h1.elim
    rename_i as' has
    split at h1
    case h_2 => exact h1.elim
    rename_i qs st2 hro
    obtain ⟨us, u1, u2⟩ := results_ok (fn := fn) h3 h4 has
    obtain ⟨s2, os, r1, r2⟩ := retOuts_ok res as' out qs s' st' st2 us hro (conj_ok h1) h3 u2
    obtain ⟨v, hv⟩ := results_tmp (P := P) (tmps := tmps) htm
    have e : v = tupV us := by
      have := hv w'
      rw [u1] at this
      cases this; rfl
    subst e
    have hall : s.le s2 := h2.trans r1.le
    have hG0 : s2.G0 = G := hall.G0.trans k2
    have hGd : ∀ b, G b = none → s2.G b ≠ none → w.heap.size ≤ b := fun b hb hb' => by
      rcases r1.hold.gnew b hb' with g | g
      · rw [hG0] at g; exact absurd hb g
      · exact g
    refine ⟨_, hv w'', hR _ _ ⟨s2.G, os, us, (hx.mono (fun y hy => List.mem_cons_of_mem _ hy)).trans (hx''.mono (by simp)), ?_, fun b o hb => Ext.keepB hx'' (r1.hold.frz b o (r1.hold.gf b o hb)) ?_, hGd, r1.nd, fun b hb => ⟨(r1.new b hb).1, ?_⟩, outs_dat res _ _ _ hdat r2, rfl⟩⟩
    · have := hall.G
      rw [k4] at this
      exact this
    · intro hm
      simp only [List.mem_singleton] at hm
      subst hm
      have := hGd b hdG (by rw [hb]; simp)
      omega
    · cases hg2 : s2.G b with
      | none => rfl
      | some o => have := r1.hold.gf b o hg2; rw [(r1.new b hb).2] at this; cases this
def FinPost (G:Fz) (ks:List AK) (es:List D) (bs:List Nat) (res:List RK) (out:List D) (w:World) (v:Value) (w':World):Prop :=
 ∃ G' os rs,Ext bs w w'∧Sub G G'∧(∀ b o,G' b=some o → w'.heap[b]?=some o)∧(∀ b,G b=none → G' b ≠ none → w.heap.size ≤ b)∧os.Nodup∧(∀ b ∈ os,w.heap.size ≤ b∧G' b=none)∧OutsRd G' w' res out rs os∧v=tupV rs∧BoxesRd G' w' ks es bs
def finA (rs:List ResultVar) (P:Program) (ks:List AK) (es:List D) (res:List RK) (out:List D) (A:AE) (st:Stt):Prop:=match resAs P A st rs with
 | some as'=>match retBoxes st ks 0 es with
  | some (ps,st1)=>match retOuts st1 res as' out with
   | some (qs,_)=>conj (ps ++ qs)
   | none=>False
  | none=>False
 | none=>False
def segF (rs:List ResultVar) (P:Program) (ks:List AK) (es:List D) (res:List RK) (out:List D):Out → Prop
 | .ret A st=>finA rs P ks es res out A st
 | .norm A st=>finA rs P ks es res out A st
 | _=>False
theorem fin_ok {fn : Func} {s s' : Sg} {st' : Stt} {A' : AE} {G : Fz} {ks : List AK} {es out : List D} {res : List RK} {bs : List Nat} {E' : Env} {w' : World} {R : Value → World → Prop} (k1 : s.X = bs) (k2 : s.G0 = G) (k4 : s.G = G) (k7 : Ids s 0 bs) (hl : bs.length = nBox ks)
    (h1 : finA fn.results.toList P ks es res out A' st') (h2 : s.le s') (h3 : Hold Γ s' w st' w') (h4 : EnvOK s' A' E') (hR : ∀ v w', FinPost G ks es bs res out w v w' → R v w') : resOf fn P E' w' R := by
  intro tmps hs hte
  subst hte
  unfold finA at h1
  split at h1
  case h_2 => exact h1.elim
  rename_i as' has
  split at h1
  case h_2 => exact h1.elim
  rename_i ps st1 hbx
  split at h1
  case h_2 => exact h1.elim
  rename_i qs st2 hro
  have hps := conj_ok h1
  obtain ⟨us, u1, u2⟩ := results_ok (fn := fn) h3 h4 has
  obtain ⟨s1, b1, b2, b3, b4⟩ := retBoxes_ok ks 0 _ ps s' st' st1 bs hbx (fun p hp => hps p (List.mem_append_left _ hp)) h3 (Ids.mono h2 bs 0 k7) hl
  obtain ⟨s2, os, r1, r2⟩ := retOuts_ok res as' _ qs s1 st1 st2 us hro (fun p hp => hps p (List.mem_append_right _ hp)) b2 (RelL.mono b1 _ _ u2)
  have hall : s.le s2 := h2.trans (b1.trans r1.le)
  have hX : s2.X = bs := hall.X.trans k1
  have hG0 : s2.G0 = G := hall.G0.trans k2
  refine ⟨tupV us, u1, hR _ _ ⟨s2.G, os, us, hX ▸ r1.hold.ext, ?_, fun b o hb => r1.hold.frz b o (r1.hold.gf b o hb), fun b g1 g2 => ?_, r1.nd, fun b hb => ⟨(r1.new b hb).1, ?_⟩, r2, rfl, BoxesRd.mono r1.le.G _ _ _ b4⟩⟩
  · have := hall.G
    rw [k4] at this
    exact this
  · rcases r1.hold.gnew b g2 with g | g
    · rw [hG0] at g; exact absurd g1 g
    · exact g
  · cases hg2 : s2.G b with
    | none => rfl
    | some o => have := r1.hold.gf b o hg2; rw [(r1.new b hb).2] at this; cases this
theorem seg_fin (hm : P.follows .mixedOrders = true) {S : Sums} (hS : SumsOK P Γ S) {an : Anns} (n : Nat) (f : FuncId) {fn : Func} {N : Nat} {DD : List Deferred} (c : Code) {F G : Fz} {ks : List AK} {ds es out : List D} {res : List RK} {ts : List Nat} {vs : List Value} {bs : List Nat} {E : Env} {R : Value → World → Prop}
    (hgl : Γ.ok w) (hgb : ∀ b ∈ bs, Γ.n ≤ b) (hF : ∀ b o, F b = some o → w.heap[b]? = some o) (hGF : Sub G F) (hnd : bs.Nodup) (hbF : ∀ b ∈ bs, F b = none) (hargs : ArgsRd F G w ks ds vs bs) (hE : EnvAt E ts vs)
    (h : evCode P S an n f N c (putTs ts (startAs ks ds 0)) (startSt ks ds ⟨[.nil], 0⟩) (segF fn.results.toList P ks es res out))
    (hR : ∀ v w', FinPost G ks es bs res out w v w' → R v w') :
    WPr none P ⟨N, DD⟩ c ⟨fun E w' => resOf fn P E w' R, fun _ _ _ => False, fun E w' => resOf fn P E w' R⟩ E w := by
  obtain ⟨s, k1, k2, k3, k4, k5, k6, k7, k8⟩ := seg_start hgl hgb hF hGF hnd hbF hargs
  have fin : ∀ A' st' s' E' w', finA fn.results.toList P ks es res out A' st' → s.le s' → Hold Γ s' w st' w' → EnvOK s' A' E' → resOf fn P E' w' R :=
    fun A' st' s' E' w' h1 h2 h3 h4 => fin_ok k1 k2 k4 k7 (args_nBox _ _ _ _ hargs) h1 h2 h3 h4 hR
  refine WP.mono (code_ok hm hS n f N c _ _ _ h (putTs_ne _ _) k8 s w E w k5 (putTs_ok ts _ _ k6 hE)) ?_ ?_ ?_
  · rintro E' w' ⟨A', st', s', h1, h2, h3, h4⟩; exact fin A' st' s' E' w' h1 h2 h3 h4
  · rintro i E' w' ⟨A', st', s', h1, _⟩; exact h1.elim
  · rintro E' w' ⟨A', st', s', h1, h2, h3, h4⟩; exact fin A' st' s' E' w' h1 h2 h3 h4
end
end Go.Proofs.YtplflgclomiihaaGreat.Sv
