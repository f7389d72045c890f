/- Contracts. -/
import Derived.Test.YtplflgclomiihaaGreatQS18x
import Derived.Test.YtplflgclomiihaaGreatProg
set_option linter.unusedVariables false
set_option linter.unusedSimpArgs false
namespace Go.Proofs.YtplflgclomiihaaGreat.XT
open Go Go.RowKit Go.Proofs.YtplflgclomiihaaGreat.Sv
set_option maxRecDepth 100000
theorem mo:Tryz.prog.follows .mixedOrders=true:=by kernel_rfl
def okId (n:Int):Bool:=decide (1 ≤ n) && decide (n ≤ 64)
def okAt (xs:List D) (j:Nat):Bool:=okId (nthD xs j).int && (decide (j=0) || decide ((nthD xs (j - 1)).int < (nthD xs j).int))
def idsB (xs:List D):Bool:=(List.range xs.length).all (okAt xs)
def idC:Con:=⟨[.d false (.i .i64)],fun ds=>[],[.d .b],fun ds=>(fun (a:D)=>[.b (okId a.int)]) (nthD ds 0),fun ds=>[]⟩
def idC_an:Anns:=fun _ _=>none
theorem idC_vc (a:D):((decide (1 ≤ a.int) && decide (a.int ≤ 64))=okId a.int)=conGoal Tryz.prog noS idC_an 200 65 idC [a]:=by kernel_rfl
theorem idC_ok:ConOK Tryz.prog Gl.none 65 idC:=con_of mo (noS_ok _) (an:=idC_an) 200 fun ds hl hp=>by
 obtain ⟨a,rfl⟩:=len1 hl
 rw [← idC_vc]
 rfl
def risC:Con:=⟨[.d false (.l (.i .i64))],fun ds=>(fun (a:D)=>[a.list.length < 4611686018427387904]) (nthD ds 0),[.d .b],fun ds=>(fun (a:D)=>[.b (idsB a.list)]) (nthD ds 0),fun ds=>[]⟩
def risC_an:Anns:=fun f i=>match f,i with
 | 71,2=>some fun A st=>match A.get 5 with
  | some (.dl _ _ xs)=>⟨Nat,fun k=>[(7,.v (.int .i64 k))],fun _=>[],fun k=>k ≤ xs.length∧∀ j,j < k → okAt xs j=true,fun k=>xs.length - k⟩
  | _=>LAnn.bad
 | _,_=>none
theorem risC_vc (a:D):(∃ (g:Nat),EqI 0 (↑g:Int)∧(g ≤ a.list.length∧∀ (j:Nat),j < g → okAt a.list j=true)∧∀ (g:Nat),(g ≤ a.list.length∧∀ (j:Nat),j < g → okAt a.list j=true) → bif decide ((↑g:Int) < (↑a.list.length:Int)) then Idx (↑g:Int) a.list.length∧((!okId (nthD a.list g).int)=false → decide (0 < (↑g:Int))=true → I64 ((↑g:Int) - 1)∧Idx ((↑g:Int) - 1) a.list.length)∧bif !okId (nthD a.list g).int || decide (0 < (↑g:Int)) && decide ((nthD a.list g).int ≤ (nthD a.list ((↑g:Int) - 1).toNat).int) then false=idsB a.list else I64 ((↑g:Int) + 1)∧∃ (g_1:Nat),(↑g:Int) + 1=(↑g_1:Int)∧(g_1 ≤ a.list.length∧∀ (j:Nat),j < g_1 → okAt a.list j=true)∧a.list.length - g_1 < a.list.length - g else true=idsB a.list)=conGoal Tryz.prog (addS 65 idC noS) risC_an 200 71 risC [a]:=by kernel_rfl
theorem risC_ok:ConOK Tryz.prog Gl.none 71 risC:=con_of mo (addS_ok idC_ok (noS_ok _)) (an:=risC_an) 200 fun ds hl hp=>by
 obtain ⟨a,rfl⟩:=len1 hl
 rw [← risC_vc]
 have p0:a.list.length < 4611686018427387904:=hp _ (.head _)
 refine ⟨0,rfl,⟨Nat.zero_le _,by omega⟩,fun g ⟨h1,h2⟩=>cond_of (fun c=>?_) (fun c=>?_)⟩
 ·have c:g < a.list.length:=by simpa using c
  refine ⟨⟨by omega,by omega⟩,by simp; omega,cond_of (fun e=>?_) (fun e=>?_)⟩
  ·symm
   rw [idsB,List.all_eq_false]
   refine ⟨g,by simpa using c,?_⟩
   have:Int.toNat ((g:Int) - 1)=g - 1:=by omega
   rw [this] at e
   grind [okAt]
  ·refine ⟨⟨by omega,by omega⟩,g + 1,by omega,⟨by omega,fun j hj=>?_⟩,by omega⟩
   have:Int.toNat ((g:Int) - 1)=g - 1:=by omega
   rw [this] at e
   by_cases hjg:j=g
   ·grind [okAt]
   ·exact h2 j (by omega)
 ·have c:g=a.list.length:=by simp at c; omega
  symm
  rw [idsB,List.all_eq_true]
  intro j hj
  exact h2 j (by simpa [c] using hj)
def memC:Con:=⟨[.d false (.l (.i .i64))],fun ds=>(fun (a:D)=>[a.list.length < 4611686018427387904]) (nthD ds 0),[.d .b],fun ds=>(fun (a:D)=>[.b (decide (0 < a.list.length) && idsB a.list)]) (nthD ds 0),fun ds=>[]⟩
def memC_an:Anns:=fun _ _=>none
theorem memC_vc (a:D):((decide (0 < (↑a.list.length:Int))=true → a.list.length < 4611686018427387904)∧(decide (0 < (↑a.list.length:Int)) && idsB a.list)=(decide (0 < a.list.length) && idsB a.list))=conGoal Tryz.prog (addS 71 risC noS) memC_an 200 66 memC [a]:=by kernel_rfl
theorem memC_ok:ConOK Tryz.prog Gl.none 66 memC:=con_of mo (addS_ok risC_ok (noS_ok _)) (an:=memC_an) 200 fun ds hl hp=>by
 obtain ⟨a,rfl⟩:=len1 hl
 rw [← memC_vc]
 have p0:a.list.length < 4611686018427387904:=hp _ (.head _)
 exact ⟨fun _=>p0,by simp⟩
def ints (xs:List D):List Int:=xs.map D.int
theorem ints_len (xs:List D):(ints xs).length=xs.length:=by simp [ints]
theorem ints_eq {xs ys:List D}:decide (ints xs=ints ys)=true ↔ xs.length=ys.length∧∀ j,j < xs.length → (nthD xs j).int=(nthD ys j).int:=by
 rw [decide_eq_true_eq]
 constructor
 ·intro h
  have hl:xs.length=ys.length:=by rw [← ints_len xs,h,ints_len]
  refine ⟨hl,fun j hj=>?_⟩
  have:=congrArg (fun l=>l[j]?) h
  simpa [ints,get_nthD hj,get_nthD (hl ▸ hj)] using this
 ·rintro ⟨hl,h⟩
  apply List.ext_getElem?
  intro j
  by_cases hj:j < xs.length
  ·simp [ints,get_nthD hj,get_nthD (hl ▸ hj),h j hj]
  ·rw [List.getElem?_eq_none (by rw [ints_len]; omega),List.getElem?_eq_none (by rw [ints_len]; omega)]
def eqC:Con:=⟨[.d false (.l (.i .i64)),.d false (.l (.i .i64))],fun ds=>(fun (a:D) (b:D)=>[a.list.length < 4611686018427387904]) (nthD ds 0) (nthD ds 1),[.d .b],fun ds=>(fun (a:D) (b:D)=>[.b (decide (ints a.list=ints b.list))]) (nthD ds 0) (nthD ds 1),fun ds=>[]⟩
def eqC_an:Anns:=fun f i=>match f,i with
 | 69,4=>some fun A st=>match A.get 11,A.get 1 with
  | some (.dl _ _ xs),some (.dl _ _ ys)=>⟨Nat,fun k=>[(13,.v (.int .i64 k))],fun _=>[],fun k=>k ≤ xs.length∧∀ j,j < k → (nthD xs j).int=(nthD ys j).int,fun k=>xs.length - k⟩
  | _,_=>LAnn.bad
 | _,_=>none
theorem eqC_vc (a b:D):(bif !decide ((↑a.list.length:Int)=(↑b.list.length:Int)) then false=decide (ints a.list=ints b.list) else ∃ (g:Nat),EqI 0 (↑g:Int)∧(g ≤ a.list.length∧∀ (j:Nat),j < g → (nthD a.list j).int=(nthD b.list j).int)∧∀ (g:Nat),(g ≤ a.list.length∧∀ (j:Nat),j < g → (nthD a.list j).int=(nthD b.list j).int) → bif decide ((↑g:Int) < (↑a.list.length:Int)) then Idx (↑g:Int) a.list.length∧Idx (↑g:Int) b.list.length∧bif !decide ((nthD a.list g).int=(nthD b.list g).int) then false=decide (ints a.list=ints b.list) else I64 ((↑g:Int) + 1)∧∃ (g_1:Nat),(↑g:Int) + 1=(↑g_1:Int)∧(g_1 ≤ a.list.length∧∀ (j:Nat),j < g_1 → (nthD a.list j).int=(nthD b.list j).int)∧a.list.length - g_1 < a.list.length - g else true=decide (ints a.list=ints b.list))=conGoal Tryz.prog noS eqC_an 200 69 eqC [a,b]:=by kernel_rfl
theorem eqC_ok:ConOK Tryz.prog Gl.none 69 eqC:=con_of mo (noS_ok _) (an:=eqC_an) 200 fun ds hl hp=>by
 obtain ⟨a,b,rfl⟩:=len2 hl
 rw [← eqC_vc]
 have p0:a.list.length < 4611686018427387904:=hp _ (.head _)
 refine cond_of (fun c=>?_) (fun c=>?_)
 ·simp at c
  have:¬ (decide (ints a.list=ints b.list)=true):=fun h=>by have:=(ints_eq.1 h).1; omega
  simpa using this
 ·simp at c
  refine ⟨0,rfl,⟨Nat.zero_le _,by omega⟩,fun g ⟨h1,h2⟩=>cond_of (fun c=>?_) (fun c=>?_)⟩
  ·simp at c
   refine ⟨⟨by omega,by omega⟩,⟨by omega,by omega⟩,cond_of (fun e=>?_) (fun e=>?_)⟩
   ·simp at e
    have:¬ (decide (ints a.list=ints b.list)=true):=fun h=>e ((ints_eq.1 h).2 g c)
    simpa using this
   ·simp at e
    refine ⟨⟨by omega,by omega⟩,g + 1,by omega,⟨by omega,fun j hj=>?_⟩,by omega⟩
    by_cases hj':j=g
    ·rw [hj']; exact e
    ·exact h2 j (by omega)
  ·simp at c
   exact (ints_eq.2 ⟨by omega,fun j hj=>h2 j (by omega)⟩).symm
def entT:DT:=.t [(.i .u64),(.i .u8),.s,(.l (.i .i64))]
def peerT:DT:=.t [(.i .i64),(.l (.i .i64)),(.i .u64),(.i .i64),(.i .u8),(.i .i64),(.i .u64),(.i .u64),(.l (.i .i64)),.s,(.l entT),(.i .u64),(.i .i64),(.i .i64),(.l (.i .i64)),(.l (.t [(.i .i64),(.i .u64),(.i .u64)])),(.i .u64),(.l (.t [(.i .u64),(.i .u64),(.l (.i .i64))]))]
def u64 (n:Int):Int:=IntKind.u64.wrap n
def lastIf (b:Int) (log:List D):Int:=if log.length=0 then b else u64 (b + u64 log.length)
def lastTf (b:Int) (log:List D):Int:=if log.length=0 then b else (D.int (D.fld (nthD log (log.length - 1)) 0))
abbrev U64 (n:Int):Prop:=0 ≤ n∧n ≤ 18446744073709551615
theorem u64_id {n:Int} (h:U64 n):u64 n=n:=by unfold u64; simp only [IntKind.wrap,IntKind.signed,IntKind.bits]; simp; omega
theorem u64_in (n:Int):U64 (u64 n):=by unfold u64; simp only [IntKind.wrap,IntKind.signed,IntKind.bits]; simp; omega
theorem u64_eq (n:Int):∃ q:Int,u64 n=n - 18446744073709551616 * q:=by
 unfold u64; simp only [IntKind.wrap,IntKind.signed,IntKind.bits]; simp
 exact ⟨n / 18446744073709551616,by omega⟩
def termB (p:D) (i:Int):Bool:=!(decide (i < (D.int (D.fld p 6))) || decide (((lastIf (D.int (D.fld p 6)) (D.list (D.fld p 10)))) < i))
def termI (p:D) (i:Int):Int:=bif termB p i then (if i=(D.int (D.fld p 6)) then (D.int (D.fld p 7)) else (D.int (D.fld (nthD ((D.list (D.fld p 10))) (i - (D.int (D.fld p 6)) - 1).toNat) 0))) else 0
def lastC:Con:=⟨[.d false peerT],fun ds=>(fun (a:D)=>[((D.list (D.fld a 10))).length < 4611686018427387904]) (nthD ds 0),[.d (.i .u64),.d (.i .u64)],fun ds=>(fun (a:D)=>[.i (((lastIf (D.int (D.fld a 6)) (D.list (D.fld a 10))))),.i (((lastTf (D.int (D.fld a 7)) (D.list (D.fld a 10)))))]) (nthD ds 0),fun ds=>[]⟩
def lastC_an:Anns:=fun _ _=>none
theorem lastC_vc (a:D):(bif decide (0 < (↑(a.fld 10).list.length:Int)) then I64 ((↑(a.fld 10).list.length:Int) - 1)∧Idx ((↑(a.fld 10).list.length:Int) - 1) (a.fld 10).list.length∧IntKind.u64.wrap ((a.fld 6).int + IntKind.u64.wrap (↑(a.fld 10).list.length:Int))=lastIf (a.fld 6).int (a.fld 10).list∧((nthD (a.fld 10).list ((↑(a.fld 10).list.length:Int) - 1).toNat).fld 0).int=lastTf (a.fld 7).int (a.fld 10).list else (a.fld 6).int=lastIf (a.fld 6).int (a.fld 10).list∧(a.fld 7).int=lastTf (a.fld 7).int (a.fld 10).list)=conGoal Tryz.prog noS lastC_an 200 68 lastC [a]:=by kernel_rfl
theorem lastC_ok:ConOK Tryz.prog Gl.none 68 lastC:=con_of mo (noS_ok _) (an:=lastC_an) 200 fun ds hl hp=>by
 obtain ⟨a,rfl⟩:=len1 hl
 rw [← lastC_vc]
 have p0:((D.list (D.fld a 10))).length < 4611686018427387904:=hp _ (.head _)
 refine cond_of (fun c=>?_) (fun c=>?_)
 ·have c:0 < ((D.list (D.fld a 10))).length:=by simpa using c
  have hn:¬ ((D.list (D.fld a 10))).length=0:=by omega
  refine ⟨⟨by omega,by omega⟩,⟨by omega,by omega⟩,?_,?_⟩
  ·rw [lastIf,if_neg hn]; rfl
  ·rw [lastTf,if_neg hn]
   have:Int.toNat ((((D.list (D.fld a 10))).length:Int) - 1)=((D.list (D.fld a 10))).length - 1:=by omega
   rw [this]
 ·have c:((D.list (D.fld a 10))).length=0:=by simpa using c
  exact ⟨by rw [lastIf,if_pos c],by rw [lastTf,if_pos c]⟩
def termC:Con:=⟨[.d false peerT,.d false (.i .u64)],fun ds=>(fun (a:D) (b:D)=>[((D.list (D.fld a 10))).length < 4611686018427387904,U64 ((D.int (D.fld a 6))),U64 b.int]) (nthD ds 0) (nthD ds 1),[.d (.i .u64),.d .b],fun ds=>(fun (a:D) (b:D)=>[.i (termI a b.int),.b (termB a b.int)]) (nthD ds 0) (nthD ds 1),fun ds=>[]⟩
def termC_an:Anns:=fun _ _=>none
theorem termC_vc (a b:D):((a.fld 10).list.length < 4611686018427387904∧bif decide (b.int < (a.fld 6).int) || decide (lastIf (a.fld 6).int (a.fld 10).list < b.int) then EqI 0 (termI a b.int)∧false=termB a b.int else bif decide (b.int=(a.fld 6).int) then (a.fld 7).int=termI a b.int∧true=termB a b.int else Idx (IntKind.u64.wrap (IntKind.u64.wrap (b.int - (a.fld 6).int) - 1)) (a.fld 10).list.length∧((nthD (a.fld 10).list (IntKind.u64.wrap (IntKind.u64.wrap (b.int - (a.fld 6).int) - 1)).toNat).fld 0).int=termI a b.int∧true=termB a b.int)=conGoal Tryz.prog (addS 68 lastC noS) termC_an 200 57 termC [a,b]:=by kernel_rfl
theorem termC_ok:ConOK Tryz.prog Gl.none 57 termC:=con_of mo (addS_ok lastC_ok (noS_ok _)) (an:=termC_an) 200 fun ds hl hp=>by
 obtain ⟨a,b,rfl⟩:=len2 hl
 rw [← termC_vc]
 have p0:((D.list (D.fld a 10))).length < 4611686018427387904:=hp _ (.head _)
 have p1:U64 ((D.int (D.fld a 6))):=hp _ (.tail _ (.head _))
 have p2:U64 b.int:=hp _ (.tail _ (.tail _ (.head _)))
 refine ⟨p0,cond_of (fun c=>?_) (fun c=>?_)⟩
 ·have hb:termB a b.int=false:=by unfold termB; exact congrArg not c
  exact ⟨by rw [termI,hb]; rfl,hb.symm⟩
 ·have hb:termB a b.int=true:=by unfold termB; exact congrArg not c
  have c':(D.int (D.fld a 6)) ≤ b.int∧b.int ≤ ((lastIf (D.int (D.fld a 6)) (D.list (D.fld a 10)))):=by simpa [termB] using hb
  refine cond_of (fun e=>?_) (fun e=>?_)
  ·exact ⟨by rw [termI,hb]; simp at e; simp [e],hb.symm⟩
  ·have e:¬ b.int=(D.int (D.fld a 6)):=by simpa using e
   have hx:IntKind.u64.wrap (IntKind.u64.wrap (b.int - (a.fld 6).int) - 1)=b.int - (D.int (D.fld a 6)) - 1:=by
    have h1:IntKind.u64.wrap (b.int - (a.fld 6).int)=b.int - (D.int (D.fld a 6)):=u64_id ⟨by omega,by omega⟩
    rw [h1]; exact u64_id ⟨by omega,by omega⟩
   have hl:b.int - (D.int (D.fld a 6)) ≤ ((D.list (D.fld a 10))).length:=by
    have hlen:U64 (((D.list (D.fld a 10))).length:Int):=⟨by omega,by omega⟩
    have h2:=c'.2
    unfold lastIf at h2
    split at h2
    ·omega
    ·rw [u64_id hlen] at h2
     obtain ⟨q,hq⟩:=u64_eq ((D.int (D.fld a 6)) + ((D.list (D.fld a 10))).length)
     have:=u64_in ((D.int (D.fld a 6)) + ((D.list (D.fld a 10))).length)
     have hq0:0 ≤ q:=by omega
     omega
   rw [hx]
   exact ⟨⟨by omega,by omega⟩,by rw [termI,hb]; simp [e],hb.symm⟩
def entKind (b:Bool) (e:D):Bool:=if (D.int (D.fld e 1))=0 then b && decide (((D.list (D.fld e 3))).length=0) else if (D.int (D.fld e 1))=1 then b && decide ((D.str (D.fld e 2))=ByteArray.empty) && decide (((D.list (D.fld e 3))).length=0) else if (D.int (D.fld e 1))=2 then b && decide ((D.str (D.fld e 2))=ByteArray.empty) && (decide (0 < ((D.list (D.fld e 3))).length) && idsB ((D.list (D.fld e 3)))) else false
def entB (fr to:Int) (e:D):Bool:=entKind (decide (fr ≤ (D.int (D.fld e 0))) && decide ((D.int (D.fld e 0)) ≤ to)) e
def entsB:List D → Int → Int → Bool
 | [],_,_=>true
 | e :: r,fr,to=>entB fr to e && entsB r ((D.int (D.fld e 0))) to
def entsC:Con:=⟨[.d false (.l entT),.d false (.i .u64),.d false (.i .u64)],fun ds=>(fun (a:D) (b:D) (c:D)=>[a.list.length < 4611686018427387904,∀ e ∈ a.list,((D.list (D.fld e 3))).length < 4611686018427387904]) (nthD ds 0) (nthD ds 1) (nthD ds 2),[.d .b],fun ds=>(fun (a:D) (b:D) (c:D)=>[.b (entsB a.list (max b.int 1) c.int)]) (nthD ds 0) (nthD ds 1) (nthD ds 2),fun ds=>[]⟩
def entsC_an:Anns:=fun f i=>match f,i with
 | 67,3=>some fun A st=>match A.get 12,A.get 1,A.get 2 with
  | some (.dl _ _ xs),some (.v (.int _ f0)),some (.v (.int _ to))=>⟨Nat × Int,fun g=>[(14,.v (.int .i64 g.1)),(1,.v (.int .u64 g.2))],fun _=>[],fun g=>g.1 ≤ xs.length∧entsB xs f0 to=entsB (xs.drop g.1) g.2 to,fun g=>xs.length - g.1⟩
  | _,_,_=>LAnn.bad
 | 67,1000014=>some fun A st=>match A.get 12,A.get 14,A.get 9 with
  | some (.dl _ _ xs),some (.v (.int _ j)),some (.v (.bool b))=>⟨Bool,fun g=>[(9,.v (.bool g))],fun _=>[],fun g=>g=entKind b (nthD xs j.toNat),fun _=>0⟩
  | _,_,_=>LAnn.bad
 | _,_=>none
theorem entsC_vc (a b c:D):(∃ (g:Nat × Int),EqI 0 (↑g.fst:Int)∧max b.int 1=g.snd∧(g.fst ≤ a.list.length∧entsB a.list (max b.int 1) c.int=entsB (List.drop g.fst a.list) g.snd c.int)∧∀ (g:Nat × Int),g.fst ≤ a.list.length∧entsB a.list (max b.int 1) c.int=entsB (List.drop g.fst a.list) g.snd c.int → bif decide ((↑g.fst:Int) < (↑a.list.length:Int)) then Idx (↑g.fst:Int) a.list.length∧(bif decide (((nthD a.list g.fst).fld 1).int=0) then ∃ (g_1:Bool),(decide (g.snd ≤ ((nthD a.list g.fst).fld 0).int) && decide (((nthD a.list g.fst).fld 0).int ≤ c.int) && decide ((↑((nthD a.list g.fst).fld 3).list.length:Int)=0))=g_1∧g_1=entKind (decide (g.snd ≤ ((nthD a.list g.fst).fld 0).int) && decide (((nthD a.list g.fst).fld 0).int ≤ c.int)) (nthD a.list g.fst) else bif decide (((nthD a.list g.fst).fld 1).int=1) then ∃ (g_1:Bool),(decide (g.snd ≤ ((nthD a.list g.fst).fld 0).int) && decide (((nthD a.list g.fst).fld 0).int ≤ c.int) && decide (((nthD a.list g.fst).fld 2).str=ByteArray.mk #[]) && decide ((↑((nthD a.list g.fst).fld 3).list.length:Int)=0))=g_1∧g_1=entKind (decide (g.snd ≤ ((nthD a.list g.fst).fld 0).int) && decide (((nthD a.list g.fst).fld 0).int ≤ c.int)) (nthD a.list g.fst) else bif decide (((nthD a.list g.fst).fld 1).int=2) then ((decide (g.snd ≤ ((nthD a.list g.fst).fld 0).int) && decide (((nthD a.list g.fst).fld 0).int ≤ c.int) && decide (((nthD a.list g.fst).fld 2).str=ByteArray.mk #[]))=true → ((nthD a.list g.fst).fld 3).list.length < 4611686018427387904)∧∃ (g_1:Bool),(decide (g.snd ≤ ((nthD a.list g.fst).fld 0).int) && decide (((nthD a.list g.fst).fld 0).int ≤ c.int) && decide (((nthD a.list g.fst).fld 2).str=ByteArray.mk #[]) && (decide (0 < ((nthD a.list g.fst).fld 3).list.length) && idsB ((nthD a.list g.fst).fld 3).list))=g_1∧g_1=entKind (decide (g.snd ≤ ((nthD a.list g.fst).fld 0).int) && decide (((nthD a.list g.fst).fld 0).int ≤ c.int)) (nthD a.list g.fst) else ∃ (g_1:Bool),false=g_1∧g_1=entKind (decide (g.snd ≤ ((nthD a.list g.fst).fld 0).int) && decide (((nthD a.list g.fst).fld 0).int ≤ c.int)) (nthD a.list g.fst))∧∀ (g_1:Bool),g_1=entKind (decide (g.snd ≤ ((nthD a.list g.fst).fld 0).int) && decide (((nthD a.list g.fst).fld 0).int ≤ c.int)) (nthD a.list g.fst) → bif !g_1 then false=entsB a.list (max b.int 1) c.int else I64 ((↑g.fst:Int) + 1)∧∃ (g_2:Nat × Int),(↑g.fst:Int) + 1=(↑g_2.fst:Int)∧((nthD a.list g.fst).fld 0).int=g_2.snd∧(g_2.fst ≤ a.list.length∧entsB a.list (max b.int 1) c.int=entsB (List.drop g_2.fst a.list) g_2.snd c.int)∧a.list.length - g_2.fst < a.list.length - g.fst else true=entsB a.list (max b.int 1) c.int)=conGoal Tryz.prog (addS 66 memC noS) entsC_an 200 67 entsC [a,b,c]:=by kernel_rfl
theorem entsC_ok:ConOK Tryz.prog Gl.none 67 entsC:=con_of mo (addS_ok memC_ok (noS_ok _)) (an:=entsC_an) 200 fun ds hl hp=>by
 obtain ⟨a,b,c,rfl⟩:=len3 hl
 rw [← entsC_vc]
 have p0:a.list.length < 4611686018427387904:=hp _ (.head _)
 have p1:∀ e ∈ a.list,((D.list (D.fld e 3))).length < 4611686018427387904:=hp _ (.tail _ (.head _))
 refine ⟨(0,max b.int 1),rfl,rfl,⟨Nat.zero_le _,by simp⟩,fun g ⟨h1,h2⟩=>cond_of (fun c1=>?_) (fun c1=>?_)⟩
 ·have c1:g.1 < a.list.length:=by simpa using c1
  have hd:entsB a.list (max b.int 1) c.int=(entB g.2 c.int (nthD a.list g.1) && entsB (a.list.drop (g.1 + 1)) ((D.int (D.fld (nthD a.list g.1) 0))) c.int):=by
   rw [h2,List.drop_eq_getElem_cons c1]
   have:a.list[g.1]=nthD a.list g.1:=by
    have:=get_nthD c1
    rw [List.getElem?_eq_getElem c1] at this
    exact Option.some.inj this
   rw [this]; rfl
  refine ⟨⟨by omega,by omega⟩,cond_of (fun e0=>?_) (fun e0=>cond_of (fun e1=>?_) (fun e1=>cond_of (fun e2=>⟨fun _=>?_,?_⟩) (fun e2=>?_))),fun g1 hg1=>cond_of (fun n=>?_) (fun n=>⟨⟨by omega,by omega⟩,(g.1 + 1,(D.int (D.fld (nthD a.list g.1) 0))),by simp,rfl,⟨by simp; omega,?_⟩,by simp; omega⟩)⟩
  ·exact ⟨_,rfl,by simp at e0; simp [entKind,e0]⟩
  ·exact ⟨_,rfl,by simp at e0 e1; simp [entKind,e1]; rfl⟩
  ·exact p1 _ (List.mem_of_getElem? (get_nthD c1))
  ·exact ⟨_,rfl,by simp at e0 e1 e2; simp [entKind,e2]; rfl⟩
  ·exact ⟨_,rfl,by simp at e0 e1 e2; simp [entKind,e0,e1,e2]⟩
  ·have:g1=false:=by simpa using n
   rw [hd,entB,← hg1,this]; rfl
  ·have:g1=true:=by simpa using n
   rw [hd,entB,← hg1,this]; rfl
 ·have c1:g.1=a.list.length:=by simp at c1; omega
  rw [h2,c1,List.drop_length]; rfl
end Go.Proofs.YtplflgclomiihaaGreat.XT
