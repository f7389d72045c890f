/- My texts, cut to what this claim needs and merged. -/
import Derived.Test.YtiaicihpocoeiaaB1
import Derived.Test.YtiaicihpocoeiaaProg
namespace Go.Proofs.Ytiaicihpocoeiaa.T
open W Go.RowKit
set_option maxRecDepth 100000
set_option maxHeartbeats 400000
theorem nz1:(1:Nat) ≠ 0:=by decide
theorem nz3:(3:Nat) ≠ 0:=by decide
theorem nz4:(4:Nat) ≠ 0:=by decide
theorem nz18:(18:Nat) ≠ 0:=by decide
structure EntryD where
  Term:Int
  Kind:Int
  Data:ByteArray
  Members:List Int
deriving Inhabited
def EntryD.InR (x:EntryD):Prop:=inK .u64 x.Term ∧ inK .u8 x.Kind ∧ x.Data.size ≤ maxLen
def entryR:Rep EntryD where
  sz:=4
  rd:=fun X w cs x=>∃ v3,cs = [.int .u64 (x.Term),.int .u8 (x.Kind),.string (x.Data),v3] ∧ Sl (intR .i64) X w v3 x.Members ∧ x.InR
  len:=by rintro _ _ _ _ ⟨v3,rfl,h3,hk⟩; rfl
  one:=by
    rintro _ _ _ _ ⟨v3,rfl,h3,hk⟩ u hu
    simp only [List.mem_cons,List.not_mem_nil,or_false] at hu
    rcases hu with rfl | rfl | rfl | rfl <;> first | rfl | exact Sl.one (by assumption)
  ext:=fun ⟨v3,h,h3,hk⟩ k=>⟨v3,h,h3.ext k,hk⟩
  mono:=fun ⟨v3,h,h3,hk⟩ k=>⟨v3,h,h3.mono k,hk⟩
  new:=fun ⟨v3,h,h3,hk⟩ k=>⟨v3,h,Sl.new nz1 h3 k,hk⟩
structure FollowD where
  Id:Int
  Next:Int
  Match:Int
deriving Inhabited
def FollowD.InR (x:FollowD):Prop:=inK .i64 x.Id ∧ inK .u64 x.Next ∧ inK .u64 x.Match
def followR:Rep FollowD where
  sz:=3
  rd:=fun X w cs x=>cs = [.int .i64 (x.Id),.int .u64 (x.Next),.int .u64 (x.Match)] ∧ x.InR
  len:=by rintro _ _ _ _ ⟨rfl,hk⟩; rfl
  one:=by
    rintro _ _ _ _ ⟨rfl,hk⟩ u hu
    simp only [List.mem_cons,List.not_mem_nil,or_false] at hu
    rcases hu with rfl | rfl | rfl <;> first | rfl | exact Sl.one (by assumption)
  ext:=fun ⟨h,hk⟩ k=>⟨h,hk⟩
  mono:=fun ⟨h,hk⟩ k=>⟨h,hk⟩
  new:=fun ⟨h,hk⟩ k=>⟨h,hk⟩
structure ReadD where
  Round:Int
  Index:Int
  Acks:List Int
deriving Inhabited
def ReadD.InR (x:ReadD):Prop:=inK .u64 x.Round ∧ inK .u64 x.Index
def readR:Rep ReadD where
  sz:=3
  rd:=fun X w cs x=>∃ v2,cs = [.int .u64 (x.Round),.int .u64 (x.Index),v2] ∧ Sl (intR .i64) X w v2 x.Acks ∧ x.InR
  len:=by rintro _ _ _ _ ⟨v2,rfl,h2,hk⟩; rfl
  one:=by
    rintro _ _ _ _ ⟨v2,rfl,h2,hk⟩ u hu
    simp only [List.mem_cons,List.not_mem_nil,or_false] at hu
    rcases hu with rfl | rfl | rfl <;> first | rfl | exact Sl.one (by assumption)
  ext:=fun ⟨v2,h,h2,hk⟩ k=>⟨v2,h,h2.ext k,hk⟩
  mono:=fun ⟨v2,h,h2,hk⟩ k=>⟨v2,h,h2.mono k,hk⟩
  new:=fun ⟨v2,h,h2,hk⟩ k=>⟨v2,h,Sl.new nz1 h2 k,hk⟩
structure PeerD where
  Id:Int
  Members:List Int
  Term:Int
  Vote:Int
  Role:Int
  Lead:Int
  Base:Int
  BaseTerm:Int
  BaseMembers:List Int
  Snap:ByteArray
  Log:List EntryD
  Commit:Int
  Idle:Int
  Wait:Int
  Votes:List Int
  Follows:List FollowD
  Round:Int
  Reads:List ReadD
deriving Inhabited
def PeerD.InR (x:PeerD):Prop:=inK .i64 x.Id ∧ inK .u64 x.Term ∧ inK .i64 x.Vote ∧ inK .u8 x.Role ∧ inK .i64 x.Lead ∧ inK .u64 x.Base ∧ inK .u64 x.BaseTerm ∧ x.Snap.size ≤ maxLen ∧ inK .u64 x.Commit ∧ inK .i64 x.Idle ∧ inK .i64 x.Wait ∧ inK .u64 x.Round
abbrev peerC (x:PeerD) (a b c d e f:Value):List Value:=[.int .i64 x.Id,a,.int .u64 x.Term,.int .i64 x.Vote,.int .u8 x.Role,.int .i64 x.Lead,.int .u64 x.Base,.int .u64 x.BaseTerm,b,.string x.Snap,c,.int .u64 x.Commit,.int .i64 x.Idle,.int .i64 x.Wait,d,e,.int .u64 x.Round,f]
abbrev peerA (x:PeerD) (a b c d e f:Value):Array Value:=#[.int .i64 x.Id,a,.int .u64 x.Term,.int .i64 x.Vote,.int .u8 x.Role,.int .i64 x.Lead,.int .u64 x.Base,.int .u64 x.BaseTerm,b,.string x.Snap,c,.int .u64 x.Commit,.int .i64 x.Idle,.int .i64 x.Wait,d,e,.int .u64 x.Round,f]
abbrev peerZ:List Value:=[.int .i64 (0),.slice none 0 0,.int .u64 (0),.int .i64 (0),.int .u8 (0),.int .i64 (0),.int .u64 (0),.int .u64 (0),.slice none 0 0,.string (ByteArray.mk #[]),.slice none 0 0,.int .u64 (0),.int .i64 (0),.int .i64 (0),.slice none 0 0,.slice none 0 0,.int .u64 (0),.slice none 0 0]
abbrev peerZA:Array Value:=#[.int .i64 (0),.slice none 0 0,.int .u64 (0),.int .i64 (0),.int .u8 (0),.int .i64 (0),.int .u64 (0),.int .u64 (0),.slice none 0 0,.string (ByteArray.mk #[]),.slice none 0 0,.int .u64 (0),.int .i64 (0),.int .i64 (0),.slice none 0 0,.slice none 0 0,.int .u64 (0),.slice none 0 0]
def peerR:Rep PeerD where
  sz:=18
  rd:=fun X w cs x=>∃ v1 v8 v10 v14 v15 v17,cs = [.int .i64 (x.Id),v1,.int .u64 (x.Term),.int .i64 (x.Vote),.int .u8 (x.Role),.int .i64 (x.Lead),.int .u64 (x.Base),.int .u64 (x.BaseTerm),v8,.string (x.Snap),v10,.int .u64 (x.Commit),.int .i64 (x.Idle),.int .i64 (x.Wait),v14,v15,.int .u64 (x.Round),v17] ∧ Sl (intR .i64) X w v1 x.Members ∧ Sl (intR .i64) X w v8 x.BaseMembers ∧ Sl entryR X w v10 x.Log ∧ Sl (intR .i64) X w v14 x.Votes ∧ Sl followR X w v15 x.Follows ∧ Sl readR X w v17 x.Reads ∧ x.InR
  len:=by rintro _ _ _ _ ⟨v1,v8,v10,v14,v15,v17,rfl,h1,h8,h10,h14,h15,h17,hk⟩; rfl
  one:=by
    rintro _ _ _ _ ⟨v1,v8,v10,v14,v15,v17,rfl,h1,h8,h10,h14,h15,h17,hk⟩ u hu
    simp only [List.mem_cons,List.not_mem_nil,or_false] at hu
    rcases hu with rfl | rfl | rfl | rfl | rfl | rfl | rfl | rfl | rfl | rfl | rfl | rfl | rfl | rfl | rfl | rfl | rfl | rfl <;> first | rfl | exact Sl.one (by assumption)
  ext:=fun ⟨v1,v8,v10,v14,v15,v17,h,h1,h8,h10,h14,h15,h17,hk⟩ k=>⟨v1,v8,v10,v14,v15,v17,h,h1.ext k,h8.ext k,h10.ext k,h14.ext k,h15.ext k,h17.ext k,hk⟩
  mono:=fun ⟨v1,v8,v10,v14,v15,v17,h,h1,h8,h10,h14,h15,h17,hk⟩ k=>⟨v1,v8,v10,v14,v15,v17,h,h1.mono k,h8.mono k,h10.mono k,h14.mono k,h15.mono k,h17.mono k,hk⟩
  new:=fun ⟨v1,v8,v10,v14,v15,v17,h,h1,h8,h10,h14,h15,h17,hk⟩ k=>⟨v1,v8,v10,v14,v15,v17,h,Sl.new (by show (1:Nat) ≠ 0; decide) h1 k,Sl.new (by show (1:Nat) ≠ 0; decide) h8 k,Sl.new (by show (4:Nat) ≠ 0; decide) h10 k,Sl.new (by show (1:Nat) ≠ 0; decide) h14 k,Sl.new (by show (3:Nat) ≠ 0; decide) h15 k,Sl.new (by show (3:Nat) ≠ 0; decide) h17 k,hk⟩
def idB (n:Int):Bool:=decide (n ≥ 1) && decide (n ≤ 64)
def okAt (xs:List Int) (i:Nat):Bool:=idB (xs.getD i 0) && (decide (i = 0) || decide (xs.getD (i - 1) 0 < xs.getD i 0))
def idsB (xs:List Int):Bool:=allB xs.length (okAt xs)
def membersB (xs:List Int):Bool:=decide ((xs.length:Int) > 0) && idsB xs
def ieq (a b:Int):Bool:=decide (a = b)
def eqB {α:Type} [Inhabited α] (f:α → α → Bool) (xs ys:List α):Bool:=decide (xs.length = ys.length) && allB xs.length fun i=>f (xs.getD i default) (ys.getD i default)
theorem eqB_len {α:Type} [Inhabited α] {f:α → α → Bool} {xs ys:List α} (h:xs.length ≠ ys.length):eqB f xs ys = false:=by simp [eqB,h]
theorem eqB_true {α:Type} [Inhabited α] {f:α → α → Bool} {xs ys:List α} {k:Nat} (h:xs.length = ys.length) (hk:∀ j,j < k → (fun i=>f (xs.getD i default) (ys.getD i default)) j = true) (hn:xs.length ≤ k):eqB f xs ys = true:=by
 simp only [eqB,h,decide_true,Bool.true_and]; rw [← h]; exact allB_true hk hn
theorem eqB_false {α:Type} [Inhabited α] {f:α → α → Bool} {xs ys:List α} {k:Nat} (h:xs.length = ys.length) (hk:k < xs.length) (hf:f (xs.getD k default) (ys.getD k default) = false):eqB f xs ys = false:=by
 simp only [eqB,h,decide_true,Bool.true_and]; rw [← h]; exact allB_false hk hf
def hasB (xs:List Int) (n:Int):Bool:=xs.any (ieq · n)
theorem hasB_false {xs:List Int} {n:Int} {k:Nat} (h:∀ j,j < k → (fun i=>!ieq (xs.getD i 0) n) j = true) (hk:xs.length ≤ k):hasB xs n = false:=by
 simp only [hasB,List.any_eq_false]
 intro x hx
 obtain ⟨i,hi,rfl⟩:=List.mem_iff_getElem.1 hx
 have:=h i (by omega)
 simpa [List.getD_eq_getElem?_getD,List.getElem?_eq_getElem hi] using this
theorem hasB_true {xs:List Int} {n:Int} {k:Nat} (hk:k < xs.length) (h:ieq (xs.getD k 0) n = true):hasB xs n = true:=by
 simp only [hasB,List.any_eq_true]
 exact ⟨xs[k],List.getElem_mem hk,by simpa [List.getD_eq_getElem?_getD,List.getElem?_eq_getElem hk] using h⟩
def othersOf (p:PeerD):List Int:=p.Members.filter (fun n=>!ieq n p.Id)
theorem filter_take {α:Type} [Inhabited α] {f:α → Bool} {xs:List α} {k:Nat} (h:k < xs.length):(xs.take (k + 1)).filter f = (xs.take k).filter f ++ (if f (xs.getD k default) then [xs.getD k default] else []):=by
 rw [List.take_add_one,List.filter_append,List.getElem?_eq_getElem h]
 simp [List.getD_eq_getElem?_getD,List.getElem?_eq_getElem h,List.filter_cons]
def lastI (p:PeerD):Int:=p.Base + (p.Log.length:Int)
def lastT (p:PeerD):Int:=if p.Log.length = 0 then p.BaseTerm else (p.Log.getD (p.Log.length - 1) default).Term
def termIs (p:PeerD) (i:Int):Bool:=decide (p.Base ≤ i) && decide (i ≤ lastI p)
def termOf (p:PeerD) (i:Int):Int:=if i = p.Base then p.BaseTerm else if termIs p i = true then (p.Log.getD (i - p.Base - 1).toNat default).Term else 0
theorem termIs_in {p:PeerD} {i:Int} (h1:p.Base ≤ i) (h2:i ≤ lastI p):termIs p i = true:=by simp [termIs,h1,h2]
theorem termIs_out {p:PeerD} {i:Int} (h:i < p.Base ∨ lastI p < i):termIs p i = false:=by
 simp only [termIs,Bool.and_eq_false_iff,decide_eq_false_iff_not]; omega
theorem termOf_at {p:PeerD} {i:Int} (h:i = p.Base):termOf p i = p.BaseTerm:=by simp [termOf,h]
theorem termOf_in {p:PeerD} {i:Int} (h1:p.Base < i) (h2:i ≤ lastI p):termOf p i = (p.Log.getD (i - p.Base - 1).toNat default).Term:=by
 rw [termOf,if_neg (by omega),if_pos (termIs_in (by omega) h2)]
theorem termOf_out {p:PeerD} {i:Int} (h:i < p.Base ∨ lastI p < i):termOf p i = 0:=by
 have hl:lastI p = p.Base + (p.Log.length:Int):=rfl
 rw [termOf,if_neg (by omega),if_neg (by rw [termIs_out h]; decide)]
def kindOk (e:EntryD):Bool:=(decide (e.Kind = 0) && decide (e.Members.length = 0)) || (decide (e.Kind = 1) && seqB e.Data (ByteArray.mk #[]) && decide (e.Members.length = 0)) || (decide (e.Kind = 2) && seqB e.Data (ByteArray.mk #[]) && membersB e.Members)
def entOk (f:Int) (e:EntryD) (t:Int):Bool:=decide (1 ≤ e.Term) && decide (f ≤ e.Term) && decide (e.Term ≤ t) && kindOk e
def prevT (l:List EntryD) (f:Int) (k:Nat):Int:=if k = 0 then f else (l.getD (k - 1) default).Term
def vprevT (l:List EntryD) (f:Int) (k:Nat):Int:=if k = 0 then max f 1 else (l.getD (k - 1) default).Term
def entsB (l:List EntryD) (f t:Int):Bool:=allB l.length fun i=>entOk (prevT l f i) (l.getD i default) t
def ventsB (l:List EntryD) (f t:Int):Bool:=allB l.length fun i=>entOk (vprevT l f i) (l.getD i default) t
theorem vprevT_pos {l:List EntryD} {f t:Int} {k:Nat} (h:∀ j,j < k → (fun i=>entOk (vprevT l f i) (l.getD i default) t) j = true):1 ≤ vprevT l f k:=by
 unfold vprevT
 split
 ·omega
 ·have:=h (k - 1) (by omega)
  simp only [entOk,Bool.and_eq_true,decide_eq_true_eq] at this
  exact this.1.1.1
theorem vents_eq (l:List EntryD) (f t:Int):ventsB l f t = entsB l f t:=by
 have h:∀ i,entOk (vprevT l f i) (l.getD i default) t = entOk (prevT l f i) (l.getD i default) t:=by
  intro i
  unfold vprevT prevT
  split
  ·simp only [entOk]
   cases hk:kindOk (l.getD i default)
   ·simp
   ·rw [Bool.eq_iff_iff]; simp only [Bool.and_true,Bool.and_eq_true,decide_eq_true_eq]; omega
  ·rfl
 simp only [ventsB,entsB,h]
def readOk (p:PeerD) (i:Nat):Bool:=decide ((p.Reads.getD i default).Round ≤ p.Round) && decide ((p.Reads.getD i default).Index ≤ p.Commit) && idsB (p.Reads.getD i default).Acks && (decide (i = 0) || decide ((p.Reads.getD (i - 1) default).Round < (p.Reads.getD i default).Round))
def readsB (p:PeerD):Bool:=allB p.Reads.length (readOk p)
def cnt (p:PeerD) (k:Nat):Nat:=((p.Members.take k).filter (fun n=>!ieq n p.Id)).length
def fOk (last:Int) (f:FollowD):Bool:=decide (1 ≤ f.Next) && decide (f.Next ≤ last + 1) && decide (f.Match < f.Next)
def fOkAt (p:PeerD) (last:Int) (j:Nat):Bool:=fOk last (p.Follows.getD j default) && ieq (p.Follows.getD j default).Id ((othersOf p).getD j 0)
def followsB (p:PeerD) (last:Int):Bool:=decide ((othersOf p).length = p.Follows.length) && allB p.Follows.length (fOkAt p last)
theorem cnt_step {p:PeerD} {k:Nat} (hk:k < p.Members.length):cnt p (k + 1) = cnt p k + (if ieq (p.Members.getD k 0) p.Id then 0 else 1):=by
 unfold cnt
 rw [filter_take hk,List.length_append]
 show _ + (if (!ieq (p.Members.getD k 0) p.Id) = true then [p.Members.getD k 0] else []).length = _
 cases ieq (p.Members.getD k 0) p.Id <;> simp
theorem cnt_skip {p:PeerD} {k:Nat} (hk:k < p.Members.length) (h:p.Members.getD k 0 = p.Id):cnt p (k + 1) = cnt p k:=by
 rw [cnt_step hk,if_pos (by simp only [ieq,h,decide_true])]; rfl
theorem cnt_go {p:PeerD} {k:Nat} (hk:k < p.Members.length) (h:p.Members.getD k 0 ≠ p.Id):cnt p (k + 1) = cnt p k + 1:=by
 rw [cnt_step hk,if_neg (by simp only [ieq,h,decide_false]; decide)]
theorem others_split (p:PeerD) (k:Nat):othersOf p = (p.Members.take k).filter (fun n=>!ieq n p.Id) ++ (p.Members.drop k).filter (fun n=>!ieq n p.Id):=by
 rw [← List.filter_append,List.take_append_drop]; rfl
theorem cnt_le (p:PeerD) (k:Nat):cnt p k ≤ (othersOf p).length:=by
 rw [others_split p k,List.length_append]; exact Nat.le_add_right _ _
theorem others_at {p:PeerD} {k:Nat} (hk:k < p.Members.length) (h:p.Members.getD k 0 ≠ p.Id):(othersOf p).getD (cnt p k) 0 = p.Members.getD k 0:=by
 have e:p.Members.getD k 0 = p.Members[k]:=by simp [List.getD_eq_getElem?_getD,List.getElem?_eq_getElem hk]
 rw [others_split p k,List.drop_eq_getElem_cons hk,List.filter_cons_of_pos (by rw [← e]; simp only [ieq,h,decide_false]; rfl),List.getD_eq_getElem?_getD]
 unfold cnt
 rw [List.getElem?_append_right (Nat.le_refl _),Nat.sub_self]
 simp [← e]
theorem cnt_all {p:PeerD} {k:Nat} (hk:p.Members.length ≤ k):cnt p k = (othersOf p).length:=by
 unfold cnt; rw [List.take_of_length_le hk]; rfl
theorem followsB_short {p:PeerD} {last:Int} {k:Nat} (hk:k < p.Members.length) (h:p.Members.getD k 0 ≠ p.Id) (hc:p.Follows.length ≤ cnt p k):followsB p last = false:=by
 have h1:=cnt_go hk h
 have h2:=cnt_le p (k + 1)
 simp only [followsB,Bool.and_eq_false_iff,decide_eq_false_iff_not]; left; omega
theorem followsB_bad {p:PeerD} {last:Int} {j:Nat} (hj:j < p.Follows.length) (h:fOkAt p last j = false):followsB p last = false:=by
 rw [followsB,allB_false hj h,Bool.and_false]
theorem followsB_end {p:PeerD} {last:Int} {k:Nat} (hk:p.Members.length ≤ k) (h:∀ j,j < cnt p k → fOkAt p last j = true) (hc:cnt p k ≤ p.Follows.length):followsB p last = decide ((cnt p k:Int) = (p.Follows.length:Int)):=by
 rw [followsB,← cnt_all hk]
 by_cases he:cnt p k = p.Follows.length
 ·rw [allB_true h (by omega)]; simp [he]
 ·have:¬ ((cnt p k:Int) = (p.Follows.length:Int)):=by omega
  simp [he,this]
theorem fOkAt_go {p:PeerD} {last:Int} {k:Nat} {b:Bool} (hk:k < p.Members.length) (h:p.Members.getD k 0 ≠ p.Id) (hb:(fOk last (p.Follows.getD (cnt p k) default) && ieq (p.Follows.getD (cnt p k) default).Id (p.Members.getD k 0)) = b):fOkAt p last (cnt p k) = b:=by
 rw [fOkAt,others_at hk h]; exact hb
theorem upto_succ {f:Nat → Bool} {n m:Nat} (h:∀ j,j < n → f j = true) (hm:m = n + 1) (hn:f n = true):∀ j,j < m → f j = true:=by
 intro j hj
 rcases Nat.lt_or_ge j n with h1 | h1
 ·exact h j h1
 ·have:j = n:=by omega
  subst this; exact hn
def sameReadB (a b:ReadD):Bool:=decide (a.Round = b.Round) && decide (a.Index = b.Index) && eqB ieq a.Acks b.Acks
def sameEntB (a b:EntryD):Bool:=decide (a.Term = b.Term) && decide (a.Kind = b.Kind) && seqB a.Data b.Data && eqB ieq a.Members b.Members
def sameFolB (a b:FollowD):Bool:=(decide (a.Id = b.Id) && (decide (a.Next = b.Next) && (decide (a.Match = b.Match) && true)))
def samePeerB (a b:PeerD):Bool:=decide (a.Id = b.Id) && eqB ieq a.Members b.Members && decide (a.Term = b.Term) && decide (a.Vote = b.Vote) && decide (a.Role = b.Role) && decide (a.Lead = b.Lead) && decide (a.Base = b.Base) && decide (a.BaseTerm = b.BaseTerm) && eqB ieq a.BaseMembers b.BaseMembers && seqB a.Snap b.Snap && eqB sameEntB a.Log b.Log && decide (a.Commit = b.Commit) && decide (a.Idle = b.Idle) && decide (a.Wait = b.Wait) && eqB ieq a.Votes b.Votes && eqB sameFolB a.Follows b.Follows && decide (a.Round = b.Round) && eqB sameReadB a.Reads b.Reads
def idxD (xs:List Int) (n:Int):Int:=if hasB xs n = true then ((xs.findIdx (ieq · n):Nat):Int) else -1
theorem idxD_none {xs:List Int} {n:Int} {k:Nat} (h:∀ j,j < k → (fun i=>!ieq (xs.getD i 0) n) j = true) (hk:xs.length ≤ k):idxD xs n = -1:=by
 rw [idxD,hasB_false h hk]; rfl
theorem idxD_at {xs:List Int} {n:Int} {k:Nat} (hk:k < xs.length) (h:∀ j,j < k → (fun i=>!ieq (xs.getD i 0) n) j = true) (he:ieq (xs.getD k 0) n = true):idxD xs n = (k:Int):=by
 rw [idxD,if_pos (hasB_true hk he),(List.findIdx_eq hk).2]
 constructor
 ·simpa [List.getD_eq_getElem?_getD,List.getElem?_eq_getElem hk] using he
 ·intro j hj
  have:=h j hj
  have hj':j < xs.length:=by omega
  simpa [List.getD_eq_getElem?_getD,List.getElem?_eq_getElem hj'] using this
theorem idxD_has (xs:List Int) (n:Int):decide (idxD xs n ≥ 0) = hasB xs n:=by
 unfold idxD
 cases hasB xs n <;> simp
def memUpto (p:PeerD):Nat → List Int
  | 0=>p.BaseMembers
  | k + 1=>if (p.Log.getD k default).Kind = 2 then (p.Log.getD k default).Members else memUpto p k
def membersOf (p:PeerD) (i:Int):List Int:=if termIs p i = true then memUpto p (i - p.Base).toNat else []
structure Fits (p:PeerD):Prop where
  mem:p.Members.length ≤ 17592186044416
  base:p.BaseMembers.length ≤ 17592186044416
  votes:p.Votes.length ≤ 17592186044416
  log:p.Log.length ≤ 1099511627776
  follows:p.Follows.length ≤ 1099511627776
  reads:p.Reads.length ≤ 1099511627776
  ents:∀ k,k < p.Log.length → (p.Log.getD k default).Members.length ≤ 17592186044416
  acks:∀ k,k < p.Reads.length → (p.Reads.getD k default).Acks.length ≤ 17592186044416
theorem Fits.upto {p:PeerD} (h:Fits p):∀ k,k ≤ p.Log.length → (memUpto p k).length ≤ 17592186044416
 | 0,_=>h.base
 | k + 1,hk=>by
  unfold memUpto
  split
  ·exact h.ents k (by omega)
  ·exact h.upto k (by omega)
theorem membersOf_in {p:PeerD} {i:Int} (h:p.Base ≤ i ∧ i ≤ lastI p):membersOf p i = memUpto p (i - p.Base).toNat:=by rw [membersOf,if_pos (termIs_in h.1 h.2)]
theorem membersOf_out {p:PeerD} {i:Int} (h:i < p.Base ∨ lastI p < i):membersOf p i = []:=by rw [membersOf,if_neg (by rw [termIs_out h]; decide)]
theorem memUpto_hit {p:PeerD} {k:Nat} (h:(p.Log.getD k default).Kind = 2):(p.Log.getD k default).Members = memUpto p (k + 1):=by rw [memUpto,if_pos h]
theorem memUpto_miss {p:PeerD} {k:Nat} (h:¬ (p.Log.getD k default).Kind = 2):memUpto p k = memUpto p (k + 1):=by rw [memUpto,if_neg h]
theorem seqB_refl (a:ByteArray):seqB a a = true:=by simp [seqB]
theorem eqB_refl {α:Type} [Inhabited α] {f:α → α → Bool} (h:∀ a,f a a = true) (xs:List α):eqB f xs xs = true:=by
 simp only [eqB,decide_true,Bool.true_and]
 exact allB_iff.2 fun j _=>h _
theorem ieq_refl (a:Int):ieq a a = true:=by simp [ieq]
theorem sameEntB_refl (a:EntryD):sameEntB a a = true:=by simp [sameEntB,seqB_refl,eqB_refl ieq_refl]
theorem take_step {α:Type} [Inhabited α] {l:List α} {k:Nat} (h:k < l.length):l.take k ++ [l.getD k default] = l.take (k + 1):=by
 rw [List.take_add_one,List.getElem?_eq_getElem h]
 simp [List.getD_eq_getElem?_getD,List.getElem?_eq_getElem h]
theorem castRd {α:Type} {R:Rep α} {X:List Nat} {w:World} {cs:List Value} {x y:α} (e:x = y) (h:R.rd X w cs x):R.rd X w cs y:=e ▸ h
theorem u22:Try.prog.underlying 22 = some (.slice 3):=by kernel_rfl
theorem mo:Try.prog.follows .mixedOrders = true:=by kernel_rfl
theorem s3:Sized Try.prog 3 1:=by unfold Sized; kernel_rfl
theorem p3:Plain Try.prog 3:=⟨.int .i64,by kernel_rfl,by intros; simp,by intros; simp⟩
theorem cl55:Callable Try.prog 55:=⟨Try.f55,Try.func55,by kernel_rfl,rfl⟩
theorem cl75:Callable Try.prog 75:=⟨Try.f75,Try.func75,by kernel_rfl,rfl⟩
theorem cl78:Callable Try.prog 78:=⟨Try.f78,Try.func78,by kernel_rfl,rfl⟩
theorem e3:Elem Try.prog 3 (.int .i64 (0)) 1 8:=by unfold Elem; kernel_rfl
theorem fl29_10:FieldOf Try.prog 29 10 25 10 1:=fld (by kernel_rfl)
theorem p25:Plain Try.prog 25:=⟨.slice 48,by kernel_rfl,by intros; simp,by intros; simp⟩
theorem u25:Try.prog.underlying 25 = some (.slice 48):=by kernel_rfl
theorem fl29_6:FieldOf Try.prog 29 6 23 6 1:=fld (by kernel_rfl)
theorem p23:Plain Try.prog 23:=⟨.int .u64,by kernel_rfl,by intros; simp,by intros; simp⟩
theorem u3:Try.prog.underlying 3 = some (.int .i64):=by kernel_rfl
theorem u23:Try.prog.underlying 23 = some (.int .u64):=by kernel_rfl
theorem s48:Sized Try.prog 48 4:=by unfold Sized; kernel_rfl
theorem fl48_0:FieldOf Try.prog 48 0 23 0 1:=fld (by kernel_rfl)
theorem fl29_7:FieldOf Try.prog 29 7 23 7 1:=fld (by kernel_rfl)
theorem s29:Sized Try.prog 29 18:=by unfold Sized; kernel_rfl
theorem a29:Aggr Try.prog 29 18:=⟨⟨_,by kernel_rfl,.inl ⟨structFields Try.prog 29,rfl⟩⟩,s29⟩
theorem cl23:Callable Try.prog 23:=⟨Try.f23,Try.func23,by kernel_rfl,rfl⟩
theorem cl30:Callable Try.prog 30:=⟨Try.f30,Try.func30,by kernel_rfl,rfl⟩
theorem a48:Aggr Try.prog 48 4:=⟨⟨_,by kernel_rfl,.inl ⟨structFields Try.prog 48,rfl⟩⟩,s48⟩
theorem z48:W.Zero Try.prog 48 (.agg #[.int .u64 (0),.int .u8 (0),.string (ByteArray.mk #[]),.slice none 0 0]):=by unfold W.Zero; kernel_rfl
theorem fl48_1:FieldOf Try.prog 48 1 46 1 1:=fld (by kernel_rfl)
theorem p46:Plain Try.prog 46:=⟨.int .u8,by kernel_rfl,by intros; simp,by intros; simp⟩
theorem fl48_2:FieldOf Try.prog 48 2 9 2 1:=fld (by kernel_rfl)
theorem p9:Plain Try.prog 9:=⟨.string,by kernel_rfl,by intros; simp,by intros; simp⟩
theorem fl48_3:FieldOf Try.prog 48 3 22 3 1:=fld (by kernel_rfl)
theorem p22:Plain Try.prog 22:=⟨.slice 3,by kernel_rfl,by intros; simp,by intros; simp⟩
theorem cl56:Callable Try.prog 56:=⟨Try.f56,Try.func56,by kernel_rfl,rfl⟩
theorem cl76:Callable Try.prog 76:=⟨Try.f76,Try.func76,by kernel_rfl,rfl⟩
theorem fl29_17:FieldOf Try.prog 29 17 27 17 1:=fld (by kernel_rfl)
theorem p27:Plain Try.prog 27:=⟨.slice 53,by kernel_rfl,by intros; simp,by intros; simp⟩
theorem u27:Try.prog.underlying 27 = some (.slice 53):=by kernel_rfl
theorem s53:Sized Try.prog 53 3:=by unfold Sized; kernel_rfl
theorem a53:Aggr Try.prog 53 3:=⟨⟨_,by kernel_rfl,.inl ⟨structFields Try.prog 53,rfl⟩⟩,s53⟩
theorem z53:W.Zero Try.prog 53 (.agg #[.int .u64 (0),.int .u64 (0),.slice none 0 0]):=by unfold W.Zero; kernel_rfl
theorem fl53_0:FieldOf Try.prog 53 0 23 0 1:=fld (by kernel_rfl)
theorem fl29_16:FieldOf Try.prog 29 16 23 16 1:=fld (by kernel_rfl)
theorem fl53_1:FieldOf Try.prog 53 1 23 1 1:=fld (by kernel_rfl)
theorem fl29_11:FieldOf Try.prog 29 11 23 11 1:=fld (by kernel_rfl)
theorem fl53_2:FieldOf Try.prog 53 2 22 2 1:=fld (by kernel_rfl)
theorem fl29_1:FieldOf Try.prog 29 1 22 1 1:=fld (by kernel_rfl)
theorem fl29_0:FieldOf Try.prog 29 0 3 0 1:=fld (by kernel_rfl)
theorem fl29_15:FieldOf Try.prog 29 15 26 15 1:=fld (by kernel_rfl)
theorem p26:Plain Try.prog 26:=⟨.slice 73,by kernel_rfl,by intros; simp,by intros; simp⟩
theorem u26:Try.prog.underlying 26 = some (.slice 73):=by kernel_rfl
theorem s73:Sized Try.prog 73 3:=by unfold Sized; kernel_rfl
theorem a73:Aggr Try.prog 73 3:=⟨⟨_,by kernel_rfl,.inl ⟨structFields Try.prog 73,rfl⟩⟩,s73⟩
theorem z73:W.Zero Try.prog 73 (.agg #[.int .i64 (0),.int .u64 (0),.int .u64 (0)]):=by unfold W.Zero; kernel_rfl
theorem fl73_0:FieldOf Try.prog 73 0 3 0 1:=fld (by kernel_rfl)
theorem fl73_1:FieldOf Try.prog 73 1 23 1 1:=fld (by kernel_rfl)
theorem fl73_2:FieldOf Try.prog 73 2 23 2 1:=fld (by kernel_rfl)
theorem cl38:Callable Try.prog 38:=⟨Try.f38,Try.func38,by kernel_rfl,rfl⟩
theorem cl37:Callable Try.prog 37:=⟨Try.f37,Try.func37,by kernel_rfl,rfl⟩
theorem fs73:(Try.prog.fieldsOf 73).toList.map (fun f=>(f.type,f.offset,f.name == "_")) = [(3,0,false),(23,1,false),(23,2,false)]:=by kernel_rfl
theorem us73:Try.prog.underlying 73 = some (.struct (Try.prog.fieldsOf 73)):=by kernel_rfl
theorem eg73:Try.prog.eqGuardType Try.prog.depth 73 = false:=by kernel_rfl
theorem sh73:Try.prog.stoodInHeld 73 = false:=by kernel_rfl
theorem fl29_2:FieldOf Try.prog 29 2 23 2 1:=fld (by kernel_rfl)
theorem fl29_3:FieldOf Try.prog 29 3 3 3 1:=fld (by kernel_rfl)
theorem fl29_4:FieldOf Try.prog 29 4 24 4 1:=fld (by kernel_rfl)
theorem p24:Plain Try.prog 24:=⟨.int .u8,by kernel_rfl,by intros; simp,by intros; simp⟩
theorem fl29_5:FieldOf Try.prog 29 5 3 5 1:=fld (by kernel_rfl)
theorem fl29_8:FieldOf Try.prog 29 8 22 8 1:=fld (by kernel_rfl)
theorem fl29_9:FieldOf Try.prog 29 9 9 9 1:=fld (by kernel_rfl)
theorem cl33:Callable Try.prog 33:=⟨Try.f33,Try.func33,by kernel_rfl,rfl⟩
theorem fl29_12:FieldOf Try.prog 29 12 3 12 1:=fld (by kernel_rfl)
theorem fl29_13:FieldOf Try.prog 29 13 3 13 1:=fld (by kernel_rfl)
theorem fl29_14:FieldOf Try.prog 29 14 22 14 1:=fld (by kernel_rfl)
theorem cl86:Callable Try.prog 86:=⟨Try.f86,Try.func86,by kernel_rfl,rfl⟩
theorem s22:Sized Try.prog 22 1:=by unfold Sized; kernel_rfl
theorem e48:Elem Try.prog 48 (.agg #[.int .u64 (0),.int .u8 (0),.string (ByteArray.mk #[]),.slice none 0 0]) 4 56:=by unfold Elem; kernel_rfl
theorem z29:W.Zero Try.prog 29 (.agg peerZA):=by unfold W.Zero; kernel_rfl
theorem cl17:Callable Try.prog 17:=⟨Try.f17,Try.func17,by kernel_rfl,rfl⟩
theorem s25:Sized Try.prog 25 1:=by unfold Sized; kernel_rfl
theorem e73:Elem Try.prog 73 (.agg #[.int .i64 (0),.int .u64 (0),.int .u64 (0)]) 3 24:=by unfold Elem; kernel_rfl
theorem s26:Sized Try.prog 26 1:=by unfold Sized; kernel_rfl
theorem e53:Elem Try.prog 53 (.agg #[.int .u64 (0),.int .u64 (0),.slice none 0 0]) 3 40:=by unfold Elem; kernel_rfl
theorem s27:Sized Try.prog 27 1:=by unfold Sized; kernel_rfl
theorem u4:Try.prog.underlying 4 = some (.bool):=by kernel_rfl
theorem cl57:Callable Try.prog 57:=⟨Try.f57,Try.func57,by kernel_rfl,rfl⟩
theorem cl58:Callable Try.prog 58:=⟨Try.f58,Try.func58,by kernel_rfl,rfl⟩
theorem cl59:Callable Try.prog 59:=⟨Try.f59,Try.func59,by kernel_rfl,rfl⟩
theorem cl60:Callable Try.prog 60:=⟨Try.f60,Try.func60,by kernel_rfl,rfl⟩
theorem cl61:Callable Try.prog 61:=⟨Try.f61,Try.func61,by kernel_rfl,rfl⟩
theorem cl91:Callable Try.prog 91:=⟨Try.f91,Try.func91,by kernel_rfl,rfl⟩
theorem cl90:Callable Try.prog 90:=⟨Try.f90,Try.func90,by kernel_rfl,rfl⟩
theorem cl39:Callable Try.prog 39:=⟨Try.f39,Try.func39,by kernel_rfl,rfl⟩
theorem cl89:Callable Try.prog 89:=⟨Try.f89,Try.func89,by kernel_rfl,rfl⟩
theorem cl87:Callable Try.prog 87:=⟨Try.f87,Try.func87,by kernel_rfl,rfl⟩
theorem cl51:Callable Try.prog 51:=⟨Try.f51,Try.func51,by kernel_rfl,rfl⟩
theorem cl83:Callable Try.prog 83:=⟨Try.f83,Try.func83,by kernel_rfl,rfl⟩
theorem cl20:Callable Try.prog 20:=⟨Try.f20,Try.func20,by kernel_rfl,rfl⟩
theorem z22:W.Zero Try.prog 22 (.slice none 0 0):=by unfold W.Zero; kernel_rfl
theorem cl68:Callable Try.prog 68:=⟨Try.f68,Try.func68,by kernel_rfl,rfl⟩
theorem cl69:Callable Try.prog 69:=⟨Try.f69,Try.func69,by kernel_rfl,rfl⟩
theorem cl77:Callable Try.prog 77:=⟨Try.f77,Try.func77,by kernel_rfl,rfl⟩
theorem cl47:Callable Try.prog 47:=⟨Try.f47,Try.func47,by kernel_rfl,rfl⟩
theorem cl79:Callable Try.prog 79:=⟨Try.f79,Try.func79,by kernel_rfl,rfl⟩
theorem cl80:Callable Try.prog 80:=⟨Try.f80,Try.func80,by kernel_rfl,rfl⟩
theorem cl81:Callable Try.prog 81:=⟨Try.f81,Try.func81,by kernel_rfl,rfl⟩
theorem cl50:Callable Try.prog 50:=⟨Try.f50,Try.func50,by kernel_rfl,rfl⟩
end Go.Proofs.Ytiaicihpocoeiaa.T
namespace Go.Proofs.Ytiaicihpocoeiaa.T
open W Go.RowKit
set_option maxRecDepth 100000
set_option maxHeartbeats 400000
theorem ref_id {w:World} (n:Int):Fnc Try.prog 55 #[.int .i64 (n)] w (fun v w'=>v = .bool (idB n) ∧ Ext [] w w'):=by
 refine Fnc.of_WP (n:=9) Try.func55 rfl Try.ntmps55 (by simp) ?_
 intro E hE
 have h0:E 0 = .int .i64 (n):=hE 0 (by simp)
 clear hE
 refine WP.sr ?_
 refine WL.m rfl ?_
 refine WL.nil ?_
 refine WP.sr ?_
 refine WL.m rfl ?_
 refine WL.z (.bool (decide (n ≥ 1))) (V.cmp (x:=.tmp 3) rfl h0 rfl rfl) ?_
 refine WL.vbp (c:=n ≥ 1) (Sure.none rfl) rfl (V.move rfl rfl) (fun Aa=>?_) (fun Aa=>?_)
 rotate_left
 ·refine WL.skips [(5,some false)] [(2,some false)] (kc (some false) rfl kn) (by kernel_rfl) (fun E2 hK3 Ab=>?_)
  refine WP.ret ?_
  refine resOf.c1 rfl (v:=.bool (false)) (hK3 2 (some false) rfl) ?_
  exact ⟨(bool_eq (by grind [idB])),Ext.refl _ _⟩
 refine WL.my rfl rfl ?_
 refine WL.y (.bool (decide (n ≤ 64))) rfl (V.cmp (x:=.tmp 6) rfl h0 rfl rfl) ?_
 refine WL.k (a:=true) rfl rfl ?_
 refine WL.m rfl ?_
 refine WL.nil ?_
 refine WP.ret ?_
 refine resOf.c1 rfl (v:=.bool (decide (n ≤ 64))) rfl ?_
 exact ⟨(bool_eq (by grind [idB])),Ext.refl _ _⟩
theorem vote_id {w:World} (n:Int):Fnc Try.prog 75 #[.int .i64 (n)] w (fun v w'=>v = .bool (idB n) ∧ Ext [] w w'):=by
 refine Fnc.of_WP (n:=9) Try.func75 rfl Try.ntmps75 (by simp) ?_
 intro E hE
 have h0:E 0 = .int .i64 (n):=hE 0 (by simp)
 clear hE
 refine WP.sr ?_
 refine WL.m rfl ?_
 refine WL.nil ?_
 refine WP.sr ?_
 refine WL.m rfl ?_
 refine WL.z (.bool (decide (n ≥ 1))) (V.cmp (x:=.tmp 3) rfl h0 rfl rfl) ?_
 refine WL.vbp (c:=n ≥ 1) (Sure.none rfl) rfl (V.move rfl rfl) (fun Aa=>?_) (fun Aa=>?_)
 rotate_left
 ·refine WL.skips [(5,some false)] [(2,some false)] (kc (some false) rfl kn) (by kernel_rfl) (fun E2 hK3 Ab=>?_)
  refine WP.ret ?_
  refine resOf.c1 rfl (v:=.bool (false)) (hK3 2 (some false) rfl) ?_
  exact ⟨(bool_eq (by grind [idB])),Ext.refl _ _⟩
 refine WL.my rfl rfl ?_
 refine WL.y (.bool (decide (n ≤ 64))) rfl (V.cmp (x:=.tmp 6) rfl h0 rfl rfl) ?_
 refine WL.k (a:=true) rfl rfl ?_
 refine WL.m rfl ?_
 refine WL.nil ?_
 refine WP.ret ?_
 refine resOf.c1 rfl (v:=.bool (decide (n ≤ 64))) rfl ?_
 exact ⟨(bool_eq (by grind [idB])),Ext.refl _ _⟩
theorem ref_ids {w:World} {X:List Nat} {v_xs:Value} {xs:List Int} (h_xs:Sl (intR .i64) X w v_xs xs):Fnc Try.prog 56 #[v_xs] w (fun v w'=>v = .bool (idsB xs) ∧ Ext [] w w'):=by
 have hle_xs:=h_xs.le'
 refine Fnc.of_WP (n:=32) Try.func56 rfl Try.ntmps56 (by simp) ?_
 intro E hE
 have h0:E 0 = v_xs:=hE 0 (by simp)
 clear hE
 refine WP.sr ?_
 refine WL.m rfl ?_
 refine WL.nil ?_
 refine WP.seq ?_
 refine WP.sr ?_
 refine WL.m rfl ?_
 refine WL.nil ?_
 refine WP.block ?_
 refine WP.loop (σ:=Nat) (fun k E1 w2=>E1 0 = v_xs ∧ E1 3 = .int .i64 ((k:Int)) ∧ Ext [] w w2 ∧ k ≤ xs.length ∧ ∀ j,j < k → (okAt xs) j = true) (fun k=>xs.length - k) (0) ?_ ?_
 ·exact ⟨h0,(int_eq (by omega)),(Ext.refl _ _),(by omega),(all_zero _)⟩
 rintro k E1 w2 ⟨Ab,Aa,Ar,A4,A5⟩
 have Ac:Ext [] w w2:=Ar
 refine WP.seq ?_
 refine WP.sr ?_
 refine WL.m rfl ?_
 refine WL.m rfl ?_
 obtain ⟨a5,c6,As⟩:=h_xs.shape
 refine WL.z (.int .i64 (((xs).length:Int))) (V.lenSlice (x:=.tmp 5) rfl rfl u22 (Eq.trans (b:=v_xs) Ab As)) ?_
 refine WL.z (.bool (decide ((k:Int) < ((xs).length:Int)))) (V.cmp (x:=.tmp 4) rfl Aa rfl rfl) ?_
 refine WL.nil ?_
 refine WP.condp (t:=(k:Int) < ((xs).length:Int)) rfl (fun Au=>?_) (fun Au=>?_)
 rotate_left
 ·refine WP.exit ?_
  refine WP.sr ?_
  refine WL.m rfl ?_
  refine WL.nil ?_
  refine WP.ret ?_
  refine resOf.c1 rfl (v:=.bool (true)) rfl ?_
  exact ⟨(bool_eq (by first | (exact (allB_true (by assumption) (by omega)).symm) | (exact (allB_false (k:=k) (by omega) (by grind [okAt])).symm))),Ac⟩
 refine WP.skip ?_
 refine WP.seq ?_
 refine WP.block ?_
 refine WP.seq ?_
 refine WP.quiet mo (by kernel_rfl) ?_
 refine WQ.m rfl ?_
 refine WQ.m rfl ?_
 have hlt17:k < (xs).length:=by first | omega | (simp at *; omega)
 obtain ⟨b9,Ai,c11,A8,Ae,hnb14,Aj,Ad⟩:=(h_xs.ext (Ext.pre Ac)).get (i:=k) (x:=(xs.getD k 0)) (getD_some hlt17 _)
 obtain ⟨rfl,A6⟩:=Aj
 refine WQ.z (.pointer (some ⟨b9,Ai + k * 1,none⟩)) (fun w' hw=>V.indexAddr (x:=.tmp 10) (i:=.tmp 11) (m:=k) (j:=(k:Int)) rfl u22 s3 (Eq.trans (b:=v_xs) Ab Ae) Aa rfl hlt17) ?_
 refine WQ.z (.int .i64 ((xs.getD k 0))) (fun w' hw=>V.load rfl p3 rfl ((Ad.ext hw (by simp)).cell (j:=0) rfl)) ?_
 refine WQ.c (u:=.bool (idB (xs.getD k 0))) (Sure.none rfl) rfl (fun w' hw=>C.call1 rfl cl55 rfl) (fun w' hw=>(ref_id (xs.getD k 0))) ?_
 refine WQ.z (.bool (!(idB (xs.getD k 0)))) (fun w' hw=>V.not rfl rfl) ?_
 refine WQ.vbn (c:=idB (xs.getD k 0)) (Sure.none rfl) rfl (fun w' hw=>V.move rfl rfl) (fun Ak=>?_) (fun Ak=>?_)
 ·refine WQ.skips [(16,some true)] [(31,some true)] (kc (some true) rfl kn) (by kernel_rfl) (fun Bb hK21 A9 Av hq24=>?_)
  have Al:Ext [] w Av:=Ac.trans hq24
  refine WP.cond_true (hK21 31 (some true) rfl) ?_
  refine WP.sr ?_
  refine WL.m rfl ?_
  refine WL.nil ?_
  refine WP.ret ?_
  refine resOf.c1 rfl (v:=.bool (false)) rfl ?_
  exact ⟨(bool_eq (by first | (exact (allB_true (by assumption) (by omega)).symm) | (exact (allB_false (k:=k) (by omega) (by grind [okAt])).symm))),Al⟩
 refine WQ.my rfl rfl ?_
 refine WQ.y (.bool (decide ((k:Int) > 0))) rfl (fun w' hw=>V.cmp (x:=.tmp 17) rfl Aa rfl rfl) ?_
 refine WQ.vbp (c:=(k:Int) > 0) (Sure.yes rfl rfl rfl) rfl (fun w' hw=>V.move rfl rfl) (fun Am=>?_) (fun Am=>?_)
 rotate_left
 ·refine WQ.skips [(19,some false),(16,some false)] [(31,some false)] (kc (some false) rfl (kc (some false) rfl kn)) (by kernel_rfl) (fun Bc hK44 Af Aw hq47=>?_)
  have An:Ext [] w Aw:=Ac.trans hq47
  refine WP.cond_false (hK44 31 (some false) rfl) ?_
  refine WP.skip ?_
  refine WP.region ?_
  refine WL.m rfl ?_
  refine WL.z (.int .i64 ((k:Int) + 1)) (V.arith (x:=.tmp 8) rfl ((Af 3 rfl).trans Aa) rfl rfl (wrap_i64 (by omega) (by omega))) ?_
  refine WL.m rfl ?_
  refine WL.nil ?_
  exact ⟨k + 1,⟨((Af 0 rfl).trans Ab),(int_eq (by omega)),An,(by omega),(all_step (by assumption) (by grind [okAt]))⟩,(by omega)⟩
 refine WQ.my rfl rfl ?_
 refine WQ.my rfl rfl ?_
 refine WQ.y (.int .i64 ((k:Int) - 1)) rfl (fun w' hw=>V.arith (x:=.tmp 21) rfl Aa rfl rfl (wrap_i64 (by omega) (by omega))) ?_
 have hlt36:k - 1 < (xs).length:=by first | omega | (simp at *; omega)
 obtain ⟨Ax,Ay,c30,Ba,Ao,hnb33,Ap,Ah⟩:=(h_xs.ext (Ext.pre Ac)).get (i:=k - 1) (x:=(xs.getD (k - 1) 0)) (getD_some hlt36 _)
 obtain ⟨rfl,A7⟩:=Ap
 refine WQ.y (.pointer (some ⟨Ax,Ay + (k - 1) * 1,none⟩)) rfl (fun w' hw=>V.indexAddr (x:=.tmp 20) (m:=k - 1) (j:=(k:Int) - 1) rfl u22 s3 (Eq.trans (b:=v_xs) Ab Ao) rfl (by omega) hlt36) ?_
 refine WQ.y (.int .i64 ((xs.getD (k - 1) 0))) rfl (fun w' hw=>V.load rfl p3 rfl ((Ah.ext hw (by simp)).cell (j:=0) rfl)) ?_
 refine WQ.my rfl rfl ?_
 refine WQ.my rfl rfl ?_
 refine WQ.y (.pointer (some ⟨b9,Ai + k * 1,none⟩)) rfl (fun w' hw=>V.indexAddr (x:=.tmp 25) (i:=.tmp 26) (m:=k) (j:=(k:Int)) rfl u22 s3 (Eq.trans (b:=v_xs) Ab Ae) Aa rfl hlt17) ?_
 refine WQ.y (.int .i64 ((xs.getD k 0))) rfl (fun w' hw=>V.load rfl p3 rfl ((Ad.ext hw (by simp)).cell (j:=0) rfl)) ?_
 refine WQ.y (.bool (decide ((xs.getD (k - 1) 0) ≥ (xs.getD k 0)))) rfl (fun w' hw=>V.cmp rfl rfl rfl rfl) ?_
 refine WQ.ky (a:=true) rfl rfl rfl ?_
 refine WQ.k (a:=false) rfl rfl ?_
 refine WQ.nil (fun Az hq39=>?_)
 have Ag:Ext [] w Az:=Ac.trans hq39
 refine WP.condp (t:=(xs.getD (k - 1) 0) ≥ (xs.getD k 0)) rfl (fun Aq=>?_) (fun Aq=>?_)
 ·refine WP.sr ?_
  refine WL.m rfl ?_
  refine WL.nil ?_
  refine WP.ret ?_
  refine resOf.c1 rfl (v:=.bool (false)) rfl ?_
  exact ⟨(bool_eq (by first | (exact (allB_true (by assumption) (by omega)).symm) | (exact (allB_false (k:=k) (by omega) (by grind [okAt])).symm))),Ag⟩
 refine WP.skip ?_
 refine WP.region ?_
 refine WL.m rfl ?_
 refine WL.z (.int .i64 ((k:Int) + 1)) (V.arith (x:=.tmp 8) rfl Aa rfl rfl (wrap_i64 (by omega) (by omega))) ?_
 refine WL.m rfl ?_
 refine WL.nil ?_
 exact ⟨k + 1,⟨Ab,(int_eq (by omega)),Ag,(by omega),(all_step (by assumption) (by grind [okAt]))⟩,(by omega)⟩
theorem vote_rising {w:World} {X:List Nat} {v_xs:Value} {xs:List Int} (h_xs:Sl (intR .i64) X w v_xs xs):Fnc Try.prog 78 #[v_xs] w (fun v w'=>v = .bool (idsB xs) ∧ Ext [] w w'):=by
 have hle_xs:=h_xs.le'
 refine Fnc.of_WP (n:=29) Try.func78 rfl Try.ntmps78 (by simp) ?_
 intro E hE
 have h0:E 0 = v_xs:=hE 0 (by simp)
 clear hE
 refine WP.sr ?_
 refine WL.m rfl ?_
 refine WL.nil ?_
 refine WP.seq ?_
 refine WP.sr ?_
 refine WL.m rfl ?_
 obtain ⟨a1,c2,Ar⟩:=h_xs.shape
 refine WL.z (.int .i64 (((xs).length:Int))) (V.lenSlice (x:=.tmp 5) rfl rfl u22 (Eq.trans (b:=v_xs) h0 Ar)) ?_
 refine WL.m rfl ?_
 refine WL.nil ?_
 refine WP.block ?_
 refine WP.loop (σ:=Nat) (fun k E4 w5=>E4 0 = v_xs ∧ E4 5 = v_xs ∧ E4 6 = .int .i64 (((xs).length:Int)) ∧ E4 7 = .int .i64 ((k:Int)) ∧ Ext [] w w5 ∧ k ≤ xs.length ∧ ∀ j,j < k → (okAt xs) j = true) (fun k=>xs.length - k) (0) ?_ ?_
 ·exact ⟨h0,h0,rfl,(int_eq (by omega)),(Ext.refl _ _),(by omega),(all_zero _)⟩
 rintro k E4 w5 ⟨Ad,Ae,Af,Aa,As,Az,A4⟩
 have Ag:Ext [] w w5:=As
 refine WP.sr ?_
 refine WL.z (.bool (decide ((k:Int) < ((xs).length:Int)))) (V.cmp (x:=.tmp 7) (y:=.tmp 6) rfl Aa Af rfl) ?_
 refine WL.nil ?_
 refine WP.seq ?_
 refine WP.condp (t:=(k:Int) < ((xs).length:Int)) rfl (fun Au=>?_) (fun Au=>?_)
 rotate_left
 ·refine WP.exit ?_
  refine WP.sr ?_
  refine WL.m rfl ?_
  refine WL.nil ?_
  refine WP.ret ?_
  refine resOf.c1 rfl (v:=.bool (true)) rfl ?_
  exact ⟨(bool_eq (by first | (exact (allB_true (by assumption) (by omega)).symm) | (exact (allB_false (k:=k) (by omega) (by grind [okAt])).symm))),Ag⟩
 refine WP.skip ?_
 refine WP.seq ?_
 refine WP.block ?_
 refine WP.sr ?_
 refine WL.m rfl ?_
 have hlt17:k < (xs).length:=by first | omega | (simp at *; omega)
 obtain ⟨b9,Av,c11,A7,Aj,hnb14,Ak,Ah⟩:=(h_xs.ext (Ext.pre Ag)).get (i:=k) (x:=(xs.getD k 0)) (getD_some hlt17 _)
 obtain ⟨rfl,A5⟩:=Ak
 refine WL.z (.pointer (some ⟨b9,Av + k * 1,none⟩)) (V.indexAddr (x:=.tmp 5) (i:=.tmp 7) (m:=k) (j:=(k:Int)) rfl u22 s3 (Eq.trans (b:=v_xs) Ae Aj) Aa rfl hlt17) ?_
 refine WL.z (.int .i64 ((xs.getD k 0))) (V.load rfl p3 rfl (Ah.cell (j:=0) rfl)) ?_
 refine WL.m rfl ?_
 refine WL.m rfl ?_
 refine WL.nil ?_
 refine WP.sr ?_
 refine WL.m rfl ?_
 refine WL.c (Sure.none rfl) rfl (C.call1 rfl cl75 rfl) (Fnc.mono (vote_id (xs.getD k 0)) ?_)
 rintro _ Aw ⟨rfl,Al⟩
 have Ab:Ext [] w Aw:=Ag.trans Al
 refine WL.z (.bool (!(idB (xs.getD k 0)))) (V.not rfl rfl) ?_
 refine WL.vbn (c:=idB (xs.getD k 0)) (Sure.none rfl) rfl (V.move rfl rfl) (fun Am=>?_) (fun Am=>?_)
 ·refine WL.skips [(15,some true)] [(27,some true)] (kc (some true) rfl kn) (by kernel_rfl) (fun Ba hK25 A8=>?_)
  refine WP.cond_true (hK25 27 (some true) rfl) ?_
  refine WP.sr ?_
  refine WL.m rfl ?_
  refine WL.nil ?_
  refine WP.ret ?_
  refine resOf.c1 rfl (v:=.bool (false)) rfl ?_
  exact ⟨(bool_eq (by first | (exact (allB_true (by assumption) (by omega)).symm) | (exact (allB_false (k:=k) (by omega) (by grind [okAt])).symm))),Ab⟩
 refine WL.my rfl rfl ?_
 refine WL.y (.bool (decide ((k:Int) > 0))) rfl (V.cmp (x:=.tmp 16) rfl Aa rfl rfl) ?_
 refine WL.vbp (c:=(k:Int) > 0) (Sure.yes rfl rfl rfl) rfl (V.move rfl rfl) (fun An=>?_) (fun An=>?_)
 rotate_left
 ·refine WL.skips [(18,some false),(15,some false)] [(27,some false)] (kc (some false) rfl (kc (some false) rfl kn)) (by kernel_rfl) (fun Bb hK40 Ac=>?_)
  refine WP.cond_false (hK40 27 (some false) rfl) ?_
  refine WP.skip ?_
  refine WP.region ?_
  refine WL.z (.int .i64 ((k:Int) + 1)) (V.arith (x:=.tmp 7) rfl ((Ac 7 rfl).trans Aa) rfl rfl (wrap_i64 (by omega) (by omega))) ?_
  refine WL.m rfl ?_
  refine WL.nil ?_
  exact ⟨k + 1,⟨((Ac 0 rfl).trans Ad),((Ac 5 rfl).trans Ae),((Ac 6 rfl).trans Af),(int_eq (by omega)),Ab,(by omega),(all_step (by assumption) (by grind [okAt]))⟩,(by omega)⟩
 refine WL.my rfl rfl ?_
 refine WL.my rfl rfl ?_
 refine WL.y (.int .i64 ((k:Int) - 1)) rfl (V.arith (x:=.tmp 20) rfl Aa rfl rfl (wrap_i64 (by omega) (by omega))) ?_
 have hlt36:k - 1 < (xs).length:=by first | omega | (simp at *; omega)
 obtain ⟨Ax,Ay,c30,A9,Ao,hnb33,Ap,Ai⟩:=(h_xs.ext (Ext.pre Ab)).get (i:=k - 1) (x:=(xs.getD (k - 1) 0)) (getD_some hlt36 _)
 obtain ⟨rfl,A6⟩:=Ap
 refine WL.y (.pointer (some ⟨Ax,Ay + (k - 1) * 1,none⟩)) rfl (V.indexAddr (x:=.tmp 19) (m:=k - 1) (j:=(k:Int) - 1) rfl u22 s3 (Eq.trans (b:=v_xs) Ad Ao) rfl (by omega) hlt36) ?_
 refine WL.y (.int .i64 ((xs.getD (k - 1) 0))) rfl (V.load rfl p3 rfl (Ai.cell (j:=0) rfl)) ?_
 refine WL.my rfl rfl ?_
 refine WL.y (.bool (decide ((xs.getD (k - 1) 0) ≥ (xs.getD k 0)))) rfl (V.cmp rfl rfl rfl rfl) ?_
 refine WL.ky (a:=true) rfl rfl rfl ?_
 refine WL.k (a:=false) rfl rfl ?_
 refine WL.nil ?_
 refine WP.condp (t:=(xs.getD (k - 1) 0) ≥ (xs.getD k 0)) rfl (fun Aq=>?_) (fun Aq=>?_)
 ·refine WP.sr ?_
  refine WL.m rfl ?_
  refine WL.nil ?_
  refine WP.ret ?_
  refine resOf.c1 rfl (v:=.bool (false)) rfl ?_
  exact ⟨(bool_eq (by first | (exact (allB_true (by assumption) (by omega)).symm) | (exact (allB_false (k:=k) (by omega) (by grind [okAt])).symm))),Ab⟩
 refine WP.skip ?_
 refine WP.region ?_
 refine WL.z (.int .i64 ((k:Int) + 1)) (V.arith (x:=.tmp 7) rfl Aa rfl rfl (wrap_i64 (by omega) (by omega))) ?_
 refine WL.m rfl ?_
 refine WL.nil ?_
 exact ⟨k + 1,⟨Ad,Ae,Af,(int_eq (by omega)),Ab,(by omega),(all_step (by assumption) (by grind [okAt]))⟩,(by omega)⟩
theorem vote_members {w:World} {X:List Nat} {v_xs:Value} {xs:List Int} (h_xs:Sl (intR .i64) X w v_xs xs):Fnc Try.prog 76 #[v_xs] w (fun v w'=>v = .bool (membersB xs) ∧ Ext [] w w'):=by
 refine Fnc.of_WP (n:=10) Try.func76 rfl Try.ntmps76 (by simp) ?_
 intro E hE
 have h0:E 0 = v_xs:=hE 0 (by simp)
 clear hE
 refine WP.sr ?_
 refine WL.m rfl ?_
 refine WL.nil ?_
 refine WP.sr ?_
 refine WL.m rfl ?_
 obtain ⟨a1,c2,Aa⟩:=h_xs.shape
 refine WL.z (.int .i64 (((xs).length:Int))) (V.lenSlice (x:=.tmp 3) rfl rfl u22 (Eq.trans (b:=v_xs) h0 Aa)) ?_
 refine WL.z (.bool (decide (((xs).length:Int) > 0))) (V.cmp rfl rfl rfl rfl) ?_
 refine WL.vbp (c:=((xs).length:Int) > 0) (Sure.none rfl) rfl (V.move rfl rfl) (fun Ab=>?_) (fun Ab=>?_)
 rotate_left
 ·refine WL.skips [(6,some false)] [(2,some false)] (kc (some false) rfl kn) (by kernel_rfl) (fun E8 hK9 Ae=>?_)
  refine WP.ret ?_
  refine resOf.c1 rfl (v:=.bool (false)) (hK9 2 (some false) rfl) ?_
  exact ⟨(bool_eq (by grind [membersB])),Ext.refl _ _⟩
 refine WL.my rfl rfl ?_
 refine WL.c (Sure.yes rfl rfl rfl) rfl (C.call1 (x:=.tmp 7) rfl cl78 h0) (Fnc.mono (vote_rising h_xs) ?_)
 rintro _ w5 ⟨rfl,Ac⟩
 have Ad:Ext [] w w5:=Ac
 refine WL.k (a:=true) rfl rfl ?_
 refine WL.m rfl ?_
 refine WL.nil ?_
 refine WP.ret ?_
 refine resOf.c1 rfl (v:=.bool (idsB xs)) rfl ?_
 exact ⟨(bool_eq (by grind [membersB])),Ad⟩
theorem ref_sameInts {w:World} {X:List Nat} {v_xs:Value} {xs:List Int} (h_xs:Sl (intR .i64) X w v_xs xs) {v_ys:Value} {ys:List Int} (h_ys:Sl (intR .i64) X w v_ys ys):Fnc Try.prog 38 #[v_xs,v_ys] w (fun v w'=>v = .bool (eqB ieq xs ys) ∧ Ext [] w w'):=by
 have hle_xs:=h_xs.le'
 refine Fnc.of_WP (n:=26) Try.func38 rfl Try.ntmps38 (by simp) ?_
 intro E hE
 have h0:E 0 = v_xs:=hE 0 (by simp)
 have h1:E 1 = v_ys:=hE 1 (by simp)
 clear hE
 refine WP.sr ?_
 refine WL.m rfl ?_
 refine WL.nil ?_
 refine WP.seq ?_
 refine WP.sr ?_
 refine WL.m rfl ?_
 obtain ⟨a1,c2,Ai⟩:=h_xs.shape
 refine WL.z (.int .i64 (((xs).length:Int))) (V.lenSlice (x:=.tmp 6) rfl rfl u22 (Eq.trans (b:=v_xs) h0 Ai)) ?_
 refine WL.m rfl ?_
 obtain ⟨a4,c5,Aq⟩:=h_ys.shape
 refine WL.z (.int .i64 (((ys).length:Int))) (V.lenSlice (x:=.tmp 8) rfl rfl u22 (Eq.trans (b:=v_ys) h1 Aq)) ?_
 refine WL.z (.bool (decide (((xs).length:Int) ≠ ((ys).length:Int)))) (V.cmp rfl rfl rfl rfl) ?_
 refine WL.nil ?_
 refine WP.condp (t:=((xs).length:Int) ≠ ((ys).length:Int)) rfl (fun Ar=>?_) (fun Ar=>?_)
 ·refine WP.sr ?_
  refine WL.m rfl ?_
  refine WL.nil ?_
  refine WP.ret ?_
  refine resOf.c1 rfl (v:=.bool (false)) rfl ?_
  exact ⟨(bool_eq (by first | (exact (eqB_len (by omega)).symm) | (exact (eqB_true (by omega) (by assumption) (by omega)).symm) | (exact (eqB_false (by omega) (by omega) (by grind [ieq])).symm))),Ext.refl _ _⟩
 refine WP.skip ?_
 refine WP.seq ?_
 refine WP.sr ?_
 refine WL.m rfl ?_
 refine WL.nil ?_
 refine WP.block ?_
 refine WP.loop (σ:=Nat) (fun k E8 w9=>E8 0 = v_xs ∧ E8 1 = v_ys ∧ E8 5 = .int .i64 ((k:Int)) ∧ E8 10 = .bool (decide (((xs).length:Int) ≠ ((ys).length:Int))) ∧ Ext [] w w9 ∧ k ≤ xs.length ∧ ∀ j,j < k → (fun i=>ieq (xs.getD i 0) (ys.getD i 0)) j = true) (fun k=>xs.length - k) (0) ?_ ?_
 ·exact ⟨h0,h1,(int_eq (by omega)),rfl,(Ext.refl _ _),(by omega),(all_zero _)⟩
 rintro k E8 w9 ⟨Ab,Ad,Aa,Ae,Aj,As,Au⟩
 have Ac:Ext [] w w9:=Aj
 refine WP.seq ?_
 refine WP.sr ?_
 refine WL.m rfl ?_
 refine WL.m rfl ?_
 refine WL.z (.int .i64 (((xs).length:Int))) (V.lenSlice (x:=.tmp 12) rfl rfl u22 (Eq.trans (b:=v_xs) Ab Ai)) ?_
 refine WL.z (.bool (decide ((k:Int) < ((xs).length:Int)))) (V.cmp (x:=.tmp 11) rfl Aa rfl rfl) ?_
 refine WL.nil ?_
 refine WP.condp (t:=(k:Int) < ((xs).length:Int)) rfl (fun Ak=>?_) (fun Ak=>?_)
 rotate_left
 ·refine WP.exit ?_
  refine WP.sr ?_
  refine WL.m rfl ?_
  refine WL.nil ?_
  refine WP.ret ?_
  refine resOf.c1 rfl (v:=.bool (true)) rfl ?_
  exact ⟨(bool_eq (by first | (exact (eqB_len (by omega)).symm) | (exact (eqB_true (by omega) (by assumption) (by omega)).symm) | (exact (eqB_false (by omega) (by omega) (by grind [ieq])).symm))),Ac⟩
 refine WP.skip ?_
 refine WP.seq ?_
 refine WP.block ?_
 refine WP.seq ?_
 refine WP.quiet mo (by kernel_rfl) ?_
 refine WQ.m rfl ?_
 refine WQ.m rfl ?_
 have hlt21:k < (xs).length:=by first | omega | (simp at *; omega)
 obtain ⟨Av,Aw,c15,A6,Al,hnb18,Am,Ag⟩:=(h_xs.ext (Ext.pre Ac)).get (i:=k) (x:=(xs.getD k 0)) (getD_some hlt21 _)
 obtain ⟨rfl,A4⟩:=Am
 refine WQ.z (.pointer (some ⟨Av,Aw + k * 1,none⟩)) (fun w' hw=>V.indexAddr (x:=.tmp 17) (i:=.tmp 18) (m:=k) (j:=(k:Int)) rfl u22 s3 (Eq.trans (b:=v_xs) Ab Al) Aa rfl hlt21) ?_
 refine WQ.z (.int .i64 ((xs.getD k 0))) (fun w' hw=>V.load rfl p3 rfl ((Ag.ext hw (by simp)).cell (j:=0) rfl)) ?_
 refine WQ.m rfl ?_
 refine WQ.m rfl ?_
 have hlt31:k < (ys).length:=by first | omega | (simp at *; omega)
 obtain ⟨Ax,Ay,c25,A7,An,hnb28,Ao,Ah⟩:=(h_ys.ext (Ext.pre Ac)).get (i:=k) (x:=(ys.getD k 0)) (getD_some hlt31 _)
 obtain ⟨rfl,A5⟩:=Ao
 refine WQ.z (.pointer (some ⟨Ax,Ay + k * 1,none⟩)) (fun w' hw=>V.indexAddr (x:=.tmp 21) (i:=.tmp 22) (m:=k) (j:=(k:Int)) rfl u22 s3 (Eq.trans (b:=v_ys) Ad An) Aa rfl hlt31) ?_
 refine WQ.z (.int .i64 ((ys.getD k 0))) (fun w' hw=>V.load rfl p3 rfl ((Ah.ext hw (by simp)).cell (j:=0) rfl)) ?_
 refine WQ.z (.bool (decide ((xs.getD k 0) ≠ (ys.getD k 0)))) (fun w' hw=>V.cmp rfl rfl rfl rfl) ?_
 refine WQ.nil (fun Az hq34=>?_)
 have Af:Ext [] w Az:=Ac.trans hq34
 refine WP.condp (t:=(xs.getD k 0) ≠ (ys.getD k 0)) rfl (fun Ap=>?_) (fun Ap=>?_)
 ·refine WP.sr ?_
  refine WL.m rfl ?_
  refine WL.nil ?_
  refine WP.ret ?_
  refine resOf.c1 rfl (v:=.bool (false)) rfl ?_
  exact ⟨(bool_eq (by first | (exact (eqB_len (by omega)).symm) | (exact (eqB_true (by omega) (by assumption) (by omega)).symm) | (exact (eqB_false (by omega) (by omega) (by grind [ieq])).symm))),Af⟩
 refine WP.skip ?_
 refine WP.region ?_
 refine WL.m rfl ?_
 refine WL.z (.int .i64 ((k:Int) + 1)) (V.arith (x:=.tmp 15) rfl Aa rfl rfl (wrap_i64 (by omega) (by omega))) ?_
 refine WL.m rfl ?_
 refine WL.nil ?_
 exact ⟨k + 1,⟨Ab,Ad,(int_eq (by omega)),Ae,Af,(by omega),(all_step (by assumption) (by grind [ieq]))⟩,(by omega)⟩
theorem sl_equal_int {w:World} {X:List Nat} {v_xs:Value} {xs:List Int} (h_xs:Sl (intR .i64) X w v_xs xs) {v_ys:Value} {ys:List Int} (h_ys:Sl (intR .i64) X w v_ys ys):Fnc Try.prog 51 #[v_xs,v_ys] w (fun v w'=>v = .bool (eqB ieq xs ys) ∧ Ext [] w w'):=by
 have hle_xs:=h_xs.le'
 refine Fnc.of_WP (n:=26) Try.func51 rfl Try.ntmps51 (by simp) ?_
 intro E hE
 have h0:E 0 = v_xs:=hE 0 (by simp)
 have h1:E 1 = v_ys:=hE 1 (by simp)
 clear hE
 refine WP.sr ?_
 refine WL.m rfl ?_
 refine WL.nil ?_
 refine WP.seq ?_
 refine WP.sr ?_
 refine WL.m rfl ?_
 obtain ⟨a1,c2,Aj⟩:=h_xs.shape
 refine WL.z (.int .i64 (((xs).length:Int))) (V.lenSlice (x:=.tmp 6) rfl rfl u22 (Eq.trans (b:=v_xs) h0 Aj)) ?_
 refine WL.m rfl ?_
 obtain ⟨a4,c5,Ar⟩:=h_ys.shape
 refine WL.z (.int .i64 (((ys).length:Int))) (V.lenSlice (x:=.tmp 8) rfl rfl u22 (Eq.trans (b:=v_ys) h1 Ar)) ?_
 refine WL.z (.bool (decide (((xs).length:Int) ≠ ((ys).length:Int)))) (V.cmp rfl rfl rfl rfl) ?_
 refine WL.nil ?_
 refine WP.condp (t:=((xs).length:Int) ≠ ((ys).length:Int)) rfl (fun As=>?_) (fun As=>?_)
 ·refine WP.sr ?_
  refine WL.m rfl ?_
  refine WL.nil ?_
  refine WP.ret ?_
  refine resOf.c1 rfl (v:=.bool (false)) rfl ?_
  exact ⟨(bool_eq (by first | (exact (eqB_len (by omega)).symm) | (exact (eqB_true (by omega) (by assumption) (by omega)).symm) | (exact (eqB_false (by omega) (by omega) (by grind [ieq])).symm))),Ext.refl _ _⟩
 refine WP.skip ?_
 refine WP.seq ?_
 refine WP.sr ?_
 refine WL.m rfl ?_
 refine WL.z (.int .i64 (((xs).length:Int))) (V.lenSlice (x:=.tmp 11) rfl rfl u22 (Eq.trans (b:=v_xs) h0 Aj)) ?_
 refine WL.m rfl ?_
 refine WL.nil ?_
 refine WP.block ?_
 refine WP.loop (σ:=Nat) (fun k E8 w9=>E8 0 = v_xs ∧ E8 1 = v_ys ∧ E8 10 = .bool (decide (((xs).length:Int) ≠ ((ys).length:Int))) ∧ E8 12 = .int .i64 (((xs).length:Int)) ∧ E8 13 = .int .i64 ((k:Int)) ∧ Ext [] w w9 ∧ k ≤ xs.length ∧ ∀ j,j < k → (fun i=>ieq (xs.getD i 0) (ys.getD i 0)) j = true) (fun k=>xs.length - k) (0) ?_ ?_
 ·exact ⟨h0,h1,rfl,rfl,(int_eq (by omega)),(Ext.refl _ _),(by omega),(all_zero _)⟩
 rintro k E8 w9 ⟨Ad,Ae,Af,Ac,Aa,Ak,Au,Av⟩
 have Ab:Ext [] w w9:=Ak
 refine WP.sr ?_
 refine WL.z (.bool (decide ((k:Int) < ((xs).length:Int)))) (V.cmp (x:=.tmp 13) (y:=.tmp 12) rfl Aa Ac rfl) ?_
 refine WL.nil ?_
 refine WP.seq ?_
 refine WP.condp (t:=(k:Int) < ((xs).length:Int)) rfl (fun Al=>?_) (fun Al=>?_)
 rotate_left
 ·refine WP.exit ?_
  refine WP.sr ?_
  refine WL.m rfl ?_
  refine WL.nil ?_
  refine WP.ret ?_
  refine resOf.c1 rfl (v:=.bool (true)) rfl ?_
  exact ⟨(bool_eq (by first | (exact (eqB_len (by omega)).symm) | (exact (eqB_true (by omega) (by assumption) (by omega)).symm) | (exact (eqB_false (by omega) (by omega) (by grind [ieq])).symm))),Ab⟩
 refine WP.skip ?_
 refine WP.seq ?_
 refine WP.block ?_
 refine WP.sr ?_
 refine WL.m rfl ?_
 refine WL.m rfl ?_
 refine WL.nil ?_
 refine WP.seq ?_
 refine WP.quiet mo (by kernel_rfl) ?_
 refine WQ.m rfl ?_
 refine WQ.m rfl ?_
 have hlt21:k < (xs).length:=by first | omega | (simp at *; omega)
 obtain ⟨Aw,Ax,c15,A7,Am,hnb18,An,Ah⟩:=(h_xs.ext (Ext.pre Ab)).get (i:=k) (x:=(xs.getD k 0)) (getD_some hlt21 _)
 obtain ⟨rfl,A5⟩:=An
 refine WQ.z (.pointer (some ⟨Aw,Ax + k * 1,none⟩)) (fun w' hw=>V.indexAddr (x:=.tmp 16) (i:=.tmp 17) (m:=k) (j:=(k:Int)) rfl u22 s3 (Eq.trans (b:=v_xs) Ad Am) Aa rfl hlt21) ?_
 refine WQ.z (.int .i64 ((xs.getD k 0))) (fun w' hw=>V.load rfl p3 rfl ((Ah.ext hw (by simp)).cell (j:=0) rfl)) ?_
 refine WQ.m rfl ?_
 refine WQ.m rfl ?_
 have hlt31:k < (ys).length:=by first | omega | (simp at *; omega)
 obtain ⟨Ay,Az,c25,A8,Ao,hnb28,Ap,Ai⟩:=(h_ys.ext (Ext.pre Ab)).get (i:=k) (x:=(ys.getD k 0)) (getD_some hlt31 _)
 obtain ⟨rfl,A6⟩:=Ap
 refine WQ.z (.pointer (some ⟨Ay,Az + k * 1,none⟩)) (fun w' hw=>V.indexAddr (x:=.tmp 20) (i:=.tmp 21) (m:=k) (j:=(k:Int)) rfl u22 s3 (Eq.trans (b:=v_ys) Ae Ao) Aa rfl hlt31) ?_
 refine WQ.z (.int .i64 ((ys.getD k 0))) (fun w' hw=>V.load rfl p3 rfl ((Ai.ext hw (by simp)).cell (j:=0) rfl)) ?_
 refine WQ.z (.bool (decide ((xs.getD k 0) ≠ (ys.getD k 0)))) (fun w' hw=>V.cmp rfl rfl rfl rfl) ?_
 refine WQ.nil (fun A4 hq34=>?_)
 have Ag:Ext [] w A4:=Ab.trans hq34
 refine WP.condp (t:=(xs.getD k 0) ≠ (ys.getD k 0)) rfl (fun Aq=>?_) (fun Aq=>?_)
 ·refine WP.sr ?_
  refine WL.m rfl ?_
  refine WL.nil ?_
  refine WP.ret ?_
  refine resOf.c1 rfl (v:=.bool (false)) rfl ?_
  exact ⟨(bool_eq (by first | (exact (eqB_len (by omega)).symm) | (exact (eqB_true (by omega) (by assumption) (by omega)).symm) | (exact (eqB_false (by omega) (by omega) (by grind [ieq])).symm))),Ag⟩
 refine WP.skip ?_
 refine WP.region ?_
 refine WL.z (.int .i64 ((k:Int) + 1)) (V.arith (x:=.tmp 13) rfl Aa rfl rfl (wrap_i64 (by omega) (by omega))) ?_
 refine WL.m rfl ?_
 refine WL.nil ?_
 exact ⟨k + 1,⟨Ad,Ae,Af,Ac,(int_eq (by omega)),Ag,(by omega),(all_step (by assumption) (by grind [ieq]))⟩,(by omega)⟩
theorem ref_Has {w:World} {X:List Nat} {v_xs:Value} {xs:List Int} (h_xs:Sl (intR .i64) X w v_xs xs) (n:Int):Fnc Try.prog 59 #[v_xs,.int .i64 (n)] w (fun v w'=>v = .bool (hasB xs n) ∧ Ext [] w w'):=by
 have hle_xs:=h_xs.le'
 refine Fnc.of_WP (n:=18) Try.func59 rfl Try.ntmps59 (by simp) ?_
 intro E hE
 have h0:E 0 = v_xs:=hE 0 (by simp)
 have h1:E 1 = .int .i64 (n):=hE 1 (by simp)
 clear hE
 refine WP.sr ?_
 refine WL.m rfl ?_
 refine WL.nil ?_
 refine WP.seq ?_
 refine WP.sr ?_
 refine WL.m rfl ?_
 refine WL.nil ?_
 refine WP.block ?_
 refine WP.loop (σ:=Nat) (fun k E1 w2=>E1 0 = v_xs ∧ E1 1 = .int .i64 (n) ∧ E1 5 = .int .i64 ((k:Int)) ∧ Ext [] w w2 ∧ k ≤ xs.length ∧ ∀ j,j < k → (fun i=>!ieq (xs.getD i 0) n) j = true) (fun k=>xs.length - k) (0) ?_ ?_
 ·exact ⟨h0,h1,(int_eq (by omega)),(Ext.refl _ _),(by omega),(all_zero _)⟩
 rintro k E1 w2 ⟨Aa,Ad,Ab,Ai,Am,An⟩
 have Ac:Ext [] w w2:=Ai
 refine WP.seq ?_
 refine WP.sr ?_
 refine WL.m rfl ?_
 refine WL.m rfl ?_
 obtain ⟨a5,c6,Aj⟩:=h_xs.shape
 refine WL.z (.int .i64 (((xs).length:Int))) (V.lenSlice (x:=.tmp 7) rfl rfl u22 (Eq.trans (b:=v_xs) Aa Aj)) ?_
 refine WL.z (.bool (decide ((k:Int) < ((xs).length:Int)))) (V.cmp (x:=.tmp 6) rfl Ab rfl rfl) ?_
 refine WL.nil ?_
 refine WP.condp (t:=(k:Int) < ((xs).length:Int)) rfl (fun Ak=>?_) (fun Ak=>?_)
 rotate_left
 ·refine WP.exit ?_
  refine WP.sr ?_
  refine WL.m rfl ?_
  refine WL.nil ?_
  refine WP.ret ?_
  refine resOf.c1 rfl (v:=.bool (false)) rfl ?_
  exact ⟨(bool_eq (by first | (exact (hasB_false (by assumption) (by omega)).symm) | (exact (hasB_true (by assumption) (by grind [ieq])).symm))),Ac⟩
 refine WP.skip ?_
 refine WP.seq ?_
 refine WP.block ?_
 refine WP.sr ?_
 refine WL.m rfl ?_
 refine WL.m rfl ?_
 have hlt17:k < (xs).length:=by first | omega | (simp at *; omega)
 obtain ⟨b9,Al,c11,Ap,Af,hnb14,Ag,Ae⟩:=(h_xs.ext (Ext.pre Ac)).get (i:=k) (x:=(xs.getD k 0)) (getD_some hlt17 _)
 obtain ⟨rfl,Ao⟩:=Ag
 refine WL.z (.pointer (some ⟨b9,Al + k * 1,none⟩)) (V.indexAddr (x:=.tmp 12) (i:=.tmp 13) (m:=k) (j:=(k:Int)) rfl u22 s3 (Eq.trans (b:=v_xs) Aa Af) Ab rfl hlt17) ?_
 refine WL.z (.int .i64 ((xs.getD k 0))) (V.load rfl p3 rfl (Ae.cell (j:=0) rfl)) ?_
 refine WL.m rfl ?_
 refine WL.z (.bool (decide ((xs.getD k 0) = n))) (V.cmp (y:=.tmp 16) rfl rfl Ad rfl) ?_
 refine WL.nil ?_
 refine WP.condp (t:=(xs.getD k 0) = n) rfl (fun Ah=>?_) (fun Ah=>?_)
 ·refine WP.sr ?_
  refine WL.m rfl ?_
  refine WL.nil ?_
  refine WP.ret ?_
  refine resOf.c1 rfl (v:=.bool (true)) rfl ?_
  exact ⟨(bool_eq (by first | (exact (hasB_false (by assumption) (by omega)).symm) | (exact (hasB_true (by assumption) (by grind [ieq])).symm))),Ac⟩
 refine WP.skip ?_
 refine WP.region ?_
 refine WL.m rfl ?_
 refine WL.z (.int .i64 ((k:Int) + 1)) (V.arith (x:=.tmp 10) rfl Ab rfl rfl (wrap_i64 (by omega) (by omega))) ?_
 refine WL.m rfl ?_
 refine WL.nil ?_
 exact ⟨k + 1,⟨Aa,Ad,(int_eq (by omega)),Ac,(by omega),(all_step (by assumption) (by grind [ieq]))⟩,(by omega)⟩
theorem sl_clone_int {w:World} {X:List Nat} {v_xs:Value} {xs:List Int} (h_xs:Sl (intR .i64) X w v_xs xs) (hb:xs.length ≤ 17592186044416) (hX:∀ x ∈ X,x < w.heap.size):Fnc Try.prog 39 #[v_xs] w (fun v w'=>∃ (u0:Value),v = u0 ∧ Sl (intR .i64) X w' u0 (xs) ∧ Ext [] w w'):=by
 refine Fnc.of_WP (n:=8) Try.func39 rfl Try.ntmps39 (by simp) ?_
 intro E hE
 have h0:E 0 = v_xs:=hE 0 (by simp)
 clear hE
 refine WP.sr ?_
 refine WL.m rfl ?_
 refine WL.nil ?_
 refine WP.seq ?_
 refine WP.sr ?_
 refine WL.m rfl ?_
 obtain ⟨a1,c2,Ak⟩:=h_xs.shape
 refine WL.z (.bool (nilB v_xs)) (V.eqNil (x:=.tmp 3) rfl u22 h0 Ak rfl) ?_
 refine WL.nil ?_
 refine WP.cond (t:=nilB v_xs) rfl (fun Ab=>?_) (fun Ab=>?_)
 ·have Ae:=(h_xs).isNil Ab
  replace Ab:=Ae.2
  refine WP.sr ?_
  refine WL.m rfl ?_
  refine WL.nil ?_
  refine WP.ret ?_
  refine resOf.c1 rfl (v:=.slice none 0 0) rfl ?_
  exact ⟨.slice none 0 0,rfl,(castSl (by first | rfl | (revert Ab; simp +contextual)) Sl.nil),Ext.refl _ _⟩
 refine WP.skip ?_
 refine WP.sr ?_
 refine WL.lit (R:=(intR .i64)) (X:=X) (vs:=[]) (xs:=[]) (Sure.none rfl) rfl rfl u22 e3 (by show 0 < (1:Nat); decide) (by show _ * (1:Nat) ≤ 1024; decide) rfl rfl rfl (by intro i v x hv hx; match i,hv,hx with | i + 0,hv,_=>simp at hv) (fun v5 w6 Al Am hlit9=>?_)
 have Af:∀ g,(v5).ownBlock = some g → g ∉ X:=by intro g hg hm; have h1:=hlit9 g hg; have h2:=hX g hm; omega
 have Aa:Ext [] w w6:=Al
 have Ac:=Am.low (B':=w.heap.size) (Nat.le_refl _)
 refine WL.m rfl ?_
 refine WL.appendOwn (y:=.tmp 6) (R:=(intR .i64)) (X:=X) (B:=w.heap.size) (xs:=[]) (ys:=xs) (Sure.none rfl) rfl rfl u22 e3 rfl (by show 0 < (1:Nat); decide) rfl h0 Ac (h_xs.ext (Ext.pre Aa)) (fun g hg=>(Sl.new nz1 h_xs (Nat.le_trans (Nat.le_refl _) (Ac.lt g hg).1)).ext (Ext.cons (Ext.pre Aa))) Aa.size (by simp only [List.length_cons,List.length_nil]; omega) (by simp only [List.length_cons,List.length_nil,maxLen]; omega) (fun Ah An Ad Ai hf17=>?_)
 have Ag:=after_no hf17 Af (inMono hX Aa.size)
 have Aj:=Ext.ownB (Aa) Ai (fun k hk=>(Owns.lt Ac k hk).1) (Nat.le_refl _)
 have Ad:=Ad.castE (List.nil_append _)
 refine WL.m rfl ?_
 refine WL.nil ?_
 refine WP.ret ?_
 refine resOf.c1 rfl (v:=Ah) rfl ?_
 exact ⟨Ah,rfl,(castSl (by first | rfl | (revert Ab; simp +contextual)) (Owns.sl' Ad Ag)),Aj⟩
theorem vote_Last {w:World} {X:List Nat} {p:PeerD} {c_p:List Value} (h_p:peerR.rd X w c_p p) (hBase:p.Base ≤ 4611686018427387904):Fnc Try.prog 23 #[.agg c_p.toArray] w (fun v w'=>v = .tuple #[.int .u64 (lastI p),.int .u64 (lastT p)] ∧ Ext [] w w'):=by
 obtain ⟨v1,v3,v5,v7,v9,Ai,rfl,Bl,Bm,Aj,Bn,Bg,Bh,Am⟩:=h_p
 obtain ⟨Ax,Ay,Az,A4,A5,Ad,A6,A7,A8,A9,Ba,Bb⟩:=(show PeerD.InR p from Am)
 have Ad:=inK_u64 Ad
 have Bc:=Aj.le'
 refine Fnc.of_WP (n:=26) Try.func23 rfl Try.ntmps23 (by simp) ?_
 intro E hE
 have h0:E 0 = .agg (peerA p v1 v3 v5 v7 v9 Ai):=hE 0 (by simp)
 clear hE
 refine WP.sr ?_
 refine WL.box (x:=.tmp 0) (cs:=(peerC p v1 v3 v5 v7 v9 Ai)) (Sure.none rfl) rfl rfl h0 rfl (fun Ab Bo Ae Bi Ac=>?_)
 have Af:=(Sl.new (b:=Ab) nz4 Aj (by omega)).ext (Ext.any Ae)
 have Ag:Ext [Ab] _ _:=(Ext.refl _ _).trans (Ext.any Ae)
 have Aa:w.heap.size ≤ Ab:=by have:=Nat.le_refl w.heap.size; omega
 refine WL.m rfl ?_
 refine WL.m rfl ?_
 refine WL.nil ?_
 refine WP.seq ?_
 refine WP.sr ?_
 refine WL.f (v5) fl29_10 rfl p25 (Ac.cell rfl) ?_
 obtain ⟨a44,c45,An⟩:=Af.shape
 refine WL.z (.int .i64 (((p.Log).length:Int))) (V.lenSlice rfl rfl u25 (Eq.trans (b:=v5) rfl An)) ?_
 refine WL.m rfl ?_
 refine WL.nil ?_
 refine WP.sr ?_
 refine WL.m rfl ?_
 refine WL.z (.bool (decide (((p.Log).length:Int) > 0))) (V.cmp rfl rfl rfl rfl) ?_
 refine WL.nil ?_
 refine WP.condp (t:=((p.Log).length:Int) > 0) rfl (fun Ao=>?_) (fun Ao=>?_)
 rotate_left
 ·refine WP.skip ?_
  refine WP.seq ?_
  refine WP.quiet mo (by kernel_rfl) ?_
  refine WQ.f (.int .u64 (p.Base)) fl29_6 rfl p23 (fun w' hw=>(Ac.ext hw (by simp)).cell rfl) ?_
  refine WQ.f (.int .u64 (p.BaseTerm)) fl29_7 rfl p23 (fun w' hw=>(Ac.ext hw (by simp)).cell rfl) ?_
  refine WQ.m rfl ?_
  refine WQ.m rfl ?_
  refine WQ.nil (fun Av hq70=>?_)
  have Ap:Ext [Ab] w Av:=Ag.trans (Ext.any (Y:=[Ab]) hq70)
  refine WP.ret ?_
  refine resOf.c2 rfl (v:=.int .u64 (p.Base)) rfl (v':=.int .u64 (p.BaseTerm)) rfl ?_
  exact ⟨(tup2 (int_eq (by grind [lastI,lastT])) (int_eq (by grind [lastI,lastT]))),((Ap).done (geCons Aa geNil))⟩
 refine WP.seq ?_
 refine WP.quiet mo (by kernel_rfl) ?_
 refine WQ.f (.int .u64 (p.Base)) fl29_6 rfl p23 (fun w' hw=>(Ac.ext hw (by simp)).cell rfl) ?_
 refine WQ.m rfl ?_
 refine WQ.z (.int .u64 (((p.Log).length:Int))) (fun w' hw=>V.convInt rfl u3 u23 rfl (wrap_u64 (by omega) (by omega))) ?_
 refine WQ.z (.int .u64 (p.Base + ((p.Log).length:Int))) (fun w' hw=>V.arith rfl rfl rfl rfl (wrap_u64 (by omega) (by omega))) ?_
 refine WQ.f (v5) fl29_10 rfl p25 (fun w' hw=>(Ac.ext hw (by simp)).cell rfl) ?_
 refine WQ.m rfl ?_
 refine WQ.z (.int .i64 (((p.Log).length:Int) - 1)) (fun w' hw=>V.arith rfl rfl rfl rfl (wrap_i64 (by omega) (by omega))) ?_
 have hlt56:p.Log.length - 1 < (p.Log).length:=by first | omega | (simp at *; omega)
 obtain ⟨Ak,Al,c50,Bj,Aq,hnb53,Ar,Ah⟩:=Af.get (i:=p.Log.length - 1) (x:=(p.Log.getD (p.Log.length - 1) default)) (getD_some hlt56 _)
 obtain ⟨Bp,rfl,Bk,As⟩:=Ar
 obtain ⟨Bd,Be,Bf⟩:=(show EntryD.InR (p.Log.getD (p.Log.length - 1) default) from As)
 refine WQ.z (.pointer (some ⟨Ak,Al + (p.Log.length - 1) * 4,none⟩)) (fun w' hw=>V.indexAddr (m:=p.Log.length - 1) (j:=((p.Log).length:Int) - 1) rfl u25 s48 (Eq.trans (b:=v5) rfl Aq) rfl (by omega) hlt56) ?_
 refine WQ.z (.pointer (some ⟨Ak,Al + (p.Log.length - 1) * 4 + 0,none⟩)) (fun w' hw=>V.fieldAddr rfl fl48_0 rfl) ?_
 refine WQ.z (.int .u64 ((p.Log.getD (p.Log.length - 1) default).Term)) (fun w' hw=>V.load rfl p23 rfl ((Ah.ext hw (by simp)).cell (j:=0) rfl)) ?_
 refine WQ.m rfl ?_
 refine WQ.m rfl ?_
 refine WQ.nil (fun Aw hq65=>?_)
 have Au:Ext [Ab] w Aw:=Ag.trans (Ext.any (Y:=[Ab]) hq65)
 refine WP.ret ?_
 refine resOf.c2 rfl (v:=.int .u64 (p.Base + ((p.Log).length:Int))) rfl (v':=.int .u64 ((p.Log.getD (p.Log.length - 1) default).Term)) rfl ?_
 exact ⟨(tup2 (int_eq (by grind [lastI,lastT])) (int_eq (by grind [lastI,lastT]))),((Au).done (geCons Aa geNil))⟩
theorem ref_Last {w:World} {X:List Nat} {p:PeerD} {c_p:List Value} (h_p:peerR.rd X w c_p p) (hBase:p.Base ≤ 4611686018427387904):Fnc Try.prog 30 #[.agg c_p.toArray] w (fun v w'=>v = .tuple #[.int .u64 (lastI p),.int .u64 (lastT p)] ∧ Ext [] w w'):=by
 obtain ⟨v1,v3,v5,v7,v9,Ai,rfl,Bl,Bm,Aj,Bn,Bg,Bh,Am⟩:=h_p
 obtain ⟨Ax,Ay,Az,A4,A5,Ad,A6,A7,A8,A9,Ba,Bb⟩:=(show PeerD.InR p from Am)
 have Ad:=inK_u64 Ad
 have Bc:=Aj.le'
 refine Fnc.of_WP (n:=26) Try.func30 rfl Try.ntmps30 (by simp) ?_
 intro E hE
 have h0:E 0 = .agg (peerA p v1 v3 v5 v7 v9 Ai):=hE 0 (by simp)
 clear hE
 refine WP.sr ?_
 refine WL.box (x:=.tmp 0) (cs:=(peerC p v1 v3 v5 v7 v9 Ai)) (Sure.none rfl) rfl rfl h0 rfl (fun Ab Bo Ae Bi Ac=>?_)
 have Af:=(Sl.new (b:=Ab) nz4 Aj (by omega)).ext (Ext.any Ae)
 have Ag:Ext [Ab] _ _:=(Ext.refl _ _).trans (Ext.any Ae)
 have Aa:w.heap.size ≤ Ab:=by have:=Nat.le_refl w.heap.size; omega
 refine WL.m rfl ?_
 refine WL.m rfl ?_
 refine WL.nil ?_
 refine WP.sr ?_
 refine WL.f (v5) fl29_10 rfl p25 (Ac.cell rfl) ?_
 obtain ⟨a44,c45,An⟩:=Af.shape
 refine WL.z (.int .i64 (((p.Log).length:Int))) (V.lenSlice rfl rfl u25 (Eq.trans (b:=v5) rfl An)) ?_
 refine WL.m rfl ?_
 refine WL.nil ?_
 refine WP.seq ?_
 refine WP.sr ?_
 refine WL.m rfl ?_
 refine WL.z (.bool (decide (((p.Log).length:Int) = 0))) (V.cmp rfl rfl rfl rfl) ?_
 refine WL.nil ?_
 refine WP.condp (t:=((p.Log).length:Int) = 0) rfl (fun Ao=>?_) (fun Ao=>?_)
 ·refine WP.seq ?_
  refine WP.quiet mo (by kernel_rfl) ?_
  refine WQ.f (.int .u64 (p.Base)) fl29_6 rfl p23 (fun w' hw=>(Ac.ext hw (by simp)).cell rfl) ?_
  refine WQ.f (.int .u64 (p.BaseTerm)) fl29_7 rfl p23 (fun w' hw=>(Ac.ext hw (by simp)).cell rfl) ?_
  refine WQ.m rfl ?_
  refine WQ.m rfl ?_
  refine WQ.nil (fun Av hq49=>?_)
  have Ap:Ext [Ab] w Av:=Ag.trans (Ext.any (Y:=[Ab]) hq49)
  refine WP.ret ?_
  refine resOf.c2 rfl (v:=.int .u64 (p.Base)) rfl (v':=.int .u64 (p.BaseTerm)) rfl ?_
  exact ⟨(tup2 (int_eq (by grind [lastI,lastT])) (int_eq (by grind [lastI,lastT]))),((Ap).done (geCons Aa geNil))⟩
 refine WP.skip ?_
 refine WP.seq ?_
 refine WP.quiet mo (by kernel_rfl) ?_
 refine WQ.f (.int .u64 (p.Base)) fl29_6 rfl p23 (fun w' hw=>(Ac.ext hw (by simp)).cell rfl) ?_
 refine WQ.m rfl ?_
 refine WQ.z (.int .u64 (((p.Log).length:Int))) (fun w' hw=>V.convInt rfl u3 u23 rfl (wrap_u64 (by omega) (by omega))) ?_
 refine WQ.z (.int .u64 (p.Base + ((p.Log).length:Int))) (fun w' hw=>V.arith rfl rfl rfl rfl (wrap_u64 (by omega) (by omega))) ?_
 refine WQ.f (v5) fl29_10 rfl p25 (fun w' hw=>(Ac.ext hw (by simp)).cell rfl) ?_
 refine WQ.m rfl ?_
 refine WQ.z (.int .i64 (((p.Log).length:Int) - 1)) (fun w' hw=>V.arith rfl rfl rfl rfl (wrap_i64 (by omega) (by omega))) ?_
 have hlt61:p.Log.length - 1 < (p.Log).length:=by first | omega | (simp at *; omega)
 obtain ⟨Ak,Al,c55,Bj,Aq,hnb58,Ar,Ah⟩:=Af.get (i:=p.Log.length - 1) (x:=(p.Log.getD (p.Log.length - 1) default)) (getD_some hlt61 _)
 obtain ⟨Bp,rfl,Bk,As⟩:=Ar
 obtain ⟨Bd,Be,Bf⟩:=(show EntryD.InR (p.Log.getD (p.Log.length - 1) default) from As)
 refine WQ.z (.pointer (some ⟨Ak,Al + (p.Log.length - 1) * 4,none⟩)) (fun w' hw=>V.indexAddr (m:=p.Log.length - 1) (j:=((p.Log).length:Int) - 1) rfl u25 s48 (Eq.trans (b:=v5) rfl Aq) rfl (by omega) hlt61) ?_
 refine WQ.z (.pointer (some ⟨Ak,Al + (p.Log.length - 1) * 4 + 0,none⟩)) (fun w' hw=>V.fieldAddr rfl fl48_0 rfl) ?_
 refine WQ.z (.int .u64 ((p.Log.getD (p.Log.length - 1) default).Term)) (fun w' hw=>V.load rfl p23 rfl ((Ah.ext hw (by simp)).cell (j:=0) rfl)) ?_
 refine WQ.m rfl ?_
 refine WQ.m rfl ?_
 refine WQ.nil (fun Aw hq70=>?_)
 have Au:Ext [Ab] w Aw:=Ag.trans (Ext.any (Y:=[Ab]) hq70)
 refine WP.ret ?_
 refine resOf.c2 rfl (v:=.int .u64 (p.Base + ((p.Log).length:Int))) rfl (v':=.int .u64 ((p.Log.getD (p.Log.length - 1) default).Term)) rfl ?_
 exact ⟨(tup2 (int_eq (by grind [lastI,lastT])) (int_eq (by grind [lastI,lastT]))),((Au).done (geCons Aa geNil))⟩
theorem vote_Term {w:World} {X:List Nat} {p:PeerD} {c_p:List Value} (h_p:peerR.rd X w c_p p) (i:Int) (hBase:p.Base ≤ 4611686018427387904) (hi:0 ≤ i ∧ i < 18446744073709551616):Fnc Try.prog 20 #[.agg c_p.toArray,.int .u64 (i)] w (fun v w'=>v = .tuple #[.int .u64 (termOf p i),.bool (termIs p i)] ∧ Ext [] w w'):=by
 obtain ⟨v1,v3,v5,v7,v9,Af,rfl,A9,Ba,Bb,Bc,Ap,Aq,Ai⟩:=h_p
 obtain ⟨Be,Bf,Bg,Bh,Bi,Ah,Bj,Bk,Bl,Bm,Bn,Bo⟩:=(show PeerD.InR p from Ai)
 have Ah:=inK_u64 Ah
 have hlI:lastI p = p.Base + (p.Log.length:Int):=rfl
 refine Fnc.of_WP (n:=40) Try.func20 rfl Try.ntmps20 (by simp) ?_
 intro E hE
 have h0:E 0 = .agg (peerA p v1 v3 v5 v7 v9 Af):=hE 0 (by simp)
 have h1:E 1 = .int .u64 (i):=hE 1 (by simp)
 clear hE
 refine WP.sr ?_
 refine WL.box (x:=.tmp 0) (cs:=(peerC p v1 v3 v5 v7 v9 Af)) (Sure.none rfl) rfl rfl h0 rfl (fun Ab Bd Ac Bs Aj=>?_)
 have Ar:=(Sl.new (b:=Ab) nz1 A9 (by omega)).ext (Ext.any Ac)
 have As:=(Sl.new (b:=Ab) nz1 Ba (by omega)).ext (Ext.any Ac)
 have Ak:=(Sl.new (b:=Ab) nz4 Bb (by omega)).ext (Ext.any Ac)
 have Au:=(Sl.new (b:=Ab) nz1 Bc (by omega)).ext (Ext.any Ac)
 have Av:=(Sl.new (b:=Ab) nz3 Ap (by omega)).ext (Ext.any Ac)
 have Aw:=(Sl.new (b:=Ab) nz3 Aq (by omega)).ext (Ext.any Ac)
 have Ax:Ext [Ab] _ _:=(Ext.refl _ _).trans (Ext.any Ac)
 have Aa:w.heap.size ≤ Ab:=by have:=Nat.le_refl w.heap.size; omega
 refine WL.m rfl ?_
 refine WL.m rfl ?_
 refine WL.nil ?_
 refine WP.sr ?_
 refine WL.z (.agg (peerA p v1 v3 v5 v7 v9 Af)) (V.loadAgg (cs:=(peerC p v1 v3 v5 v7 v9 Af)) rfl a29 rfl (At.box Aj) rfl) ?_
 refine WL.c (Sure.none rfl) rfl (C.call1 rfl cl23 rfl) (Fnc.mono (vote_Last (p:=p) ⟨v1,v3,v5,v7,v9,Af,rfl,Ar,As,Ak,Au,Av,Aw,Ai⟩ (by omega)) ?_)
 rintro _ Am ⟨rfl,Ag⟩
 have Ae:Ext [Ab] w Am:=Ax.trans (Ext.any (Y:=[Ab]) Ag)
 have Ay:Ext [Ab] Bd Am:=(Ext.any (Y:=[Ab]) Ag)
 have Ad:=Aj.ext Ag (by simp)
 refine WL.m rfl ?_
 refine WL.z (.int .u64 (lastI p)) (V.extract rfl rfl rfl) ?_
 refine WL.z (.int .u64 (lastT p)) (V.extract rfl rfl rfl) ?_
 refine WL.m rfl ?_
 refine WL.m rfl ?_
 refine WL.nil ?_
 refine WP.seq ?_
 refine WP.block ?_
 refine WP.sr ?_
 refine WL.m rfl ?_
 refine WL.f (.int .u64 (p.Base)) fl29_6 rfl p23 (Ad.cell rfl) ?_
 refine WL.z (.bool (decide (i < p.Base))) (V.cmp (x:=.tmp 14) rfl h1 rfl rfl) ?_
 refine WL.vbp (c:=i < p.Base) (Sure.none rfl) rfl (V.move rfl rfl) (fun Az=>?_) (fun Az=>?_)
 ·refine WL.skips [(18,some true)] [(13,some true)] (kc (some true) rfl kn) (by kernel_rfl) (fun Bw hK51 Bt=>?_)
  refine WP.cond_true (hK51 13 (some true) rfl) ?_
  refine WP.sr ?_
  refine WL.m rfl ?_
  refine WL.m rfl ?_
  refine WL.nil ?_
  refine WP.ret ?_
  refine resOf.c2 rfl (v:=.int .u64 (0)) rfl (v':=.bool (false)) rfl ?_
  exact ⟨(tup2 (int_eq (by first | exact (termOf_in (by omega) (by omega)).symm | exact (termOf_at (by omega)).symm | exact (termOf_out (by omega)).symm | exact (termIs_in (by omega) (by omega)).symm | exact (termIs_out (by omega)).symm)) (bool_eq (by first | exact (termOf_in (by omega) (by omega)).symm | exact (termOf_at (by omega)).symm | exact (termOf_out (by omega)).symm | exact (termIs_in (by omega) (by omega)).symm | exact (termIs_out (by omega)).symm))),((Ae).done (geCons Aa geNil))⟩
 refine WL.my rfl rfl ?_
 refine WL.my rfl rfl ?_
 refine WL.y (.bool (decide (i > (lastI p)))) rfl (V.cmp (x:=.tmp 19) rfl h1 rfl rfl) ?_
 refine WL.k (a:=false) rfl rfl ?_
 refine WL.m rfl ?_
 refine WL.nil ?_
 refine WP.condp (t:=i > (lastI p)) rfl (fun A4=>?_) (fun A4=>?_)
 ·refine WP.sr ?_
  refine WL.m rfl ?_
  refine WL.m rfl ?_
  refine WL.nil ?_
  refine WP.ret ?_
  refine resOf.c2 rfl (v:=.int .u64 (0)) rfl (v':=.bool (false)) rfl ?_
  exact ⟨(tup2 (int_eq (by first | exact (termOf_in (by omega) (by omega)).symm | exact (termOf_at (by omega)).symm | exact (termOf_out (by omega)).symm | exact (termIs_in (by omega) (by omega)).symm | exact (termIs_out (by omega)).symm)) (bool_eq (by first | exact (termOf_in (by omega) (by omega)).symm | exact (termOf_at (by omega)).symm | exact (termOf_out (by omega)).symm | exact (termIs_in (by omega) (by omega)).symm | exact (termIs_out (by omega)).symm))),((Ae).done (geCons Aa geNil))⟩
 refine WP.sr ?_
 refine WL.m rfl ?_
 refine WL.f (.int .u64 (p.Base)) fl29_6 rfl p23 (Ad.cell rfl) ?_
 refine WL.z (.bool (decide (i = p.Base))) (V.cmp (x:=.tmp 24) rfl h1 rfl rfl) ?_
 refine WL.m rfl ?_
 refine WL.nil ?_
 refine WP.condp (t:=i = p.Base) rfl (fun A5=>?_) (fun A5=>?_)
 ·refine WP.sr ?_
  refine WL.f (.int .u64 (p.BaseTerm)) fl29_7 rfl p23 (Ad.cell rfl) ?_
  refine WL.m rfl ?_
  refine WL.m rfl ?_
  refine WL.nil ?_
  refine WP.ret ?_
  refine resOf.c2 rfl (v:=.int .u64 (p.BaseTerm)) rfl (v':=.bool (true)) rfl ?_
  exact ⟨(tup2 (int_eq (by first | exact (termOf_in (by omega) (by omega)).symm | exact (termOf_at (by omega)).symm | exact (termOf_out (by omega)).symm | exact (termIs_in (by omega) (by omega)).symm | exact (termIs_out (by omega)).symm)) (bool_eq (by first | exact (termOf_in (by omega) (by omega)).symm | exact (termOf_at (by omega)).symm | exact (termOf_out (by omega)).symm | exact (termIs_in (by omega) (by omega)).symm | exact (termIs_out (by omega)).symm))),((Ae).done (geCons Aa geNil))⟩
 refine WP.skip ?_
 refine WP.sr ?_
 refine WL.f (v5) fl29_10 rfl p25 (Ad.cell rfl) ?_
 refine WL.m rfl ?_
 refine WL.f (.int .u64 (p.Base)) fl29_6 rfl p23 (Ad.cell rfl) ?_
 refine WL.z (.int .u64 (i - p.Base)) (V.arith (x:=.tmp 32) rfl h1 rfl rfl (wrap_u64 (by omega) (by omega))) ?_
 refine WL.z (.int .u64 ((i - p.Base) - 1)) (V.arith rfl rfl rfl rfl (wrap_u64 (by omega) (by omega))) ?_
 have hlt63:(i - p.Base - 1).toNat < (p.Log).length:=by first | omega | (simp at *; omega)
 obtain ⟨An,Ao,c57,Bu,A6,hnb60,A7,Al⟩:=(Ak.ext (Ext.pre Ay)).get (i:=(i - p.Base - 1).toNat) (x:=(p.Log.getD ((i - p.Base - 1).toNat) default)) (getD_some hlt63 _)
 obtain ⟨Bx,rfl,Bv,A8⟩:=A7
 obtain ⟨Bp,Bq,Br⟩:=(show EntryD.InR (p.Log.getD ((i - p.Base - 1).toNat) default) from A8)
 refine WL.z (.pointer (some ⟨An,Ao + ((i - p.Base - 1).toNat) * 4,none⟩)) (V.indexAddr (m:=(i - p.Base - 1).toNat) (j:=(i - p.Base) - 1) rfl u25 s48 (Eq.trans (b:=v5) rfl A6) rfl (by omega) hlt63) ?_
 refine WL.z (.pointer (some ⟨An,Ao + ((i - p.Base - 1).toNat) * 4 + 0,none⟩)) (V.fieldAddr rfl fl48_0 rfl) ?_
 refine WL.z (.int .u64 ((p.Log.getD ((i - p.Base - 1).toNat) default).Term)) (V.load rfl p23 rfl (Al.cell (j:=0) rfl)) ?_
 refine WL.m rfl ?_
 refine WL.m rfl ?_
 refine WL.nil ?_
 refine WP.ret ?_
 refine resOf.c2 rfl (v:=.int .u64 ((p.Log.getD ((i - p.Base - 1).toNat) default).Term)) rfl (v':=.bool (true)) rfl ?_
 exact ⟨(tup2 (int_eq (by first | exact (termOf_in (by omega) (by omega)).symm | exact (termOf_at (by omega)).symm | exact (termOf_out (by omega)).symm | exact (termIs_in (by omega) (by omega)).symm | exact (termIs_out (by omega)).symm)) (bool_eq (by first | exact (termOf_in (by omega) (by omega)).symm | exact (termOf_at (by omega)).symm | exact (termOf_out (by omega)).symm | exact (termIs_in (by omega) (by omega)).symm | exact (termIs_out (by omega)).symm))),((Ae).done (geCons Aa geNil))⟩
theorem ref_Term {w:World} {X:List Nat} {p:PeerD} {c_p:List Value} (h_p:peerR.rd X w c_p p) (i:Int) (hBase:p.Base ≤ 4611686018427387904) (hi:0 ≤ i ∧ i < 18446744073709551616):Fnc Try.prog 31 #[.agg c_p.toArray,.int .u64 (i)] w (fun v w'=>v = .tuple #[.int .u64 (termOf p i),.bool (termIs p i)] ∧ Ext [] w w'):=by
 obtain ⟨v1,v3,v5,v7,v9,Ae,rfl,Ba,Bb,An,Bc,Ar,As,Aj⟩:=h_p
 obtain ⟨Be,Bf,Bg,Bh,Bi,Ai,Bj,Bk,Bl,Bm,Bn,Bo⟩:=(show PeerD.InR p from Aj)
 have Ai:=inK_u64 Ai
 have Bp:=An.le'
 have hlI:lastI p = p.Base + (p.Log.length:Int):=rfl
 refine Fnc.of_WP (n:=38) Try.func31 rfl Try.ntmps31 (by simp) ?_
 intro E hE
 have h0:E 0 = .agg (peerA p v1 v3 v5 v7 v9 Ae):=hE 0 (by simp)
 have h1:E 1 = .int .u64 (i):=hE 1 (by simp)
 clear hE
 refine WP.sr ?_
 refine WL.box (x:=.tmp 0) (cs:=(peerC p v1 v3 v5 v7 v9 Ae)) (Sure.none rfl) rfl rfl h0 rfl (fun Ab Bd Ac Bt Ad=>?_)
 have Au:=(Sl.new (b:=Ab) nz1 Ba (by omega)).ext (Ext.any Ac)
 have Av:=(Sl.new (b:=Ab) nz1 Bb (by omega)).ext (Ext.any Ac)
 have Ak:=(Sl.new (b:=Ab) nz4 An (by omega)).ext (Ext.any Ac)
 have Aw:=(Sl.new (b:=Ab) nz1 Bc (by omega)).ext (Ext.any Ac)
 have Ax:=(Sl.new (b:=Ab) nz3 Ar (by omega)).ext (Ext.any Ac)
 have Ay:=(Sl.new (b:=Ab) nz3 As (by omega)).ext (Ext.any Ac)
 have Al:Ext [Ab] _ _:=(Ext.refl _ _).trans (Ext.any Ac)
 have Aa:w.heap.size ≤ Ab:=by have:=Nat.le_refl w.heap.size; omega
 refine WL.m rfl ?_
 refine WL.m rfl ?_
 refine WL.nil ?_
 refine WP.seq ?_
 refine WP.sr ?_
 refine WL.m rfl ?_
 refine WL.f (.int .u64 (p.Base)) fl29_6 rfl p23 (Ad.cell rfl) ?_
 refine WL.z (.bool (decide (i = p.Base))) (V.cmp (x:=.tmp 8) rfl h1 rfl rfl) ?_
 refine WL.nil ?_
 refine WP.condp (t:=i = p.Base) rfl (fun Az=>?_) (fun Az=>?_)
 ·refine WP.sr ?_
  refine WL.f (.int .u64 (p.BaseTerm)) fl29_7 rfl p23 (Ad.cell rfl) ?_
  refine WL.m rfl ?_
  refine WL.m rfl ?_
  refine WL.nil ?_
  refine WP.ret ?_
  refine resOf.c2 rfl (v:=.int .u64 (p.BaseTerm)) rfl (v':=.bool (true)) rfl ?_
  exact ⟨(tup2 (int_eq (by first | exact (termOf_in (by omega) (by omega)).symm | exact (termOf_at (by omega)).symm | exact (termOf_out (by omega)).symm | exact (termIs_in (by omega) (by omega)).symm | exact (termIs_out (by omega)).symm)) (bool_eq (by first | exact (termOf_in (by omega) (by omega)).symm | exact (termOf_at (by omega)).symm | exact (termOf_out (by omega)).symm | exact (termIs_in (by omega) (by omega)).symm | exact (termIs_out (by omega)).symm))),((Al).done (geCons Aa geNil))⟩
 refine WP.skip ?_
 refine WP.sr ?_
 refine WL.z (.agg (peerA p v1 v3 v5 v7 v9 Ae)) (V.loadAgg (cs:=(peerC p v1 v3 v5 v7 v9 Ae)) rfl a29 rfl (At.box Ad) rfl) ?_
 refine WL.c (Sure.none rfl) rfl (C.call1 rfl cl30 rfl) (Fnc.mono (ref_Last (p:=p) ⟨v1,v3,v5,v7,v9,Ae,rfl,Au,Av,Ak,Aw,Ax,Ay,Aj⟩ (by omega)) ?_)
 rintro _ Ao ⟨rfl,Af⟩
 have Ag:Ext [Ab] w Ao:=Al.trans (Ext.any (Y:=[Ab]) Af)
 have A4:Ext [Ab] Bd Ao:=(Ext.any (Y:=[Ab]) Af)
 have Ah:=Ad.ext Af (by simp)
 refine WL.m rfl ?_
 refine WL.z (.int .u64 (lastI p)) (V.extract rfl rfl rfl) ?_
 refine WL.z (.int .u64 (lastT p)) (V.extract rfl rfl rfl) ?_
 refine WL.m rfl ?_
 refine WL.m rfl ?_
 refine WL.nil ?_
 refine WP.seq ?_
 refine WP.sr ?_
 refine WL.m rfl ?_
 refine WL.f (.int .u64 (p.Base)) fl29_6 rfl p23 (Ah.cell rfl) ?_
 refine WL.z (.bool (decide (i < p.Base))) (V.cmp (x:=.tmp 19) rfl h1 rfl rfl) ?_
 refine WL.vbp (c:=i < p.Base) (Sure.none rfl) rfl (V.move rfl rfl) (fun A5=>?_) (fun A5=>?_)
 ·refine WL.skips [(23,some true)] [(27,some true)] (kc (some true) rfl kn) (by kernel_rfl) (fun Bx hK52 Bu=>?_)
  refine WP.cond_true (hK52 27 (some true) rfl) ?_
  refine WP.sr ?_
  refine WL.m rfl ?_
  refine WL.m rfl ?_
  refine WL.nil ?_
  refine WP.ret ?_
  refine resOf.c2 rfl (v:=.int .u64 (0)) rfl (v':=.bool (false)) rfl ?_
  exact ⟨(tup2 (int_eq (by first | exact (termOf_in (by omega) (by omega)).symm | exact (termOf_at (by omega)).symm | exact (termOf_out (by omega)).symm | exact (termIs_in (by omega) (by omega)).symm | exact (termIs_out (by omega)).symm)) (bool_eq (by first | exact (termOf_in (by omega) (by omega)).symm | exact (termOf_at (by omega)).symm | exact (termOf_out (by omega)).symm | exact (termIs_in (by omega) (by omega)).symm | exact (termIs_out (by omega)).symm))),((Ag).done (geCons Aa geNil))⟩
 refine WL.my rfl rfl ?_
 refine WL.my rfl rfl ?_
 refine WL.y (.bool (decide (i > (lastI p)))) rfl (V.cmp (x:=.tmp 24) rfl h1 rfl rfl) ?_
 refine WL.k (a:=false) rfl rfl ?_
 refine WL.nil ?_
 refine WP.condp (t:=i > (lastI p)) rfl (fun A6=>?_) (fun A6=>?_)
 ·refine WP.sr ?_
  refine WL.m rfl ?_
  refine WL.m rfl ?_
  refine WL.nil ?_
  refine WP.ret ?_
  refine resOf.c2 rfl (v:=.int .u64 (0)) rfl (v':=.bool (false)) rfl ?_
  exact ⟨(tup2 (int_eq (by first | exact (termOf_in (by omega) (by omega)).symm | exact (termOf_at (by omega)).symm | exact (termOf_out (by omega)).symm | exact (termIs_in (by omega) (by omega)).symm | exact (termIs_out (by omega)).symm)) (bool_eq (by first | exact (termOf_in (by omega) (by omega)).symm | exact (termOf_at (by omega)).symm | exact (termOf_out (by omega)).symm | exact (termIs_in (by omega) (by omega)).symm | exact (termIs_out (by omega)).symm))),((Ag).done (geCons Aa geNil))⟩
 refine WP.skip ?_
 refine WP.sr ?_
 refine WL.f (v5) fl29_10 rfl p25 (Ah.cell rfl) ?_
 refine WL.m rfl ?_
 refine WL.f (.int .u64 (p.Base)) fl29_6 rfl p23 (Ah.cell rfl) ?_
 refine WL.z (.int .u64 (i - p.Base)) (V.arith (x:=.tmp 30) rfl h1 rfl rfl (wrap_u64 (by omega) (by omega))) ?_
 refine WL.z (.int .u64 ((i - p.Base) - 1)) (V.arith rfl rfl rfl rfl (wrap_u64 (by omega) (by omega))) ?_
 have hlt63:(i - p.Base - 1).toNat < (p.Log).length:=by first | omega | (simp at *; omega)
 obtain ⟨Ap,Aq,c57,Bv,A7,hnb60,A8,Am⟩:=(Ak.ext (Ext.pre A4)).get (i:=(i - p.Base - 1).toNat) (x:=(p.Log.getD ((i - p.Base - 1).toNat) default)) (getD_some hlt63 _)
 obtain ⟨By,rfl,Bw,A9⟩:=A8
 obtain ⟨Bq,Br,Bs⟩:=(show EntryD.InR (p.Log.getD ((i - p.Base - 1).toNat) default) from A9)
 refine WL.z (.pointer (some ⟨Ap,Aq + ((i - p.Base - 1).toNat) * 4,none⟩)) (V.indexAddr (m:=(i - p.Base - 1).toNat) (j:=(i - p.Base) - 1) rfl u25 s48 (Eq.trans (b:=v5) rfl A7) rfl (by omega) hlt63) ?_
 refine WL.z (.pointer (some ⟨Ap,Aq + ((i - p.Base - 1).toNat) * 4 + 0,none⟩)) (V.fieldAddr rfl fl48_0 rfl) ?_
 refine WL.z (.int .u64 ((p.Log.getD ((i - p.Base - 1).toNat) default).Term)) (V.load rfl p23 rfl (Am.cell (j:=0) rfl)) ?_
 refine WL.m rfl ?_
 refine WL.m rfl ?_
 refine WL.nil ?_
 refine WP.ret ?_
 refine resOf.c2 rfl (v:=.int .u64 ((p.Log.getD ((i - p.Base - 1).toNat) default).Term)) rfl (v':=.bool (true)) rfl ?_
 exact ⟨(tup2 (int_eq (by first | exact (termOf_in (by omega) (by omega)).symm | exact (termOf_at (by omega)).symm | exact (termOf_out (by omega)).symm | exact (termIs_in (by omega) (by omega)).symm | exact (termIs_out (by omega)).symm)) (bool_eq (by first | exact (termOf_in (by omega) (by omega)).symm | exact (termOf_at (by omega)).symm | exact (termOf_out (by omega)).symm | exact (termIs_in (by omega) (by omega)).symm | exact (termIs_out (by omega)).symm))),((Ag).done (geCons Aa geNil))⟩
end Go.Proofs.Ytiaicihpocoeiaa.T
namespace Go.Proofs.Ytiaicihpocoeiaa.T
open W Go.RowKit
set_option maxRecDepth 100000
set_option maxHeartbeats 400000
theorem ref_entries {w:World} {X:List Nat} {v_l:Value} {l:List EntryD} (h_l:Sl entryR X w v_l l) (fr:Int) (to':Int) (hfr:0 ≤ fr ∧ fr < 18446744073709551616):Fnc Try.prog 57 #[v_l,.int .u64 (fr),.int .u64 (to')] w (fun v w'=>v = .bool (entsB l fr to') ∧ Ext [] w w'):=by
 have hle_l:=h_l.le'
 refine Fnc.of_WP (n:=77) Try.func57 rfl Try.ntmps57 (by simp) ?_
 intro E hE
 have h0:E 0 = v_l:=hE 0 (by simp)
 have h1:E 1 = .int .u64 (fr):=hE 1 (by simp)
 have h2:E 2 = .int .u64 (to'):=hE 2 (by simp)
 clear hE
 refine WP.sr ?_
 refine WL.m rfl ?_
 refine WL.nil ?_
 refine WP.seq ?_
 refine WP.sr ?_
 refine WL.m rfl ?_
 refine WL.nil ?_
 refine WP.block ?_
 refine WP.loop (σ:=Nat) (fun k E1 w2=>E1 0 = v_l ∧ E1 1 = .int .u64 (prevT l fr k) ∧ E1 2 = .int .u64 (to') ∧ E1 7 = .int .i64 ((k:Int)) ∧ Ext [] w w2 ∧ k ≤ l.length ∧ ∀ j,j < k → (fun i=>entOk (prevT l fr i) (l.getD i default) to') j = true) (fun k=>l.length - k) (0) ?_ ?_
 ·exact ⟨h0,(Eq.trans h1 (int_eq (by simp [prevT,vprevT]))),h2,(int_eq (by omega)),(Ext.refl _ _),(by omega),(all_zero _)⟩
 rintro k E1 w2 ⟨Af,Bf,Ah,Ag,B2,B9,Ca⟩
 have As:Ext [] w w2:=B2
 refine WP.seq ?_
 refine WP.sr ?_
 refine WL.m rfl ?_
 refine WL.m rfl ?_
 obtain ⟨a5,c6,B3⟩:=h_l.shape
 refine WL.z (.int .i64 (((l).length:Int))) (V.lenSlice (x:=.tmp 10) rfl rfl u25 (Eq.trans (b:=v_l) Af B3)) ?_
 refine WL.z (.bool (decide ((k:Int) < ((l).length:Int)))) (V.cmp (x:=.tmp 9) rfl Ag rfl rfl) ?_
 refine WL.nil ?_
 refine WP.condp (t:=(k:Int) < ((l).length:Int)) rfl (fun B4=>?_) (fun B4=>?_)
 rotate_left
 ·refine WP.exit ?_
  refine WP.sr ?_
  refine WL.m rfl ?_
  refine WL.nil ?_
  refine WP.ret ?_
  refine resOf.c1 rfl (v:=.bool (true)) rfl ?_
  exact ⟨(bool_eq (by first | (exact (allB_true (by assumption) (by omega)).symm) | (exact (allB_false (k:=k) (by omega) (by first | assumption | grind [entOk,kindOk,membersB])).symm))),As⟩
 refine WP.skip ?_
 refine WP.seq ?_
 refine WP.block ?_
 refine WP.sr ?_
 refine WL.m rfl ?_
 refine WL.m rfl ?_
 have hlt17:k < (l).length:=by first | omega | (simp at *; omega)
 obtain ⟨b9,B5,c11,Cd,Bg,hnb14,Bh,A8⟩:=(h_l.ext (Ext.pre As)).get (i:=k) (x:=(l.getD k default)) (getD_some hlt17 _)
 obtain ⟨Ae,rfl,Bi,Bj⟩:=Bh
 obtain ⟨Au,Av,Cb⟩:=(show EntryD.InR (l.getD k default) from Bj)
 have Au:=inK_u64 Au
 have Av:=inK_u8 Av
 refine WL.z (.pointer (some ⟨b9,B5 + k * 4,none⟩)) (V.indexAddr (x:=.tmp 15) (i:=.tmp 16) (m:=k) (j:=(k:Int)) rfl u25 s48 (Eq.trans (b:=v_l) Af Bg) Ag rfl hlt17) ?_
 refine WL.z (.agg #[.int .u64 ((l.getD k default).Term),.int .u8 ((l.getD k default).Kind),.string ((l.getD k default).Data),Ae]) (V.loadAgg (cs:=[.int .u64 ((l.getD k default).Term),.int .u8 ((l.getD k default).Kind),.string ((l.getD k default).Data),Ae]) rfl a48 rfl A8 rfl) ?_
 refine WL.alloc (cs:=[.int .u64 (0),.int .u8 (0),.string (ByteArray.mk #[]),.slice none 0 0]) (Sure.none rfl) rfl rfl z48 rfl (fun Ai B6 Aw Ce Bk=>?_)
 have Aj:=(Sl.new (b:=Ai) nz1 Bi (by omega)).ext (Ext.any Aw)
 have Bl:Ext [Ai] _ _:=(Ext.cons As).trans (Ext.any Aw)
 have Aa:w.heap.size ≤ Ai:=by have:=As.size; omega
 refine WL.storeAgg (vs:=[.int .u64 ((l.getD k default).Term),.int .u8 ((l.getD k default).Kind),.string ((l.getD k default).Data),Ae]) (Sure.none rfl) rfl rfl s48 rfl rfl rfl (by intro u hu; simp only [List.mem_cons,List.not_mem_nil,or_false] at hu; rcases hu with rfl | rfl | rfl | rfl <;> first | rfl | exact Sl.one (by assumption)) Bk (by show (0:Nat) + 4 ≤ 4; decide) (fun Ax Ay Ab=>?_)
 replace Ab:Box Ax Ai 48 [.int .u64 ((l.getD k default).Term),.int .u8 ((l.getD k default).Kind),.string ((l.getD k default).Data),Ae]:=Ab
 have Ad:Ext [Ai] w Ax:=Bl.trans (Ay.mono (by simp))
 have Az:Ext [Ai] B6 Ax:=(Ay.mono (by simp))
 refine WL.nil ?_
 refine WP.seq ?_
 refine WP.sr ?_
 refine WL.f (.int .u64 ((l.getD k default).Term)) fl48_0 rfl p23 (Ab.cell rfl) ?_
 refine WL.z (.bool (decide (((l.getD k default).Term) = 0))) (V.cmp rfl rfl rfl rfl) ?_
 refine WL.vbp (c:=((l.getD k default).Term) = 0) (Sure.none rfl) rfl (V.move rfl rfl) (fun Bm=>?_) (fun Bm=>?_)
 ·refine WL.skips [(22,some true)] [(48,some true)] (kc (some true) rfl kn) (by kernel_rfl) (fun Cp hK40 Cf=>?_)
  refine WP.cond_true (hK40 48 (some true) rfl) ?_
  refine WP.sr ?_
  refine WL.m rfl ?_
  refine WL.nil ?_
  refine WP.ret ?_
  refine resOf.c1 rfl (v:=.bool (false)) rfl ?_
  exact ⟨(bool_eq (by first | (exact (allB_true (by assumption) (by omega)).symm) | (exact (allB_false (k:=k) (by omega) (by first | assumption | grind [entOk,kindOk,membersB])).symm))),((Ad).done (geCons Aa geNil))⟩
 refine WL.fy (.int .u64 ((l.getD k default).Term)) rfl fl48_0 rfl p23 (Ab.cell rfl) ?_
 refine WL.my rfl rfl ?_
 refine WL.y (.bool (decide (((l.getD k default).Term) < (prevT l fr k)))) rfl (V.cmp (y:=.tmp 25) rfl rfl Bf rfl) ?_
 refine WL.k (a:=false) rfl rfl ?_
 refine WL.vbp (c:=((l.getD k default).Term) < (prevT l fr k)) (Sure.none rfl) rfl (V.move rfl rfl) (fun Bn=>?_) (fun Bn=>?_)
 ·refine WL.skips [(28,some true)] [(48,some true)] (kc (some true) rfl kn) (by kernel_rfl) (fun Cq hK44 Cg=>?_)
  refine WP.cond_true (hK44 48 (some true) rfl) ?_
  refine WP.sr ?_
  refine WL.m rfl ?_
  refine WL.nil ?_
  refine WP.ret ?_
  refine resOf.c1 rfl (v:=.bool (false)) rfl ?_
  exact ⟨(bool_eq (by first | (exact (allB_true (by assumption) (by omega)).symm) | (exact (allB_false (k:=k) (by omega) (by first | assumption | grind [entOk,kindOk,membersB])).symm))),((Ad).done (geCons Aa geNil))⟩
 refine WL.fy (.int .u64 ((l.getD k default).Term)) rfl fl48_0 rfl p23 (Ab.cell rfl) ?_
 refine WL.my rfl rfl ?_
 refine WL.y (.bool (decide (((l.getD k default).Term) > to'))) rfl (V.cmp (y:=.tmp 31) rfl rfl Ah rfl) ?_
 refine WL.k (a:=false) rfl rfl ?_
 refine WL.vbp (c:=((l.getD k default).Term) > to') (Sure.none rfl) rfl (V.move rfl rfl) (fun Bo=>?_) (fun Bo=>?_)
 ·refine WL.skips [(34,some true)] [(48,some true)] (kc (some true) rfl kn) (by kernel_rfl) (fun Cr hK48 Ch=>?_)
  refine WP.cond_true (hK48 48 (some true) rfl) ?_
  refine WP.sr ?_
  refine WL.m rfl ?_
  refine WL.nil ?_
  refine WP.ret ?_
  refine resOf.c1 rfl (v:=.bool (false)) rfl ?_
  exact ⟨(bool_eq (by first | (exact (allB_true (by assumption) (by omega)).symm) | (exact (allB_false (k:=k) (by omega) (by first | assumption | grind [entOk,kindOk,membersB])).symm))),((Ad).done (geCons Aa geNil))⟩
 refine WL.fy (.int .u8 ((l.getD k default).Kind)) rfl fl48_1 rfl p46 (Ab.cell rfl) ?_
 refine WL.y (.bool (decide (((l.getD k default).Kind) > 2))) rfl (V.cmp rfl rfl rfl rfl) ?_
 refine WL.k (a:=false) rfl rfl ?_
 refine WL.vbp (c:=((l.getD k default).Kind) > 2) (Sure.none rfl) rfl (V.move rfl rfl) (fun Bp=>?_) (fun Bp=>?_)
 ·refine WL.skips [(39,some true)] [(48,some true)] (kc (some true) rfl kn) (by kernel_rfl) (fun Cs hK52 Ci=>?_)
  refine WP.cond_true (hK52 48 (some true) rfl) ?_
  refine WP.sr ?_
  refine WL.m rfl ?_
  refine WL.nil ?_
  refine WP.ret ?_
  refine resOf.c1 rfl (v:=.bool (false)) rfl ?_
  exact ⟨(bool_eq (by first | (exact (allB_true (by assumption) (by omega)).symm) | (exact (allB_false (k:=k) (by omega) (by first | assumption | grind [entOk,kindOk,membersB])).symm))),((Ad).done (geCons Aa geNil))⟩
 refine WL.fy (.int .u8 ((l.getD k default).Kind)) rfl fl48_1 rfl p46 (Ab.cell rfl) ?_
 refine WL.y (.bool (decide (((l.getD k default).Kind) ≠ 0))) rfl (V.cmp rfl rfl rfl rfl) ?_
 refine WL.vbp (c:=((l.getD k default).Kind) ≠ 0) (Sure.yes rfl rfl rfl) rfl (V.move rfl rfl) (fun Bq=>?_) (fun Bq=>?_)
 rotate_left
 ·refine WL.skips [(43,some false),(39,some false)] [(48,some false)] (kc (some false) rfl (kc (some false) rfl kn)) (by kernel_rfl) (fun Ct hK88 Ac=>?_)
  refine WP.cond_false (hK88 48 (some false) rfl) ?_
  refine WP.skip ?_
  refine WP.seq ?_
  refine WP.sr ?_
  refine WL.f (x:=.tmp 8) (.int .u8 ((l.getD k default).Kind)) fl48_1 (Ac 8 rfl) p46 (Ab.cell rfl) ?_
  refine WL.z (.bool (decide (((l.getD k default).Kind) = 2))) (V.cmp rfl rfl rfl rfl) ?_
  refine WL.vbp (c:=((l.getD k default).Kind) = 2) (Sure.none rfl) rfl (V.move rfl rfl) (fun Br=>?_) (fun Br=>?_)
  rotate_left
  ·refine WL.s (Shut.no rfl rfl rfl rfl) rfl ?_
   refine WL.s (Shut.no rfl rfl rfl rfl) rfl ?_
   refine WL.s (Shut.no rfl rfl rfl rfl) rfl ?_
   refine WL.s (Shut.no rfl rfl rfl rfl) rfl ?_
   refine WL.s (Shut.no rfl rfl rfl rfl) rfl ?_
   refine WL.s (Shut.undef rfl rfl rfl) rfl ?_
   refine WL.s (Shut.undef rfl rfl rfl) rfl ?_
   refine WL.s (Shut.undef rfl rfl rfl) rfl ?_
   refine WL.s (Shut.undef rfl rfl rfl) rfl ?_
   refine WL.s (Shut.no rfl rfl rfl rfl) rfl ?_
   refine WL.k (a:=false) rfl rfl ?_
   refine WL.m rfl ?_
   refine WL.fy (x:=.tmp 8) (.int .u8 ((l.getD k default).Kind)) rfl fl48_1 (Ac 8 rfl) p46 (Ab.cell rfl) ?_
   refine WL.y (.bool (decide (((l.getD k default).Kind) ≠ 2))) rfl (V.cmp rfl rfl rfl rfl) ?_
   refine WL.vbp (c:=((l.getD k default).Kind) ≠ 2) (Sure.yes rfl rfl rfl) rfl (V.move rfl rfl) (fun A9=>?_) (fun A9=>?_)
   rotate_left
   ·refine WL.skips [(68,some false),(64,some false)] [(74,some false)] (kc (some false) rfl (kc (some false) rfl kn)) (by kernel_rfl) (fun Cj hK119 Ak=>?_)
    refine WP.cond_false (hK119 74 (some false) rfl) ?_
    refine WP.skip ?_
    refine WP.region ?_
    refine WL.f (x:=.tmp 8) (.int .u64 ((l.getD k default).Term)) fl48_0 ((Ak 8 rfl).trans (Ac 8 rfl)) p23 (Ab.cell rfl) ?_
    refine WL.m rfl ?_
    refine WL.nil ?_
    refine WP.region ?_
    refine WL.m rfl ?_
    refine WL.z (.int .i64 ((k:Int) + 1)) (V.arith (x:=.tmp 13) rfl ((Ak 7 rfl).trans ((Ac 7 rfl).trans Ag)) rfl rfl (wrap_i64 (by omega) (by omega))) ?_
    refine WL.m rfl ?_
    refine WL.nil ?_
    exact ⟨k + 1,⟨((Ak 0 rfl).trans ((Ac 0 rfl).trans Af)),(int_eq (by simp [prevT,vprevT])),((Ak 2 rfl).trans ((Ac 2 rfl).trans Ah)),(int_eq (by omega)),(Ext.drop Ad Aa),(by omega),(all_step (by assumption) (by first | assumption | grind [entOk,kindOk,membersB]))⟩,(by omega)⟩
   refine WL.fy (x:=.tmp 8) (Ae) rfl fl48_3 (Ac 8 rfl) p22 (Ab.cell rfl) ?_
   obtain ⟨a114,c115,Ba⟩:=Aj.shape
   refine WL.y (.int .i64 ((((l.getD k default).Members).length:Int))) rfl (V.lenSlice rfl rfl u22 (Eq.trans (b:=Ae) rfl Ba)) ?_
   refine WL.y (.bool (decide ((((l.getD k default).Members).length:Int) > 0))) rfl (V.cmp rfl rfl rfl rfl) ?_
   refine WL.ky (a:=true) rfl rfl rfl ?_
   refine WL.k (a:=false) rfl rfl ?_
   refine WL.nil ?_
   refine WP.condp (t:=(((l.getD k default).Members).length:Int) > 0) rfl (fun Bb=>?_) (fun Bb=>?_)
   ·refine WP.sr ?_
    refine WL.m rfl ?_
    refine WL.nil ?_
    refine WP.ret ?_
    refine resOf.c1 rfl (v:=.bool (false)) rfl ?_
    exact ⟨(bool_eq (by first | (exact (allB_true (by assumption) (by omega)).symm) | (exact (allB_false (k:=k) (by omega) (by first | assumption | grind [entOk,kindOk,membersB])).symm))),((Ad).done (geCons Aa geNil))⟩
   refine WP.skip ?_
   refine WP.region ?_
   refine WL.f (x:=.tmp 8) (.int .u64 ((l.getD k default).Term)) fl48_0 (Ac 8 rfl) p23 (Ab.cell rfl) ?_
   refine WL.m rfl ?_
   refine WL.nil ?_
   refine WP.region ?_
   refine WL.m rfl ?_
   refine WL.z (.int .i64 ((k:Int) + 1)) (V.arith (x:=.tmp 13) rfl ((Ac 7 rfl).trans Ag) rfl rfl (wrap_i64 (by omega) (by omega))) ?_
   refine WL.m rfl ?_
   refine WL.nil ?_
   exact ⟨k + 1,⟨((Ac 0 rfl).trans Af),(int_eq (by simp [prevT,vprevT])),((Ac 2 rfl).trans Ah),(int_eq (by omega)),(Ext.drop Ad Aa),(by omega),(all_step (by assumption) (by first | assumption | grind [entOk,kindOk,membersB]))⟩,(by omega)⟩
  refine WL.fy (x:=.tmp 8) (Ae) rfl fl48_3 (Ac 8 rfl) p22 (Ab.cell rfl) ?_
  obtain ⟨a91,c92,A4⟩:=Aj.shape
  refine WL.y (.int .i64 ((((l.getD k default).Members).length:Int))) rfl (V.lenSlice rfl rfl u22 (Eq.trans (b:=Ae) rfl A4)) ?_
  refine WL.y (.bool (decide ((((l.getD k default).Members).length:Int) = 0))) rfl (V.cmp rfl rfl rfl rfl) ?_
  refine WL.vbp (c:=(((l.getD k default).Members).length:Int) = 0) (Sure.yes rfl rfl rfl) rfl (V.move rfl rfl) (fun Bs=>?_) (fun Bs=>?_)
  ·refine WL.skips [(57,some true),(52,some true)] [(74,some true)] (kc (some true) rfl (kc (some true) rfl kn)) (by kernel_rfl) (fun Cu hK96 Ck=>?_)
   refine WP.cond_true (hK96 74 (some true) rfl) ?_
   refine WP.sr ?_
   refine WL.m rfl ?_
   refine WL.nil ?_
   refine WP.ret ?_
   refine resOf.c1 rfl (v:=.bool (false)) rfl ?_
   exact ⟨(bool_eq (by first | (exact (allB_true (by assumption) (by omega)).symm) | (exact (allB_false (k:=k) (by omega) (by first | assumption | grind [entOk,kindOk,membersB])).symm))),((Ad).done (geCons Aa geNil))⟩
  refine WL.fy (x:=.tmp 8) (Ae) rfl fl48_3 (Ac 8 rfl) p22 (Ab.cell rfl) ?_
  refine WL.c (Sure.yes rfl rfl rfl) rfl (C.call1 rfl cl56 rfl) (Fnc.mono (ref_ids (Aj.ext (Ext.pre Az))) ?_)
  rintro _ B7 ⟨rfl,A5⟩
  have Al:Ext [Ai] w B7:=Ad.trans (Ext.any (Y:=[Ai]) A5)
  have Am:=Ab.ext A5 (by simp)
  refine WL.y (.bool (!(idsB ((l.getD k default).Members)))) rfl (V.not rfl rfl) ?_
  refine WL.ky (a:=false) rfl rfl rfl ?_
  refine WL.k (a:=true) rfl rfl ?_
  refine WL.vbn (c:=idsB ((l.getD k default).Members)) (Sure.none rfl) rfl (V.move rfl rfl) (fun Bc=>?_) (fun Bc=>?_)
  ·refine WL.skips [(64,some true)] [(74,some true)] (kc (some true) rfl kn) (by kernel_rfl) (fun Cl hK106 Cc=>?_)
   refine WP.cond_true (hK106 74 (some true) rfl) ?_
   refine WP.sr ?_
   refine WL.m rfl ?_
   refine WL.nil ?_
   refine WP.ret ?_
   refine resOf.c1 rfl (v:=.bool (false)) rfl ?_
   exact ⟨(bool_eq (by first | (exact (allB_true (by assumption) (by omega)).symm) | (exact (allB_false (k:=k) (by omega) (by first | assumption | grind [entOk,kindOk,membersB])).symm))),((Al).done (geCons Aa geNil))⟩
  refine WL.fy (x:=.tmp 8) (.int .u8 ((l.getD k default).Kind)) rfl fl48_1 (Ac 8 rfl) p46 (Am.cell rfl) ?_
  refine WL.y (.bool (decide (((l.getD k default).Kind) ≠ 2))) rfl (V.cmp rfl rfl rfl rfl) ?_
  refine WL.vbp (c:=((l.getD k default).Kind) ≠ 2) (Sure.yes rfl rfl rfl) rfl (V.move rfl rfl) (fun Bd=>?_) (fun Bd=>?_)
  rotate_left
  ·refine WL.skips [(68,some false),(64,some false)] [(74,some false)] (kc (some false) rfl (kc (some false) rfl kn)) (by kernel_rfl) (fun Cm hK111 An=>?_)
   refine WP.cond_false (hK111 74 (some false) rfl) ?_
   refine WP.skip ?_
   refine WP.region ?_
   refine WL.f (x:=.tmp 8) (.int .u64 ((l.getD k default).Term)) fl48_0 ((An 8 rfl).trans (Ac 8 rfl)) p23 (Am.cell rfl) ?_
   refine WL.m rfl ?_
   refine WL.nil ?_
   refine WP.region ?_
   refine WL.m rfl ?_
   refine WL.z (.int .i64 ((k:Int) + 1)) (V.arith (x:=.tmp 13) rfl ((An 7 rfl).trans ((Ac 7 rfl).trans Ag)) rfl rfl (wrap_i64 (by omega) (by omega))) ?_
   refine WL.m rfl ?_
   refine WL.nil ?_
   exact ⟨k + 1,⟨((An 0 rfl).trans ((Ac 0 rfl).trans Af)),(int_eq (by simp [prevT,vprevT])),((An 2 rfl).trans ((Ac 2 rfl).trans Ah)),(int_eq (by omega)),(Ext.drop Al Aa),(by omega),(all_step (by assumption) (by first | assumption | grind [entOk,kindOk,membersB]))⟩,(by omega)⟩
  refine WL.fy (x:=.tmp 8) (Ae) rfl fl48_3 (Ac 8 rfl) p22 (Am.cell rfl) ?_
  refine WL.y (.int .i64 ((((l.getD k default).Members).length:Int))) rfl (V.lenSlice rfl rfl u22 (Eq.trans (b:=Ae) rfl A4)) ?_
  refine WL.y (.bool (decide ((((l.getD k default).Members).length:Int) > 0))) rfl (V.cmp rfl rfl rfl rfl) ?_
  refine WL.ky (a:=true) rfl rfl rfl ?_
  refine WL.k (a:=false) rfl rfl ?_
  refine WL.nil ?_
  refine WP.condp (t:=(((l.getD k default).Members).length:Int) > 0) rfl (fun Be=>?_) (fun Be=>?_)
  ·refine WP.sr ?_
   refine WL.m rfl ?_
   refine WL.nil ?_
   refine WP.ret ?_
   refine resOf.c1 rfl (v:=.bool (false)) rfl ?_
   exact ⟨(bool_eq (by first | (exact (allB_true (by assumption) (by omega)).symm) | (exact (allB_false (k:=k) (by omega) (by first | assumption | grind [entOk,kindOk,membersB])).symm))),((Al).done (geCons Aa geNil))⟩
  refine WP.skip ?_
  refine WP.region ?_
  refine WL.f (x:=.tmp 8) (.int .u64 ((l.getD k default).Term)) fl48_0 (Ac 8 rfl) p23 (Am.cell rfl) ?_
  refine WL.m rfl ?_
  refine WL.nil ?_
  refine WP.region ?_
  refine WL.m rfl ?_
  refine WL.z (.int .i64 ((k:Int) + 1)) (V.arith (x:=.tmp 13) rfl ((Ac 7 rfl).trans Ag) rfl rfl (wrap_i64 (by omega) (by omega))) ?_
  refine WL.m rfl ?_
  refine WL.nil ?_
  exact ⟨k + 1,⟨((Ac 0 rfl).trans Af),(int_eq (by simp [prevT,vprevT])),((Ac 2 rfl).trans Ah),(int_eq (by omega)),(Ext.drop Al Aa),(by omega),(all_step (by assumption) (by first | assumption | grind [entOk,kindOk,membersB]))⟩,(by omega)⟩
 refine WL.fy (.string ((l.getD k default).Data)) rfl fl48_2 rfl p9 (Ab.cell rfl) ?_
 refine WL.y (.bool (!(seqB ((l.getD k default).Data) (ByteArray.mk #[])))) rfl (V.scmp rfl rfl rfl rfl) ?_
 refine WL.ky (a:=true) rfl rfl rfl ?_
 refine WL.k (a:=false) rfl rfl ?_
 refine WL.nil ?_
 refine WP.condn (t:=seqB ((l.getD k default).Data) (ByteArray.mk #[])) rfl (fun Bt=>?_) (fun Bt=>?_)
 ·refine WP.sr ?_
  refine WL.m rfl ?_
  refine WL.nil ?_
  refine WP.ret ?_
  refine resOf.c1 rfl (v:=.bool (false)) rfl ?_
  exact ⟨(bool_eq (by first | (exact (allB_true (by assumption) (by omega)).symm) | (exact (allB_false (k:=k) (by omega) (by first | assumption | grind [entOk,kindOk,membersB])).symm))),((Ad).done (geCons Aa geNil))⟩
 refine WP.skip ?_
 refine WP.seq ?_
 refine WP.sr ?_
 refine WL.f (.int .u8 ((l.getD k default).Kind)) fl48_1 rfl p46 (Ab.cell rfl) ?_
 refine WL.z (.bool (decide (((l.getD k default).Kind) = 2))) (V.cmp rfl rfl rfl rfl) ?_
 refine WL.vbp (c:=((l.getD k default).Kind) = 2) (Sure.none rfl) rfl (V.move rfl rfl) (fun Bu=>?_) (fun Bu=>?_)
 rotate_left
 ·refine WL.s (Shut.no rfl rfl rfl rfl) rfl ?_
  refine WL.s (Shut.no rfl rfl rfl rfl) rfl ?_
  refine WL.s (Shut.no rfl rfl rfl rfl) rfl ?_
  refine WL.s (Shut.no rfl rfl rfl rfl) rfl ?_
  refine WL.s (Shut.no rfl rfl rfl rfl) rfl ?_
  refine WL.s (Shut.undef rfl rfl rfl) rfl ?_
  refine WL.s (Shut.undef rfl rfl rfl) rfl ?_
  refine WL.s (Shut.undef rfl rfl rfl) rfl ?_
  refine WL.s (Shut.undef rfl rfl rfl) rfl ?_
  refine WL.s (Shut.no rfl rfl rfl rfl) rfl ?_
  refine WL.k (a:=false) rfl rfl ?_
  refine WL.m rfl ?_
  refine WL.fy (.int .u8 ((l.getD k default).Kind)) rfl fl48_1 rfl p46 (Ab.cell rfl) ?_
  refine WL.y (.bool (decide (((l.getD k default).Kind) ≠ 2))) rfl (V.cmp rfl rfl rfl rfl) ?_
  refine WL.vbp (c:=((l.getD k default).Kind) ≠ 2) (Sure.yes rfl rfl rfl) rfl (V.move rfl rfl) (fun Bv=>?_) (fun Bv=>?_)
  rotate_left
  ·refine WL.skips [(68,some false),(64,some false)] [(74,some false)] (kc (some false) rfl (kc (some false) rfl kn)) (by kernel_rfl) (fun Cv hK85 Ao=>?_)
   refine WP.cond_false (hK85 74 (some false) rfl) ?_
   refine WP.skip ?_
   refine WP.region ?_
   refine WL.f (x:=.tmp 8) (.int .u64 ((l.getD k default).Term)) fl48_0 (Ao 8 rfl) p23 (Ab.cell rfl) ?_
   refine WL.m rfl ?_
   refine WL.nil ?_
   refine WP.region ?_
   refine WL.m rfl ?_
   refine WL.z (.int .i64 ((k:Int) + 1)) (V.arith (x:=.tmp 13) rfl ((Ao 7 rfl).trans Ag) rfl rfl (wrap_i64 (by omega) (by omega))) ?_
   refine WL.m rfl ?_
   refine WL.nil ?_
   exact ⟨k + 1,⟨((Ao 0 rfl).trans Af),(int_eq (by simp [prevT,vprevT])),((Ao 2 rfl).trans Ah),(int_eq (by omega)),(Ext.drop Ad Aa),(by omega),(all_step (by assumption) (by first | assumption | grind [entOk,kindOk,membersB]))⟩,(by omega)⟩
  refine WL.fy (Ae) rfl fl48_3 rfl p22 (Ab.cell rfl) ?_
  obtain ⟨a80,c81,Bw⟩:=Aj.shape
  refine WL.y (.int .i64 ((((l.getD k default).Members).length:Int))) rfl (V.lenSlice rfl rfl u22 (Eq.trans (b:=Ae) rfl Bw)) ?_
  refine WL.y (.bool (decide ((((l.getD k default).Members).length:Int) > 0))) rfl (V.cmp rfl rfl rfl rfl) ?_
  refine WL.ky (a:=true) rfl rfl rfl ?_
  refine WL.k (a:=false) rfl rfl ?_
  refine WL.nil ?_
  refine WP.condp (t:=(((l.getD k default).Members).length:Int) > 0) rfl (fun Bx=>?_) (fun Bx=>?_)
  ·refine WP.sr ?_
   refine WL.m rfl ?_
   refine WL.nil ?_
   refine WP.ret ?_
   refine resOf.c1 rfl (v:=.bool (false)) rfl ?_
   exact ⟨(bool_eq (by first | (exact (allB_true (by assumption) (by omega)).symm) | (exact (allB_false (k:=k) (by omega) (by first | assumption | grind [entOk,kindOk,membersB])).symm))),((Ad).done (geCons Aa geNil))⟩
  refine WP.skip ?_
  refine WP.region ?_
  refine WL.f (.int .u64 ((l.getD k default).Term)) fl48_0 rfl p23 (Ab.cell rfl) ?_
  refine WL.m rfl ?_
  refine WL.nil ?_
  refine WP.region ?_
  refine WL.m rfl ?_
  refine WL.z (.int .i64 ((k:Int) + 1)) (V.arith (x:=.tmp 13) rfl Ag rfl rfl (wrap_i64 (by omega) (by omega))) ?_
  refine WL.m rfl ?_
  refine WL.nil ?_
  exact ⟨k + 1,⟨Af,(int_eq (by simp [prevT,vprevT])),Ah,(int_eq (by omega)),(Ext.drop Ad Aa),(by omega),(all_step (by assumption) (by first | assumption | grind [entOk,kindOk,membersB]))⟩,(by omega)⟩
 refine WL.fy (Ae) rfl fl48_3 rfl p22 (Ab.cell rfl) ?_
 obtain ⟨a57,c58,A6⟩:=Aj.shape
 refine WL.y (.int .i64 ((((l.getD k default).Members).length:Int))) rfl (V.lenSlice rfl rfl u22 (Eq.trans (b:=Ae) rfl A6)) ?_
 refine WL.y (.bool (decide ((((l.getD k default).Members).length:Int) = 0))) rfl (V.cmp rfl rfl rfl rfl) ?_
 refine WL.vbp (c:=(((l.getD k default).Members).length:Int) = 0) (Sure.yes rfl rfl rfl) rfl (V.move rfl rfl) (fun By=>?_) (fun By=>?_)
 ·refine WL.skips [(57,some true),(52,some true)] [(74,some true)] (kc (some true) rfl (kc (some true) rfl kn)) (by kernel_rfl) (fun Cw hK62 Cn=>?_)
  refine WP.cond_true (hK62 74 (some true) rfl) ?_
  refine WP.sr ?_
  refine WL.m rfl ?_
  refine WL.nil ?_
  refine WP.ret ?_
  refine resOf.c1 rfl (v:=.bool (false)) rfl ?_
  exact ⟨(bool_eq (by first | (exact (allB_true (by assumption) (by omega)).symm) | (exact (allB_false (k:=k) (by omega) (by first | assumption | grind [entOk,kindOk,membersB])).symm))),((Ad).done (geCons Aa geNil))⟩
 refine WL.fy (Ae) rfl fl48_3 rfl p22 (Ab.cell rfl) ?_
 refine WL.c (Sure.yes rfl rfl rfl) rfl (C.call1 rfl cl56 rfl) (Fnc.mono (ref_ids (Aj.ext (Ext.pre Az))) ?_)
 rintro _ B8 ⟨rfl,A7⟩
 have Ap:Ext [Ai] w B8:=Ad.trans (Ext.any (Y:=[Ai]) A7)
 have Aq:=Ab.ext A7 (by simp)
 refine WL.y (.bool (!(idsB ((l.getD k default).Members)))) rfl (V.not rfl rfl) ?_
 refine WL.ky (a:=false) rfl rfl rfl ?_
 refine WL.k (a:=true) rfl rfl ?_
 refine WL.vbn (c:=idsB ((l.getD k default).Members)) (Sure.none rfl) rfl (V.move rfl rfl) (fun Bz=>?_) (fun Bz=>?_)
 ·refine WL.skips [(64,some true)] [(74,some true)] (kc (some true) rfl kn) (by kernel_rfl) (fun Cx hK72 Co=>?_)
  refine WP.cond_true (hK72 74 (some true) rfl) ?_
  refine WP.sr ?_
  refine WL.m rfl ?_
  refine WL.nil ?_
  refine WP.ret ?_
  refine resOf.c1 rfl (v:=.bool (false)) rfl ?_
  exact ⟨(bool_eq (by first | (exact (allB_true (by assumption) (by omega)).symm) | (exact (allB_false (k:=k) (by omega) (by first | assumption | grind [entOk,kindOk,membersB])).symm))),((Ap).done (geCons Aa geNil))⟩
 refine WL.fy (.int .u8 ((l.getD k default).Kind)) rfl fl48_1 rfl p46 (Aq.cell rfl) ?_
 refine WL.y (.bool (decide (((l.getD k default).Kind) ≠ 2))) rfl (V.cmp rfl rfl rfl rfl) ?_
 refine WL.vbp (c:=((l.getD k default).Kind) ≠ 2) (Sure.yes rfl rfl rfl) rfl (V.move rfl rfl) (fun B0=>?_) (fun B0=>?_)
 rotate_left
 ·refine WL.skips [(68,some false),(64,some false)] [(74,some false)] (kc (some false) rfl (kc (some false) rfl kn)) (by kernel_rfl) (fun Cy hK77 Ar=>?_)
  refine WP.cond_false (hK77 74 (some false) rfl) ?_
  refine WP.skip ?_
  refine WP.region ?_
  refine WL.f (x:=.tmp 8) (.int .u64 ((l.getD k default).Term)) fl48_0 (Ar 8 rfl) p23 (Aq.cell rfl) ?_
  refine WL.m rfl ?_
  refine WL.nil ?_
  refine WP.region ?_
  refine WL.m rfl ?_
  refine WL.z (.int .i64 ((k:Int) + 1)) (V.arith (x:=.tmp 13) rfl ((Ar 7 rfl).trans Ag) rfl rfl (wrap_i64 (by omega) (by omega))) ?_
  refine WL.m rfl ?_
  refine WL.nil ?_
  exact ⟨k + 1,⟨((Ar 0 rfl).trans Af),(int_eq (by simp [prevT,vprevT])),((Ar 2 rfl).trans Ah),(int_eq (by omega)),(Ext.drop Ap Aa),(by omega),(all_step (by assumption) (by first | assumption | grind [entOk,kindOk,membersB]))⟩,(by omega)⟩
 refine WL.fy (Ae) rfl fl48_3 rfl p22 (Aq.cell rfl) ?_
 refine WL.y (.int .i64 ((((l.getD k default).Members).length:Int))) rfl (V.lenSlice rfl rfl u22 (Eq.trans (b:=Ae) rfl A6)) ?_
 refine WL.y (.bool (decide ((((l.getD k default).Members).length:Int) > 0))) rfl (V.cmp rfl rfl rfl rfl) ?_
 refine WL.ky (a:=true) rfl rfl rfl ?_
 refine WL.k (a:=false) rfl rfl ?_
 refine WL.nil ?_
 refine WP.condp (t:=(((l.getD k default).Members).length:Int) > 0) rfl (fun B1=>?_) (fun B1=>?_)
 ·refine WP.sr ?_
  refine WL.m rfl ?_
  refine WL.nil ?_
  refine WP.ret ?_
  refine resOf.c1 rfl (v:=.bool (false)) rfl ?_
  exact ⟨(bool_eq (by first | (exact (allB_true (by assumption) (by omega)).symm) | (exact (allB_false (k:=k) (by omega) (by first | assumption | grind [entOk,kindOk,membersB])).symm))),((Ap).done (geCons Aa geNil))⟩
 refine WP.skip ?_
 refine WP.region ?_
 refine WL.f (.int .u64 ((l.getD k default).Term)) fl48_0 rfl p23 (Aq.cell rfl) ?_
 refine WL.m rfl ?_
 refine WL.nil ?_
 refine WP.region ?_
 refine WL.m rfl ?_
 refine WL.z (.int .i64 ((k:Int) + 1)) (V.arith (x:=.tmp 13) rfl Ag rfl rfl (wrap_i64 (by omega) (by omega))) ?_
 refine WL.m rfl ?_
 refine WL.nil ?_
 exact ⟨k + 1,⟨Af,(int_eq (by simp [prevT,vprevT])),Ah,(int_eq (by omega)),(Ext.drop Ap Aa),(by omega),(all_step (by assumption) (by first | assumption | grind [entOk,kindOk,membersB]))⟩,(by omega)⟩
theorem vote_entries {w:World} {X:List Nat} {v_l:Value} {l:List EntryD} (h_l:Sl entryR X w v_l l) (fr:Int) (to':Int) (hfr:0 ≤ fr ∧ fr < 18446744073709551616):Fnc Try.prog 77 #[v_l,.int .u64 (fr),.int .u64 (to')] w (fun v w'=>v = .bool (entsB l fr to') ∧ Ext [] w w'):=by
 have hle_l:=h_l.le'
 refine Fnc.of_WP (n:=71) Try.func77 rfl Try.ntmps77 (by simp) ?_
 intro E hE
 have h0:E 0 = v_l:=hE 0 (by simp)
 have h1:E 1 = .int .u64 (fr):=hE 1 (by simp)
 have h2:E 2 = .int .u64 (to'):=hE 2 (by simp)
 clear hE
 refine WP.sr ?_
 refine WL.m rfl ?_
 refine WL.nil ?_
 refine WP.sr ?_
 refine WL.m rfl ?_
 refine WL.z (.int .u64 (max fr 1)) (V.max (x:=.tmp 10) rfl rfl u23 h1 rfl) ?_
 refine WL.m rfl ?_
 refine WL.nil ?_
 refine WP.seq ?_
 refine WP.sr ?_
 refine WL.m rfl ?_
 obtain ⟨a1,c2,Bo⟩:=h_l.shape
 refine WL.z (.int .i64 (((l).length:Int))) (V.lenSlice (x:=.tmp 12) rfl rfl u25 (Eq.trans (b:=v_l) h0 Bo)) ?_
 refine WL.m rfl ?_
 refine WL.nil ?_
 refine WP.block ?_
 refine WP.loop (σ:=Nat) (fun k E4 w5=>E4 0 = v_l ∧ E4 1 = .int .u64 (vprevT l fr k) ∧ E4 2 = .int .u64 (to') ∧ E4 12 = v_l ∧ E4 13 = .int .i64 (((l).length:Int)) ∧ E4 14 = .int .i64 ((k:Int)) ∧ Ext [] w w5 ∧ k ≤ l.length ∧ ∀ j,j < k → (fun i=>entOk (vprevT l fr i) (l.getD i default) to') j = true) (fun k=>l.length - k) (0) ?_ ?_
 ·exact ⟨h0,(int_eq (by simp [prevT,vprevT])),h2,h0,rfl,(int_eq (by omega)),(Ext.refl _ _),(by omega),(all_zero _)⟩
 rintro k E4 w5 ⟨Aj,As,Ai,Ag,Ah,Ad,Bp,Bu,Bv⟩
 have Al:Ext [] w w5:=Bp
 have B9:1 ≤ vprevT l fr k:=vprevT_pos (t:=to') (by assumption)
 refine WP.sr ?_
 refine WL.z (.bool (decide ((k:Int) < ((l).length:Int)))) (V.cmp (x:=.tmp 14) (y:=.tmp 13) rfl Ad Ah rfl) ?_
 refine WL.nil ?_
 refine WP.seq ?_
 refine WP.condp (t:=(k:Int) < ((l).length:Int)) rfl (fun Bq=>?_) (fun Bq=>?_)
 rotate_left
 ·refine WP.exit ?_
  refine WP.sr ?_
  refine WL.m rfl ?_
  refine WL.nil ?_
  refine WP.ret ?_
  refine resOf.c1 rfl (v:=.bool (true)) rfl ?_
  exact ⟨(bool_eq (by rw [← vents_eq]; first | (exact (allB_true (by assumption) (by omega)).symm) | (exact (allB_false (k:=k) (by omega) (by first | assumption | grind [entOk,kindOk])).symm))),Al⟩
 refine WP.skip ?_
 refine WP.seq ?_
 refine WP.block ?_
 refine WP.sr ?_
 have hlt17:k < (l).length:=by first | omega | (simp at *; omega)
 obtain ⟨b9,Br,c11,Bz,Au,hnb14,Av,Ar⟩:=(h_l.ext (Ext.pre Al)).get (i:=k) (x:=(l.getD k default)) (getD_some hlt17 _)
 obtain ⟨Ae,rfl,Aw,Ax⟩:=Av
 obtain ⟨Bw,Bx,By⟩:=(show EntryD.InR (l.getD k default) from Ax)
 refine WL.z (.pointer (some ⟨b9,Br + k * 4,none⟩)) (V.indexAddr (x:=.tmp 12) (i:=.tmp 14) (m:=k) (j:=(k:Int)) rfl u25 s48 (Eq.trans (b:=v_l) Ag Au) Ad rfl hlt17) ?_
 refine WL.z (.agg #[.int .u64 ((l.getD k default).Term),.int .u8 ((l.getD k default).Kind),.string ((l.getD k default).Data),Ae]) (V.loadAgg (cs:=[.int .u64 ((l.getD k default).Term),.int .u8 ((l.getD k default).Kind),.string ((l.getD k default).Data),Ae]) rfl a48 rfl Ar rfl) ?_
 refine WL.alloc (cs:=[.int .u64 (0),.int .u8 (0),.string (ByteArray.mk #[]),.slice none 0 0]) (Sure.none rfl) rfl rfl z48 rfl (fun Af Bs Am B0 Ay=>?_)
 have Ak:=(Sl.new (b:=Af) nz1 Aw (by omega)).ext (Ext.any Am)
 have Az:Ext [Af] _ _:=(Ext.cons Al).trans (Ext.any Am)
 have Aa:w.heap.size ≤ Af:=by have:=Al.size; omega
 refine WL.storeAgg (vs:=[.int .u64 ((l.getD k default).Term),.int .u8 ((l.getD k default).Kind),.string ((l.getD k default).Data),Ae]) (Sure.none rfl) rfl rfl s48 rfl rfl rfl (by intro u hu; simp only [List.mem_cons,List.not_mem_nil,or_false] at hu; rcases hu with rfl | rfl | rfl | rfl <;> first | rfl | exact Sl.one (by assumption)) Ay (by show (0:Nat) + 4 ≤ 4; decide) (fun An Ao Ac=>?_)
 replace Ac:Box An Af 48 [.int .u64 ((l.getD k default).Term),.int .u8 ((l.getD k default).Kind),.string ((l.getD k default).Data),Ae]:=Ac
 have Ab:Ext [Af] w An:=Az.trans (Ao.mono (by simp))
 have A4:Ext [Af] Bs An:=(Ao.mono (by simp))
 refine WL.nil ?_
 refine WP.sr ?_
 refine WL.f (.int .u64 ((l.getD k default).Term)) fl48_0 rfl p23 (Ac.cell rfl) ?_
 refine WL.m rfl ?_
 refine WL.z (.bool (decide (((l.getD k default).Term) ≥ (vprevT l fr k)))) (V.cmp (y:=.tmp 20) rfl rfl As rfl) ?_
 refine WL.vbp (c:=((l.getD k default).Term) ≥ (vprevT l fr k)) (Sure.none rfl) rfl (V.move rfl rfl) (fun A5=>?_) (fun A5=>?_)
 rotate_left
 ·refine WL.skips [(22,some false)] [(9,some false)] (kc (some false) rfl kn) (by kernel_rfl) (fun Ca hK78 A6=>?_)
  refine WP.seq ?_
  refine WP.sr ?_
  refine WL.f (x:=.tmp 8) (.int .u8 ((l.getD k default).Kind)) fl48_1 (A6 8 rfl) p46 (Ac.cell rfl) ?_
  refine WL.nil ?_
  refine WP.block ?_
  refine WP.sr ?_
  refine WL.z (.bool (decide (((l.getD k default).Kind) = 0))) (V.cmp rfl rfl rfl rfl) ?_
  refine WL.m rfl ?_
  refine WL.nil ?_
  refine WP.condp (t:=((l.getD k default).Kind) = 0) rfl (fun A7=>?_) (fun A7=>?_)
  ·refine WP.region ?_
   refine WL.skips [(9,some false)] [(9,some false)] (kc (some false) (hK78 9 (some false) rfl) kn) (by kernel_rfl) (fun Cb hK82 B1=>?_)
   refine WP.seq ?_
   refine WP.sr ?_
   refine WL.m rfl ?_
   refine WL.z (.bool (true)) (V.not (x:=.tmp 66) (b:=false) rfl (hK82 9 (some false) rfl)) ?_
   refine WL.nil ?_
   refine WP.cond_true rfl ?_
   refine WP.sr ?_
   refine WL.m rfl ?_
   refine WL.nil ?_
   refine WP.ret ?_
   refine resOf.c1 rfl (v:=.bool (false)) rfl ?_
   exact ⟨(bool_eq (by rw [← vents_eq]; first | (exact (allB_true (by assumption) (by omega)).symm) | (exact (allB_false (k:=k) (by omega) (by first | assumption | grind [entOk,kindOk])).symm))),((Ab).done (geCons Aa geNil))⟩
  refine WP.sr ?_
  refine WL.z (.bool (decide (((l.getD k default).Kind) = 1))) (V.cmp rfl rfl rfl rfl) ?_
  refine WL.m rfl ?_
  refine WL.nil ?_
  refine WP.condp (t:=((l.getD k default).Kind) = 1) rfl (fun A8=>?_) (fun A8=>?_)
  ·refine WP.region ?_
   refine WL.skips [(9,some false)] [(9,some false)] (kc (some false) (hK78 9 (some false) rfl) kn) (by kernel_rfl) (fun Cc hK86 B2=>?_)
   refine WP.seq ?_
   refine WP.sr ?_
   refine WL.m rfl ?_
   refine WL.z (.bool (true)) (V.not (x:=.tmp 66) (b:=false) rfl (hK86 9 (some false) rfl)) ?_
   refine WL.nil ?_
   refine WP.cond_true rfl ?_
   refine WP.sr ?_
   refine WL.m rfl ?_
   refine WL.nil ?_
   refine WP.ret ?_
   refine resOf.c1 rfl (v:=.bool (false)) rfl ?_
   exact ⟨(bool_eq (by rw [← vents_eq]; first | (exact (allB_true (by assumption) (by omega)).symm) | (exact (allB_false (k:=k) (by omega) (by first | assumption | grind [entOk,kindOk])).symm))),((Ab).done (geCons Aa geNil))⟩
  refine WP.sr ?_
  refine WL.z (.bool (decide (((l.getD k default).Kind) = 2))) (V.cmp rfl rfl rfl rfl) ?_
  refine WL.m rfl ?_
  refine WL.nil ?_
  refine WP.condp (t:=((l.getD k default).Kind) = 2) rfl (fun A9=>?_) (fun A9=>?_)
  rotate_left
  ·refine WP.region ?_
   refine WL.m rfl ?_
   refine WL.nil ?_
   refine WP.seq ?_
   refine WP.sr ?_
   refine WL.m rfl ?_
   refine WL.z (.bool (true)) (V.not (b:=false) rfl rfl) ?_
   refine WL.nil ?_
   refine WP.cond_true rfl ?_
   refine WP.sr ?_
   refine WL.m rfl ?_
   refine WL.nil ?_
   refine WP.ret ?_
   refine resOf.c1 rfl (v:=.bool (false)) rfl ?_
   exact ⟨(bool_eq (by rw [← vents_eq]; first | (exact (allB_true (by assumption) (by omega)).symm) | (exact (allB_false (k:=k) (by omega) (by first | assumption | grind [entOk,kindOk])).symm))),((Ab).done (geCons Aa geNil))⟩
  refine WP.region ?_
  refine WL.skips [(9,some false)] [(9,some false)] (kc (some false) (hK78 9 (some false) rfl) kn) (by kernel_rfl) (fun Cd hK90 B3=>?_)
  refine WP.seq ?_
  refine WP.sr ?_
  refine WL.m rfl ?_
  refine WL.z (.bool (true)) (V.not (x:=.tmp 66) (b:=false) rfl (hK90 9 (some false) rfl)) ?_
  refine WL.nil ?_
  refine WP.cond_true rfl ?_
  refine WP.sr ?_
  refine WL.m rfl ?_
  refine WL.nil ?_
  refine WP.ret ?_
  refine resOf.c1 rfl (v:=.bool (false)) rfl ?_
  exact ⟨(bool_eq (by rw [← vents_eq]; first | (exact (allB_true (by assumption) (by omega)).symm) | (exact (allB_false (k:=k) (by omega) (by first | assumption | grind [entOk,kindOk])).symm))),((Ab).done (geCons Aa geNil))⟩
 refine WL.fy (.int .u64 ((l.getD k default).Term)) rfl fl48_0 rfl p23 (Ac.cell rfl) ?_
 refine WL.my rfl rfl ?_
 refine WL.y (.bool (decide (((l.getD k default).Term) ≤ to'))) rfl (V.cmp (y:=.tmp 25) rfl rfl Ai rfl) ?_
 refine WL.k (a:=true) rfl rfl ?_
 refine WL.m rfl ?_
 refine WL.nil ?_
 refine WP.seq ?_
 refine WP.sr ?_
 refine WL.f (.int .u8 ((l.getD k default).Kind)) fl48_1 rfl p46 (Ac.cell rfl) ?_
 refine WL.nil ?_
 refine WP.block ?_
 refine WP.sr ?_
 refine WL.z (.bool (decide (((l.getD k default).Kind) = 0))) (V.cmp rfl rfl rfl rfl) ?_
 refine WL.m rfl ?_
 refine WL.nil ?_
 refine WP.condp (t:=((l.getD k default).Kind) = 0) rfl (fun Ba=>?_) (fun Ba=>?_)
 ·refine WP.region ?_
  refine WL.m rfl ?_
  refine WL.vbp (c:=((l.getD k default).Term) ≤ to') (Sure.none rfl) rfl (V.move rfl rfl) (fun Bb=>?_) (fun Bb=>?_)
  rotate_left
  ·refine WL.skips [(33,some false)] [(9,some false)] (kc (some false) rfl kn) (by kernel_rfl) (fun Ce hK46 B4=>?_)
   refine WP.seq ?_
   refine WP.sr ?_
   refine WL.m rfl ?_
   refine WL.z (.bool (true)) (V.not (x:=.tmp 66) (b:=false) rfl (hK46 9 (some false) rfl)) ?_
   refine WL.nil ?_
   refine WP.cond_true rfl ?_
   refine WP.sr ?_
   refine WL.m rfl ?_
   refine WL.nil ?_
   refine WP.ret ?_
   refine resOf.c1 rfl (v:=.bool (false)) rfl ?_
   exact ⟨(bool_eq (by rw [← vents_eq]; first | (exact (allB_true (by assumption) (by omega)).symm) | (exact (allB_false (k:=k) (by omega) (by first | assumption | grind [entOk,kindOk])).symm))),((Ab).done (geCons Aa geNil))⟩
  refine WL.fy (Ae) rfl fl48_3 rfl p22 (Ac.cell rfl) ?_
  obtain ⟨a41,c42,Bc⟩:=Ak.shape
  refine WL.y (.int .i64 ((((l.getD k default).Members).length:Int))) rfl (V.lenSlice rfl rfl u22 (Eq.trans (b:=Ae) rfl Bc)) ?_
  refine WL.y (.bool (decide ((((l.getD k default).Members).length:Int) = 0))) rfl (V.cmp rfl rfl rfl rfl) ?_
  refine WL.k (a:=true) rfl rfl ?_
  refine WL.m rfl ?_
  refine WL.nil ?_
  refine WP.seq ?_
  refine WP.sr ?_
  refine WL.m rfl ?_
  refine WL.z (.bool (!(decide ((((l.getD k default).Members).length:Int) = 0)))) (V.not rfl rfl) ?_
  refine WL.nil ?_
  refine WP.condnp (t:=(((l.getD k default).Members).length:Int) = 0) rfl (fun Bd=>?_) (fun Bd=>?_)
  ·refine WP.sr ?_
   refine WL.m rfl ?_
   refine WL.nil ?_
   refine WP.ret ?_
   refine resOf.c1 rfl (v:=.bool (false)) rfl ?_
   exact ⟨(bool_eq (by rw [← vents_eq]; first | (exact (allB_true (by assumption) (by omega)).symm) | (exact (allB_false (k:=k) (by omega) (by first | assumption | grind [entOk,kindOk])).symm))),((Ab).done (geCons Aa geNil))⟩
  refine WP.skip ?_
  refine WP.region ?_
  refine WL.f (.int .u64 ((l.getD k default).Term)) fl48_0 rfl p23 (Ac.cell rfl) ?_
  refine WL.m rfl ?_
  refine WL.nil ?_
  refine WP.region ?_
  refine WL.z (.int .i64 ((k:Int) + 1)) (V.arith (x:=.tmp 14) rfl Ad rfl rfl (wrap_i64 (by omega) (by omega))) ?_
  refine WL.m rfl ?_
  refine WL.nil ?_
  exact ⟨k + 1,⟨Aj,(int_eq (by simp [prevT,vprevT])),Ai,Ag,Ah,(int_eq (by omega)),(Ext.drop Ab Aa),(by omega),(all_step (by assumption) (by first | assumption | grind [entOk,kindOk]))⟩,(by omega)⟩
 refine WP.sr ?_
 refine WL.z (.bool (decide (((l.getD k default).Kind) = 1))) (V.cmp rfl rfl rfl rfl) ?_
 refine WL.m rfl ?_
 refine WL.nil ?_
 refine WP.condp (t:=((l.getD k default).Kind) = 1) rfl (fun Be=>?_) (fun Be=>?_)
 ·refine WP.region ?_
  refine WL.m rfl ?_
  refine WL.vbp (c:=((l.getD k default).Term) ≤ to') (Sure.none rfl) rfl (V.move rfl rfl) (fun Bf=>?_) (fun Bf=>?_)
  rotate_left
  ·refine WL.skips [(42,some false)] [(9,some false)] (kc (some false) rfl kn) (by kernel_rfl) (fun Cf hK59 B5=>?_)
   refine WP.seq ?_
   refine WP.sr ?_
   refine WL.m rfl ?_
   refine WL.z (.bool (true)) (V.not (x:=.tmp 66) (b:=false) rfl (hK59 9 (some false) rfl)) ?_
   refine WL.nil ?_
   refine WP.cond_true rfl ?_
   refine WP.sr ?_
   refine WL.m rfl ?_
   refine WL.nil ?_
   refine WP.ret ?_
   refine resOf.c1 rfl (v:=.bool (false)) rfl ?_
   exact ⟨(bool_eq (by rw [← vents_eq]; first | (exact (allB_true (by assumption) (by omega)).symm) | (exact (allB_false (k:=k) (by omega) (by first | assumption | grind [entOk,kindOk])).symm))),((Ab).done (geCons Aa geNil))⟩
  refine WL.fy (.string ((l.getD k default).Data)) rfl fl48_2 rfl p9 (Ac.cell rfl) ?_
  refine WL.y (.bool (seqB ((l.getD k default).Data) (ByteArray.mk #[]))) rfl (V.scmp rfl rfl rfl rfl) ?_
  refine WL.k (a:=true) rfl rfl ?_
  refine WL.vb (c:=seqB ((l.getD k default).Data) (ByteArray.mk #[])) (Sure.none rfl) rfl (V.move rfl rfl) (fun Bg=>?_) (fun Bg=>?_)
  rotate_left
  ·refine WL.skips [(47,some false)] [(9,some false)] (kc (some false) rfl kn) (by kernel_rfl) (fun Cg hK56 B6=>?_)
   refine WP.seq ?_
   refine WP.sr ?_
   refine WL.m rfl ?_
   refine WL.z (.bool (true)) (V.not (x:=.tmp 66) (b:=false) rfl (hK56 9 (some false) rfl)) ?_
   refine WL.nil ?_
   refine WP.cond_true rfl ?_
   refine WP.sr ?_
   refine WL.m rfl ?_
   refine WL.nil ?_
   refine WP.ret ?_
   refine resOf.c1 rfl (v:=.bool (false)) rfl ?_
   exact ⟨(bool_eq (by rw [← vents_eq]; first | (exact (allB_true (by assumption) (by omega)).symm) | (exact (allB_false (k:=k) (by omega) (by first | assumption | grind [entOk,kindOk])).symm))),((Ab).done (geCons Aa geNil))⟩
  refine WL.fy (Ae) rfl fl48_3 rfl p22 (Ac.cell rfl) ?_
  obtain ⟨a51,c52,Bh⟩:=Ak.shape
  refine WL.y (.int .i64 ((((l.getD k default).Members).length:Int))) rfl (V.lenSlice rfl rfl u22 (Eq.trans (b:=Ae) rfl Bh)) ?_
  refine WL.y (.bool (decide ((((l.getD k default).Members).length:Int) = 0))) rfl (V.cmp rfl rfl rfl rfl) ?_
  refine WL.k (a:=true) rfl rfl ?_
  refine WL.m rfl ?_
  refine WL.nil ?_
  refine WP.seq ?_
  refine WP.sr ?_
  refine WL.m rfl ?_
  refine WL.z (.bool (!(decide ((((l.getD k default).Members).length:Int) = 0)))) (V.not rfl rfl) ?_
  refine WL.nil ?_
  refine WP.condnp (t:=(((l.getD k default).Members).length:Int) = 0) rfl (fun Bi=>?_) (fun Bi=>?_)
  ·refine WP.sr ?_
   refine WL.m rfl ?_
   refine WL.nil ?_
   refine WP.ret ?_
   refine resOf.c1 rfl (v:=.bool (false)) rfl ?_
   exact ⟨(bool_eq (by rw [← vents_eq]; first | (exact (allB_true (by assumption) (by omega)).symm) | (exact (allB_false (k:=k) (by omega) (by first | assumption | grind [entOk,kindOk])).symm))),((Ab).done (geCons Aa geNil))⟩
  refine WP.skip ?_
  refine WP.region ?_
  refine WL.f (.int .u64 ((l.getD k default).Term)) fl48_0 rfl p23 (Ac.cell rfl) ?_
  refine WL.m rfl ?_
  refine WL.nil ?_
  refine WP.region ?_
  refine WL.z (.int .i64 ((k:Int) + 1)) (V.arith (x:=.tmp 14) rfl Ad rfl rfl (wrap_i64 (by omega) (by omega))) ?_
  refine WL.m rfl ?_
  refine WL.nil ?_
  exact ⟨k + 1,⟨Aj,(int_eq (by simp [prevT,vprevT])),Ai,Ag,Ah,(int_eq (by omega)),(Ext.drop Ab Aa),(by omega),(all_step (by assumption) (by first | assumption | grind [entOk,kindOk]))⟩,(by omega)⟩
 refine WP.sr ?_
 refine WL.z (.bool (decide (((l.getD k default).Kind) = 2))) (V.cmp rfl rfl rfl rfl) ?_
 refine WL.m rfl ?_
 refine WL.nil ?_
 refine WP.condp (t:=((l.getD k default).Kind) = 2) rfl (fun Bj=>?_) (fun Bj=>?_)
 rotate_left
 ·refine WP.region ?_
  refine WL.m rfl ?_
  refine WL.nil ?_
  refine WP.seq ?_
  refine WP.sr ?_
  refine WL.m rfl ?_
  refine WL.z (.bool (true)) (V.not (b:=false) rfl rfl) ?_
  refine WL.nil ?_
  refine WP.cond_true rfl ?_
  refine WP.sr ?_
  refine WL.m rfl ?_
  refine WL.nil ?_
  refine WP.ret ?_
  refine resOf.c1 rfl (v:=.bool (false)) rfl ?_
  exact ⟨(bool_eq (by rw [← vents_eq]; first | (exact (allB_true (by assumption) (by omega)).symm) | (exact (allB_false (k:=k) (by omega) (by first | assumption | grind [entOk,kindOk])).symm))),((Ab).done (geCons Aa geNil))⟩
 refine WP.region ?_
 refine WL.m rfl ?_
 refine WL.vbp (c:=((l.getD k default).Term) ≤ to') (Sure.none rfl) rfl (V.move rfl rfl) (fun Bk=>?_) (fun Bk=>?_)
 rotate_left
 ·refine WL.skips [(56,some false)] [(9,some false)] (kc (some false) rfl kn) (by kernel_rfl) (fun Ch hK75 B7=>?_)
  refine WP.seq ?_
  refine WP.sr ?_
  refine WL.m rfl ?_
  refine WL.z (.bool (true)) (V.not (x:=.tmp 66) (b:=false) rfl (hK75 9 (some false) rfl)) ?_
  refine WL.nil ?_
  refine WP.cond_true rfl ?_
  refine WP.sr ?_
  refine WL.m rfl ?_
  refine WL.nil ?_
  refine WP.ret ?_
  refine resOf.c1 rfl (v:=.bool (false)) rfl ?_
  exact ⟨(bool_eq (by rw [← vents_eq]; first | (exact (allB_true (by assumption) (by omega)).symm) | (exact (allB_false (k:=k) (by omega) (by first | assumption | grind [entOk,kindOk])).symm))),((Ab).done (geCons Aa geNil))⟩
 refine WL.fy (.string ((l.getD k default).Data)) rfl fl48_2 rfl p9 (Ac.cell rfl) ?_
 refine WL.y (.bool (seqB ((l.getD k default).Data) (ByteArray.mk #[]))) rfl (V.scmp rfl rfl rfl rfl) ?_
 refine WL.k (a:=true) rfl rfl ?_
 refine WL.vb (c:=seqB ((l.getD k default).Data) (ByteArray.mk #[])) (Sure.none rfl) rfl (V.move rfl rfl) (fun Bl=>?_) (fun Bl=>?_)
 rotate_left
 ·refine WL.skips [(61,some false)] [(9,some false)] (kc (some false) rfl kn) (by kernel_rfl) (fun Ci hK72 B8=>?_)
  refine WP.seq ?_
  refine WP.sr ?_
  refine WL.m rfl ?_
  refine WL.z (.bool (true)) (V.not (x:=.tmp 66) (b:=false) rfl (hK72 9 (some false) rfl)) ?_
  refine WL.nil ?_
  refine WP.cond_true rfl ?_
  refine WP.sr ?_
  refine WL.m rfl ?_
  refine WL.nil ?_
  refine WP.ret ?_
  refine resOf.c1 rfl (v:=.bool (false)) rfl ?_
  exact ⟨(bool_eq (by rw [← vents_eq]; first | (exact (allB_true (by assumption) (by omega)).symm) | (exact (allB_false (k:=k) (by omega) (by first | assumption | grind [entOk,kindOk])).symm))),((Ab).done (geCons Aa geNil))⟩
 refine WL.fy (Ae) rfl fl48_3 rfl p22 (Ac.cell rfl) ?_
 refine WL.c (Sure.yes rfl rfl rfl) rfl (C.call1 rfl cl76 rfl) (Fnc.mono (vote_members (Ak.ext (Ext.pre A4))) ?_)
 rintro _ Bt ⟨rfl,Ap⟩
 have Aq:Ext [Af] w Bt:=Ab.trans (Ext.any (Y:=[Af]) Ap)
 have Bm:=Ac.ext Ap (by simp)
 refine WL.k (a:=true) rfl rfl ?_
 refine WL.m rfl ?_
 refine WL.nil ?_
 refine WP.seq ?_
 refine WP.sr ?_
 refine WL.m rfl ?_
 refine WL.z (.bool (!(membersB ((l.getD k default).Members)))) (V.not rfl rfl) ?_
 refine WL.nil ?_
 refine WP.condn (t:=membersB ((l.getD k default).Members)) rfl (fun Bn=>?_) (fun Bn=>?_)
 ·refine WP.sr ?_
  refine WL.m rfl ?_
  refine WL.nil ?_
  refine WP.ret ?_
  refine resOf.c1 rfl (v:=.bool (false)) rfl ?_
  exact ⟨(bool_eq (by rw [← vents_eq]; first | (exact (allB_true (by assumption) (by omega)).symm) | (exact (allB_false (k:=k) (by omega) (by first | assumption | grind [entOk,kindOk])).symm))),((Aq).done (geCons Aa geNil))⟩
 refine WP.skip ?_
 refine WP.region ?_
 refine WL.f (.int .u64 ((l.getD k default).Term)) fl48_0 rfl p23 (Bm.cell rfl) ?_
 refine WL.m rfl ?_
 refine WL.nil ?_
 refine WP.region ?_
 refine WL.z (.int .i64 ((k:Int) + 1)) (V.arith (x:=.tmp 14) rfl Ad rfl rfl (wrap_i64 (by omega) (by omega))) ?_
 refine WL.m rfl ?_
 refine WL.nil ?_
 exact ⟨k + 1,⟨Aj,(int_eq (by simp [prevT,vprevT])),Ai,Ag,Ah,(int_eq (by omega)),(Ext.drop Aq Aa),(by omega),(all_step (by assumption) (by first | assumption | grind [entOk,kindOk]))⟩,(by omega)⟩
end Go.Proofs.Ytiaicihpocoeiaa.T
namespace Go.Proofs.Ytiaicihpocoeiaa.T
open W Go.RowKit
set_option maxRecDepth 100000
set_option maxHeartbeats 400000
theorem ref_reads {w:World} {X:List Nat} {p:PeerD} {c_p:List Value} (h_p:peerR.rd X w c_p p):Fnc Try.prog 61 #[.agg c_p.toArray] w (fun v w'=>v = .bool (readsB p) ∧ Ext [] w w'):=by
 obtain ⟨v1,v3,v5,v7,v9,Ag,rfl,Db,Dc,Dd,De,C2,Ay,Br⟩:=h_p
 obtain ⟨Cj,Ck,Cl,Cm,Cn,Co,Cp,Cq,Cr,Cs,Ct,Cu⟩:=(show PeerD.InR p from Br)
 have Cv:=Ay.le'
 refine Fnc.of_WP (n:=51) Try.func61 rfl Try.ntmps61 (by simp) ?_
 intro E hE
 have h0:E 0 = .agg (peerA p v1 v3 v5 v7 v9 Ag):=hE 0 (by simp)
 clear hE
 refine WP.sr ?_
 refine WL.box (x:=.tmp 0) (cs:=(peerC p v1 v3 v5 v7 v9 Ag)) (Sure.none rfl) rfl rfl h0 rfl (fun Aa Al Az C3 Bs=>?_)
 have As:=(Sl.new (b:=Aa) nz3 Ay (by omega)).ext (Ext.any Az)
 have Bt:Ext [Aa] _ _:=(Ext.refl _ _).trans (Ext.any Az)
 have Ac:w.heap.size ≤ Aa:=by have:=Nat.le_refl w.heap.size; omega
 refine WL.m rfl ?_
 refine WL.nil ?_
 refine WP.seq ?_
 refine WP.sr ?_
 refine WL.m rfl ?_
 refine WL.nil ?_
 refine WP.block ?_
 refine WP.loop (σ:=Nat) (fun k Av Aq=>Av 0 = .agg (peerA p v1 v3 v5 v7 v9 Ag) ∧ Av 1 = .pointer (some ⟨Aa,0,none⟩) ∧ Av 3 = .int .i64 ((k:Int)) ∧ Ext [Aa] Al Aq ∧ Box Aq Aa 29 (peerC p v1 v3 v5 v7 v9 Ag) ∧ k ≤ p.Reads.length ∧ ∀ j,j < k → (readOk p) j = true) (fun k=>p.Reads.length - k) (0) ?_ ?_
 ·exact ⟨h0,rfl,(int_eq (by omega)),(Ext.refl _ _),Bs,(by omega),(all_zero _)⟩
 rintro k Av Aq ⟨Aw,Ae,Af,A4,hbb32_47,Cb,Cc⟩
 have Au:Ext [Aa] w Aq:=Bt.trans A4
 have Am:Ext [Aa] Al Aq:=A4
 refine WP.seq ?_
 refine WP.sr ?_
 refine WL.m rfl ?_
 refine WL.f (x:=.tmp 1) (Ag) fl29_17 Ae p27 (hbb32_47.cell rfl) ?_
 obtain ⟨a50,c51,Bu⟩:=As.shape
 refine WL.z (.int .i64 (((p.Reads).length:Int))) (V.lenSlice rfl rfl u27 (Eq.trans (b:=Ag) rfl Bu)) ?_
 refine WL.z (.bool (decide ((k:Int) < ((p.Reads).length:Int)))) (V.cmp (x:=.tmp 5) rfl Af rfl rfl) ?_
 refine WL.nil ?_
 refine WP.condp (t:=(k:Int) < ((p.Reads).length:Int)) rfl (fun Bv=>?_) (fun Bv=>?_)
 rotate_left
 ·refine WP.exit ?_
  refine WP.sr ?_
  refine WL.m rfl ?_
  refine WL.nil ?_
  refine WP.ret ?_
  refine resOf.c1 rfl (v:=.bool (true)) rfl ?_
  exact ⟨(bool_eq (by first | (exact (allB_true (by assumption) (by omega)).symm) | (exact (allB_false (k:=k) (by omega) (by first | assumption | grind [readOk])).symm))),((Au).done (geCons Ac geNil))⟩
 refine WP.skip ?_
 refine WP.seq ?_
 refine WP.block ?_
 refine WP.sr ?_
 refine WL.f (x:=.tmp 1) (Ag) fl29_17 Ae p27 (hbb32_47.cell rfl) ?_
 refine WL.m rfl ?_
 have hlt62:k < (p.Reads).length:=by first | omega | (simp at *; omega)
 obtain ⟨Cd,Ce,c56,C4,Bw,hnb59,Bx,Bc⟩:=(As.ext (Ext.pre Am)).get (i:=k) (x:=(p.Reads.getD k default)) (getD_some hlt62 _)
 obtain ⟨Ar,rfl,By,Bz⟩:=Bx
 obtain ⟨Cw,Cx⟩:=(show ReadD.InR (p.Reads.getD k default) from Bz)
 refine WL.z (.pointer (some ⟨Cd,Ce + k * 3,none⟩)) (V.indexAddr (i:=.tmp 14) (m:=k) (j:=(k:Int)) rfl u27 s53 (Eq.trans (b:=Ag) rfl Bw) Af rfl hlt62) ?_
 refine WL.z (.agg #[.int .u64 ((p.Reads.getD k default).Round),.int .u64 ((p.Reads.getD k default).Index),Ar]) (V.loadAgg (cs:=[.int .u64 ((p.Reads.getD k default).Round),.int .u64 ((p.Reads.getD k default).Index),Ar]) rfl a53 rfl Bc rfl) ?_
 refine WL.alloc (cs:=[.int .u64 (0),.int .u64 (0),.slice none 0 0]) (Sure.none rfl) rfl rfl z53 rfl (fun Ab Cf Aj C5 B0=>?_)
 have Bb:Aa < Ab:=by have:=hbb32_47.lt; omega
 have B1:=hbb32_47.ext Aj (by simp)
 have B2:=(Sl.new (b:=Ab) nz3 (As.ext (Ext.pre Am)) (by omega)).ext (Ext.any Aj)
 have B3:=(Sl.new (b:=Ab) nz1 By (by omega)).ext (Ext.any Aj)
 have B4:Ext [Ab,Aa] _ _:=(Ext.cons Au).trans (Ext.any Aj)
 have B5:Ext [Ab,Aa] _ _:=(Ext.cons Am).trans (Ext.any Aj)
 have Ad:w.heap.size ≤ Ab:=by have:=Au.size; omega
 have Ah:Al.heap.size ≤ Ab:=by have:=Am.size; omega
 refine WL.storeAgg (vs:=[.int .u64 ((p.Reads.getD k default).Round),.int .u64 ((p.Reads.getD k default).Index),Ar]) (Sure.none rfl) rfl rfl s53 rfl rfl rfl (by intro u hu; simp only [List.mem_cons,List.not_mem_nil,or_false] at hu; rcases hu with rfl | rfl | rfl <;> first | rfl | exact Sl.one (by assumption)) B0 (by show (0:Nat) + 3 ≤ 3; decide) (fun Ax An Ai=>?_)
 replace Ai:Box Ax Ab 53 [.int .u64 ((p.Reads.getD k default).Round),.int .u64 ((p.Reads.getD k default).Index),Ar]:=Ai
 have Ak:=B1.ext An (by simp; omega)
 have Ao:Ext [Ab,Aa] w Ax:=B4.trans (An.mono (by simp))
 have A5:Ext [Ab,Aa] Al Ax:=B5.trans (An.mono (by simp))
 have A6:Ext [Ab,Aa] Cf Ax:=(An.mono (by simp))
 refine WL.nil ?_
 refine WP.seq ?_
 refine WP.quiet mo (by kernel_rfl) ?_
 refine WQ.f (.int .u64 ((p.Reads.getD k default).Round)) fl53_0 rfl p23 (fun w' hw=>(Ai.ext hw (by simp)).cell rfl) ?_
 refine WQ.f (x:=.tmp 1) (.int .u64 (p.Round)) fl29_16 Ae p23 (fun w' hw=>(Ak.ext hw (by simp)).cell rfl) ?_
 refine WQ.z (.bool (decide (((p.Reads.getD k default).Round) > p.Round))) (fun w' hw=>V.cmp rfl rfl rfl rfl) ?_
 refine WQ.vbp (c:=((p.Reads.getD k default).Round) > p.Round) (Sure.none rfl) rfl (fun w' hw=>V.move rfl rfl) (fun B6=>?_) (fun B6=>?_)
 ·refine WQ.skips [(22,some true)] [(50,some true)] (kc (some true) rfl kn) (by kernel_rfl) (fun Df hK93 C6 Cg hq96=>?_)
  have B7:Ext [Ab,Aa] w Cg:=Ao.trans (Ext.any (Y:=[Ab,Aa]) hq96)
  refine WP.cond_true (hK93 50 (some true) rfl) ?_
  refine WP.sr ?_
  refine WL.m rfl ?_
  refine WL.nil ?_
  refine WP.ret ?_
  refine resOf.c1 rfl (v:=.bool (false)) rfl ?_
  exact ⟨(bool_eq (by first | (exact (allB_true (by assumption) (by omega)).symm) | (exact (allB_false (k:=k) (by omega) (by first | assumption | grind [readOk])).symm))),((B7).done (geCons Ad (geCons Ac geNil)))⟩
 refine WQ.fy (.int .u64 ((p.Reads.getD k default).Index)) rfl fl53_1 rfl p23 (fun w' hw=>(Ai.ext hw (by simp)).cell rfl) ?_
 refine WQ.fy (x:=.tmp 1) (.int .u64 (p.Commit)) rfl fl29_11 Ae p23 (fun w' hw=>(Ak.ext hw (by simp)).cell rfl) ?_
 refine WQ.y (.bool (decide (((p.Reads.getD k default).Index) > p.Commit))) rfl (fun w' hw=>V.cmp rfl rfl rfl rfl) ?_
 refine WQ.k (a:=false) rfl rfl ?_
 refine WQ.vbp (c:=((p.Reads.getD k default).Index) > p.Commit) (Sure.none rfl) rfl (fun w' hw=>V.move rfl rfl) (fun Bd=>?_) (fun Bd=>?_)
 ·refine WQ.skips [(29,some true)] [(50,some true)] (kc (some true) rfl kn) (by kernel_rfl) (fun C7 hK105 Cy B8 hq108=>?_)
  have Be:Ext [Ab,Aa] w B8:=Ao.trans (Ext.any (Y:=[Ab,Aa]) hq108)
  refine WP.cond_true (hK105 50 (some true) rfl) ?_
  refine WP.sr ?_
  refine WL.m rfl ?_
  refine WL.nil ?_
  refine WP.ret ?_
  refine resOf.c1 rfl (v:=.bool (false)) rfl ?_
  exact ⟨(bool_eq (by first | (exact (allB_true (by assumption) (by omega)).symm) | (exact (allB_false (k:=k) (by omega) (by first | assumption | grind [readOk])).symm))),((Be).done (geCons Ad (geCons Ac geNil)))⟩
 refine WQ.fy (Ar) rfl fl53_2 rfl p22 (fun w' hw=>(Ai.ext hw (by simp)).cell rfl) ?_
 refine WQ.c (u:=.bool (idsB ((p.Reads.getD k default).Acks))) (Sure.yes rfl rfl rfl) rfl (fun w' hw=>C.call1 rfl cl56 rfl) (fun w' hw=>(ref_ids ((B3.ext (Ext.pre A6)).ext (Ext.any hw)))) ?_
 refine WQ.y (.bool (!(idsB ((p.Reads.getD k default).Acks)))) rfl (fun w' hw=>V.not rfl rfl) ?_
 refine WQ.k (a:=false) rfl rfl ?_
 refine WQ.vbn (c:=idsB ((p.Reads.getD k default).Acks)) (Sure.none rfl) rfl (fun w' hw=>V.move rfl rfl) (fun Bf=>?_) (fun Bf=>?_)
 ·refine WQ.skips [(35,some true)] [(50,some true)] (kc (some true) rfl kn) (by kernel_rfl) (fun C8 hK117 Cz B9 hq120=>?_)
  have Bg:Ext [Ab,Aa] w B9:=Ao.trans (Ext.any (Y:=[Ab,Aa]) hq120)
  refine WP.cond_true (hK117 50 (some true) rfl) ?_
  refine WP.sr ?_
  refine WL.m rfl ?_
  refine WL.nil ?_
  refine WP.ret ?_
  refine resOf.c1 rfl (v:=.bool (false)) rfl ?_
  exact ⟨(bool_eq (by first | (exact (allB_true (by assumption) (by omega)).symm) | (exact (allB_false (k:=k) (by omega) (by first | assumption | grind [readOk])).symm))),((Bg).done (geCons Ad (geCons Ac geNil)))⟩
 refine WQ.my rfl rfl ?_
 refine WQ.y (.bool (decide ((k:Int) > 0))) rfl (fun w' hw=>V.cmp (x:=.tmp 36) rfl Af rfl rfl) ?_
 refine WQ.vbp (c:=(k:Int) > 0) (Sure.yes rfl rfl rfl) rfl (fun w' hw=>V.move rfl rfl) (fun Bh=>?_) (fun Bh=>?_)
 rotate_left
 ·refine WQ.skips [(38,some false),(35,some false)] [(50,some false)] (kc (some false) rfl (kc (some false) rfl kn)) (by kernel_rfl) (fun C9 hK153 Ap Ca hq156=>?_)
  have Bi:Ext [Ab,Aa] Al Ca:=A5.trans (Ext.any (Y:=[Ab,Aa]) hq156)
  have Bj:=Ak.ext hq156 (by simp)
  refine WP.cond_false (hK153 50 (some false) rfl) ?_
  refine WP.skip ?_
  refine WP.region ?_
  refine WL.m rfl ?_
  refine WL.z (.int .i64 ((k:Int) + 1)) (V.arith (x:=.tmp 10) rfl ((Ap 3 rfl).trans Af) rfl rfl (wrap_i64 (by omega) (by omega))) ?_
  refine WL.m rfl ?_
  refine WL.nil ?_
  exact ⟨k + 1,⟨((Ap 0 rfl).trans Aw),((Ap 1 rfl).trans Ae),(int_eq (by omega)),(Ext.drop Bi Ah),Bj,(by omega),(all_step (by assumption) (by first | assumption | grind [readOk]))⟩,(by omega)⟩
 refine WQ.fy (x:=.tmp 1) (Ag) rfl fl29_17 Ae p27 (fun w' hw=>(Ak.ext hw (by simp)).cell rfl) ?_
 refine WQ.my rfl rfl ?_
 refine WQ.y (.int .i64 ((k:Int) - 1)) rfl (fun w' hw=>V.arith (x:=.tmp 41) rfl Af rfl rfl (wrap_i64 (by omega) (by omega))) ?_
 have hlt136:k - 1 < (p.Reads).length:=by first | omega | (simp at *; omega)
 obtain ⟨A7,A8,c130,C0,Bk,hnb133,Bl,A9⟩:=(B2.ext (Ext.pre A6)).get (i:=k - 1) (x:=(p.Reads.getD (k - 1) default)) (getD_some hlt136 _)
 obtain ⟨Da,rfl,C1,Bm⟩:=Bl
 obtain ⟨Ch,Ci⟩:=(show ReadD.InR (p.Reads.getD (k - 1) default) from Bm)
 refine WQ.y (.pointer (some ⟨A7,A8 + (k - 1) * 3,none⟩)) rfl (fun w' hw=>V.indexAddr (m:=k - 1) (j:=(k:Int) - 1) rfl u27 s53 (Eq.trans (b:=Ag) rfl Bk) rfl (by omega) hlt136) ?_
 refine WQ.y (.pointer (some ⟨A7,A8 + (k - 1) * 3 + 0,none⟩)) rfl (fun w' hw=>V.fieldAddr rfl fl53_0 rfl) ?_
 refine WQ.y (.int .u64 ((p.Reads.getD (k - 1) default).Round)) rfl (fun w' hw=>V.load rfl p23 rfl ((A9.ext hw (by simp)).cell (j:=0) rfl)) ?_
 refine WQ.fy (.int .u64 ((p.Reads.getD k default).Round)) rfl fl53_0 rfl p23 (fun w' hw=>(Ai.ext hw (by simp)).cell rfl) ?_
 refine WQ.y (.bool (decide (((p.Reads.getD (k - 1) default).Round) ≥ ((p.Reads.getD k default).Round)))) rfl (fun w' hw=>V.cmp rfl rfl rfl rfl) ?_
 refine WQ.ky (a:=true) rfl rfl rfl ?_
 refine WQ.k (a:=false) rfl rfl ?_
 refine WQ.nil (fun Ba hq144=>?_)
 have Bn:Ext [Ab,Aa] w Ba:=Ao.trans (Ext.any (Y:=[Ab,Aa]) hq144)
 have Bo:Ext [Ab,Aa] Al Ba:=A5.trans (Ext.any (Y:=[Ab,Aa]) hq144)
 have Bp:=Ak.ext hq144 (by simp)
 refine WP.condp (t:=((p.Reads.getD (k - 1) default).Round) ≥ ((p.Reads.getD k default).Round)) rfl (fun Bq=>?_) (fun Bq=>?_)
 ·refine WP.sr ?_
  refine WL.m rfl ?_
  refine WL.nil ?_
  refine WP.ret ?_
  refine resOf.c1 rfl (v:=.bool (false)) rfl ?_
  exact ⟨(bool_eq (by first | (exact (allB_true (by assumption) (by omega)).symm) | (exact (allB_false (k:=k) (by omega) (by first | assumption | grind [readOk])).symm))),((Bn).done (geCons Ad (geCons Ac geNil)))⟩
 refine WP.skip ?_
 refine WP.region ?_
 refine WL.m rfl ?_
 refine WL.z (.int .i64 ((k:Int) + 1)) (V.arith (x:=.tmp 10) rfl Af rfl rfl (wrap_i64 (by omega) (by omega))) ?_
 refine WL.m rfl ?_
 refine WL.nil ?_
 exact ⟨k + 1,⟨Aw,Ae,(int_eq (by omega)),(Ext.drop Bo Ah),Bp,(by omega),(all_step (by assumption) (by first | assumption | grind [readOk]))⟩,(by omega)⟩
theorem vote_reads {w:World} {X:List Nat} {p:PeerD} {c_p:List Value} (h_p:peerR.rd X w c_p p):Fnc Try.prog 81 #[.agg c_p.toArray] w (fun v w'=>v = .bool (readsB p) ∧ Ext [] w w'):=by
 obtain ⟨v1,v3,v5,v7,v9,Af,rfl,Dd,De,Df,Dg,C4,A4,Bu⟩:=h_p
 obtain ⟨Cl,Cm,Cn,Co,Cp,Cq,Cr,Cs,Ct,Cu,Cv,Cw⟩:=(show PeerD.InR p from Bu)
 have Cx:=A4.le'
 refine Fnc.of_WP (n:=48) Try.func81 rfl Try.ntmps81 (by simp) ?_
 intro E hE
 have h0:E 0 = .agg (peerA p v1 v3 v5 v7 v9 Af):=hE 0 (by simp)
 clear hE
 refine WP.sr ?_
 refine WL.box (x:=.tmp 0) (cs:=(peerC p v1 v3 v5 v7 v9 Af)) (Sure.none rfl) rfl rfl h0 rfl (fun Aa Am A5 C5 A6=>?_)
 have Aw:=(Sl.new (b:=Aa) nz3 A4 (by omega)).ext (Ext.any A5)
 have Bv:Ext [Aa] _ _:=(Ext.refl _ _).trans (Ext.any A5)
 have Ac:w.heap.size ≤ Aa:=by have:=Nat.le_refl w.heap.size; omega
 refine WL.m rfl ?_
 refine WL.nil ?_
 refine WP.seq ?_
 refine WP.sr ?_
 refine WL.f (Af) fl29_17 rfl p27 (A6.cell rfl) ?_
 obtain ⟨a44,c45,Bw⟩:=Aw.shape
 refine WL.z (.int .i64 (((p.Reads).length:Int))) (V.lenSlice rfl rfl u27 (Eq.trans (b:=Af) rfl Bw)) ?_
 refine WL.m rfl ?_
 refine WL.nil ?_
 refine WP.block ?_
 refine WP.loop (σ:=Nat) (fun k An Au=>An 0 = .agg (peerA p v1 v3 v5 v7 v9 Af) ∧ An 1 = .pointer (some ⟨Aa,0,none⟩) ∧ An 6 = Af ∧ An 7 = .int .i64 (((p.Reads).length:Int)) ∧ An 8 = .int .i64 ((k:Int)) ∧ Ext [Aa] Am Au ∧ Box Au Aa 29 (peerC p v1 v3 v5 v7 v9 Af) ∧ k ≤ p.Reads.length ∧ ∀ j,j < k → (readOk p) j = true) (fun k=>p.Reads.length - k) (0) ?_ ?_
 ·exact ⟨h0,rfl,rfl,rfl,(int_eq (by omega)),(Ext.refl _ _),A6,(by omega),(all_zero _)⟩
 rintro k An Au ⟨Ay,Ah,Ao,Ap,Ae,A7,hbb32_50,Cd,Ce⟩
 have Ax:Ext [Aa] w Au:=Bv.trans A7
 have Aq:Ext [Aa] Am Au:=A7
 refine WP.sr ?_
 refine WL.z (.bool (decide ((k:Int) < ((p.Reads).length:Int)))) (V.cmp (x:=.tmp 8) (y:=.tmp 7) rfl Ae Ap rfl) ?_
 refine WL.nil ?_
 refine WP.seq ?_
 refine WP.condp (t:=(k:Int) < ((p.Reads).length:Int)) rfl (fun Bx=>?_) (fun Bx=>?_)
 rotate_left
 ·refine WP.exit ?_
  refine WP.sr ?_
  refine WL.m rfl ?_
  refine WL.nil ?_
  refine WP.ret ?_
  refine resOf.c1 rfl (v:=.bool (true)) rfl ?_
  exact ⟨(bool_eq (by first | (exact (allB_true (by assumption) (by omega)).symm) | (exact (allB_false (k:=k) (by omega) (by first | assumption | grind [readOk])).symm))),((Ax).done (geCons Ac geNil))⟩
 refine WP.skip ?_
 refine WP.seq ?_
 refine WP.block ?_
 refine WP.sr ?_
 refine WL.m rfl ?_
 have hlt62:k < (p.Reads).length:=by first | omega | (simp at *; omega)
 obtain ⟨Cf,Cg,c56,C6,By,hnb59,Bz,Bf⟩:=(Aw.ext (Ext.pre Aq)).get (i:=k) (x:=(p.Reads.getD k default)) (getD_some hlt62 _)
 obtain ⟨Av,rfl,B0,B1⟩:=Bz
 obtain ⟨Cy,Cz⟩:=(show ReadD.InR (p.Reads.getD k default) from B1)
 refine WL.z (.pointer (some ⟨Cf,Cg + k * 3,none⟩)) (V.indexAddr (x:=.tmp 6) (i:=.tmp 8) (m:=k) (j:=(k:Int)) rfl u27 s53 (Eq.trans (b:=Af) Ao By) Ae rfl hlt62) ?_
 refine WL.z (.agg #[.int .u64 ((p.Reads.getD k default).Round),.int .u64 ((p.Reads.getD k default).Index),Av]) (V.loadAgg (cs:=[.int .u64 ((p.Reads.getD k default).Round),.int .u64 ((p.Reads.getD k default).Index),Av]) rfl a53 rfl Bf rfl) ?_
 refine WL.alloc (cs:=[.int .u64 (0),.int .u64 (0),.slice none 0 0]) (Sure.none rfl) rfl rfl z53 rfl (fun Ab Ch Ak C7 B2=>?_)
 have Be:Aa < Ab:=by have:=hbb32_50.lt; omega
 have B3:=hbb32_50.ext Ak (by simp)
 have B4:=(Sl.new (b:=Ab) nz3 (Aw.ext (Ext.pre Aq)) (by omega)).ext (Ext.any Ak)
 have B5:=(Sl.new (b:=Ab) nz1 B0 (by omega)).ext (Ext.any Ak)
 have B6:Ext [Ab,Aa] _ _:=(Ext.cons Ax).trans (Ext.any Ak)
 have B7:Ext [Ab,Aa] _ _:=(Ext.cons Aq).trans (Ext.any Ak)
 have Ad:w.heap.size ≤ Ab:=by have:=Ax.size; omega
 have Ag:Am.heap.size ≤ Ab:=by have:=Aq.size; omega
 refine WL.m rfl ?_
 refine WL.storeAgg (vs:=[.int .u64 ((p.Reads.getD k default).Round),.int .u64 ((p.Reads.getD k default).Index),Av]) (Sure.none rfl) rfl rfl s53 rfl rfl rfl (by intro u hu; simp only [List.mem_cons,List.not_mem_nil,or_false] at hu; rcases hu with rfl | rfl | rfl <;> first | rfl | exact Sl.one (by assumption)) B2 (by show (0:Nat) + 3 ≤ 3; decide) (fun Az Ar Aj=>?_)
 replace Aj:Box Az Ab 53 [.int .u64 ((p.Reads.getD k default).Round),.int .u64 ((p.Reads.getD k default).Index),Av]:=Aj
 have Al:=B3.ext Ar (by simp; omega)
 have As:Ext [Ab,Aa] w Az:=B6.trans (Ar.mono (by simp))
 have A8:Ext [Ab,Aa] Am Az:=B7.trans (Ar.mono (by simp))
 have A9:Ext [Ab,Aa] Ch Az:=(Ar.mono (by simp))
 refine WL.nil ?_
 refine WP.seq ?_
 refine WP.quiet mo (by kernel_rfl) ?_
 refine WQ.f (.int .u64 ((p.Reads.getD k default).Round)) fl53_0 rfl p23 (fun w' hw=>(Aj.ext hw (by simp)).cell rfl) ?_
 refine WQ.f (x:=.tmp 1) (.int .u64 (p.Round)) fl29_16 Ah p23 (fun w' hw=>(Al.ext hw (by simp)).cell rfl) ?_
 refine WQ.z (.bool (decide (((p.Reads.getD k default).Round) > p.Round))) (fun w' hw=>V.cmp rfl rfl rfl rfl) ?_
 refine WQ.vbp (c:=((p.Reads.getD k default).Round) > p.Round) (Sure.none rfl) rfl (fun w' hw=>V.move rfl rfl) (fun B8=>?_) (fun B8=>?_)
 ·refine WQ.skips [(18,some true)] [(46,some true)] (kc (some true) rfl kn) (by kernel_rfl) (fun Dh hK93 C8 Ci hq96=>?_)
  have B9:Ext [Ab,Aa] w Ci:=As.trans (Ext.any (Y:=[Ab,Aa]) hq96)
  refine WP.cond_true (hK93 46 (some true) rfl) ?_
  refine WP.sr ?_
  refine WL.m rfl ?_
  refine WL.nil ?_
  refine WP.ret ?_
  refine resOf.c1 rfl (v:=.bool (false)) rfl ?_
  exact ⟨(bool_eq (by first | (exact (allB_true (by assumption) (by omega)).symm) | (exact (allB_false (k:=k) (by omega) (by first | assumption | grind [readOk])).symm))),((B9).done (geCons Ad (geCons Ac geNil)))⟩
 refine WQ.fy (.int .u64 ((p.Reads.getD k default).Index)) rfl fl53_1 rfl p23 (fun w' hw=>(Aj.ext hw (by simp)).cell rfl) ?_
 refine WQ.fy (x:=.tmp 1) (.int .u64 (p.Commit)) rfl fl29_11 Ah p23 (fun w' hw=>(Al.ext hw (by simp)).cell rfl) ?_
 refine WQ.y (.bool (decide (((p.Reads.getD k default).Index) > p.Commit))) rfl (fun w' hw=>V.cmp rfl rfl rfl rfl) ?_
 refine WQ.k (a:=false) rfl rfl ?_
 refine WQ.vbp (c:=((p.Reads.getD k default).Index) > p.Commit) (Sure.none rfl) rfl (fun w' hw=>V.move rfl rfl) (fun Bg=>?_) (fun Bg=>?_)
 ·refine WQ.skips [(25,some true)] [(46,some true)] (kc (some true) rfl kn) (by kernel_rfl) (fun C9 hK105 C0 Ca hq108=>?_)
  have Bh:Ext [Ab,Aa] w Ca:=As.trans (Ext.any (Y:=[Ab,Aa]) hq108)
  refine WP.cond_true (hK105 46 (some true) rfl) ?_
  refine WP.sr ?_
  refine WL.m rfl ?_
  refine WL.nil ?_
  refine WP.ret ?_
  refine resOf.c1 rfl (v:=.bool (false)) rfl ?_
  exact ⟨(bool_eq (by first | (exact (allB_true (by assumption) (by omega)).symm) | (exact (allB_false (k:=k) (by omega) (by first | assumption | grind [readOk])).symm))),((Bh).done (geCons Ad (geCons Ac geNil)))⟩
 refine WQ.fy (Av) rfl fl53_2 rfl p22 (fun w' hw=>(Aj.ext hw (by simp)).cell rfl) ?_
 refine WQ.c (u:=.bool (idsB ((p.Reads.getD k default).Acks))) (Sure.yes rfl rfl rfl) rfl (fun w' hw=>C.call1 rfl cl78 rfl) (fun w' hw=>(vote_rising ((B5.ext (Ext.pre A9)).ext (Ext.any hw)))) ?_
 refine WQ.y (.bool (!(idsB ((p.Reads.getD k default).Acks)))) rfl (fun w' hw=>V.not rfl rfl) ?_
 refine WQ.k (a:=false) rfl rfl ?_
 refine WQ.vbn (c:=idsB ((p.Reads.getD k default).Acks)) (Sure.none rfl) rfl (fun w' hw=>V.move rfl rfl) (fun Bi=>?_) (fun Bi=>?_)
 ·refine WQ.skips [(31,some true)] [(46,some true)] (kc (some true) rfl kn) (by kernel_rfl) (fun Da hK117 C1 Cb hq120=>?_)
  have Bj:Ext [Ab,Aa] w Cb:=As.trans (Ext.any (Y:=[Ab,Aa]) hq120)
  refine WP.cond_true (hK117 46 (some true) rfl) ?_
  refine WP.sr ?_
  refine WL.m rfl ?_
  refine WL.nil ?_
  refine WP.ret ?_
  refine resOf.c1 rfl (v:=.bool (false)) rfl ?_
  exact ⟨(bool_eq (by first | (exact (allB_true (by assumption) (by omega)).symm) | (exact (allB_false (k:=k) (by omega) (by first | assumption | grind [readOk])).symm))),((Bj).done (geCons Ad (geCons Ac geNil)))⟩
 refine WQ.my rfl rfl ?_
 refine WQ.y (.bool (decide ((k:Int) > 0))) rfl (fun w' hw=>V.cmp (x:=.tmp 32) rfl Ae rfl rfl) ?_
 refine WQ.vbp (c:=(k:Int) > 0) (Sure.yes rfl rfl rfl) rfl (fun w' hw=>V.move rfl rfl) (fun Bk=>?_) (fun Bk=>?_)
 rotate_left
 ·refine WQ.skips [(34,some false),(31,some false)] [(46,some false)] (kc (some false) rfl (kc (some false) rfl kn)) (by kernel_rfl) (fun Db hK153 Ai Cc hq156=>?_)
  have Bl:Ext [Ab,Aa] Am Cc:=A8.trans (Ext.any (Y:=[Ab,Aa]) hq156)
  have Bm:=Al.ext hq156 (by simp)
  refine WP.cond_false (hK153 46 (some false) rfl) ?_
  refine WP.skip ?_
  refine WP.region ?_
  refine WL.z (.int .i64 ((k:Int) + 1)) (V.arith (x:=.tmp 8) rfl ((Ai 8 rfl).trans Ae) rfl rfl (wrap_i64 (by omega) (by omega))) ?_
  refine WL.m rfl ?_
  refine WL.nil ?_
  exact ⟨k + 1,⟨((Ai 0 rfl).trans Ay),((Ai 1 rfl).trans Ah),((Ai 6 rfl).trans Ao),((Ai 7 rfl).trans Ap),(int_eq (by omega)),(Ext.drop Bl Ag),Bm,(by omega),(all_step (by assumption) (by first | assumption | grind [readOk]))⟩,(by omega)⟩
 refine WQ.fy (x:=.tmp 1) (Af) rfl fl29_17 Ah p27 (fun w' hw=>(Al.ext hw (by simp)).cell rfl) ?_
 refine WQ.my rfl rfl ?_
 refine WQ.y (.int .i64 ((k:Int) - 1)) rfl (fun w' hw=>V.arith (x:=.tmp 37) rfl Ae rfl rfl (wrap_i64 (by omega) (by omega))) ?_
 have hlt136:k - 1 < (p.Reads).length:=by first | omega | (simp at *; omega)
 obtain ⟨Ba,Bb,c130,C2,Bn,hnb133,Bo,Bc⟩:=(B4.ext (Ext.pre A9)).get (i:=k - 1) (x:=(p.Reads.getD (k - 1) default)) (getD_some hlt136 _)
 obtain ⟨Dc,rfl,C3,Bp⟩:=Bo
 obtain ⟨Cj,Ck⟩:=(show ReadD.InR (p.Reads.getD (k - 1) default) from Bp)
 refine WQ.y (.pointer (some ⟨Ba,Bb + (k - 1) * 3,none⟩)) rfl (fun w' hw=>V.indexAddr (m:=k - 1) (j:=(k:Int) - 1) rfl u27 s53 (Eq.trans (b:=Af) rfl Bn) rfl (by omega) hlt136) ?_
 refine WQ.y (.pointer (some ⟨Ba,Bb + (k - 1) * 3 + 0,none⟩)) rfl (fun w' hw=>V.fieldAddr rfl fl53_0 rfl) ?_
 refine WQ.y (.int .u64 ((p.Reads.getD (k - 1) default).Round)) rfl (fun w' hw=>V.load rfl p23 rfl ((Bc.ext hw (by simp)).cell (j:=0) rfl)) ?_
 refine WQ.fy (.int .u64 ((p.Reads.getD k default).Round)) rfl fl53_0 rfl p23 (fun w' hw=>(Aj.ext hw (by simp)).cell rfl) ?_
 refine WQ.y (.bool (decide (((p.Reads.getD (k - 1) default).Round) ≥ ((p.Reads.getD k default).Round)))) rfl (fun w' hw=>V.cmp rfl rfl rfl rfl) ?_
 refine WQ.ky (a:=true) rfl rfl rfl ?_
 refine WQ.k (a:=false) rfl rfl ?_
 refine WQ.nil (fun Bd hq144=>?_)
 have Bq:Ext [Ab,Aa] w Bd:=As.trans (Ext.any (Y:=[Ab,Aa]) hq144)
 have Br:Ext [Ab,Aa] Am Bd:=A8.trans (Ext.any (Y:=[Ab,Aa]) hq144)
 have Bs:=Al.ext hq144 (by simp)
 refine WP.condp (t:=((p.Reads.getD (k - 1) default).Round) ≥ ((p.Reads.getD k default).Round)) rfl (fun Bt=>?_) (fun Bt=>?_)
 ·refine WP.sr ?_
  refine WL.m rfl ?_
  refine WL.nil ?_
  refine WP.ret ?_
  refine resOf.c1 rfl (v:=.bool (false)) rfl ?_
  exact ⟨(bool_eq (by first | (exact (allB_true (by assumption) (by omega)).symm) | (exact (allB_false (k:=k) (by omega) (by first | assumption | grind [readOk])).symm))),((Bq).done (geCons Ad (geCons Ac geNil)))⟩
 refine WP.skip ?_
 refine WP.region ?_
 refine WL.z (.int .i64 ((k:Int) + 1)) (V.arith (x:=.tmp 8) rfl Ae rfl rfl (wrap_i64 (by omega) (by omega))) ?_
 refine WL.m rfl ?_
 refine WL.nil ?_
 exact ⟨k + 1,⟨Ay,Ah,Ao,Ap,(int_eq (by omega)),(Ext.drop Br Ag),Bs,(by omega),(all_step (by assumption) (by first | assumption | grind [readOk]))⟩,(by omega)⟩
theorem ref_follows {w:World} {X:List Nat} {p:PeerD} {c_p:List Value} (h_p:peerR.rd X w c_p p) (last:Int) (hlast:0 ≤ last ∧ last < 18446744073709551615):Fnc Try.prog 60 #[.agg c_p.toArray,.int .u64 (last)] w (fun v w'=>v = .bool (followsB p last) ∧ Ext [] w w'):=by
 obtain ⟨v1,v3,v5,v7,v9,Ay,rfl,Bw,Dl,Dm,Dn,A6,Dd,By⟩:=h_p
 obtain ⟨Cs,Ct,Cu,Cv,Cw,Cx,Cy,Cz,C0,C1,C2,C3⟩:=(show PeerD.InR p from By)
 have C4:=Bw.le'
 have C5:=A6.le'
 refine Fnc.of_WP (n:=67) Try.func60 rfl Try.ntmps60 (by simp) ?_
 intro E hE
 have h0:E 0 = .agg (peerA p v1 v3 v5 v7 v9 Ay):=hE 0 (by simp)
 have h1:E 1 = .int .u64 (last):=hE 1 (by simp)
 clear hE
 refine WP.sr ?_
 refine WL.box (x:=.tmp 0) (cs:=(peerC p v1 v3 v5 v7 v9 Ay)) (Sure.none rfl) rfl rfl h0 rfl (fun Aa An Au De Bz=>?_)
 have Av:=(Sl.new (b:=Aa) nz1 Bw (by omega)).ext (Ext.any Au)
 have Aw:=(Sl.new (b:=Aa) nz3 A6 (by omega)).ext (Ext.any Au)
 have B0:Ext [Aa] _ _:=(Ext.refl _ _).trans (Ext.any Au)
 have Ac:w.heap.size ≤ Aa:=by have:=Nat.le_refl w.heap.size; omega
 refine WL.m rfl ?_
 refine WL.nil ?_
 refine WP.sr ?_
 refine WL.m rfl ?_
 refine WL.nil ?_
 refine WP.seq ?_
 refine WP.sr ?_
 refine WL.m rfl ?_
 refine WL.nil ?_
 refine WP.block ?_
 refine WP.loop (σ:=Nat) (fun k Ao As=>Ao 0 = .agg (peerA p v1 v3 v5 v7 v9 Ay) ∧ Ao 1 = .int .u64 (last) ∧ Ao 2 = .pointer (some ⟨Aa,0,none⟩) ∧ Ao 5 = .int .i64 ((cnt p k:Int)) ∧ Ao 6 = .int .i64 ((k:Int)) ∧ Ext [Aa] An As ∧ Box As Aa 29 (peerC p v1 v3 v5 v7 v9 Ay) ∧ k ≤ p.Members.length ∧ cnt p k ≤ p.Follows.length ∧ ∀ j,j < cnt p k → fOkAt p last j = true) (fun k=>p.Members.length - k) (0) ?_ ?_
 ·exact ⟨h0,h1,rfl,(int_eq (by show (0:Int) = ((0:Nat):Int); rfl)),(int_eq (by omega)),(Ext.refl _ _),Bz,(by omega),(by show (0:Nat) ≤ _; omega),(fun j hj=>absurd hj (by show ¬ j < 0; omega))⟩
 rintro k Ao As ⟨Az,Ap,Ad,Ag,Ah,A7,hbb32_47,Cj,Ck,Cl⟩
 have A8:Ext [Aa] w As:=B0.trans A7
 have A9:Ext [Aa] An As:=A7
 refine WP.seq ?_
 refine WP.sr ?_
 refine WL.m rfl ?_
 refine WL.f (x:=.tmp 2) (v1) fl29_1 Ad p22 (hbb32_47.cell rfl) ?_
 obtain ⟨a50,c51,B1⟩:=Av.shape
 refine WL.z (.int .i64 (((p.Members).length:Int))) (V.lenSlice rfl rfl u22 (Eq.trans (b:=v1) rfl B1)) ?_
 refine WL.z (.bool (decide ((k:Int) < ((p.Members).length:Int)))) (V.cmp (x:=.tmp 8) rfl Ah rfl rfl) ?_
 refine WL.nil ?_
 refine WP.condp (t:=(k:Int) < ((p.Members).length:Int)) rfl (fun B2=>?_) (fun B2=>?_)
 rotate_left
 ·refine WP.exit ?_
  refine WP.sr ?_
  refine WL.m rfl ?_
  refine WL.f (x:=.tmp 2) (v9) fl29_15 Ad p26 (hbb32_47.cell rfl) ?_
  obtain ⟨a164,c165,Bd⟩:=Aw.shape
  refine WL.z (.int .i64 (((p.Follows).length:Int))) (V.lenSlice rfl rfl u26 (Eq.trans (b:=v9) rfl Bd)) ?_
  refine WL.z (.bool (decide ((cnt p k:Int) = ((p.Follows).length:Int)))) (V.cmp (x:=.tmp 62) rfl Ag rfl rfl) ?_
  refine WL.m rfl ?_
  refine WL.nil ?_
  refine WP.ret ?_
  refine resOf.c1 rfl (v:=.bool (decide ((cnt p k:Int) = ((p.Follows).length:Int)))) rfl ?_
  exact ⟨(bool_eq (by first | exact (followsB_end (by omega) (by assumption) (by omega)).symm | exact (followsB_short (k:=k) (by omega) (by omega) (by omega)).symm | exact (followsB_bad (j:=cnt p k) (by omega) (fOkAt_go (by omega) (by omega) (by first | assumption | grind [fOk,ieq]))).symm)),((A8).done (geCons Ac geNil))⟩
 refine WP.skip ?_
 refine WP.seq ?_
 refine WP.block ?_
 refine WP.seq ?_
 refine WP.seq ?_
 refine WP.quiet mo (by kernel_rfl) ?_
 refine WQ.f (x:=.tmp 2) (v1) fl29_1 Ad p22 (fun w' hw=>(hbb32_47.ext hw (by simp)).cell rfl) ?_
 refine WQ.m rfl ?_
 have hlt62:k < (p.Members).length:=by first | omega | (simp at *; omega)
 obtain ⟨Cm,Cn,c56,Df,B3,hnb59,B4,Be⟩:=(Av.ext (Ext.pre A9)).get (i:=k) (x:=(p.Members.getD k 0)) (getD_some hlt62 _)
 obtain ⟨rfl,C6⟩:=B4
 refine WQ.z (.pointer (some ⟨Cm,Cn + k * 1,none⟩)) (fun w' hw=>V.indexAddr (i:=.tmp 17) (m:=k) (j:=(k:Int)) rfl u22 s3 (Eq.trans (b:=v1) rfl B3) Ah rfl hlt62) ?_
 refine WQ.z (.int .i64 ((p.Members.getD k 0))) (fun w' hw=>V.load rfl p3 rfl ((Be.ext hw (by simp)).cell (j:=0) rfl)) ?_
 refine WQ.f (x:=.tmp 2) (.int .i64 (p.Id)) fl29_0 Ad p3 (fun w' hw=>(hbb32_47.ext hw (by simp)).cell rfl) ?_
 refine WQ.z (.bool (decide ((p.Members.getD k 0) = p.Id))) (fun w' hw=>V.cmp rfl rfl rfl rfl) ?_
 refine WQ.nil (fun Bx hq65=>?_)
 have Ax:Ext [Aa] w Bx:=A8.trans (Ext.any (Y:=[Aa]) hq65)
 have Ak:Ext [Aa] An Bx:=A9.trans (Ext.any (Y:=[Aa]) hq65)
 have Al:=hbb32_47.ext hq65 (by simp)
 refine WP.condp (t:=(p.Members.getD k 0) = p.Id) rfl (fun B5=>?_) (fun B5=>?_)
 ·refine WP.exit ?_
  refine WP.region ?_
  refine WL.m rfl ?_
  refine WL.z (.int .i64 ((k:Int) + 1)) (V.arith (x:=.tmp 13) rfl Ah rfl rfl (wrap_i64 (by omega) (by omega))) ?_
  refine WL.m rfl ?_
  refine WL.nil ?_
  exact ⟨k + 1,⟨Az,Ap,Ad,(Eq.trans Ag (int_eq (by first | (rw [cnt_skip (by omega) (by omega)]; done) | (rw [cnt_go (by omega) (by omega)]; omega)))),(int_eq (by omega)),Ak,Al,(by omega),(by first | (rw [cnt_skip (by omega) (by omega)]; omega) | (rw [cnt_go (by omega) (by omega)]; omega)),(by first | (rw [cnt_skip (by omega) (by omega)]; assumption) | exact upto_succ (by assumption) (cnt_go (by omega) (by omega)) (fOkAt_go (by omega) (by omega) (by first | assumption | grind [fOk,ieq])))⟩,(by omega)⟩
 refine WP.skip ?_
 refine WP.seq ?_
 refine WP.sr ?_
 refine WL.m rfl ?_
 refine WL.f (x:=.tmp 2) (v9) fl29_15 Ad p26 (Al.cell rfl) ?_
 obtain ⟨a71,c72,B6⟩:=Aw.shape
 refine WL.z (.int .i64 (((p.Follows).length:Int))) (V.lenSlice rfl rfl u26 (Eq.trans (b:=v9) rfl B6)) ?_
 refine WL.z (.bool (decide ((cnt p k:Int) ≥ ((p.Follows).length:Int)))) (V.cmp (x:=.tmp 23) rfl Ag rfl rfl) ?_
 refine WL.nil ?_
 refine WP.condp (t:=(cnt p k:Int) ≥ ((p.Follows).length:Int)) rfl (fun B7=>?_) (fun B7=>?_)
 ·refine WP.sr ?_
  refine WL.m rfl ?_
  refine WL.nil ?_
  refine WP.ret ?_
  refine resOf.c1 rfl (v:=.bool (false)) rfl ?_
  exact ⟨(bool_eq (by first | exact (followsB_end (by omega) (by assumption) (by omega)).symm | exact (followsB_short (k:=k) (by omega) (by omega) (by omega)).symm | exact (followsB_bad (j:=cnt p k) (by omega) (fOkAt_go (by omega) (by omega) (by first | assumption | grind [fOk,ieq]))).symm)),((Ax).done (geCons Ac geNil))⟩
 refine WP.skip ?_
 refine WP.sr ?_
 refine WL.f (x:=.tmp 2) (v9) fl29_15 Ad p26 (Al.cell rfl) ?_
 refine WL.m rfl ?_
 have hlt83:cnt p k < (p.Follows).length:=by first | omega | (simp at *; omega)
 obtain ⟨Co,Cp,c77,Dg,B8,hnb80,B9,Bf⟩:=(Aw.ext (Ext.pre Ak)).get (i:=cnt p k) (x:=(p.Follows.getD (cnt p k) default)) (getD_some hlt83 _)
 obtain ⟨rfl,Ca⟩:=B9
 obtain ⟨C7,C8,A4⟩:=(show FollowD.InR (p.Follows.getD (cnt p k) default) from Ca)
 have A4:=inK_u64 A4
 refine WL.z (.pointer (some ⟨Co,Cp + (cnt p k) * 3,none⟩)) (V.indexAddr (i:=.tmp 30) (m:=cnt p k) (j:=(cnt p k:Int)) rfl u26 s73 (Eq.trans (b:=v9) rfl B8) Ag (by omega) hlt83) ?_
 refine WL.z (.agg #[.int .i64 ((p.Follows.getD (cnt p k) default).Id),.int .u64 ((p.Follows.getD (cnt p k) default).Next),.int .u64 ((p.Follows.getD (cnt p k) default).Match)]) (V.loadAgg (cs:=[.int .i64 ((p.Follows.getD (cnt p k) default).Id),.int .u64 ((p.Follows.getD (cnt p k) default).Next),.int .u64 ((p.Follows.getD (cnt p k) default).Match)]) rfl a73 rfl Bf rfl) ?_
 refine WL.alloc (cs:=[.int .i64 (0),.int .u64 (0),.int .u64 (0)]) (Sure.none rfl) rfl rfl z73 rfl (fun Ab Cq Aq Dh Cb=>?_)
 have Bc:Aa < Ab:=by have:=Al.lt; omega
 have Cc:=Al.ext Aq (by simp)
 have Cd:=(Sl.new (b:=Ab) nz1 (Av.ext (Ext.pre Ak)) (by omega)).ext (Ext.any Aq)
 have Bg:Ext [Ab,Aa] _ _:=(Ext.cons Ax).trans (Ext.any Aq)
 have Bh:Ext [Ab,Aa] _ _:=(Ext.cons Ak).trans (Ext.any Aq)
 have Ae:w.heap.size ≤ Ab:=by have:=Ax.size; omega
 have Am:An.heap.size ≤ Ab:=by have:=Ak.size; omega
 refine WL.storeAgg (vs:=[.int .i64 ((p.Follows.getD (cnt p k) default).Id),.int .u64 ((p.Follows.getD (cnt p k) default).Next),.int .u64 ((p.Follows.getD (cnt p k) default).Match)]) (Sure.none rfl) rfl rfl s73 rfl rfl rfl (by intro u hu; simp only [List.mem_cons,List.not_mem_nil,or_false] at hu; rcases hu with rfl | rfl | rfl <;> first | rfl | exact Sl.one (by assumption)) Cb (by show (0:Nat) + 3 ≤ 3; decide) (fun Ar Ai Af=>?_)
 replace Af:Box Ar Ab 73 [.int .i64 ((p.Follows.getD (cnt p k) default).Id),.int .u64 ((p.Follows.getD (cnt p k) default).Next),.int .u64 ((p.Follows.getD (cnt p k) default).Match)]:=Af
 have A5:=Cc.ext Ai (by simp; omega)
 have Aj:Ext [Ab,Aa] w Ar:=Bg.trans (Ai.mono (by simp))
 have Bi:Ext [Ab,Aa] An Ar:=Bh.trans (Ai.mono (by simp))
 have Bj:Ext [Ab,Aa] Cq Ar:=(Ai.mono (by simp))
 refine WL.nil ?_
 refine WP.seq ?_
 refine WP.seq ?_
 refine WP.quiet mo (by kernel_rfl) ?_
 refine WQ.f (.int .i64 ((p.Follows.getD (cnt p k) default).Id)) fl73_0 rfl p3 (fun w' hw=>(Af.ext hw (by simp)).cell rfl) ?_
 refine WQ.f (x:=.tmp 2) (v1) fl29_1 Ad p22 (fun w' hw=>(A5.ext hw (by simp)).cell rfl) ?_
 refine WQ.m rfl ?_
 have hlt117:k < (p.Members).length:=by first | omega | (simp at *; omega)
 obtain ⟨Ce,Cf,c111,C9,Bk,hnb114,Bl,Ba⟩:=(Cd.ext (Ext.pre Bj)).get (i:=k) (x:=(p.Members.getD k 0)) (getD_some hlt117 _)
 obtain ⟨rfl,Cr⟩:=Bl
 refine WQ.z (.pointer (some ⟨Ce,Cf + k * 1,none⟩)) (fun w' hw=>V.indexAddr (i:=.tmp 37) (m:=k) (j:=(k:Int)) rfl u22 s3 (Eq.trans (b:=v1) rfl Bk) Ah rfl hlt117) ?_
 refine WQ.z (.int .i64 ((p.Members.getD k 0))) (fun w' hw=>V.load rfl p3 rfl ((Ba.ext hw (by simp)).cell (j:=0) rfl)) ?_
 refine WQ.z (.bool (decide (((p.Follows.getD (cnt p k) default).Id) ≠ (p.Members.getD k 0)))) (fun w' hw=>V.cmp rfl rfl rfl rfl) ?_
 refine WQ.vbp (c:=((p.Follows.getD (cnt p k) default).Id) ≠ (p.Members.getD k 0)) (Sure.none rfl) rfl (fun w' hw=>V.move rfl rfl) (fun Bm=>?_) (fun Bm=>?_)
 ·refine WQ.skips [(41,some true)] [(59,some true)] (kc (some true) rfl kn) (by kernel_rfl) (fun Di hK121 Da Cg hq124=>?_)
  have Bn:Ext [Ab,Aa] w Cg:=Aj.trans (Ext.any (Y:=[Ab,Aa]) hq124)
  refine WP.cond_true (hK121 59 (some true) rfl) ?_
  refine WP.sr ?_
  refine WL.m rfl ?_
  refine WL.nil ?_
  refine WP.ret ?_
  refine resOf.c1 rfl (v:=.bool (false)) rfl ?_
  exact ⟨(bool_eq (by first | exact (followsB_end (by omega) (by assumption) (by omega)).symm | exact (followsB_short (k:=k) (by omega) (by omega) (by omega)).symm | exact (followsB_bad (j:=cnt p k) (by omega) (fOkAt_go (by omega) (by omega) (by first | assumption | grind [fOk,ieq]))).symm)),((Bn).done (geCons Ae (geCons Ac geNil)))⟩
 refine WQ.fy (.int .u64 ((p.Follows.getD (cnt p k) default).Next)) rfl fl73_1 rfl p23 (fun w' hw=>(Af.ext hw (by simp)).cell rfl) ?_
 refine WQ.y (.bool (decide (((p.Follows.getD (cnt p k) default).Next) < 1))) rfl (fun w' hw=>V.cmp rfl rfl rfl rfl) ?_
 refine WQ.k (a:=false) rfl rfl ?_
 refine WQ.vbp (c:=((p.Follows.getD (cnt p k) default).Next) < 1) (Sure.none rfl) rfl (fun w' hw=>V.move rfl rfl) (fun Bo=>?_) (fun Bo=>?_)
 ·refine WQ.skips [(46,some true)] [(59,some true)] (kc (some true) rfl kn) (by kernel_rfl) (fun Dj hK133 Db Ch hq136=>?_)
  have Bp:Ext [Ab,Aa] w Ch:=Aj.trans (Ext.any (Y:=[Ab,Aa]) hq136)
  refine WP.cond_true (hK133 59 (some true) rfl) ?_
  refine WP.sr ?_
  refine WL.m rfl ?_
  refine WL.nil ?_
  refine WP.ret ?_
  refine resOf.c1 rfl (v:=.bool (false)) rfl ?_
  exact ⟨(bool_eq (by first | exact (followsB_end (by omega) (by assumption) (by omega)).symm | exact (followsB_short (k:=k) (by omega) (by omega) (by omega)).symm | exact (followsB_bad (j:=cnt p k) (by omega) (fOkAt_go (by omega) (by omega) (by first | assumption | grind [fOk,ieq]))).symm)),((Bp).done (geCons Ae (geCons Ac geNil)))⟩
 refine WQ.fy (.int .u64 ((p.Follows.getD (cnt p k) default).Next)) rfl fl73_1 rfl p23 (fun w' hw=>(Af.ext hw (by simp)).cell rfl) ?_
 refine WQ.my rfl rfl ?_
 refine WQ.y (.int .u64 (last + 1)) rfl (fun w' hw=>V.arith (x:=.tmp 49) rfl Ap rfl rfl (wrap_u64 (by omega) (by omega))) ?_
 refine WQ.y (.bool (decide (((p.Follows.getD (cnt p k) default).Next) > (last + 1)))) rfl (fun w' hw=>V.cmp rfl rfl rfl rfl) ?_
 refine WQ.k (a:=false) rfl rfl ?_
 refine WQ.vbp (c:=((p.Follows.getD (cnt p k) default).Next) > (last + 1)) (Sure.none rfl) rfl (fun w' hw=>V.move rfl rfl) (fun Bq=>?_) (fun Bq=>?_)
 ·refine WQ.skips [(53,some true)] [(59,some true)] (kc (some true) rfl kn) (by kernel_rfl) (fun Dk hK145 Dc Ci hq148=>?_)
  have Br:Ext [Ab,Aa] w Ci:=Aj.trans (Ext.any (Y:=[Ab,Aa]) hq148)
  refine WP.cond_true (hK145 59 (some true) rfl) ?_
  refine WP.sr ?_
  refine WL.m rfl ?_
  refine WL.nil ?_
  refine WP.ret ?_
  refine resOf.c1 rfl (v:=.bool (false)) rfl ?_
  exact ⟨(bool_eq (by first | exact (followsB_end (by omega) (by assumption) (by omega)).symm | exact (followsB_short (k:=k) (by omega) (by omega) (by omega)).symm | exact (followsB_bad (j:=cnt p k) (by omega) (fOkAt_go (by omega) (by omega) (by first | assumption | grind [fOk,ieq]))).symm)),((Br).done (geCons Ae (geCons Ac geNil)))⟩
 refine WQ.fy (.int .u64 ((p.Follows.getD (cnt p k) default).Match)) rfl fl73_2 rfl p23 (fun w' hw=>(Af.ext hw (by simp)).cell rfl) ?_
 refine WQ.fy (.int .u64 ((p.Follows.getD (cnt p k) default).Next)) rfl fl73_1 rfl p23 (fun w' hw=>(Af.ext hw (by simp)).cell rfl) ?_
 refine WQ.y (.bool (decide (((p.Follows.getD (cnt p k) default).Match) ≥ ((p.Follows.getD (cnt p k) default).Next)))) rfl (fun w' hw=>V.cmp rfl rfl rfl rfl) ?_
 refine WQ.k (a:=false) rfl rfl ?_
 refine WQ.nil (fun Bb hq156=>?_)
 have Bs:Ext [Ab,Aa] w Bb:=Aj.trans (Ext.any (Y:=[Ab,Aa]) hq156)
 have Bt:Ext [Ab,Aa] An Bb:=Bi.trans (Ext.any (Y:=[Ab,Aa]) hq156)
 have Bu:=A5.ext hq156 (by simp)
 refine WP.condp (t:=((p.Follows.getD (cnt p k) default).Match) ≥ ((p.Follows.getD (cnt p k) default).Next)) rfl (fun Bv=>?_) (fun Bv=>?_)
 ·refine WP.sr ?_
  refine WL.m rfl ?_
  refine WL.nil ?_
  refine WP.ret ?_
  refine resOf.c1 rfl (v:=.bool (false)) rfl ?_
  exact ⟨(bool_eq (by first | exact (followsB_end (by omega) (by assumption) (by omega)).symm | exact (followsB_short (k:=k) (by omega) (by omega) (by omega)).symm | exact (followsB_bad (j:=cnt p k) (by omega) (fOkAt_go (by omega) (by omega) (by first | assumption | grind [fOk,ieq]))).symm)),((Bs).done (geCons Ae (geCons Ac geNil)))⟩
 refine WP.skip ?_
 refine WP.region ?_
 refine WL.m rfl ?_
 refine WL.z (.int .i64 ((cnt p k:Int) + 1)) (V.arith (x:=.tmp 60) rfl Ag rfl rfl (wrap_i64 (by omega) (by omega))) ?_
 refine WL.m rfl ?_
 refine WL.nil ?_
 refine WP.region ?_
 refine WL.m rfl ?_
 refine WL.z (.int .i64 ((k:Int) + 1)) (V.arith (x:=.tmp 13) rfl Ah rfl rfl (wrap_i64 (by omega) (by omega))) ?_
 refine WL.m rfl ?_
 refine WL.nil ?_
 exact ⟨k + 1,⟨Az,Ap,Ad,(int_eq (by first | (rw [cnt_skip (by omega) (by omega)]; done) | (rw [cnt_go (by omega) (by omega)]; omega))),(int_eq (by omega)),(Ext.drop Bt Am),Bu,(by omega),(by first | (rw [cnt_skip (by omega) (by omega)]; omega) | (rw [cnt_go (by omega) (by omega)]; omega)),(by first | (rw [cnt_skip (by omega) (by omega)]; assumption) | exact upto_succ (by assumption) (cnt_go (by omega) (by omega)) (fOkAt_go (by omega) (by omega) (by first | assumption | grind [fOk,ieq])))⟩,(by omega)⟩
theorem ref_SameReads {w:World} {X:List Nat} {v_xs:Value} {xs:List ReadD} (h_xs:Sl readR X w v_xs xs) {v_ys:Value} {ys:List ReadD} (h_ys:Sl readR X w v_ys ys):Fnc Try.prog 37 #[v_xs,v_ys] w (fun v w'=>v = .bool (eqB sameReadB xs ys) ∧ Ext [] w w'):=by
 have hle_xs:=h_xs.le'
 refine Fnc.of_WP (n:=55) Try.func37 rfl Try.ntmps37 (by simp) ?_
 intro E hE
 have h0:E 0 = v_xs:=hE 0 (by simp)
 have h1:E 1 = v_ys:=hE 1 (by simp)
 clear hE
 refine WP.sr ?_
 refine WL.m rfl ?_
 refine WL.nil ?_
 refine WP.seq ?_
 refine WP.sr ?_
 refine WL.m rfl ?_
 obtain ⟨a1,c2,Ao⟩:=h_xs.shape
 refine WL.z (.int .i64 (((xs).length:Int))) (V.lenSlice (x:=.tmp 6) rfl rfl u27 (Eq.trans (b:=v_xs) h0 Ao)) ?_
 refine WL.m rfl ?_
 obtain ⟨a4,c5,A7⟩:=h_ys.shape
 refine WL.z (.int .i64 (((ys).length:Int))) (V.lenSlice (x:=.tmp 8) rfl rfl u27 (Eq.trans (b:=v_ys) h1 A7)) ?_
 refine WL.z (.bool (decide (((xs).length:Int) ≠ ((ys).length:Int)))) (V.cmp rfl rfl rfl rfl) ?_
 refine WL.nil ?_
 refine WP.condp (t:=((xs).length:Int) ≠ ((ys).length:Int)) rfl (fun A8=>?_) (fun A8=>?_)
 ·refine WP.sr ?_
  refine WL.m rfl ?_
  refine WL.nil ?_
  refine WP.ret ?_
  refine resOf.c1 rfl (v:=.bool (false)) rfl ?_
  exact ⟨(bool_eq (by first | (exact (eqB_len (by omega)).symm) | (exact (eqB_true (by omega) (by assumption) (by omega)).symm) | (exact (eqB_false (by omega) (by omega) (by first | assumption | grind [sameReadB])).symm))),Ext.refl _ _⟩
 refine WP.skip ?_
 refine WP.seq ?_
 refine WP.sr ?_
 refine WL.m rfl ?_
 refine WL.nil ?_
 refine WP.block ?_
 refine WP.loop (σ:=Nat) (fun k E8 w9=>E8 0 = v_xs ∧ E8 1 = v_ys ∧ E8 5 = .int .i64 ((k:Int)) ∧ E8 10 = .bool (decide (((xs).length:Int) ≠ ((ys).length:Int))) ∧ Ext [] w w9 ∧ k ≤ xs.length ∧ ∀ j,j < k → (fun i=>sameReadB (xs.getD i default) (ys.getD i default)) j = true) (fun k=>xs.length - k) (0) ?_ ?_
 ·exact ⟨h0,h1,(int_eq (by omega)),rfl,(Ext.refl _ _),(by omega),(all_zero _)⟩
 rintro k E8 w9 ⟨Ab,Ad,Aa,Am,Ap,A9,Ba⟩
 have Ac:Ext [] w w9:=Ap
 refine WP.seq ?_
 refine WP.sr ?_
 refine WL.m rfl ?_
 refine WL.m rfl ?_
 refine WL.z (.int .i64 (((xs).length:Int))) (V.lenSlice (x:=.tmp 12) rfl rfl u27 (Eq.trans (b:=v_xs) Ab Ao)) ?_
 refine WL.z (.bool (decide ((k:Int) < ((xs).length:Int)))) (V.cmp (x:=.tmp 11) rfl Aa rfl rfl) ?_
 refine WL.nil ?_
 refine WP.condp (t:=(k:Int) < ((xs).length:Int)) rfl (fun Aq=>?_) (fun Aq=>?_)
 rotate_left
 ·refine WP.exit ?_
  refine WP.sr ?_
  refine WL.m rfl ?_
  refine WL.nil ?_
  refine WP.ret ?_
  refine resOf.c1 rfl (v:=.bool (true)) rfl ?_
  exact ⟨(bool_eq (by first | (exact (eqB_len (by omega)).symm) | (exact (eqB_true (by omega) (by assumption) (by omega)).symm) | (exact (eqB_false (by omega) (by omega) (by first | assumption | grind [sameReadB])).symm))),Ac⟩
 refine WP.skip ?_
 refine WP.seq ?_
 refine WP.block ?_
 refine WP.seq ?_
 refine WP.quiet mo (by kernel_rfl) ?_
 refine WQ.m rfl ?_
 refine WQ.m rfl ?_
 have hlt21:k < (xs).length:=by first | omega | (simp at *; omega)
 obtain ⟨Ae,Af,c15,Bk,Ak,hnb18,Ar,Ai⟩:=(h_xs.ext (Ext.pre Ac)).get (i:=k) (x:=(xs.getD k default)) (getD_some hlt21 _)
 obtain ⟨Bb,rfl,As,Au⟩:=Ar
 obtain ⟨Bg,Bh⟩:=(show ReadD.InR (xs.getD k default) from Au)
 refine WQ.z (.pointer (some ⟨Ae,Af + k * 3,none⟩)) (fun w' hw=>V.indexAddr (x:=.tmp 17) (i:=.tmp 18) (m:=k) (j:=(k:Int)) rfl u27 s53 (Eq.trans (b:=v_xs) Ab Ak) Aa rfl hlt21) ?_
 refine WQ.z (.pointer (some ⟨Ae,Af + k * 3 + 0,none⟩)) (fun w' hw=>V.fieldAddr rfl fl53_0 rfl) ?_
 refine WQ.z (.int .u64 ((xs.getD k default).Round)) (fun w' hw=>V.load rfl p23 rfl ((Ai.ext hw (by simp)).cell (j:=0) rfl)) ?_
 refine WQ.m rfl ?_
 refine WQ.m rfl ?_
 have hlt36:k < (ys).length:=by first | omega | (simp at *; omega)
 obtain ⟨Ag,Ah,c30,Bl,Al,hnb33,Av,Aj⟩:=(h_ys.ext (Ext.pre Ac)).get (i:=k) (x:=(ys.getD k default)) (getD_some hlt36 _)
 obtain ⟨Bc,rfl,Aw,Ax⟩:=Av
 obtain ⟨Bi,Bj⟩:=(show ReadD.InR (ys.getD k default) from Ax)
 refine WQ.z (.pointer (some ⟨Ag,Ah + k * 3,none⟩)) (fun w' hw=>V.indexAddr (x:=.tmp 22) (i:=.tmp 23) (m:=k) (j:=(k:Int)) rfl u27 s53 (Eq.trans (b:=v_ys) Ad Al) Aa rfl hlt36) ?_
 refine WQ.z (.pointer (some ⟨Ag,Ah + k * 3 + 0,none⟩)) (fun w' hw=>V.fieldAddr rfl fl53_0 rfl) ?_
 refine WQ.z (.int .u64 ((ys.getD k default).Round)) (fun w' hw=>V.load rfl p23 rfl ((Aj.ext hw (by simp)).cell (j:=0) rfl)) ?_
 refine WQ.z (.bool (decide (((xs.getD k default).Round) ≠ ((ys.getD k default).Round)))) (fun w' hw=>V.cmp rfl rfl rfl rfl) ?_
 refine WQ.vbp (c:=((xs.getD k default).Round) ≠ ((ys.getD k default).Round)) (Sure.none rfl) rfl (fun w' hw=>V.move rfl rfl) (fun Ay=>?_) (fun Ay=>?_)
 ·refine WQ.skips [(28,some true)] [(54,some true)] (kc (some true) rfl kn) (by kernel_rfl) (fun Bo hK45 Bm Bd hq48=>?_)
  have Az:Ext [] w Bd:=Ac.trans hq48
  refine WP.cond_true (hK45 54 (some true) rfl) ?_
  refine WP.sr ?_
  refine WL.m rfl ?_
  refine WL.nil ?_
  refine WP.ret ?_
  refine resOf.c1 rfl (v:=.bool (false)) rfl ?_
  exact ⟨(bool_eq (by first | (exact (eqB_len (by omega)).symm) | (exact (eqB_true (by omega) (by assumption) (by omega)).symm) | (exact (eqB_false (by omega) (by omega) (by first | assumption | grind [sameReadB])).symm))),Az⟩
 refine WQ.my rfl rfl ?_
 refine WQ.my rfl rfl ?_
 refine WQ.y (.pointer (some ⟨Ae,Af + k * 3,none⟩)) rfl (fun w' hw=>V.indexAddr (x:=.tmp 29) (i:=.tmp 30) (m:=k) (j:=(k:Int)) rfl u27 s53 (Eq.trans (b:=v_xs) Ab Ak) Aa rfl hlt21) ?_
 refine WQ.y (.pointer (some ⟨Ae,Af + k * 3 + 1,none⟩)) rfl (fun w' hw=>V.fieldAddr rfl fl53_1 rfl) ?_
 refine WQ.y (.int .u64 ((xs.getD k default).Index)) rfl (fun w' hw=>V.load rfl p23 rfl ((Ai.ext hw (by simp)).cell (j:=1) rfl)) ?_
 refine WQ.my rfl rfl ?_
 refine WQ.my rfl rfl ?_
 refine WQ.y (.pointer (some ⟨Ag,Ah + k * 3,none⟩)) rfl (fun w' hw=>V.indexAddr (x:=.tmp 34) (i:=.tmp 35) (m:=k) (j:=(k:Int)) rfl u27 s53 (Eq.trans (b:=v_ys) Ad Al) Aa rfl hlt36) ?_
 refine WQ.y (.pointer (some ⟨Ag,Ah + k * 3 + 1,none⟩)) rfl (fun w' hw=>V.fieldAddr rfl fl53_1 rfl) ?_
 refine WQ.y (.int .u64 ((ys.getD k default).Index)) rfl (fun w' hw=>V.load rfl p23 rfl ((Aj.ext hw (by simp)).cell (j:=1) rfl)) ?_
 refine WQ.y (.bool (decide (((xs.getD k default).Index) ≠ ((ys.getD k default).Index)))) rfl (fun w' hw=>V.cmp rfl rfl rfl rfl) ?_
 refine WQ.k (a:=false) rfl rfl ?_
 refine WQ.vbp (c:=((xs.getD k default).Index) ≠ ((ys.getD k default).Index)) (Sure.none rfl) rfl (fun w' hw=>V.move rfl rfl) (fun A4=>?_) (fun A4=>?_)
 ·refine WQ.skips [(41,some true)] [(54,some true)] (kc (some true) rfl kn) (by kernel_rfl) (fun Bp hK53 Bn Be hq56=>?_)
  have A5:Ext [] w Be:=Ac.trans hq56
  refine WP.cond_true (hK53 54 (some true) rfl) ?_
  refine WP.sr ?_
  refine WL.m rfl ?_
  refine WL.nil ?_
  refine WP.ret ?_
  refine resOf.c1 rfl (v:=.bool (false)) rfl ?_
  exact ⟨(bool_eq (by first | (exact (eqB_len (by omega)).symm) | (exact (eqB_true (by omega) (by assumption) (by omega)).symm) | (exact (eqB_false (by omega) (by omega) (by first | assumption | grind [sameReadB])).symm))),A5⟩
 refine WQ.my rfl rfl ?_
 refine WQ.my rfl rfl ?_
 refine WQ.y (.pointer (some ⟨Ae,Af + k * 3,none⟩)) rfl (fun w' hw=>V.indexAddr (x:=.tmp 42) (i:=.tmp 43) (m:=k) (j:=(k:Int)) rfl u27 s53 (Eq.trans (b:=v_xs) Ab Ak) Aa rfl hlt21) ?_
 refine WQ.y (.pointer (some ⟨Ae,Af + k * 3 + 2,none⟩)) rfl (fun w' hw=>V.fieldAddr rfl fl53_2 rfl) ?_
 refine WQ.y (Bb) rfl (fun w' hw=>V.load rfl p22 rfl ((Ai.ext hw (by simp)).cell (j:=2) rfl)) ?_
 refine WQ.my rfl rfl ?_
 refine WQ.my rfl rfl ?_
 refine WQ.y (.pointer (some ⟨Ag,Ah + k * 3,none⟩)) rfl (fun w' hw=>V.indexAddr (x:=.tmp 47) (i:=.tmp 48) (m:=k) (j:=(k:Int)) rfl u27 s53 (Eq.trans (b:=v_ys) Ad Al) Aa rfl hlt36) ?_
 refine WQ.y (.pointer (some ⟨Ag,Ah + k * 3 + 2,none⟩)) rfl (fun w' hw=>V.fieldAddr rfl fl53_2 rfl) ?_
 refine WQ.y (Bc) rfl (fun w' hw=>V.load rfl p22 rfl ((Aj.ext hw (by simp)).cell (j:=2) rfl)) ?_
 refine WQ.c (u:=.bool (eqB ieq ((xs.getD k default).Acks) ((ys.getD k default).Acks))) (Sure.yes rfl rfl rfl) rfl (fun w' hw=>C.call2 rfl cl38 rfl rfl) (fun w' hw=>(ref_sameInts (As.ext (Ext.any hw)) (Aw.ext (Ext.any hw)))) ?_
 refine WQ.y (.bool (!(eqB ieq ((xs.getD k default).Acks) ((ys.getD k default).Acks)))) rfl (fun w' hw=>V.not rfl rfl) ?_
 refine WQ.k (a:=false) rfl rfl ?_
 refine WQ.nil (fun Bf hq60=>?_)
 have An:Ext [] w Bf:=Ac.trans hq60
 refine WP.condn (t:=eqB ieq ((xs.getD k default).Acks) ((ys.getD k default).Acks)) rfl (fun A6=>?_) (fun A6=>?_)
 ·refine WP.sr ?_
  refine WL.m rfl ?_
  refine WL.nil ?_
  refine WP.ret ?_
  refine resOf.c1 rfl (v:=.bool (false)) rfl ?_
  exact ⟨(bool_eq (by first | (exact (eqB_len (by omega)).symm) | (exact (eqB_true (by omega) (by assumption) (by omega)).symm) | (exact (eqB_false (by omega) (by omega) (by first | assumption | grind [sameReadB])).symm))),An⟩
 refine WP.skip ?_
 refine WP.region ?_
 refine WL.m rfl ?_
 refine WL.z (.int .i64 ((k:Int) + 1)) (V.arith (x:=.tmp 15) rfl Aa rfl rfl (wrap_i64 (by omega) (by omega))) ?_
 refine WL.m rfl ?_
 refine WL.nil ?_
 exact ⟨k + 1,⟨Ab,Ad,(int_eq (by omega)),Am,An,(by omega),(all_step (by assumption) (by first | assumption | grind [sameReadB]))⟩,(by omega)⟩
theorem ref_SameEntries {w:World} {X:List Nat} {v_xs:Value} {xs:List EntryD} (h_xs:Sl entryR X w v_xs xs) {v_ys:Value} {ys:List EntryD} (h_ys:Sl entryR X w v_ys ys):Fnc Try.prog 33 #[v_xs,v_ys] w (fun v w'=>v = .bool (eqB sameEntB xs ys) ∧ Ext [] w w'):=by
 have hle_xs:=h_xs.le'
 refine Fnc.of_WP (n:=68) Try.func33 rfl Try.ntmps33 (by simp) ?_
 intro E hE
 have h0:E 0 = v_xs:=hE 0 (by simp)
 have h1:E 1 = v_ys:=hE 1 (by simp)
 clear hE
 refine WP.sr ?_
 refine WL.m rfl ?_
 refine WL.nil ?_
 refine WP.seq ?_
 refine WP.sr ?_
 refine WL.m rfl ?_
 obtain ⟨a1,c2,Ao⟩:=h_xs.shape
 refine WL.z (.int .i64 (((xs).length:Int))) (V.lenSlice (x:=.tmp 6) rfl rfl u25 (Eq.trans (b:=v_xs) h0 Ao)) ?_
 refine WL.m rfl ?_
 obtain ⟨a4,c5,A9⟩:=h_ys.shape
 refine WL.z (.int .i64 (((ys).length:Int))) (V.lenSlice (x:=.tmp 8) rfl rfl u25 (Eq.trans (b:=v_ys) h1 A9)) ?_
 refine WL.z (.bool (decide (((xs).length:Int) ≠ ((ys).length:Int)))) (V.cmp rfl rfl rfl rfl) ?_
 refine WL.nil ?_
 refine WP.condp (t:=((xs).length:Int) ≠ ((ys).length:Int)) rfl (fun Ba=>?_) (fun Ba=>?_)
 ·refine WP.sr ?_
  refine WL.m rfl ?_
  refine WL.nil ?_
  refine WP.ret ?_
  refine resOf.c1 rfl (v:=.bool (false)) rfl ?_
  exact ⟨(bool_eq (by first | (exact (eqB_len (by omega)).symm) | (exact (eqB_true (by omega) (by assumption) (by omega)).symm) | (exact (eqB_false (by omega) (by omega) (by first | assumption | grind [sameEntB])).symm))),Ext.refl _ _⟩
 refine WP.skip ?_
 refine WP.seq ?_
 refine WP.sr ?_
 refine WL.m rfl ?_
 refine WL.nil ?_
 refine WP.block ?_
 refine WP.loop (σ:=Nat) (fun k E8 w9=>E8 0 = v_xs ∧ E8 1 = v_ys ∧ E8 5 = .int .i64 ((k:Int)) ∧ E8 10 = .bool (decide (((xs).length:Int) ≠ ((ys).length:Int))) ∧ Ext [] w w9 ∧ k ≤ xs.length ∧ ∀ j,j < k → (fun i=>sameEntB (xs.getD i default) (ys.getD i default)) j = true) (fun k=>xs.length - k) (0) ?_ ?_
 ·exact ⟨h0,h1,(int_eq (by omega)),rfl,(Ext.refl _ _),(by omega),(all_zero _)⟩
 rintro k E8 w9 ⟨Ab,Ad,Aa,Am,Ap,Bb,Bc⟩
 have Ac:Ext [] w w9:=Ap
 refine WP.seq ?_
 refine WP.sr ?_
 refine WL.m rfl ?_
 refine WL.m rfl ?_
 refine WL.z (.int .i64 (((xs).length:Int))) (V.lenSlice (x:=.tmp 12) rfl rfl u25 (Eq.trans (b:=v_xs) Ab Ao)) ?_
 refine WL.z (.bool (decide ((k:Int) < ((xs).length:Int)))) (V.cmp (x:=.tmp 11) rfl Aa rfl rfl) ?_
 refine WL.nil ?_
 refine WP.condp (t:=(k:Int) < ((xs).length:Int)) rfl (fun Aq=>?_) (fun Aq=>?_)
 rotate_left
 ·refine WP.exit ?_
  refine WP.sr ?_
  refine WL.m rfl ?_
  refine WL.nil ?_
  refine WP.ret ?_
  refine resOf.c1 rfl (v:=.bool (true)) rfl ?_
  exact ⟨(bool_eq (by first | (exact (eqB_len (by omega)).symm) | (exact (eqB_true (by omega) (by assumption) (by omega)).symm) | (exact (eqB_false (by omega) (by omega) (by first | assumption | grind [sameEntB])).symm))),Ac⟩
 refine WP.skip ?_
 refine WP.seq ?_
 refine WP.block ?_
 refine WP.seq ?_
 refine WP.quiet mo (by kernel_rfl) ?_
 refine WQ.m rfl ?_
 refine WQ.m rfl ?_
 have hlt21:k < (xs).length:=by first | omega | (simp at *; omega)
 obtain ⟨Ae,Af,c15,Bp,Ak,hnb18,Ar,Ai⟩:=(h_xs.ext (Ext.pre Ac)).get (i:=k) (x:=(xs.getD k default)) (getD_some hlt21 _)
 obtain ⟨Bd,rfl,As,Au⟩:=Ar
 obtain ⟨Bj,Bk,Bl⟩:=(show EntryD.InR (xs.getD k default) from Au)
 refine WQ.z (.pointer (some ⟨Ae,Af + k * 4,none⟩)) (fun w' hw=>V.indexAddr (x:=.tmp 17) (i:=.tmp 18) (m:=k) (j:=(k:Int)) rfl u25 s48 (Eq.trans (b:=v_xs) Ab Ak) Aa rfl hlt21) ?_
 refine WQ.z (.pointer (some ⟨Ae,Af + k * 4 + 0,none⟩)) (fun w' hw=>V.fieldAddr rfl fl48_0 rfl) ?_
 refine WQ.z (.int .u64 ((xs.getD k default).Term)) (fun w' hw=>V.load rfl p23 rfl ((Ai.ext hw (by simp)).cell (j:=0) rfl)) ?_
 refine WQ.m rfl ?_
 refine WQ.m rfl ?_
 have hlt37:k < (ys).length:=by first | omega | (simp at *; omega)
 obtain ⟨Ag,Ah,c31,Bq,Al,hnb34,Av,Aj⟩:=(h_ys.ext (Ext.pre Ac)).get (i:=k) (x:=(ys.getD k default)) (getD_some hlt37 _)
 obtain ⟨Be,rfl,Aw,Ax⟩:=Av
 obtain ⟨Bm,Bn,Bo⟩:=(show EntryD.InR (ys.getD k default) from Ax)
 refine WQ.z (.pointer (some ⟨Ag,Ah + k * 4,none⟩)) (fun w' hw=>V.indexAddr (x:=.tmp 22) (i:=.tmp 23) (m:=k) (j:=(k:Int)) rfl u25 s48 (Eq.trans (b:=v_ys) Ad Al) Aa rfl hlt37) ?_
 refine WQ.z (.pointer (some ⟨Ag,Ah + k * 4 + 0,none⟩)) (fun w' hw=>V.fieldAddr rfl fl48_0 rfl) ?_
 refine WQ.z (.int .u64 ((ys.getD k default).Term)) (fun w' hw=>V.load rfl p23 rfl ((Aj.ext hw (by simp)).cell (j:=0) rfl)) ?_
 refine WQ.z (.bool (decide (((xs.getD k default).Term) ≠ ((ys.getD k default).Term)))) (fun w' hw=>V.cmp rfl rfl rfl rfl) ?_
 refine WQ.vbp (c:=((xs.getD k default).Term) ≠ ((ys.getD k default).Term)) (Sure.none rfl) rfl (fun w' hw=>V.move rfl rfl) (fun Ay=>?_) (fun Ay=>?_)
 ·refine WQ.skips [(28,some true)] [(67,some true)] (kc (some true) rfl kn) (by kernel_rfl) (fun Bu hK47 Br Bf hq50=>?_)
  have Az:Ext [] w Bf:=Ac.trans hq50
  refine WP.cond_true (hK47 67 (some true) rfl) ?_
  refine WP.sr ?_
  refine WL.m rfl ?_
  refine WL.nil ?_
  refine WP.ret ?_
  refine resOf.c1 rfl (v:=.bool (false)) rfl ?_
  exact ⟨(bool_eq (by first | (exact (eqB_len (by omega)).symm) | (exact (eqB_true (by omega) (by assumption) (by omega)).symm) | (exact (eqB_false (by omega) (by omega) (by first | assumption | grind [sameEntB])).symm))),Az⟩
 refine WQ.my rfl rfl ?_
 refine WQ.my rfl rfl ?_
 refine WQ.y (.pointer (some ⟨Ae,Af + k * 4,none⟩)) rfl (fun w' hw=>V.indexAddr (x:=.tmp 29) (i:=.tmp 30) (m:=k) (j:=(k:Int)) rfl u25 s48 (Eq.trans (b:=v_xs) Ab Ak) Aa rfl hlt21) ?_
 refine WQ.y (.pointer (some ⟨Ae,Af + k * 4 + 1,none⟩)) rfl (fun w' hw=>V.fieldAddr rfl fl48_1 rfl) ?_
 refine WQ.y (.int .u8 ((xs.getD k default).Kind)) rfl (fun w' hw=>V.load rfl p46 rfl ((Ai.ext hw (by simp)).cell (j:=1) rfl)) ?_
 refine WQ.my rfl rfl ?_
 refine WQ.my rfl rfl ?_
 refine WQ.y (.pointer (some ⟨Ag,Ah + k * 4,none⟩)) rfl (fun w' hw=>V.indexAddr (x:=.tmp 34) (i:=.tmp 35) (m:=k) (j:=(k:Int)) rfl u25 s48 (Eq.trans (b:=v_ys) Ad Al) Aa rfl hlt37) ?_
 refine WQ.y (.pointer (some ⟨Ag,Ah + k * 4 + 1,none⟩)) rfl (fun w' hw=>V.fieldAddr rfl fl48_1 rfl) ?_
 refine WQ.y (.int .u8 ((ys.getD k default).Kind)) rfl (fun w' hw=>V.load rfl p46 rfl ((Aj.ext hw (by simp)).cell (j:=1) rfl)) ?_
 refine WQ.y (.bool (decide (((xs.getD k default).Kind) ≠ ((ys.getD k default).Kind)))) rfl (fun w' hw=>V.cmp rfl rfl rfl rfl) ?_
 refine WQ.k (a:=false) rfl rfl ?_
 refine WQ.vbp (c:=((xs.getD k default).Kind) ≠ ((ys.getD k default).Kind)) (Sure.none rfl) rfl (fun w' hw=>V.move rfl rfl) (fun A4=>?_) (fun A4=>?_)
 ·refine WQ.skips [(41,some true)] [(67,some true)] (kc (some true) rfl kn) (by kernel_rfl) (fun Bv hK55 Bs Bg hq58=>?_)
  have A5:Ext [] w Bg:=Ac.trans hq58
  refine WP.cond_true (hK55 67 (some true) rfl) ?_
  refine WP.sr ?_
  refine WL.m rfl ?_
  refine WL.nil ?_
  refine WP.ret ?_
  refine resOf.c1 rfl (v:=.bool (false)) rfl ?_
  exact ⟨(bool_eq (by first | (exact (eqB_len (by omega)).symm) | (exact (eqB_true (by omega) (by assumption) (by omega)).symm) | (exact (eqB_false (by omega) (by omega) (by first | assumption | grind [sameEntB])).symm))),A5⟩
 refine WQ.my rfl rfl ?_
 refine WQ.my rfl rfl ?_
 refine WQ.y (.pointer (some ⟨Ae,Af + k * 4,none⟩)) rfl (fun w' hw=>V.indexAddr (x:=.tmp 42) (i:=.tmp 43) (m:=k) (j:=(k:Int)) rfl u25 s48 (Eq.trans (b:=v_xs) Ab Ak) Aa rfl hlt21) ?_
 refine WQ.y (.pointer (some ⟨Ae,Af + k * 4 + 2,none⟩)) rfl (fun w' hw=>V.fieldAddr rfl fl48_2 rfl) ?_
 refine WQ.y (.string ((xs.getD k default).Data)) rfl (fun w' hw=>V.load rfl p9 rfl ((Ai.ext hw (by simp)).cell (j:=2) rfl)) ?_
 refine WQ.my rfl rfl ?_
 refine WQ.my rfl rfl ?_
 refine WQ.y (.pointer (some ⟨Ag,Ah + k * 4,none⟩)) rfl (fun w' hw=>V.indexAddr (x:=.tmp 47) (i:=.tmp 48) (m:=k) (j:=(k:Int)) rfl u25 s48 (Eq.trans (b:=v_ys) Ad Al) Aa rfl hlt37) ?_
 refine WQ.y (.pointer (some ⟨Ag,Ah + k * 4 + 2,none⟩)) rfl (fun w' hw=>V.fieldAddr rfl fl48_2 rfl) ?_
 refine WQ.y (.string ((ys.getD k default).Data)) rfl (fun w' hw=>V.load rfl p9 rfl ((Aj.ext hw (by simp)).cell (j:=2) rfl)) ?_
 refine WQ.y (.bool (!(seqB ((xs.getD k default).Data) ((ys.getD k default).Data)))) rfl (fun w' hw=>V.scmp rfl rfl rfl rfl) ?_
 refine WQ.k (a:=false) rfl rfl ?_
 refine WQ.vbn (c:=seqB ((xs.getD k default).Data) ((ys.getD k default).Data)) (Sure.none rfl) rfl (fun w' hw=>V.move rfl rfl) (fun A6=>?_) (fun A6=>?_)
 ·refine WQ.skips [(54,some true)] [(67,some true)] (kc (some true) rfl kn) (by kernel_rfl) (fun Bw hK63 Bt Bh hq66=>?_)
  have A7:Ext [] w Bh:=Ac.trans hq66
  refine WP.cond_true (hK63 67 (some true) rfl) ?_
  refine WP.sr ?_
  refine WL.m rfl ?_
  refine WL.nil ?_
  refine WP.ret ?_
  refine resOf.c1 rfl (v:=.bool (false)) rfl ?_
  exact ⟨(bool_eq (by first | (exact (eqB_len (by omega)).symm) | (exact (eqB_true (by omega) (by assumption) (by omega)).symm) | (exact (eqB_false (by omega) (by omega) (by first | assumption | grind [sameEntB])).symm))),A7⟩
 refine WQ.my rfl rfl ?_
 refine WQ.my rfl rfl ?_
 refine WQ.y (.pointer (some ⟨Ae,Af + k * 4,none⟩)) rfl (fun w' hw=>V.indexAddr (x:=.tmp 55) (i:=.tmp 56) (m:=k) (j:=(k:Int)) rfl u25 s48 (Eq.trans (b:=v_xs) Ab Ak) Aa rfl hlt21) ?_
 refine WQ.y (.pointer (some ⟨Ae,Af + k * 4 + 3,none⟩)) rfl (fun w' hw=>V.fieldAddr rfl fl48_3 rfl) ?_
 refine WQ.y (Bd) rfl (fun w' hw=>V.load rfl p22 rfl ((Ai.ext hw (by simp)).cell (j:=3) rfl)) ?_
 refine WQ.my rfl rfl ?_
 refine WQ.my rfl rfl ?_
 refine WQ.y (.pointer (some ⟨Ag,Ah + k * 4,none⟩)) rfl (fun w' hw=>V.indexAddr (x:=.tmp 60) (i:=.tmp 61) (m:=k) (j:=(k:Int)) rfl u25 s48 (Eq.trans (b:=v_ys) Ad Al) Aa rfl hlt37) ?_
 refine WQ.y (.pointer (some ⟨Ag,Ah + k * 4 + 3,none⟩)) rfl (fun w' hw=>V.fieldAddr rfl fl48_3 rfl) ?_
 refine WQ.y (Be) rfl (fun w' hw=>V.load rfl p22 rfl ((Aj.ext hw (by simp)).cell (j:=3) rfl)) ?_
 refine WQ.c (u:=.bool (eqB ieq ((xs.getD k default).Members) ((ys.getD k default).Members))) (Sure.yes rfl rfl rfl) rfl (fun w' hw=>C.call2 rfl cl38 rfl rfl) (fun w' hw=>(ref_sameInts (As.ext (Ext.any hw)) (Aw.ext (Ext.any hw)))) ?_
 refine WQ.y (.bool (!(eqB ieq ((xs.getD k default).Members) ((ys.getD k default).Members)))) rfl (fun w' hw=>V.not rfl rfl) ?_
 refine WQ.k (a:=false) rfl rfl ?_
 refine WQ.nil (fun Bi hq70=>?_)
 have An:Ext [] w Bi:=Ac.trans hq70
 refine WP.condn (t:=eqB ieq ((xs.getD k default).Members) ((ys.getD k default).Members)) rfl (fun A8=>?_) (fun A8=>?_)
 ·refine WP.sr ?_
  refine WL.m rfl ?_
  refine WL.nil ?_
  refine WP.ret ?_
  refine resOf.c1 rfl (v:=.bool (false)) rfl ?_
  exact ⟨(bool_eq (by first | (exact (eqB_len (by omega)).symm) | (exact (eqB_true (by omega) (by assumption) (by omega)).symm) | (exact (eqB_false (by omega) (by omega) (by first | assumption | grind [sameEntB])).symm))),An⟩
 refine WP.skip ?_
 refine WP.region ?_
 refine WL.m rfl ?_
 refine WL.z (.int .i64 ((k:Int) + 1)) (V.arith (x:=.tmp 15) rfl Aa rfl rfl (wrap_i64 (by omega) (by omega))) ?_
 refine WL.m rfl ?_
 refine WL.nil ?_
 exact ⟨k + 1,⟨Ab,Ad,(int_eq (by omega)),Am,An,(by omega),(all_step (by assumption) (by first | assumption | grind [sameEntB]))⟩,(by omega)⟩
end Go.Proofs.Ytiaicihpocoeiaa.T
namespace Go.Proofs.Ytiaicihpocoeiaa.T
open W Go.RowKit
set_option maxRecDepth 100000
set_option maxHeartbeats 400000
theorem ref_Same {w:World} {X:List Nat} {a:PeerD} {c_a:List Value} (h_a:peerR.rd X w c_a a) {b:PeerD} {c_b:List Value} (h_b:peerR.rd X w c_b b):Fnc Try.prog 10 #[.agg c_a.toArray,.agg c_b.toArray] w (fun v w'=>v = .bool (samePeerB a b) ∧ Ext [] w w'):=by
 obtain ⟨v1,v3,v5,v7,v9,Bb,rfl,D7,D8,D9,Fa,C4,C5,C6⟩:=h_a
 obtain ⟨Fh,Fi,Fj,Fk,Fl,Fm,Fo,Fp,Fq,Fs,Ft,Fu⟩:=(show PeerD.InR a from C6)
 obtain ⟨Bc,Bd,Be,Bf,As,Bg,rfl,C7,C8,C9,Da,Bp,Db,Dc⟩:=h_b
 obtain ⟨Fv,Fw,Fx,Fy,Fz,F0,F1,F2,F3,F4,F5,F6⟩:=(show PeerD.InR b from Dc)
 have F7:=Bp.le'
 refine Fnc.of_WP (n:=149) Try.func10 rfl Try.ntmps10 (by simp) ?_
 intro E hE
 have h0:E 0 = .agg (peerA a v1 v3 v5 v7 v9 Bb):=hE 0 (by simp)
 have h1:E 1 = .agg (peerA b Bc Bd Be Bf As Bg):=hE 1 (by simp)
 clear hE
 refine WP.sr ?_
 refine WL.box (x:=.tmp 0) (cs:=(peerC a v1 v3 v5 v7 v9 Bb)) (Sure.none rfl) rfl rfl h0 rfl (fun Ac G9 Ah Gr Bq=>?_)
 have Dd:=(Sl.new (b:=Ac) nz1 D7 (by omega)).ext (Ext.any Ah)
 have De:=(Sl.new (b:=Ac) nz1 D8 (by omega)).ext (Ext.any Ah)
 have Df:=(Sl.new (b:=Ac) nz4 D9 (by omega)).ext (Ext.any Ah)
 have Dg:=(Sl.new (b:=Ac) nz1 Fa (by omega)).ext (Ext.any Ah)
 have Dh:=(Sl.new (b:=Ac) nz3 C4 (by omega)).ext (Ext.any Ah)
 have Di:=(Sl.new (b:=Ac) nz3 C5 (by omega)).ext (Ext.any Ah)
 have Dj:=(Sl.new (b:=Ac) nz1 C7 (by omega)).ext (Ext.any Ah)
 have Dk:=(Sl.new (b:=Ac) nz1 C8 (by omega)).ext (Ext.any Ah)
 have Dl:=(Sl.new (b:=Ac) nz4 C9 (by omega)).ext (Ext.any Ah)
 have Dm:=(Sl.new (b:=Ac) nz1 Da (by omega)).ext (Ext.any Ah)
 have Dn:=(Sl.new (b:=Ac) nz3 Bp (by omega)).ext (Ext.any Ah)
 have Do:=(Sl.new (b:=Ac) nz3 Db (by omega)).ext (Ext.any Ah)
 have Br:Ext [Ac] _ _:=(Ext.refl _ _).trans (Ext.any Ah)
 have Aa:w.heap.size ≤ Ac:=by have:=Nat.le_refl w.heap.size; omega
 refine WL.box (x:=.tmp 1) (cs:=(peerC b Bc Bd Be Bf As Bg)) (Sure.none rfl) rfl rfl h1 rfl (fun Ad Bh Ag Gs Bi=>?_)
 have B3:Ac < Ad:=by have:=Bq.lt; omega
 have Bj:=Bq.ext Ag (by simp)
 have Dp:=(Sl.new (b:=Ad) nz1 Dd (by omega)).ext (Ext.any Ag)
 have Dq:=(Sl.new (b:=Ad) nz1 De (by omega)).ext (Ext.any Ag)
 have Dr:=(Sl.new (b:=Ad) nz4 Df (by omega)).ext (Ext.any Ag)
 have Ds:=(Sl.new (b:=Ad) nz1 Dg (by omega)).ext (Ext.any Ag)
 have Bs:=(Sl.new (b:=Ad) nz3 Dh (by omega)).ext (Ext.any Ag)
 have Dt:=(Sl.new (b:=Ad) nz3 Di (by omega)).ext (Ext.any Ag)
 have Du:=(Sl.new (b:=Ad) nz1 Dj (by omega)).ext (Ext.any Ag)
 have Dv:=(Sl.new (b:=Ad) nz1 Dk (by omega)).ext (Ext.any Ag)
 have Dw:=(Sl.new (b:=Ad) nz4 Dl (by omega)).ext (Ext.any Ag)
 have Dx:=(Sl.new (b:=Ad) nz1 Dm (by omega)).ext (Ext.any Ag)
 have Bt:=(Sl.new (b:=Ad) nz3 Dn (by omega)).ext (Ext.any Ag)
 have Dy:=(Sl.new (b:=Ad) nz3 Do (by omega)).ext (Ext.any Ag)
 have Bu:Ext [Ad,Ac] _ _:=(Ext.cons Br).trans (Ext.any Ag)
 have Ab:w.heap.size ≤ Ad:=by have:=Br.size; omega
 refine WL.m rfl ?_
 refine WL.nil ?_
 refine WP.seq ?_
 refine WP.sr ?_
 refine WL.f (v9) fl29_15 rfl p26 (Bj.cell rfl) ?_
 obtain ⟨a100,c101,Bk⟩:=Bs.shape
 refine WL.z (.int .i64 (((a.Follows).length:Int))) (V.lenSlice rfl rfl u26 (Eq.trans (b:=v9) rfl Bk)) ?_
 refine WL.f (As) fl29_15 rfl p26 (Bi.cell rfl) ?_
 obtain ⟨a103,c104,B4⟩:=Bt.shape
 refine WL.z (.int .i64 (((b.Follows).length:Int))) (V.lenSlice rfl rfl u26 (Eq.trans (b:=As) rfl B4)) ?_
 refine WL.z (.bool (decide (((a.Follows).length:Int) ≠ ((b.Follows).length:Int)))) (V.cmp rfl rfl rfl rfl) ?_
 refine WL.vbp (c:=((a.Follows).length:Int) ≠ ((b.Follows).length:Int)) (Sure.none rfl) rfl (V.move rfl rfl) (fun B5=>?_) (fun B5=>?_)
 ·refine WL.skips [(13,some true)] [(20,some true)] (kc (some true) rfl kn) (by kernel_rfl) (fun Gt hK108 F8=>?_)
  refine WP.cond_true (hK108 20 (some true) rfl) ?_
  refine WP.sr ?_
  refine WL.m rfl ?_
  refine WL.nil ?_
  refine WP.ret ?_
  refine resOf.c1 rfl (v:=.bool (false)) rfl ?_
  exact ⟨(bool_eq (by first | grind [samePeerB] | (have hfe:=eqB_true (f:=sameFolB) (xs:=a.Follows) (ys:=b.Follows) (by omega) (by assumption) (by omega); grind [samePeerB]) | (have hfe:=eqB_len (f:=sameFolB) (xs:=a.Follows) (ys:=b.Follows) (by omega); grind [samePeerB]) | (have hfe:=eqB_false (f:=sameFolB) (xs:=a.Follows) (ys:=b.Follows) (k:=k) (by omega) (by omega) (by assumption); grind [samePeerB]))),((Bu).done (geCons Ab (geCons Aa geNil)))⟩
 refine WL.fy (Bb) rfl fl29_17 rfl p27 (Bj.cell rfl) ?_
 refine WL.fy (Bg) rfl fl29_17 rfl p27 (Bi.cell rfl) ?_
 refine WL.c (Sure.yes rfl rfl rfl) rfl (C.call2 rfl cl37 rfl rfl) (Fnc.mono (ref_SameReads Dt Dy) ?_)
 rintro _ Ay ⟨rfl,Au⟩
 have Bl:Ext [Ad,Ac] w Ay:=Bu.trans (Ext.any (Y:=[Ad,Ac]) Au)
 have B6:Ext [Ad,Ac] Bh Ay:=(Ext.any (Y:=[Ad,Ac]) Au)
 have B7:=Bj.ext Au (by simp)
 have B8:=Bi.ext Au (by simp)
 refine WL.y (.bool (!(eqB sameReadB a.Reads b.Reads))) rfl (V.not rfl rfl) ?_
 refine WL.k (a:=false) rfl rfl ?_
 refine WL.nil ?_
 refine WP.condn (t:=eqB sameReadB a.Reads b.Reads) rfl (fun B9=>?_) (fun B9=>?_)
 ·refine WP.sr ?_
  refine WL.m rfl ?_
  refine WL.nil ?_
  refine WP.ret ?_
  refine resOf.c1 rfl (v:=.bool (false)) rfl ?_
  exact ⟨(bool_eq (by first | grind [samePeerB] | (have hfe:=eqB_true (f:=sameFolB) (xs:=a.Follows) (ys:=b.Follows) (by omega) (by assumption) (by omega); grind [samePeerB]) | (have hfe:=eqB_len (f:=sameFolB) (xs:=a.Follows) (ys:=b.Follows) (by omega); grind [samePeerB]) | (have hfe:=eqB_false (f:=sameFolB) (xs:=a.Follows) (ys:=b.Follows) (k:=k) (by omega) (by omega) (by assumption); grind [samePeerB]))),((Bl).done (geCons Ab (geCons Aa geNil)))⟩
 refine WP.skip ?_
 refine WP.seq ?_
 refine WP.sr ?_
 refine WL.m rfl ?_
 refine WL.nil ?_
 refine WP.block ?_
 refine WP.loop (σ:=Nat) (fun k Al Am=>Al 0 = .agg (peerA a v1 v3 v5 v7 v9 Bb) ∧ Al 1 = .agg (peerA b Bc Bd Be Bf As Bg) ∧ Al 2 = .pointer (some ⟨Ac,0,none⟩) ∧ Al 3 = .pointer (some ⟨Ad,0,none⟩) ∧ Al 5 = .int .i64 ((k:Int)) ∧ Al 20 = .bool (!(eqB sameReadB a.Reads b.Reads)) ∧ Ext [Ad,Ac] Ay Am ∧ Box Am Ac 29 (peerC a v1 v3 v5 v7 v9 Bb) ∧ Box Am Ad 29 (peerC b Bc Bd Be Bf As Bg) ∧ k ≤ a.Follows.length ∧ ∀ j,j < k → (fun i=>sameFolB (a.Follows.getD i default) (b.Follows.getD i default)) j = true) (fun k=>a.Follows.length - k) (0) ?_ ?_
 ·exact ⟨h0,h1,rfl,rfl,(int_eq (by omega)),rfl,(Ext.refl _ _),B7,B8,(by omega),(all_zero _)⟩
 rintro k Al Am ⟨Bv,Bw,Ae,Af,An,Bo,Az,hbb63_121,hbb81_121,D5,D6⟩
 have A4:Ext [Ad,Ac] w Am:=Bl.trans Az
 have Ao:Ext [Ad,Ac] Bh Am:=B6.trans Az
 have Ca:Ext [Ad,Ac] Ay Am:=Az
 refine WP.seq ?_
 refine WP.sr ?_
 refine WL.m rfl ?_
 refine WL.f (x:=.tmp 2) (v9) fl29_15 Ae p26 (hbb63_121.cell rfl) ?_
 refine WL.z (.int .i64 (((a.Follows).length:Int))) (V.lenSlice rfl rfl u26 (Eq.trans (b:=v9) rfl Bk)) ?_
 refine WL.z (.bool (decide ((k:Int) < ((a.Follows).length:Int)))) (V.cmp (x:=.tmp 21) rfl An rfl rfl) ?_
 refine WL.nil ?_
 refine WP.condp (t:=(k:Int) < ((a.Follows).length:Int)) rfl (fun Cb=>?_) (fun Cb=>?_)
 ·refine WP.skip ?_
  refine WP.seq ?_
  refine WP.block ?_
  refine WP.seq ?_
  refine WP.quiet mo (by kernel_rfl) ?_
  refine WQ.f (x:=.tmp 2) (v9) fl29_15 Ae p26 (fun w' hw=>(hbb63_121.ext hw (by simp)).cell rfl) ?_
  refine WQ.m rfl ?_
  have hlt134:k < (a.Follows).length:=by first | omega | (simp at *; omega)
  obtain ⟨Dz,D0,c128,F9,Cc,hnb131,Cd,Bx⟩:=(Bs.ext (Ext.pre Ao)).get (i:=k) (x:=(a.Follows.getD k default)) (getD_some hlt134 _)
  obtain ⟨rfl,Ce⟩:=Cd
  obtain ⟨Fb,Fc,Fd⟩:=(show FollowD.InR (a.Follows.getD k default) from Ce)
  refine WQ.z (.pointer (some ⟨Dz,D0 + k * 3,none⟩)) (fun w' hw=>V.indexAddr (i:=.tmp 30) (m:=k) (j:=(k:Int)) rfl u26 s73 (Eq.trans (b:=v9) rfl Cc) An rfl hlt134) ?_
  refine WQ.z (.agg #[.int .i64 ((a.Follows.getD k default).Id),.int .u64 ((a.Follows.getD k default).Next),.int .u64 ((a.Follows.getD k default).Match)]) (fun w' hw=>V.loadAgg (cs:=[.int .i64 ((a.Follows.getD k default).Id),.int .u64 ((a.Follows.getD k default).Next),.int .u64 ((a.Follows.getD k default).Match)]) rfl a73 rfl (Bx.ext hw (by simp)) rfl) ?_
  refine WQ.f (x:=.tmp 3) (As) fl29_15 Af p26 (fun w' hw=>(hbb81_121.ext hw (by simp)).cell rfl) ?_
  refine WQ.m rfl ?_
  have hlt147:k < (b.Follows).length:=by first | omega | (simp at *; omega)
  obtain ⟨D1,D3,c141,Ga,Cf,hnb144,Cg,By⟩:=(Bt.ext (Ext.pre Ao)).get (i:=k) (x:=(b.Follows.getD k default)) (getD_some hlt147 _)
  obtain ⟨rfl,Ch⟩:=Cg
  obtain ⟨Fe,Ff,Fg⟩:=(show FollowD.InR (b.Follows.getD k default) from Ch)
  refine WQ.z (.pointer (some ⟨D1,D3 + k * 3,none⟩)) (fun w' hw=>V.indexAddr (i:=.tmp 35) (m:=k) (j:=(k:Int)) rfl u26 s73 (Eq.trans (b:=As) rfl Cf) An rfl hlt147) ?_
  refine WQ.z (.agg #[.int .i64 ((b.Follows.getD k default).Id),.int .u64 ((b.Follows.getD k default).Next),.int .u64 ((b.Follows.getD k default).Match)]) (fun w' hw=>V.loadAgg (cs:=[.int .i64 ((b.Follows.getD k default).Id),.int .u64 ((b.Follows.getD k default).Next),.int .u64 ((b.Follows.getD k default).Match)]) rfl a73 rfl (By.ext hw (by simp)) rfl) ?_
  refine WQ.z (.bool (!(decide (((a.Follows.getD k default).Id) = ((b.Follows.getD k default).Id)) && (decide (((a.Follows.getD k default).Next) = ((b.Follows.getD k default).Next)) && (decide (((a.Follows.getD k default).Match) = ((b.Follows.getD k default).Match)) && true))))) (fun w' hw=>V.aeq [(.i64,((a.Follows.getD k default).Id),((b.Follows.getD k default).Id)),(.u64,((a.Follows.getD k default).Next),((b.Follows.getD k default).Next)),(.u64,((a.Follows.getD k default).Match),((b.Follows.getD k default).Match))] rfl (.inr ⟨rfl,rfl⟩) eg73 sh73 us73 fs73 rfl rfl ⟨rfl,u3,rfl,rfl,⟨rfl,u23,rfl,rfl,⟨rfl,u23,rfl,rfl,trivial⟩⟩⟩) ?_
  refine WQ.nil (fun Bz hq153=>?_)
  have Ci:Ext [Ad,Ac] w Bz:=A4.trans (Ext.any (Y:=[Ad,Ac]) hq153)
  have Cj:Ext [Ad,Ac] Ay Bz:=Ca.trans (Ext.any (Y:=[Ad,Ac]) hq153)
  have Ck:=hbb63_121.ext hq153 (by simp)
  have Cl:=hbb81_121.ext hq153 (by simp)
  refine WP.condn (t:=(decide (((a.Follows.getD k default).Id) = ((b.Follows.getD k default).Id)) && (decide (((a.Follows.getD k default).Next) = ((b.Follows.getD k default).Next)) && (decide (((a.Follows.getD k default).Match) = ((b.Follows.getD k default).Match)) && true)))) rfl (fun Cm=>?_) (fun Cm=>?_)
  rotate_left
  ·refine WP.skip ?_
   refine WP.region ?_
   refine WL.m rfl ?_
   refine WL.z (.int .i64 ((k:Int) + 1)) (V.arith (x:=.tmp 26) rfl An rfl rfl (wrap_i64 (by omega) (by omega))) ?_
   refine WL.m rfl ?_
   refine WL.nil ?_
   exact ⟨k + 1,⟨Bv,Bw,Ae,Af,(int_eq (by omega)),Bo,Cj,Ck,Cl,(by omega),(all_step (by assumption) (by assumption))⟩,(by omega)⟩
  refine WP.sr ?_
  refine WL.m rfl ?_
  refine WL.nil ?_
  refine WP.ret ?_
  refine resOf.c1 rfl (v:=.bool (false)) rfl ?_
  exact ⟨(bool_eq (by first | grind [samePeerB] | (have hfe:=eqB_true (f:=sameFolB) (xs:=a.Follows) (ys:=b.Follows) (by omega) (by assumption) (by omega); grind [samePeerB]) | (have hfe:=eqB_len (f:=sameFolB) (xs:=a.Follows) (ys:=b.Follows) (by omega); grind [samePeerB]) | (have hfe:=eqB_false (f:=sameFolB) (xs:=a.Follows) (ys:=b.Follows) (k:=k) (by omega) (by omega) (by assumption); grind [samePeerB]))),((Ci).done (geCons Ab (geCons Aa geNil)))⟩
 refine WP.exit ?_
 refine WP.sr ?_
 refine WL.f (x:=.tmp 2) (.int .i64 (a.Id)) fl29_0 Ae p3 (hbb63_121.cell rfl) ?_
 refine WL.f (x:=.tmp 3) (.int .i64 (b.Id)) fl29_0 Af p3 (hbb81_121.cell rfl) ?_
 refine WL.z (.bool (decide (a.Id = b.Id))) (V.cmp rfl rfl rfl rfl) ?_
 refine WL.vbp (c:=a.Id = b.Id) (Sure.none rfl) rfl (V.move rfl rfl) (fun Cn=>?_) (fun Cn=>?_)
 rotate_left
 ·refine WL.skips [(44,some false)] [(4,some false)] (kc (some false) rfl kn) (by kernel_rfl) (fun Gu hK257 Gb=>?_)
  refine WP.ret ?_
  refine resOf.c1 rfl (v:=.bool (false)) (hK257 4 (some false) rfl) ?_
  exact ⟨(bool_eq (by first | grind [samePeerB] | (have hfe:=eqB_true (f:=sameFolB) (xs:=a.Follows) (ys:=b.Follows) (by omega) (by assumption) (by omega); grind [samePeerB]) | (have hfe:=eqB_len (f:=sameFolB) (xs:=a.Follows) (ys:=b.Follows) (by omega); grind [samePeerB]) | (have hfe:=eqB_false (f:=sameFolB) (xs:=a.Follows) (ys:=b.Follows) (k:=k) (by omega) (by omega) (by assumption); grind [samePeerB]))),((A4).done (geCons Ab (geCons Aa geNil)))⟩
 refine WL.fy (x:=.tmp 2) (v1) rfl fl29_1 Ae p22 (hbb63_121.cell rfl) ?_
 refine WL.fy (x:=.tmp 3) (Bc) rfl fl29_1 Af p22 (hbb81_121.cell rfl) ?_
 refine WL.c (Sure.yes rfl rfl rfl) rfl (C.call2 rfl cl38 rfl rfl) (Fnc.mono (ref_sameInts (Dp.ext (Ext.pre Ao)) (Du.ext (Ext.pre Ao))) ?_)
 rintro _ B0 ⟨rfl,Av⟩
 have Ai:Ext [Ad,Ac] w B0:=A4.trans (Ext.any (Y:=[Ad,Ac]) Av)
 have A5:Ext [Ad,Ac] Bh B0:=Ao.trans (Ext.any (Y:=[Ad,Ac]) Av)
 have Aj:=hbb63_121.ext Av (by simp)
 have Ak:=hbb81_121.ext Av (by simp)
 refine WL.k (a:=true) rfl rfl ?_
 refine WL.vb (c:=eqB ieq a.Members b.Members) (Sure.none rfl) rfl (V.move rfl rfl) (fun Co=>?_) (fun Co=>?_)
 rotate_left
 ·refine WL.skips [(51,some false)] [(4,some false)] (kc (some false) rfl kn) (by kernel_rfl) (fun Gv hK254 Gc=>?_)
  refine WP.ret ?_
  refine resOf.c1 rfl (v:=.bool (false)) (hK254 4 (some false) rfl) ?_
  exact ⟨(bool_eq (by first | grind [samePeerB] | (have hfe:=eqB_true (f:=sameFolB) (xs:=a.Follows) (ys:=b.Follows) (by omega) (by assumption) (by omega); grind [samePeerB]) | (have hfe:=eqB_len (f:=sameFolB) (xs:=a.Follows) (ys:=b.Follows) (by omega); grind [samePeerB]) | (have hfe:=eqB_false (f:=sameFolB) (xs:=a.Follows) (ys:=b.Follows) (k:=k) (by omega) (by omega) (by assumption); grind [samePeerB]))),((Ai).done (geCons Ab (geCons Aa geNil)))⟩
 refine WL.fy (x:=.tmp 2) (.int .u64 (a.Term)) rfl fl29_2 Ae p23 (Aj.cell rfl) ?_
 refine WL.fy (x:=.tmp 3) (.int .u64 (b.Term)) rfl fl29_2 Af p23 (Ak.cell rfl) ?_
 refine WL.y (.bool (decide (a.Term = b.Term))) rfl (V.cmp rfl rfl rfl rfl) ?_
 refine WL.k (a:=true) rfl rfl ?_
 refine WL.vbp (c:=a.Term = b.Term) (Sure.none rfl) rfl (V.move rfl rfl) (fun Cp=>?_) (fun Cp=>?_)
 rotate_left
 ·refine WL.skips [(58,some false)] [(4,some false)] (kc (some false) rfl kn) (by kernel_rfl) (fun Gw hK251 Gd=>?_)
  refine WP.ret ?_
  refine resOf.c1 rfl (v:=.bool (false)) (hK251 4 (some false) rfl) ?_
  exact ⟨(bool_eq (by first | grind [samePeerB] | (have hfe:=eqB_true (f:=sameFolB) (xs:=a.Follows) (ys:=b.Follows) (by omega) (by assumption) (by omega); grind [samePeerB]) | (have hfe:=eqB_len (f:=sameFolB) (xs:=a.Follows) (ys:=b.Follows) (by omega); grind [samePeerB]) | (have hfe:=eqB_false (f:=sameFolB) (xs:=a.Follows) (ys:=b.Follows) (k:=k) (by omega) (by omega) (by assumption); grind [samePeerB]))),((Ai).done (geCons Ab (geCons Aa geNil)))⟩
 refine WL.fy (x:=.tmp 2) (.int .i64 (a.Vote)) rfl fl29_3 Ae p3 (Aj.cell rfl) ?_
 refine WL.fy (x:=.tmp 3) (.int .i64 (b.Vote)) rfl fl29_3 Af p3 (Ak.cell rfl) ?_
 refine WL.y (.bool (decide (a.Vote = b.Vote))) rfl (V.cmp rfl rfl rfl rfl) ?_
 refine WL.k (a:=true) rfl rfl ?_
 refine WL.vbp (c:=a.Vote = b.Vote) (Sure.none rfl) rfl (V.move rfl rfl) (fun Cq=>?_) (fun Cq=>?_)
 rotate_left
 ·refine WL.skips [(65,some false)] [(4,some false)] (kc (some false) rfl kn) (by kernel_rfl) (fun Gx hK248 Ge=>?_)
  refine WP.ret ?_
  refine resOf.c1 rfl (v:=.bool (false)) (hK248 4 (some false) rfl) ?_
  exact ⟨(bool_eq (by first | grind [samePeerB] | (have hfe:=eqB_true (f:=sameFolB) (xs:=a.Follows) (ys:=b.Follows) (by omega) (by assumption) (by omega); grind [samePeerB]) | (have hfe:=eqB_len (f:=sameFolB) (xs:=a.Follows) (ys:=b.Follows) (by omega); grind [samePeerB]) | (have hfe:=eqB_false (f:=sameFolB) (xs:=a.Follows) (ys:=b.Follows) (k:=k) (by omega) (by omega) (by assumption); grind [samePeerB]))),((Ai).done (geCons Ab (geCons Aa geNil)))⟩
 refine WL.fy (x:=.tmp 2) (.int .u8 (a.Role)) rfl fl29_4 Ae p24 (Aj.cell rfl) ?_
 refine WL.fy (x:=.tmp 3) (.int .u8 (b.Role)) rfl fl29_4 Af p24 (Ak.cell rfl) ?_
 refine WL.y (.bool (decide (a.Role = b.Role))) rfl (V.cmp rfl rfl rfl rfl) ?_
 refine WL.k (a:=true) rfl rfl ?_
 refine WL.vbp (c:=a.Role = b.Role) (Sure.none rfl) rfl (V.move rfl rfl) (fun Cr=>?_) (fun Cr=>?_)
 rotate_left
 ·refine WL.skips [(72,some false)] [(4,some false)] (kc (some false) rfl kn) (by kernel_rfl) (fun Gy hK245 Gf=>?_)
  refine WP.ret ?_
  refine resOf.c1 rfl (v:=.bool (false)) (hK245 4 (some false) rfl) ?_
  exact ⟨(bool_eq (by first | grind [samePeerB] | (have hfe:=eqB_true (f:=sameFolB) (xs:=a.Follows) (ys:=b.Follows) (by omega) (by assumption) (by omega); grind [samePeerB]) | (have hfe:=eqB_len (f:=sameFolB) (xs:=a.Follows) (ys:=b.Follows) (by omega); grind [samePeerB]) | (have hfe:=eqB_false (f:=sameFolB) (xs:=a.Follows) (ys:=b.Follows) (k:=k) (by omega) (by omega) (by assumption); grind [samePeerB]))),((Ai).done (geCons Ab (geCons Aa geNil)))⟩
 refine WL.fy (x:=.tmp 2) (.int .i64 (a.Lead)) rfl fl29_5 Ae p3 (Aj.cell rfl) ?_
 refine WL.fy (x:=.tmp 3) (.int .i64 (b.Lead)) rfl fl29_5 Af p3 (Ak.cell rfl) ?_
 refine WL.y (.bool (decide (a.Lead = b.Lead))) rfl (V.cmp rfl rfl rfl rfl) ?_
 refine WL.k (a:=true) rfl rfl ?_
 refine WL.vbp (c:=a.Lead = b.Lead) (Sure.none rfl) rfl (V.move rfl rfl) (fun Cs=>?_) (fun Cs=>?_)
 rotate_left
 ·refine WL.skips [(79,some false)] [(4,some false)] (kc (some false) rfl kn) (by kernel_rfl) (fun Gz hK242 Gg=>?_)
  refine WP.ret ?_
  refine resOf.c1 rfl (v:=.bool (false)) (hK242 4 (some false) rfl) ?_
  exact ⟨(bool_eq (by first | grind [samePeerB] | (have hfe:=eqB_true (f:=sameFolB) (xs:=a.Follows) (ys:=b.Follows) (by omega) (by assumption) (by omega); grind [samePeerB]) | (have hfe:=eqB_len (f:=sameFolB) (xs:=a.Follows) (ys:=b.Follows) (by omega); grind [samePeerB]) | (have hfe:=eqB_false (f:=sameFolB) (xs:=a.Follows) (ys:=b.Follows) (k:=k) (by omega) (by omega) (by assumption); grind [samePeerB]))),((Ai).done (geCons Ab (geCons Aa geNil)))⟩
 refine WL.fy (x:=.tmp 2) (.int .u64 (a.Base)) rfl fl29_6 Ae p23 (Aj.cell rfl) ?_
 refine WL.fy (x:=.tmp 3) (.int .u64 (b.Base)) rfl fl29_6 Af p23 (Ak.cell rfl) ?_
 refine WL.y (.bool (decide (a.Base = b.Base))) rfl (V.cmp rfl rfl rfl rfl) ?_
 refine WL.k (a:=true) rfl rfl ?_
 refine WL.vbp (c:=a.Base = b.Base) (Sure.none rfl) rfl (V.move rfl rfl) (fun Ct=>?_) (fun Ct=>?_)
 rotate_left
 ·refine WL.skips [(86,some false)] [(4,some false)] (kc (some false) rfl kn) (by kernel_rfl) (fun G0 hK239 Gh=>?_)
  refine WP.ret ?_
  refine resOf.c1 rfl (v:=.bool (false)) (hK239 4 (some false) rfl) ?_
  exact ⟨(bool_eq (by first | grind [samePeerB] | (have hfe:=eqB_true (f:=sameFolB) (xs:=a.Follows) (ys:=b.Follows) (by omega) (by assumption) (by omega); grind [samePeerB]) | (have hfe:=eqB_len (f:=sameFolB) (xs:=a.Follows) (ys:=b.Follows) (by omega); grind [samePeerB]) | (have hfe:=eqB_false (f:=sameFolB) (xs:=a.Follows) (ys:=b.Follows) (k:=k) (by omega) (by omega) (by assumption); grind [samePeerB]))),((Ai).done (geCons Ab (geCons Aa geNil)))⟩
 refine WL.fy (x:=.tmp 2) (.int .u64 (a.BaseTerm)) rfl fl29_7 Ae p23 (Aj.cell rfl) ?_
 refine WL.fy (x:=.tmp 3) (.int .u64 (b.BaseTerm)) rfl fl29_7 Af p23 (Ak.cell rfl) ?_
 refine WL.y (.bool (decide (a.BaseTerm = b.BaseTerm))) rfl (V.cmp rfl rfl rfl rfl) ?_
 refine WL.k (a:=true) rfl rfl ?_
 refine WL.vbp (c:=a.BaseTerm = b.BaseTerm) (Sure.none rfl) rfl (V.move rfl rfl) (fun Cu=>?_) (fun Cu=>?_)
 rotate_left
 ·refine WL.skips [(93,some false)] [(4,some false)] (kc (some false) rfl kn) (by kernel_rfl) (fun G1 hK236 Gi=>?_)
  refine WP.ret ?_
  refine resOf.c1 rfl (v:=.bool (false)) (hK236 4 (some false) rfl) ?_
  exact ⟨(bool_eq (by first | grind [samePeerB] | (have hfe:=eqB_true (f:=sameFolB) (xs:=a.Follows) (ys:=b.Follows) (by omega) (by assumption) (by omega); grind [samePeerB]) | (have hfe:=eqB_len (f:=sameFolB) (xs:=a.Follows) (ys:=b.Follows) (by omega); grind [samePeerB]) | (have hfe:=eqB_false (f:=sameFolB) (xs:=a.Follows) (ys:=b.Follows) (k:=k) (by omega) (by omega) (by assumption); grind [samePeerB]))),((Ai).done (geCons Ab (geCons Aa geNil)))⟩
 refine WL.fy (x:=.tmp 2) (v3) rfl fl29_8 Ae p22 (Aj.cell rfl) ?_
 refine WL.fy (x:=.tmp 3) (Bd) rfl fl29_8 Af p22 (Ak.cell rfl) ?_
 refine WL.c (Sure.yes rfl rfl rfl) rfl (C.call2 rfl cl38 rfl rfl) (Fnc.mono (ref_sameInts (Dq.ext (Ext.pre A5)) (Dv.ext (Ext.pre A5))) ?_)
 rintro _ B1 ⟨rfl,Aw⟩
 have A6:Ext [Ad,Ac] w B1:=Ai.trans (Ext.any (Y:=[Ad,Ac]) Aw)
 have A7:Ext [Ad,Ac] Bh B1:=A5.trans (Ext.any (Y:=[Ad,Ac]) Aw)
 have A8:=Aj.ext Aw (by simp)
 have A9:=Ak.ext Aw (by simp)
 refine WL.k (a:=true) rfl rfl ?_
 refine WL.vb (c:=eqB ieq a.BaseMembers b.BaseMembers) (Sure.none rfl) rfl (V.move rfl rfl) (fun Cv=>?_) (fun Cv=>?_)
 rotate_left
 ·refine WL.skips [(100,some false)] [(4,some false)] (kc (some false) rfl kn) (by kernel_rfl) (fun G2 hK233 Gj=>?_)
  refine WP.ret ?_
  refine resOf.c1 rfl (v:=.bool (false)) (hK233 4 (some false) rfl) ?_
  exact ⟨(bool_eq (by first | grind [samePeerB] | (have hfe:=eqB_true (f:=sameFolB) (xs:=a.Follows) (ys:=b.Follows) (by omega) (by assumption) (by omega); grind [samePeerB]) | (have hfe:=eqB_len (f:=sameFolB) (xs:=a.Follows) (ys:=b.Follows) (by omega); grind [samePeerB]) | (have hfe:=eqB_false (f:=sameFolB) (xs:=a.Follows) (ys:=b.Follows) (k:=k) (by omega) (by omega) (by assumption); grind [samePeerB]))),((A6).done (geCons Ab (geCons Aa geNil)))⟩
 refine WL.fy (x:=.tmp 2) (.string (a.Snap)) rfl fl29_9 Ae p9 (A8.cell rfl) ?_
 refine WL.fy (x:=.tmp 3) (.string (b.Snap)) rfl fl29_9 Af p9 (A9.cell rfl) ?_
 refine WL.y (.bool (seqB a.Snap b.Snap)) rfl (V.scmp rfl rfl rfl rfl) ?_
 refine WL.k (a:=true) rfl rfl ?_
 refine WL.vb (c:=seqB a.Snap b.Snap) (Sure.none rfl) rfl (V.move rfl rfl) (fun Cw=>?_) (fun Cw=>?_)
 rotate_left
 ·refine WL.skips [(107,some false)] [(4,some false)] (kc (some false) rfl kn) (by kernel_rfl) (fun G3 hK230 Gk=>?_)
  refine WP.ret ?_
  refine resOf.c1 rfl (v:=.bool (false)) (hK230 4 (some false) rfl) ?_
  exact ⟨(bool_eq (by first | grind [samePeerB] | (have hfe:=eqB_true (f:=sameFolB) (xs:=a.Follows) (ys:=b.Follows) (by omega) (by assumption) (by omega); grind [samePeerB]) | (have hfe:=eqB_len (f:=sameFolB) (xs:=a.Follows) (ys:=b.Follows) (by omega); grind [samePeerB]) | (have hfe:=eqB_false (f:=sameFolB) (xs:=a.Follows) (ys:=b.Follows) (k:=k) (by omega) (by omega) (by assumption); grind [samePeerB]))),((A6).done (geCons Ab (geCons Aa geNil)))⟩
 refine WL.fy (x:=.tmp 2) (v5) rfl fl29_10 Ae p25 (A8.cell rfl) ?_
 refine WL.fy (x:=.tmp 3) (Be) rfl fl29_10 Af p25 (A9.cell rfl) ?_
 refine WL.c (Sure.yes rfl rfl rfl) rfl (C.call2 rfl cl33 rfl rfl) (Fnc.mono (ref_SameEntries (Dr.ext (Ext.pre A7)) (Dw.ext (Ext.pre A7))) ?_)
 rintro _ B2 ⟨rfl,Ax⟩
 have Ap:Ext [Ad,Ac] w B2:=A6.trans (Ext.any (Y:=[Ad,Ac]) Ax)
 have Bm:Ext [Ad,Ac] Bh B2:=A7.trans (Ext.any (Y:=[Ad,Ac]) Ax)
 have Aq:=A8.ext Ax (by simp)
 have Ar:=A9.ext Ax (by simp)
 refine WL.k (a:=true) rfl rfl ?_
 refine WL.vb (c:=eqB sameEntB a.Log b.Log) (Sure.none rfl) rfl (V.move rfl rfl) (fun Cx=>?_) (fun Cx=>?_)
 rotate_left
 ·refine WL.skips [(114,some false)] [(4,some false)] (kc (some false) rfl kn) (by kernel_rfl) (fun G4 hK227 Gl=>?_)
  refine WP.ret ?_
  refine resOf.c1 rfl (v:=.bool (false)) (hK227 4 (some false) rfl) ?_
  exact ⟨(bool_eq (by first | grind [samePeerB] | (have hfe:=eqB_true (f:=sameFolB) (xs:=a.Follows) (ys:=b.Follows) (by omega) (by assumption) (by omega); grind [samePeerB]) | (have hfe:=eqB_len (f:=sameFolB) (xs:=a.Follows) (ys:=b.Follows) (by omega); grind [samePeerB]) | (have hfe:=eqB_false (f:=sameFolB) (xs:=a.Follows) (ys:=b.Follows) (k:=k) (by omega) (by omega) (by assumption); grind [samePeerB]))),((Ap).done (geCons Ab (geCons Aa geNil)))⟩
 refine WL.fy (x:=.tmp 2) (.int .u64 (a.Commit)) rfl fl29_11 Ae p23 (Aq.cell rfl) ?_
 refine WL.fy (x:=.tmp 3) (.int .u64 (b.Commit)) rfl fl29_11 Af p23 (Ar.cell rfl) ?_
 refine WL.y (.bool (decide (a.Commit = b.Commit))) rfl (V.cmp rfl rfl rfl rfl) ?_
 refine WL.k (a:=true) rfl rfl ?_
 refine WL.vbp (c:=a.Commit = b.Commit) (Sure.none rfl) rfl (V.move rfl rfl) (fun Cy=>?_) (fun Cy=>?_)
 rotate_left
 ·refine WL.skips [(121,some false)] [(4,some false)] (kc (some false) rfl kn) (by kernel_rfl) (fun G5 hK224 Gm=>?_)
  refine WP.ret ?_
  refine resOf.c1 rfl (v:=.bool (false)) (hK224 4 (some false) rfl) ?_
  exact ⟨(bool_eq (by first | grind [samePeerB] | (have hfe:=eqB_true (f:=sameFolB) (xs:=a.Follows) (ys:=b.Follows) (by omega) (by assumption) (by omega); grind [samePeerB]) | (have hfe:=eqB_len (f:=sameFolB) (xs:=a.Follows) (ys:=b.Follows) (by omega); grind [samePeerB]) | (have hfe:=eqB_false (f:=sameFolB) (xs:=a.Follows) (ys:=b.Follows) (k:=k) (by omega) (by omega) (by assumption); grind [samePeerB]))),((Ap).done (geCons Ab (geCons Aa geNil)))⟩
 refine WL.fy (x:=.tmp 2) (.int .i64 (a.Idle)) rfl fl29_12 Ae p3 (Aq.cell rfl) ?_
 refine WL.fy (x:=.tmp 3) (.int .i64 (b.Idle)) rfl fl29_12 Af p3 (Ar.cell rfl) ?_
 refine WL.y (.bool (decide (a.Idle = b.Idle))) rfl (V.cmp rfl rfl rfl rfl) ?_
 refine WL.k (a:=true) rfl rfl ?_
 refine WL.vbp (c:=a.Idle = b.Idle) (Sure.none rfl) rfl (V.move rfl rfl) (fun Cz=>?_) (fun Cz=>?_)
 rotate_left
 ·refine WL.skips [(128,some false)] [(4,some false)] (kc (some false) rfl kn) (by kernel_rfl) (fun G6 hK221 Gn=>?_)
  refine WP.ret ?_
  refine resOf.c1 rfl (v:=.bool (false)) (hK221 4 (some false) rfl) ?_
  exact ⟨(bool_eq (by first | grind [samePeerB] | (have hfe:=eqB_true (f:=sameFolB) (xs:=a.Follows) (ys:=b.Follows) (by omega) (by assumption) (by omega); grind [samePeerB]) | (have hfe:=eqB_len (f:=sameFolB) (xs:=a.Follows) (ys:=b.Follows) (by omega); grind [samePeerB]) | (have hfe:=eqB_false (f:=sameFolB) (xs:=a.Follows) (ys:=b.Follows) (k:=k) (by omega) (by omega) (by assumption); grind [samePeerB]))),((Ap).done (geCons Ab (geCons Aa geNil)))⟩
 refine WL.fy (x:=.tmp 2) (.int .i64 (a.Wait)) rfl fl29_13 Ae p3 (Aq.cell rfl) ?_
 refine WL.fy (x:=.tmp 3) (.int .i64 (b.Wait)) rfl fl29_13 Af p3 (Ar.cell rfl) ?_
 refine WL.y (.bool (decide (a.Wait = b.Wait))) rfl (V.cmp rfl rfl rfl rfl) ?_
 refine WL.k (a:=true) rfl rfl ?_
 refine WL.vbp (c:=a.Wait = b.Wait) (Sure.none rfl) rfl (V.move rfl rfl) (fun C0=>?_) (fun C0=>?_)
 rotate_left
 ·refine WL.skips [(135,some false)] [(4,some false)] (kc (some false) rfl kn) (by kernel_rfl) (fun G7 hK218 Gp=>?_)
  refine WP.ret ?_
  refine resOf.c1 rfl (v:=.bool (false)) (hK218 4 (some false) rfl) ?_
  exact ⟨(bool_eq (by first | grind [samePeerB] | (have hfe:=eqB_true (f:=sameFolB) (xs:=a.Follows) (ys:=b.Follows) (by omega) (by assumption) (by omega); grind [samePeerB]) | (have hfe:=eqB_len (f:=sameFolB) (xs:=a.Follows) (ys:=b.Follows) (by omega); grind [samePeerB]) | (have hfe:=eqB_false (f:=sameFolB) (xs:=a.Follows) (ys:=b.Follows) (k:=k) (by omega) (by omega) (by assumption); grind [samePeerB]))),((Ap).done (geCons Ab (geCons Aa geNil)))⟩
 refine WL.fy (x:=.tmp 2) (v7) rfl fl29_14 Ae p22 (Aq.cell rfl) ?_
 refine WL.fy (x:=.tmp 3) (Bf) rfl fl29_14 Af p22 (Ar.cell rfl) ?_
 refine WL.c (Sure.yes rfl rfl rfl) rfl (C.call2 rfl cl38 rfl rfl) (Fnc.mono (ref_sameInts (Ds.ext (Ext.pre Bm)) (Dx.ext (Ext.pre Bm))) ?_)
 rintro _ D4 ⟨rfl,Ba⟩
 have Bn:Ext [Ad,Ac] w D4:=Ap.trans (Ext.any (Y:=[Ad,Ac]) Ba)
 have C1:=Aq.ext Ba (by simp)
 have C2:=Ar.ext Ba (by simp)
 refine WL.k (a:=true) rfl rfl ?_
 refine WL.vb (c:=eqB ieq a.Votes b.Votes) (Sure.none rfl) rfl (V.move rfl rfl) (fun C3=>?_) (fun C3=>?_)
 rotate_left
 ·refine WL.skips [(142,some false)] [(4,some false)] (kc (some false) rfl kn) (by kernel_rfl) (fun G8 hK215 Gq=>?_)
  refine WP.ret ?_
  refine resOf.c1 rfl (v:=.bool (false)) (hK215 4 (some false) rfl) ?_
  exact ⟨(bool_eq (by first | grind [samePeerB] | (have hfe:=eqB_true (f:=sameFolB) (xs:=a.Follows) (ys:=b.Follows) (by omega) (by assumption) (by omega); grind [samePeerB]) | (have hfe:=eqB_len (f:=sameFolB) (xs:=a.Follows) (ys:=b.Follows) (by omega); grind [samePeerB]) | (have hfe:=eqB_false (f:=sameFolB) (xs:=a.Follows) (ys:=b.Follows) (k:=k) (by omega) (by omega) (by assumption); grind [samePeerB]))),((Bn).done (geCons Ab (geCons Aa geNil)))⟩
 refine WL.fy (x:=.tmp 2) (.int .u64 (a.Round)) rfl fl29_16 Ae p23 (C1.cell rfl) ?_
 refine WL.fy (x:=.tmp 3) (.int .u64 (b.Round)) rfl fl29_16 Af p23 (C2.cell rfl) ?_
 refine WL.y (.bool (decide (a.Round = b.Round))) rfl (V.cmp rfl rfl rfl rfl) ?_
 refine WL.k (a:=true) rfl rfl ?_
 refine WL.m rfl ?_
 refine WL.nil ?_
 refine WP.ret ?_
 refine resOf.c1 rfl (v:=.bool (decide (a.Round = b.Round))) rfl ?_
 exact ⟨(bool_eq (by first | grind [samePeerB] | (have hfe:=eqB_true (f:=sameFolB) (xs:=a.Follows) (ys:=b.Follows) (by omega) (by assumption) (by omega); grind [samePeerB]) | (have hfe:=eqB_len (f:=sameFolB) (xs:=a.Follows) (ys:=b.Follows) (by omega); grind [samePeerB]) | (have hfe:=eqB_false (f:=sameFolB) (xs:=a.Follows) (ys:=b.Follows) (k:=k) (by omega) (by omega) (by assumption); grind [samePeerB]))),((Bn).done (geCons Ab (geCons Aa geNil)))⟩
end Go.Proofs.Ytiaicihpocoeiaa.T
namespace Go.Proofs.Ytiaicihpocoeiaa.T
open W Go.RowKit
set_option maxRecDepth 100000
set_option maxHeartbeats 400000
theorem sl_Index {w:World} {X:List Nat} {v_xs:Value} {xs:List Int} (h_xs:Sl (intR .i64) X w v_xs xs) (n:Int):Fnc Try.prog 86 #[v_xs,.int .i64 (n)] w (fun v w'=>v = .int .i64 (idxD xs n) ∧ Ext [] w w'):=by
 have hle_xs:=h_xs.le'
 refine Fnc.of_WP (n:=19) Try.func86 rfl Try.ntmps86 (by simp) ?_
 intro E hE
 have h0:E 0 = v_xs:=hE 0 (by simp)
 have h1:E 1 = .int .i64 (n):=hE 1 (by simp)
 clear hE
 refine WP.sr ?_
 refine WL.m rfl ?_
 refine WL.nil ?_
 refine WP.seq ?_
 refine WP.sr ?_
 refine WL.m rfl ?_
 obtain ⟨a1,c2,Aj⟩:=h_xs.shape
 refine WL.z (.int .i64 (((xs).length:Int))) (V.lenSlice (x:=.tmp 6) rfl rfl u22 (Eq.trans (b:=v_xs) h0 Aj)) ?_
 refine WL.m rfl ?_
 refine WL.nil ?_
 refine WP.block ?_
 refine WP.loop (σ:=Nat) (fun k E4 w5=>E4 0 = v_xs ∧ E4 1 = .int .i64 (n) ∧ E4 7 = .int .i64 (((xs).length:Int)) ∧ E4 8 = .int .i64 ((k:Int)) ∧ Ext [] w w5 ∧ k ≤ xs.length ∧ ∀ j,j < k → (fun i=>!ieq (xs.getD i 0) n) j = true) (fun k=>xs.length - k) (0) ?_ ?_
 ·exact ⟨h0,h1,rfl,(int_eq (by omega)),(Ext.refl _ _),(by omega),(all_zero _)⟩
 rintro k E4 w5 ⟨Ac,Ad,Ae,Aa,Ak,An,Ao⟩
 have Ab:Ext [] w w5:=Ak
 refine WP.sr ?_
 refine WL.z (.bool (decide ((k:Int) < ((xs).length:Int)))) (V.cmp (x:=.tmp 8) (y:=.tmp 7) rfl Aa Ae rfl) ?_
 refine WL.nil ?_
 refine WP.seq ?_
 refine WP.condp (t:=(k:Int) < ((xs).length:Int)) rfl (fun Al=>?_) (fun Al=>?_)
 rotate_left
 ·refine WP.exit ?_
  refine WP.sr ?_
  refine WL.m rfl ?_
  refine WL.nil ?_
  refine WP.ret ?_
  refine resOf.c1 rfl (v:=.int .i64 (-1)) rfl ?_
  exact ⟨(int_eq (by first | (exact (idxD_none (by assumption) (by omega)).symm) | (exact (idxD_at (by omega) (by assumption) (by first | assumption | grind [ieq])).symm))),Ab⟩
 refine WP.skip ?_
 refine WP.seq ?_
 refine WP.block ?_
 refine WP.sr ?_
 refine WL.m rfl ?_
 refine WL.m rfl ?_
 refine WL.nil ?_
 refine WP.sr ?_
 refine WL.m rfl ?_
 refine WL.m rfl ?_
 refine WL.m rfl ?_
 have hlt17:k < (xs).length:=by first | omega | (simp at *; omega)
 obtain ⟨b9,Am,c11,Aq,Ag,hnb14,Ah,Af⟩:=(h_xs.ext (Ext.pre Ab)).get (i:=k) (x:=(xs.getD k 0)) (getD_some hlt17 _)
 obtain ⟨rfl,Ap⟩:=Ah
 refine WL.z (.pointer (some ⟨b9,Am + k * 1,none⟩)) (V.indexAddr (x:=.tmp 12) (i:=.tmp 13) (m:=k) (j:=(k:Int)) rfl u22 s3 (Eq.trans (b:=v_xs) Ac Ag) Aa rfl hlt17) ?_
 refine WL.z (.int .i64 ((xs.getD k 0))) (V.load rfl p3 rfl (Af.cell (j:=0) rfl)) ?_
 refine WL.z (.bool (decide (n = (xs.getD k 0)))) (V.cmp (x:=.tmp 11) rfl Ad rfl rfl) ?_
 refine WL.nil ?_
 refine WP.condp (t:=n = (xs.getD k 0)) rfl (fun Ai=>?_) (fun Ai=>?_)
 ·refine WP.sr ?_
  refine WL.m rfl ?_
  refine WL.m rfl ?_
  refine WL.nil ?_
  refine WP.ret ?_
  refine resOf.c1 rfl (v:=.int .i64 ((k:Int))) Aa ?_
  exact ⟨(int_eq (by first | (exact (idxD_none (by assumption) (by omega)).symm) | (exact (idxD_at (by omega) (by assumption) (by first | assumption | grind [ieq])).symm))),Ab⟩
 refine WP.skip ?_
 refine WP.region ?_
 refine WL.z (.int .i64 ((k:Int) + 1)) (V.arith (x:=.tmp 8) rfl Aa rfl rfl (wrap_i64 (by omega) (by omega))) ?_
 refine WL.m rfl ?_
 refine WL.nil ?_
 exact ⟨k + 1,⟨Ac,Ad,Ae,(int_eq (by omega)),Ab,(by omega),(all_step (by assumption) (by first | assumption | grind [ieq]))⟩,(by omega)⟩
theorem sl_Contains {w:World} {X:List Nat} {v_xs:Value} {xs:List Int} (h_xs:Sl (intR .i64) X w v_xs xs) (n:Int):Fnc Try.prog 79 #[v_xs,.int .i64 (n)] w (fun v w'=>v = .bool (hasB xs n) ∧ Ext [] w w'):=by
 refine Fnc.of_WP (n:=9) Try.func79 rfl Try.ntmps79 (by simp) ?_
 intro E hE
 have h0:E 0 = v_xs:=hE 0 (by simp)
 have h1:E 1 = .int .i64 (n):=hE 1 (by simp)
 clear hE
 refine WP.sr ?_
 refine WL.m rfl ?_
 refine WL.nil ?_
 refine WP.sr ?_
 refine WL.m rfl ?_
 refine WL.m rfl ?_
 refine WL.c (Sure.none rfl) rfl (C.call2 (x:=.tmp 5) (y:=.tmp 6) rfl cl86 h0 h1) (Fnc.mono (sl_Index h_xs n) ?_)
 rintro _ w1 ⟨rfl,Aa⟩
 have Ab:Ext [] w w1:=Aa
 refine WL.z (.bool (decide ((idxD xs n) ≥ 0))) (V.cmp rfl rfl rfl rfl) ?_
 refine WL.m rfl ?_
 refine WL.nil ?_
 refine WP.ret ?_
 refine resOf.c1 rfl (v:=.bool (decide ((idxD xs n) ≥ 0))) rfl ?_
 exact ⟨(bool_eq (by exact idxD_has _ _)),Ab⟩
end Go.Proofs.Ytiaicihpocoeiaa.T
namespace Go.Proofs.Ytiaicihpocoeiaa.T
open W Go.RowKit
set_option maxRecDepth 100000
set_option maxHeartbeats 400000
theorem ref_Members {w:World} {X:List Nat} {p:PeerD} {c_p:List Value} (h_p:peerR.rd X w c_p p) (i:Int) (hBase:p.Base ≤ 4611686018427387904) (hi:0 ≤ i ∧ i < 18446744073709551616) (hF:Fits p) (hX:∀ x ∈ X,x < w.heap.size):Fnc Try.prog 58 #[.agg c_p.toArray,.int .u64 (i)] w (fun v w'=>∃ (u0:Value),v = u0 ∧ Sl (intR .i64) X w' u0 (membersOf p i) ∧ Ext [] w w'):=by
 obtain ⟨v1,v3,v5,v7,v9,Ah,rfl,B4,B5,B6,B7,Bm,Bn,A7⟩:=h_p
 obtain ⟨Cb,Cc,Cd,Ce,Cf,Av,Cg,Ch,Ci,Cj,Ck,Cl⟩:=(show PeerD.InR p from A7)
 have Av:=inK_u64 Av
 have hlI:lastI p = p.Base + (p.Log.length:Int):=rfl
 refine Fnc.of_WP (n:=49) Try.func58 rfl Try.ntmps58 (by simp) ?_
 intro E hE
 have h0:E 0 = .agg (peerA p v1 v3 v5 v7 v9 Ah):=hE 0 (by simp)
 have h1:E 1 = .int .u64 (i):=hE 1 (by simp)
 clear hE
 refine WP.sr ?_
 refine WL.box (x:=.tmp 0) (cs:=(peerC p v1 v3 v5 v7 v9 Ah)) (Sure.none rfl) rfl rfl h0 rfl (fun Aa Bj Ad Cp A8=>?_)
 have Bo:=(Sl.new (b:=Aa) nz1 B4 (by omega)).ext (Ext.any Ad)
 have A9:=(Sl.new (b:=Aa) nz1 B5 (by omega)).ext (Ext.any Ad)
 have Ba:=(Sl.new (b:=Aa) nz4 B6 (by omega)).ext (Ext.any Ad)
 have Bp:=(Sl.new (b:=Aa) nz1 B7 (by omega)).ext (Ext.any Ad)
 have Bq:=(Sl.new (b:=Aa) nz3 Bm (by omega)).ext (Ext.any Ad)
 have Br:=(Sl.new (b:=Aa) nz3 Bn (by omega)).ext (Ext.any Ad)
 have Bs:Ext [Aa] _ _:=(Ext.refl _ _).trans (Ext.any Ad)
 have Ac:w.heap.size ≤ Aa:=by have:=Nat.le_refl w.heap.size; omega
 refine WL.m rfl ?_
 refine WL.nil ?_
 refine WP.sr ?_
 refine WL.z (.agg (peerA p v1 v3 v5 v7 v9 Ah)) (V.loadAgg (cs:=(peerC p v1 v3 v5 v7 v9 Ah)) rfl a29 rfl (At.box A8) rfl) ?_
 refine WL.c (Sure.none rfl) rfl (C.call1 rfl cl30 rfl) (Fnc.mono (ref_Last (p:=p) ⟨v1,v3,v5,v7,v9,Ah,rfl,Bo,A9,Ba,Bp,Bq,Br,A7⟩ (by omega)) ?_)
 rintro _ Aw ⟨rfl,Al⟩
 have Am:Ext [Aa] w Aw:=Bs.trans (Ext.any (Y:=[Aa]) Al)
 have Bb:Ext [Aa] Bj Aw:=(Ext.any (Y:=[Aa]) Al)
 have An:=A8.ext Al (by simp)
 refine WL.m rfl ?_
 refine WL.z (.int .u64 (lastI p)) (V.extract rfl rfl rfl) ?_
 refine WL.z (.int .u64 (lastT p)) (V.extract rfl rfl rfl) ?_
 refine WL.m rfl ?_
 refine WL.m rfl ?_
 refine WL.nil ?_
 refine WP.seq ?_
 refine WP.sr ?_
 refine WL.m rfl ?_
 refine WL.f (.int .u64 (p.Base)) fl29_6 rfl p23 (An.cell rfl) ?_
 refine WL.z (.bool (decide (i < p.Base))) (V.cmp (x:=.tmp 14) rfl h1 rfl rfl) ?_
 refine WL.vbp (c:=i < p.Base) (Sure.none rfl) rfl (V.move rfl rfl) (fun Bt=>?_) (fun Bt=>?_)
 ·refine WL.skips [(18,some true)] [(22,some true)] (kc (some true) rfl kn) (by kernel_rfl) (fun Cs hK51 Cq=>?_)
  refine WP.cond_true (hK51 22 (some true) rfl) ?_
  refine WP.sr ?_
  refine WL.m rfl ?_
  refine WL.nil ?_
  refine WP.ret ?_
  refine resOf.c1 rfl (v:=.slice none 0 0) rfl ?_
  exact ⟨.slice none 0 0,rfl,(castSl (by first | exact (membersOf_out (by omega)).symm | (rw [membersOf_in (by omega),show (i - p.Base).toNat = k from by omega])) (Sl.base (O:=[Aa]) Sl.nil)),((Am).done (geCons Ac geNil))⟩
 refine WL.my rfl rfl ?_
 refine WL.my rfl rfl ?_
 refine WL.y (.bool (decide (i > (lastI p)))) rfl (V.cmp (x:=.tmp 19) rfl h1 rfl rfl) ?_
 refine WL.k (a:=false) rfl rfl ?_
 refine WL.nil ?_
 refine WP.condp (t:=i > (lastI p)) rfl (fun Bu=>?_) (fun Bu=>?_)
 ·refine WP.sr ?_
  refine WL.m rfl ?_
  refine WL.nil ?_
  refine WP.ret ?_
  refine resOf.c1 rfl (v:=.slice none 0 0) rfl ?_
  exact ⟨.slice none 0 0,rfl,(castSl (by first | exact (membersOf_out (by omega)).symm | (rw [membersOf_in (by omega),show (i - p.Base).toNat = k from by omega])) (Sl.base (O:=[Aa]) Sl.nil)),((Am).done (geCons Ac geNil))⟩
 refine WP.skip ?_
 refine WP.sr ?_
 refine WL.f (v3) fl29_8 rfl p22 (An.cell rfl) ?_
 refine WL.m rfl ?_
 refine WL.nil ?_
 refine WP.seq ?_
 refine WP.sr ?_
 refine WL.m rfl ?_
 refine WL.nil ?_
 refine WP.block ?_
 refine WP.loop (σ:=Nat) (fun k Ae Ab=>Ae 0 = .agg (peerA p v1 v3 v5 v7 v9 Ah) ∧ Ae 1 = .int .u64 (i) ∧ Ae 2 = .pointer (some ⟨Aa,0,none⟩) ∧ Ae 4 = .slice none 0 0 ∧ Ae 5 = .int .u64 (lastI p) ∧ Ae 8 = .int .u64 ((k:Int)) ∧ Ae 22 = .bool (decide (i > (lastI p))) ∧ Ext [Aa] Aw Ab ∧ Box Ab Aa 29 (peerC p v1 v3 v5 v7 v9 Ah) ∧ Sl (intR .i64) (Aa :: X) Ab (Ae 7) (memUpto p k) ∧ (k:Int) ≤ i - p.Base) (fun k=>(i - p.Base).toNat - k) (0) ?_ ?_
 ·exact ⟨h0,h1,rfl,rfl,rfl,(int_eq (by omega)),rfl,(Ext.refl _ _),An,(castSl (by rfl) (A9.ext (Ext.pre Bb))),(by omega)⟩
 rintro k Ae Ab ⟨Ax,Aj,Af,Ay,Az,Ag,Ak,Ao,hbb32_58,Ai,B8⟩
 have Ap:Ext [Aa] w Ab:=Am.trans Ao
 have Bv:Ext [Aa] Bj Ab:=Bb.trans Ao
 have Bc:Ext [Aa] Aw Ab:=Ao
 refine WP.seq ?_
 refine WP.sr ?_
 refine WL.m rfl ?_
 refine WL.m rfl ?_
 refine WL.f (x:=.tmp 2) (.int .u64 (p.Base)) fl29_6 Af p23 (hbb32_58.cell rfl) ?_
 refine WL.z (.int .u64 (i - p.Base)) (V.arith (x:=.tmp 26) rfl Aj rfl rfl (wrap_u64 (by omega) (by omega))) ?_
 refine WL.z (.bool (decide ((k:Int) < (i - p.Base)))) (V.cmp (x:=.tmp 25) rfl Ag rfl rfl) ?_
 refine WL.nil ?_
 refine WP.condp (t:=(k:Int) < (i - p.Base)) rfl (fun Bw=>?_) (fun Bw=>?_)
 rotate_left
 ·refine WP.exit ?_
  refine WP.sr ?_
  refine WL.lit (R:=(intR .i64)) (X:=(Aa :: X)) (vs:=[]) (xs:=[]) (Sure.none rfl) rfl rfl u22 e3 (by show 0 < (1:Nat); decide) (by show _ * (1:Nat) ≤ 1024; decide) rfl rfl rfl (by intro i v x hv hx; match i,hv,hx with | i + 0,hv,_=>simp at hv) (fun B9 Bk Aq Bx hlit84=>?_)
  have Bf:∀ g,(B9).ownBlock = some g → g ∉ (Aa :: X):=by intro g hg hm; have h1:=hlit84 g hg; have h2:=(inCons hbb32_58.lt (inMono hX Ap.size)) g hm; omega
  have Bg:w.heap.size ≤ Ab.heap.size:=Ap.size
  have Bd:Ext [Aa] w Bk:=Ap.trans (Ext.any (Y:=[Aa]) Aq)
  have Ar:Ext [Aa] Ab Bk:=(Ext.any (Y:=[Aa]) Aq)
  have By:=hbb32_58.ext Aq (by simp)
  have As:=Bx.low (B':=Ab.heap.size) (Nat.le_refl _)
  refine WL.m rfl ?_
  refine WL.appendOwn (R:=(intR .i64)) (X:=(Aa :: X)) (B:=Ab.heap.size) (xs:=[]) (ys:=memUpto p k) (Sure.none rfl) rfl rfl u22 e3 rfl (by show 0 < (1:Nat); decide) rfl rfl As (Ai.ext (Ext.pre Ar)) (fun g hg=>(Sl.new nz1 Ai (Nat.le_trans (Nat.le_refl _) (As.lt g hg).1)).ext (Ext.cons (Ext.pre Ar))) Ar.size (by have:=hF.upto k (by omega); simp only [List.length_nil]; omega) (by have:=hF.upto k (by omega); simp only [List.length_nil,maxLen]; omega) (fun Bl Ct Au Bz hf98=>?_)
  have Bh:=after_no hf98 Bf (inCons By.lt (inMono hX Bd.size))
  have Bi:=Ext.ownB (Bd) Bz (fun k hk=>(Owns.lt As k hk).1) Bg
  have Au:=Au.castE (List.nil_append _)
  refine WL.m rfl ?_
  refine WL.nil ?_
  refine WP.ret ?_
  refine resOf.c1 rfl (v:=Bl) rfl ?_
  exact ⟨Bl,rfl,(castSl (by first | exact (membersOf_out (by omega)).symm | (rw [membersOf_in (by omega),show (i - p.Base).toNat = k from by omega])) (Sl.base (O:=[Aa]) (Owns.sl' Au Bh))),((Bi).done (geCons Ac geNil))⟩
 refine WP.skip ?_
 refine WP.seq ?_
 refine WP.block ?_
 refine WP.sr ?_
 refine WL.f (x:=.tmp 2) (v5) fl29_10 Af p25 (hbb32_58.cell rfl) ?_
 refine WL.m rfl ?_
 have hlt71:k < (p.Log).length:=by first | omega | (simp at *; omega)
 obtain ⟨A4,A5,c65,Cr,Be,hnb68,B0,A6⟩:=(Ba.ext (Ext.pre Bv)).get (i:=k) (x:=(p.Log.getD k default)) (getD_some hlt71 _)
 obtain ⟨Ca,rfl,B1,B2⟩:=B0
 obtain ⟨Cm,Cn,Co⟩:=(show EntryD.InR (p.Log.getD k default) from B2)
 refine WL.z (.pointer (some ⟨A4,A5 + k * 4,none⟩)) (V.indexAddr (i:=.tmp 35) (m:=k) (j:=(k:Int)) rfl u25 s48 (Eq.trans (b:=v5) rfl Be) Ag rfl hlt71) ?_
 refine WL.z (.pointer (some ⟨A4,A5 + k * 4 + 1,none⟩)) (V.fieldAddr rfl fl48_1 rfl) ?_
 refine WL.z (.int .u8 ((p.Log.getD k default).Kind)) (V.load rfl p46 rfl (A6.cell (j:=1) rfl)) ?_
 refine WL.z (.bool (decide (((p.Log.getD k default).Kind) = 2))) (V.cmp rfl rfl rfl rfl) ?_
 refine WL.nil ?_
 refine WP.condp (t:=((p.Log.getD k default).Kind) = 2) rfl (fun B3=>?_) (fun B3=>?_)
 rotate_left
 ·refine WP.skip ?_
  refine WP.region ?_
  refine WL.m rfl ?_
  refine WL.z (.int .u64 ((k:Int) + 1)) (V.arith (x:=.tmp 31) rfl Ag rfl rfl (wrap_u64 (by omega) (by omega))) ?_
  refine WL.m rfl ?_
  refine WL.nil ?_
  exact ⟨k + 1,⟨Ax,Aj,Af,Ay,Az,(int_eq (by omega)),Ak,Bc,hbb32_58,(castSl (by first | exact memUpto_hit (by assumption) | exact memUpto_miss (by assumption)) Ai),(by omega)⟩,(by omega)⟩
 refine WP.region ?_
 refine WL.f (x:=.tmp 2) (v5) fl29_10 Af p25 (hbb32_58.cell rfl) ?_
 refine WL.m rfl ?_
 refine WL.z (.pointer (some ⟨A4,A5 + k * 4,none⟩)) (V.indexAddr (i:=.tmp 42) (m:=k) (j:=(k:Int)) rfl u25 s48 (Eq.trans (b:=v5) rfl Be) Ag rfl hlt71) ?_
 refine WL.z (.pointer (some ⟨A4,A5 + k * 4 + 3,none⟩)) (V.fieldAddr rfl fl48_3 rfl) ?_
 refine WL.z (Ca) (V.load rfl p22 rfl (A6.cell (j:=3) rfl)) ?_
 refine WL.m rfl ?_
 refine WL.nil ?_
 refine WP.region ?_
 refine WL.m rfl ?_
 refine WL.z (.int .u64 ((k:Int) + 1)) (V.arith (x:=.tmp 31) rfl Ag rfl rfl (wrap_u64 (by omega) (by omega))) ?_
 refine WL.m rfl ?_
 refine WL.nil ?_
 exact ⟨k + 1,⟨Ax,Aj,Af,Ay,Az,(int_eq (by omega)),Ak,Bc,hbb32_58,(castSl (by first | exact memUpto_hit (by assumption) | exact memUpto_miss (by assumption)) B1),(by omega)⟩,(by omega)⟩
end Go.Proofs.Ytiaicihpocoeiaa.T
namespace Go.Proofs.Ytiaicihpocoeiaa.T
open W Go.RowKit
set_option maxRecDepth 100000
set_option maxHeartbeats 400000
theorem ref_OwnEntries {w:World} {X:List Nat} {v_l:Value} {l:List EntryD} (h_l:Sl entryR X w v_l l) (hln:l.length ≤ 1099511627776) (hlm:∀ k,k < l.length → (l.getD k default).Members.length ≤ 17592186044416) (hX:∀ x ∈ X,x < w.heap.size):Fnc Try.prog 17 #[v_l] w (fun v w'=>∃ (u0:Value),v = u0 ∧ Sl entryR X w' u0 (l) ∧ Ext [] w w'):=by
 refine Fnc.of_WP (n:=26) Try.func17 rfl Try.ntmps17 (by simp) ?_
 intro E hE
 have h0:E 0 = v_l:=hE 0 (by simp)
 clear hE
 refine WP.sr ?_
 refine WL.m rfl ?_
 refine WL.nil ?_
 refine WP.sr ?_
 refine WL.m rfl ?_
 refine WL.nil ?_
 refine WP.seq ?_
 refine WP.sr ?_
 refine WL.m rfl ?_
 refine WL.nil ?_
 refine WP.block ?_
 refine WP.loop (σ:=Nat) (fun k E1 w2=>E1 0 = v_l ∧ E1 2 = .slice none 0 0 ∧ E1 4 = .int .i64 ((k:Int)) ∧ Ext [] w w2 ∧ (Owns entryR 48 w.heap.size X w2 (E1 3) (l.take k) ∧ (∀ g,(E1 3).ownBlock = some g → g ∉ X)) ∧ k ≤ l.length) (fun k=>l.length - k) (0) ?_ ?_
 ·exact ⟨h0,rfl,(int_eq (by omega)),(Ext.refl _ _),⟨(Owns.castE (by rfl) Owns.nil),(nil_block rfl)⟩,(by omega)⟩
 rintro k E1 w2 ⟨Ao,Bs,Ap,Ca,⟨Ae,Aj⟩,Ci⟩
 have Az:Ext [] w w2:=Ca
 have htk:(l.take k).length ≤ k:=List.length_take_le _ _
 refine WP.seq ?_
 refine WP.sr ?_
 refine WL.m rfl ?_
 refine WL.m rfl ?_
 obtain ⟨a5,c6,Cb⟩:=h_l.shape
 refine WL.z (.int .i64 (((l).length:Int))) (V.lenSlice (x:=.tmp 7) rfl rfl u25 (Eq.trans (b:=v_l) Ao Cb)) ?_
 refine WL.z (.bool (decide ((k:Int) < ((l).length:Int)))) (V.cmp (x:=.tmp 6) rfl Ap rfl rfl) ?_
 refine WL.nil ?_
 refine WP.condp (t:=(k:Int) < ((l).length:Int)) rfl (fun Cc=>?_) (fun Cc=>?_)
 rotate_left
 ·refine WP.exit ?_
  refine WP.sr ?_
  refine WL.m rfl ?_
  refine WL.m rfl ?_
  refine WL.nil ?_
  refine WP.ret ?_
  refine resOf.c1 rfl (v:=E1 3) rfl ?_
  exact ⟨E1 3,rfl,(castSl (by exact List.take_of_length_le (by omega)) (Owns.sl' Ae Aj)),Az⟩
 refine WP.skip ?_
 refine WP.seq ?_
 refine WP.block ?_
 refine WP.sr ?_
 refine WL.m rfl ?_
 refine WL.m rfl ?_
 have hlt17:k < (l).length:=by first | omega | (simp at *; omega)
 obtain ⟨b9,Cd,c11,Cl,Bt,hnb14,Bu,Bn⟩:=(h_l.ext (Ext.pre Az)).get (i:=k) (x:=(l.getD k default)) (getD_some hlt17 _)
 obtain ⟨Ak,rfl,A9,Bv⟩:=Bu
 obtain ⟨A4,A5,Cj⟩:=(show EntryD.InR (l.getD k default) from Bv)
 have A4:=inK_u64 A4
 have A5:=inK_u8 A5
 have Ck:=A9.le'
 refine WL.z (.pointer (some ⟨b9,Cd + k * 4,none⟩)) (V.indexAddr (x:=.tmp 12) (i:=.tmp 13) (m:=k) (j:=(k:Int)) rfl u25 s48 (Eq.trans (b:=v_l) Ao Bt) Ap rfl hlt17) ?_
 refine WL.z (.agg #[.int .u64 ((l.getD k default).Term),.int .u8 ((l.getD k default).Kind),.string ((l.getD k default).Data),Ak]) (V.loadAgg (cs:=[.int .u64 ((l.getD k default).Term),.int .u8 ((l.getD k default).Kind),.string ((l.getD k default).Data),Ak]) rfl a48 rfl Bn rfl) ?_
 refine WL.alloc (cs:=[.int .u64 (0),.int .u8 (0),.string (ByteArray.mk #[]),.slice none 0 0]) (Sure.none rfl) rfl rfl z48 rfl (fun Aa Ba Aq Cm Bw=>?_)
 have Bx:=(Owns.new (b:=Aa) Ae (by omega)).keep Aq (by intro g hg hm; simp at hm) (by simp)
 have Ac:∀ g,(E1 3).ownBlock = some g → g ∉ (Aa :: X):=fun g hg hm=>(List.mem_cons.1 hm).elim (fun h=>by have:=(Ae.lt g hg).2; omega) (fun h=>Aj g hg h)
 have Bb:=(Sl.new (b:=Aa) nz1 A9 (by omega)).ext (Ext.any Aq)
 have By:Ext [Aa] _ _:=(Ext.cons Az).trans (Ext.any Aq)
 have An:w.heap.size ≤ Aa:=by have:=Az.size; omega
 refine WL.storeAgg (vs:=[.int .u64 ((l.getD k default).Term),.int .u8 ((l.getD k default).Kind),.string ((l.getD k default).Data),Ak]) (Sure.none rfl) rfl rfl s48 rfl rfl rfl (by intro u hu; simp only [List.mem_cons,List.not_mem_nil,or_false] at hu; rcases hu with rfl | rfl | rfl | rfl <;> first | rfl | exact Sl.one (by assumption)) Bw (by show (0:Nat) + 4 ≤ 4; decide) (fun Ab Ar Af=>?_)
 replace Af:Box Ab Aa 48 [.int .u64 ((l.getD k default).Term),.int .u8 ((l.getD k default).Kind),.string ((l.getD k default).Data),Ak]:=Af
 have As:Ext [Aa] w Ab:=By.trans (Ar.mono (by simp))
 have Bc:Ext [Aa] Ba Ab:=(Ar.mono (by simp))
 have Bd:=Owns.keep (Y:=[Aa]) Bx (Ar.mono (by simp)) (fun g hg hm=>Ac g hg (mem_pre (O:=[Aa]) (X:=X) hm)) (fun b hb=>mem_pre (O:=[Aa]) (X:=X) hb)
 refine WL.nil ?_
 refine WP.sr ?_
 refine WL.lit (R:=(intR .i64)) (X:=(Aa :: X)) (vs:=[]) (xs:=[]) (Sure.none rfl) rfl rfl u22 e3 (by show 0 < (1:Nat); decide) (by show _ * (1:Nat) ≤ 1024; decide) rfl rfl rfl (by intro i v x hv hx; match i,hv,hx with | i + 0,hv,_=>simp at hv) (fun Ce Be Ag Bz hlit45=>?_)
 have A6:∀ g,(Ce).ownBlock = some g → g ∉ (Aa :: X):=by intro g hg hm; have h1:=hlit45 g hg; have h2:=(inCons Af.lt (inMono hX As.size)) g hm; omega
 have Bo:w.heap.size ≤ Ab.heap.size:=As.size
 have Bp:Ba.heap.size ≤ Ab.heap.size:=Bc.size
 have Bf:Ext [Aa] w Be:=As.trans (Ext.any (Y:=[Aa]) Ag)
 have Bg:Ext [Aa] Ba Be:=Bc.trans (Ext.any (Y:=[Aa]) Ag)
 have Bh:Ext [Aa] Ab Be:=(Ext.any (Y:=[Aa]) Ag)
 have Au:=Af.ext Ag (by simp)
 have Ah:=Bz.low (B':=Ab.heap.size) (Nat.le_refl _)
 refine WL.f (Ak) fl48_3 rfl p22 (Au.cell rfl) ?_
 refine WL.appendOwn (R:=(intR .i64)) (X:=(Aa :: X)) (B:=Ab.heap.size) (xs:=[]) (ys:=(l.getD k default).Members) (Sure.none rfl) rfl rfl u22 e3 rfl (by show 0 < (1:Nat); decide) rfl rfl Ah (Bb.ext (Ext.pre Bg)) (fun g hg=>(Sl.new nz1 Bb (Nat.le_trans Bp (Ah.lt g hg).1)).ext (Ext.cons (Ext.pre Bg))) Bh.size (by first | (have:=hlm k (by omega); simp only [List.length_cons,List.length_nil]; omega) | (simp only [List.length_cons,List.length_nil]; omega)) (by first | (have:=hlm k (by omega); simp only [List.length_cons,List.length_nil,maxLen]; omega) | (simp only [List.length_cons,List.length_nil,maxLen]; omega)) (fun Al Cf Ai Av hf59=>?_)
 have A7:=after_no hf59 A6 (inCons Au.lt (inMono hX Bf.size))
 have B0:=Ext.ownB (Bf) Av (fun k hk=>(Owns.lt Ah k hk).1) Bo
 have B1:=Ext.ownB (Bh) Av (fun k hk=>(Owns.lt Ah k hk).1) (Nat.le_refl _)
 have B2:=Au.grown Av (fun g hg e=>A6 g hg (by simp [e]))
 have B3:=Owns.keep (Y:=[Aa]) Bd (B1) (fun g hg hm=>Ac g hg (mem_pre (O:=[Aa]) (X:=X) hm)) (fun b hb=>mem_pre (O:=[Aa]) (X:=X) hb)
 have Ai:=Ai.castE (List.nil_append _)
 refine WL.z (.pointer (some ⟨Aa,3,none⟩)) (V.fieldAddr rfl fl48_3 rfl) ?_
 have B4:=Owns.sl' Ai A7
 have hf67:=Owns.far (T:=E1 3) (flat_int _) Ai A7 (fun g hg=>(Bd.lt g hg).2)
 refine WL.store (Sure.none rfl) rfl rfl s22 rfl rfl B4.one B2 (by show (3:Nat) < 4; decide) (fun Am Aw Ad=>?_)
 replace Ad:Box Am Aa 48 [.int .u64 ((l.getD k default).Term),.int .u8 ((l.getD k default).Kind),.string ((l.getD k default).Data),Al]:=Ad
 have Bi:Ext [Aa] w Am:=B0.trans (Aw.mono (by simp))
 have B5:Ext [Aa] Cf Am:=(Aw.mono (by simp))
 have Bj:=Owns.keep (Y:=[Aa]) B3 (Aw.mono (by simp)) (fun g hg hm=>Ac g hg (mem_pre (O:=[Aa]) (X:=X) hm)) (fun b hb=>mem_pre (O:=[Aa]) (X:=X) hb)
 refine WL.nil ?_
 refine WP.region ?_
 refine WL.m rfl ?_
 refine WL.z (.agg #[.int .u64 ((l.getD k default).Term),.int .u8 ((l.getD k default).Kind),.string ((l.getD k default).Data),Al]) (V.loadAgg (cs:=[.int .u64 ((l.getD k default).Term),.int .u8 ((l.getD k default).Kind),.string ((l.getD k default).Data),Al]) rfl a48 rfl (At.box Ad) rfl) ?_
 refine WL.lit (R:=entryR) (X:=(avoid (E1 3) (Aa :: X))) (vs:=[.agg #[.int .u64 ((l.getD k default).Term),.int .u8 ((l.getD k default).Kind),.string ((l.getD k default).Data),Al]]) (xs:=[({ Term:=(l.getD k default).Term,Kind:=(l.getD k default).Kind,Data:=(l.getD k default).Data,Members:=((l.getD k default).Members) }:EntryD)]) (Sure.none rfl) rfl rfl u25 e48 (by show 0 < (4:Nat); decide) (by show _ * (4:Nat) ≤ 1024; decide) rfl rfl rfl (by intro i v x hv hx; match i,hv,hx with | 0,rfl,rfl=>exact ⟨Al,rfl,(hf67.ext (Ext.avoid B5)),⟨(inK_u64' (n:=(l.getD k default).Term) (by omega)),(inK_u8' (n:=(l.getD k default).Kind) (by omega)),(by show ((l.getD k default).Data).size ≤ maxLen; omega)⟩⟩ | i + 1,hv,_=>simp at hv) (fun Cg Ch Ax B6 hlit80=>?_)
 have A8:∀ g,(Cg).ownBlock = some g → g ∉ (Aa :: X):=by intro g hg hm; have h1:=hlit80 g hg; have h2:=(inCons Ad.lt (inMono hX Bi.size)) g hm; omega
 have Ay:Ext [Aa] w Ch:=Bi.trans (Ext.any (Y:=[Aa]) Ax)
 have B7:=Ad.ext Ax (by simp)
 have Bk:=Bj.keep Ax (by intro g hg hm; simp at hm) (by simp)
 have Bl:=B6.low (B':=Am.heap.size) (Nat.le_refl _)
 have Bq:=avoid_no (T:=E1 3) (n:=Am.heap.size) (fun g hg=>Nat.le_of_eq (hlit80 g hg).symm) (fun g hg=>(Bj.lt g hg).2) A8
 refine WL.appendOwn (R:=entryR) (X:=(Aa :: X)) (B:=w.heap.size) (xs:=l.take k) (ys:=[({ Term:=(l.getD k default).Term,Kind:=(l.getD k default).Kind,Data:=(l.getD k default).Data,Members:=((l.getD k default).Members) }:EntryD)]) (Sure.none rfl) rfl rfl u25 e48 rfl (by show 0 < (4:Nat); decide) rfl rfl Bk (Owns.sl' (Owns.mono Bl (fun b hb=>avoid_mem hb)) A8) (fun g hg=>avoid_far (Owns.sl' Bl Bq) hg) Ay.size (by first | (have:=hlm k (by omega); simp only [List.length_cons,List.length_nil]; omega) | (simp only [List.length_cons,List.length_nil]; omega)) (by first | (have:=hlm k (by omega); simp only [List.length_cons,List.length_nil,maxLen]; omega) | (simp only [List.length_cons,List.length_nil,maxLen]; omega)) (fun Cn Co B8 B9 hf99=>?_)
 have Bm:=after_no hf99 Ac (inCons B7.lt (inMono hX Ay.size))
 have Br:=Ext.ownB (Ay) B9 (fun k hk=>(Owns.lt Bk k hk).1) (Nat.le_refl _)
 refine WL.m rfl ?_
 refine WL.nil ?_
 refine WP.region ?_
 refine WL.m rfl ?_
 refine WL.z (.int .i64 ((k:Int) + 1)) (V.arith (x:=.tmp 10) rfl Ap rfl rfl (wrap_i64 (by omega) (by omega))) ?_
 refine WL.m rfl ?_
 refine WL.nil ?_
 exact ⟨k + 1,⟨Ao,Bs,(int_eq (by omega)),(Ext.drop Br An),⟨(Owns.castE (by exact take_step (by omega)) (Owns.base (O:=[Aa]) B8)),(base_no (O:=[Aa]) Bm)⟩,(by omega)⟩,(by omega)⟩
end Go.Proofs.Ytiaicihpocoeiaa.T
