import Derived.Test.YtkcnljgennehaaaW9
import Derived.Test.YtkcnljgennehaaaProg
namespace Go.Proofs.Ytkcnljgennehaaa.T
open W Go.RowKit
set_option maxRecDepth 100000
set_option maxHeartbeats 400000
structure EntryD where
  Term : Int
  Kind : Int
  Data : ByteArray
  Members : List Int
deriving Inhabited
def EntryD.InR (x : EntryD) : Prop := inK .u64 x.Term ∧ inK .u8 x.Kind ∧ x.Data.size ≤ maxLen
def entryR : Rep EntryD where
  sz := 4
  rd := fun X w cs x => ∃ v3, cs = [.int .u64 (x.Term), .int .u8 (x.Kind), .string (x.Data), v3] ∧ Sl (intR .i64) X w v3 x.Members ∧ x.InR
  len := by rintro _ _ _ _ ⟨v3, rfl, h3, hk⟩; rfl
  one := by
    rintro _ _ _ _ ⟨v3, rfl, h3, hk⟩ u hu
    simp only [List.mem_cons, List.not_mem_nil, or_false] at hu
    rcases hu with rfl | rfl | rfl | rfl <;> first | rfl | exact Sl.one (by assumption)
  ext := fun ⟨v3, h, h3, hk⟩ k => ⟨v3, h, h3.ext k, hk⟩
  mono := fun ⟨v3, h, h3, hk⟩ k => ⟨v3, h, h3.mono k, hk⟩
  new := fun ⟨v3, h, h3, hk⟩ k => ⟨v3, h, Sl.new (by show (1 : Nat) ≠ 0; decide) h3 k, hk⟩
structure FollowD where
  Id : Int
  Next : Int
  Match : Int
deriving Inhabited
def FollowD.InR (x : FollowD) : Prop := inK .i64 x.Id ∧ inK .u64 x.Next ∧ inK .u64 x.Match
def followR : Rep FollowD where
  sz := 3
  rd := fun X w cs x => cs = [.int .i64 (x.Id), .int .u64 (x.Next), .int .u64 (x.Match)] ∧ x.InR
  len := by rintro _ _ _ _ ⟨rfl, hk⟩; rfl
  one := by
    rintro _ _ _ _ ⟨rfl, hk⟩ u hu
    simp only [List.mem_cons, List.not_mem_nil, or_false] at hu
    rcases hu with rfl | rfl | rfl <;> first | rfl | exact Sl.one (by assumption)
  ext := fun ⟨h, hk⟩ k => ⟨h, hk⟩
  mono := fun ⟨h, hk⟩ k => ⟨h, hk⟩
  new := fun ⟨h, hk⟩ k => ⟨h, hk⟩
theorem flat_followR : Flat followR := fun _ _ _ _ _ h => h
structure ReadD where
  Round : Int
  Index : Int
  Acks : List Int
deriving Inhabited
def ReadD.InR (x : ReadD) : Prop := inK .u64 x.Round ∧ inK .u64 x.Index
def readR : Rep ReadD where
  sz := 3
  rd := fun X w cs x => ∃ v2, cs = [.int .u64 (x.Round), .int .u64 (x.Index), v2] ∧ Sl (intR .i64) X w v2 x.Acks ∧ x.InR
  len := by rintro _ _ _ _ ⟨v2, rfl, h2, hk⟩; rfl
  one := by
    rintro _ _ _ _ ⟨v2, rfl, h2, hk⟩ u hu
    simp only [List.mem_cons, List.not_mem_nil, or_false] at hu
    rcases hu with rfl | rfl | rfl <;> first | rfl | exact Sl.one (by assumption)
  ext := fun ⟨v2, h, h2, hk⟩ k => ⟨v2, h, h2.ext k, hk⟩
  mono := fun ⟨v2, h, h2, hk⟩ k => ⟨v2, h, h2.mono k, hk⟩
  new := fun ⟨v2, h, h2, hk⟩ k => ⟨v2, h, Sl.new (by show (1 : Nat) ≠ 0; decide) h2 k, hk⟩
structure PeerD where
  Id : Int
  Members : List Int
  Term : Int
  Vote : Int
  Role : Int
  Lead : Int
  Base : Int
  BaseTerm : Int
  BaseMembers : List Int
  Snap : ByteArray
  Log : List EntryD
  Commit : Int
  Idle : Int
  Wait : Int
  Votes : List Int
  Follows : List FollowD
  Round : Int
  Reads : List ReadD
deriving Inhabited
def PeerD.InR (x : PeerD) : Prop := inK .i64 x.Id ∧ inK .u64 x.Term ∧ inK .i64 x.Vote ∧ inK .u8 x.Role ∧ inK .i64 x.Lead ∧ inK .u64 x.Base ∧ inK .u64 x.BaseTerm ∧ x.Snap.size ≤ maxLen ∧ inK .u64 x.Commit ∧ inK .i64 x.Idle ∧ inK .i64 x.Wait ∧ inK .u64 x.Round
def peerR : Rep PeerD where
  sz := 18
  rd := fun X w cs x => ∃ v1 v8 v10 v14 v15 v17, cs = [.int .i64 (x.Id), v1, .int .u64 (x.Term), .int .i64 (x.Vote), .int .u8 (x.Role), .int .i64 (x.Lead), .int .u64 (x.Base), .int .u64 (x.BaseTerm), v8, .string (x.Snap), v10, .int .u64 (x.Commit), .int .i64 (x.Idle), .int .i64 (x.Wait), v14, v15, .int .u64 (x.Round), v17] ∧ Sl (intR .i64) X w v1 x.Members ∧ Sl (intR .i64) X w v8 x.BaseMembers ∧ Sl entryR X w v10 x.Log ∧ Sl (intR .i64) X w v14 x.Votes ∧ Sl followR X w v15 x.Follows ∧ Sl readR X w v17 x.Reads ∧ x.InR
  len := by rintro _ _ _ _ ⟨v1, v8, v10, v14, v15, v17, rfl, h1, h8, h10, h14, h15, h17, hk⟩; rfl
  one := by
    rintro _ _ _ _ ⟨v1, v8, v10, v14, v15, v17, rfl, h1, h8, h10, h14, h15, h17, hk⟩ u hu
    simp only [List.mem_cons, List.not_mem_nil, or_false] at hu
    rcases hu with rfl | rfl | rfl | rfl | rfl | rfl | rfl | rfl | rfl | rfl | rfl | rfl | rfl | rfl | rfl | rfl | rfl | rfl <;> first | rfl | exact Sl.one (by assumption)
  ext := fun ⟨v1, v8, v10, v14, v15, v17, h, h1, h8, h10, h14, h15, h17, hk⟩ k => ⟨v1, v8, v10, v14, v15, v17, h, h1.ext k, h8.ext k, h10.ext k, h14.ext k, h15.ext k, h17.ext k, hk⟩
  mono := fun ⟨v1, v8, v10, v14, v15, v17, h, h1, h8, h10, h14, h15, h17, hk⟩ k => ⟨v1, v8, v10, v14, v15, v17, h, h1.mono k, h8.mono k, h10.mono k, h14.mono k, h15.mono k, h17.mono k, hk⟩
  new := fun ⟨v1, v8, v10, v14, v15, v17, h, h1, h8, h10, h14, h15, h17, hk⟩ k => ⟨v1, v8, v10, v14, v15, v17, h, Sl.new (by show (1 : Nat) ≠ 0; decide) h1 k, Sl.new (by show (1 : Nat) ≠ 0; decide) h8 k, Sl.new (by show (4 : Nat) ≠ 0; decide) h10 k, Sl.new (by show (1 : Nat) ≠ 0; decide) h14 k, Sl.new (by show (3 : Nat) ≠ 0; decide) h15 k, Sl.new (by show (3 : Nat) ≠ 0; decide) h17 k, hk⟩
structure MsgD where
  Kind : Int
  From : Int
  To : Int
  Term : Int
  Index : Int
  LogTerm : Int
  Commit : Int
  Round : Int
  Ok : Bool
  Entries : List EntryD
  Members : List Int
  Snap : ByteArray
deriving Inhabited
def MsgD.InR (x : MsgD) : Prop := inK .u8 x.Kind ∧ inK .i64 x.From ∧ inK .i64 x.To ∧ inK .u64 x.Term ∧ inK .u64 x.Index ∧ inK .u64 x.LogTerm ∧ inK .u64 x.Commit ∧ inK .u64 x.Round ∧ x.Snap.size ≤ maxLen
def msgR : Rep MsgD where
  sz := 12
  rd := fun X w cs x => ∃ v9 v10, cs = [.int .u8 (x.Kind), .int .i64 (x.From), .int .i64 (x.To), .int .u64 (x.Term), .int .u64 (x.Index), .int .u64 (x.LogTerm), .int .u64 (x.Commit), .int .u64 (x.Round), .bool (x.Ok), v9, v10, .string (x.Snap)] ∧ Sl entryR X w v9 x.Entries ∧ Sl (intR .i64) X w v10 x.Members ∧ x.InR
  len := by rintro _ _ _ _ ⟨v9, v10, rfl, h9, h10, hk⟩; rfl
  one := by
    rintro _ _ _ _ ⟨v9, v10, rfl, h9, h10, hk⟩ u hu
    simp only [List.mem_cons, List.not_mem_nil, or_false] at hu
    rcases hu with rfl | rfl | rfl | rfl | rfl | rfl | rfl | rfl | rfl | rfl | rfl | rfl <;> first | rfl | exact Sl.one (by assumption)
  ext := fun ⟨v9, v10, h, h9, h10, hk⟩ k => ⟨v9, v10, h, h9.ext k, h10.ext k, hk⟩
  mono := fun ⟨v9, v10, h, h9, h10, hk⟩ k => ⟨v9, v10, h, h9.mono k, h10.mono k, hk⟩
  new := fun ⟨v9, v10, h, h9, h10, hk⟩ k => ⟨v9, v10, h, Sl.new (by show (4 : Nat) ≠ 0; decide) h9 k, Sl.new (by show (1 : Nat) ≠ 0; decide) h10 k, hk⟩
def idB (n : Int) : Bool := decide (n ≥ 1) && decide (n ≤ 64)
def okAt (xs : List Int) (i : Nat) : Bool := idB (xs.getD i 0) && (decide (i = 0) || decide (xs.getD (i - 1) 0 < xs.getD i 0))
def idsB (xs : List Int) : Bool := allB xs.length (okAt xs)
def membersB (xs : List Int) : Bool := decide ((xs.length : Int) > 0) && idsB xs
def ieq (a b : Int) : Bool := decide (a = b)
/-- two lists, element by element -/
def eqB {α : Type} [Inhabited α] (f : α → α → Bool) (xs ys : List α) : Bool := decide (xs.length = ys.length) && allB xs.length fun i => f (xs.getD i default) (ys.getD i default)
theorem eqB_len {α : Type} [Inhabited α] {f : α → α → Bool} {xs ys : List α} (h : xs.length ≠ ys.length) : eqB f xs ys = false := by simp [eqB, h]
theorem eqB_true {α : Type} [Inhabited α] {f : α → α → Bool} {xs ys : List α} {k : Nat} (h : xs.length = ys.length) (hk : ∀ j, j < k → (fun i => f (xs.getD i default) (ys.getD i default)) j = true) (hn : xs.length ≤ k) : eqB f xs ys = true := by
  simp only [eqB, h, decide_true, Bool.true_and]; rw [← h]; exact allB_true hk hn
theorem eqB_false {α : Type} [Inhabited α] {f : α → α → Bool} {xs ys : List α} {k : Nat} (h : xs.length = ys.length) (hk : k < xs.length) (hf : f (xs.getD k default) (ys.getD k default) = false) : eqB f xs ys = false := by
  simp only [eqB, h, decide_true, Bool.true_and]; rw [← h]; exact allB_false hk hf
def hasB (xs : List Int) (n : Int) : Bool := xs.any (ieq · n)
theorem hasB_false {xs : List Int} {n : Int} {k : Nat} (h : ∀ j, j < k → (fun i => !ieq (xs.getD i 0) n) j = true) (hk : xs.length ≤ k) : hasB xs n = false := by
  simp only [hasB, List.any_eq_false]
  intro x hx
  obtain ⟨i, hi, rfl⟩ := List.mem_iff_getElem.1 hx
  have := h i (by omega)
  simpa [List.getD_eq_getElem?_getD, List.getElem?_eq_getElem hi] using this
theorem hasB_true {xs : List Int} {n : Int} {k : Nat} (hk : k < xs.length) (h : ieq (xs.getD k 0) n = true) : hasB xs n = true := by
  simp only [hasB, List.any_eq_true]
  exact ⟨xs[k], List.getElem_mem hk, by simpa [List.getD_eq_getElem?_getD, List.getElem?_eq_getElem hk] using h⟩
def othersOf (p : PeerD) : List Int := p.Members.filter (fun n => !ieq n p.Id)
theorem filter_take {α : Type} [Inhabited α] {f : α → Bool} {xs : List α} {k : Nat} (h : k < xs.length) : (xs.take (k + 1)).filter f = (xs.take k).filter f ++ (if f (xs.getD k default) then [xs.getD k default] else []) := by
  rw [List.take_add_one, List.filter_append, List.getElem?_eq_getElem h]
  simp [List.getD_eq_getElem?_getD, List.getElem?_eq_getElem h, List.filter_cons]
theorem filter_take_le {α : Type} (f : α → Bool) (xs : List α) (k : Nat) : ((xs.take k).filter f).length ≤ k := by
  have := List.length_filter_le f (xs.take k)
  rw [List.length_take] at this; omega
def lastI (p : PeerD) : Int := p.Base + (p.Log.length : Int)
def lastT (p : PeerD) : Int := if p.Log.length = 0 then p.BaseTerm else (p.Log.getD (p.Log.length - 1) default).Term
def termIs (p : PeerD) (i : Int) : Bool := decide (p.Base ≤ i) && decide (i ≤ lastI p)
def termOf (p : PeerD) (i : Int) : Int := if i = p.Base then p.BaseTerm else if termIs p i = true then (p.Log.getD (i - p.Base - 1).toNat default).Term else 0
theorem termIs_in {p : PeerD} {i : Int} (h1 : p.Base ≤ i) (h2 : i ≤ lastI p) : termIs p i = true := by simp [termIs, h1, h2]
theorem termIs_out {p : PeerD} {i : Int} (h : i < p.Base ∨ lastI p < i) : termIs p i = false := by
  simp only [termIs, Bool.and_eq_false_iff, decide_eq_false_iff_not]; omega
theorem termOf_at {p : PeerD} {i : Int} (h : i = p.Base) : termOf p i = p.BaseTerm := by simp [termOf, h]
theorem termOf_in {p : PeerD} {i : Int} (h1 : p.Base < i) (h2 : i ≤ lastI p) : termOf p i = (p.Log.getD (i - p.Base - 1).toNat default).Term := by
  rw [termOf, if_neg (by omega), if_pos (termIs_in (by omega) h2)]
theorem termOf_out {p : PeerD} {i : Int} (h : i < p.Base ∨ lastI p < i) : termOf p i = 0 := by
  have hl : lastI p = p.Base + (p.Log.length : Int) := rfl
  rw [termOf, if_neg (by omega), if_neg (by rw [termIs_out h]; decide)]
def emptyB (s : ByteArray) : Bool := seqB s (ByteArray.mk #[])
def kindOk (e : EntryD) : Bool := (decide (e.Kind = 0) && decide (e.Members.length = 0)) || (decide (e.Kind = 1) && seqB e.Data (ByteArray.mk #[]) && decide (e.Members.length = 0)) || (decide (e.Kind = 2) && seqB e.Data (ByteArray.mk #[]) && membersB e.Members)
def entOk (f : Int) (e : EntryD) (t : Int) : Bool := decide (1 ≤ e.Term) && decide (f ≤ e.Term) && decide (e.Term ≤ t) && kindOk e
def prevT (l : List EntryD) (f : Int) (k : Nat) : Int := if k = 0 then f else (l.getD (k - 1) default).Term
def vprevT (l : List EntryD) (f : Int) (k : Nat) : Int := if k = 0 then max f 1 else (l.getD (k - 1) default).Term
def entsB (l : List EntryD) (f t : Int) : Bool := allB l.length fun i => entOk (prevT l f i) (l.getD i default) t
def ventsB (l : List EntryD) (f t : Int) : Bool := allB l.length fun i => entOk (vprevT l f i) (l.getD i default) t
theorem vprevT_pos {l : List EntryD} {f t : Int} {k : Nat} (h : ∀ j, j < k → (fun i => entOk (vprevT l f i) (l.getD i default) t) j = true) : 1 ≤ vprevT l f k := by
  unfold vprevT
  split
  · omega
  · have := h (k - 1) (by omega)
    simp only [entOk, Bool.and_eq_true, decide_eq_true_eq] at this
    exact this.1.1.1
theorem vents_eq (l : List EntryD) (f t : Int) : ventsB l f t = entsB l f t := by
  have h : ∀ i, entOk (vprevT l f i) (l.getD i default) t = entOk (prevT l f i) (l.getD i default) t := by
    intro i
    unfold vprevT prevT
    split
    · simp only [entOk]
      cases hk : kindOk (l.getD i default)
      · simp
      · rw [Bool.eq_iff_iff]; simp only [Bool.and_true, Bool.and_eq_true, decide_eq_true_eq]; omega
    · rfl
  simp only [ventsB, entsB, h]
def readOk (p : PeerD) (i : Nat) : Bool := decide ((p.Reads.getD i default).Round ≤ p.Round) && decide ((p.Reads.getD i default).Index ≤ p.Commit) && idsB (p.Reads.getD i default).Acks && (decide (i = 0) || decide ((p.Reads.getD (i - 1) default).Round < (p.Reads.getD i default).Round))
def readsB (p : PeerD) : Bool := allB p.Reads.length (readOk p)
/-- how many of the first k members are others -/
def cnt (p : PeerD) (k : Nat) : Nat := ((p.Members.take k).filter (fun n => !ieq n p.Id)).length
def fOk (last : Int) (f : FollowD) : Bool := decide (1 ≤ f.Next) && decide (f.Next ≤ last + 1) && decide (f.Match < f.Next)
def fOkAt (p : PeerD) (last : Int) (j : Nat) : Bool := fOk last (p.Follows.getD j default) && ieq (p.Follows.getD j default).Id ((othersOf p).getD j 0)
def followsB (p : PeerD) (last : Int) : Bool := decide ((othersOf p).length = p.Follows.length) && allB p.Follows.length (fOkAt p last)
theorem cnt_step {p : PeerD} {k : Nat} (hk : k < p.Members.length) : cnt p (k + 1) = cnt p k + (if ieq (p.Members.getD k 0) p.Id then 0 else 1) := by
  unfold cnt
  rw [filter_take hk, List.length_append]
  show _ + (if (!ieq (p.Members.getD k 0) p.Id) = true then [p.Members.getD k 0] else []).length = _
  cases ieq (p.Members.getD k 0) p.Id <;> simp
theorem cnt_skip {p : PeerD} {k : Nat} (hk : k < p.Members.length) (h : p.Members.getD k 0 = p.Id) : cnt p (k + 1) = cnt p k := by
  rw [cnt_step hk, if_pos (by simp only [ieq, h, decide_true])]; rfl
theorem cnt_go {p : PeerD} {k : Nat} (hk : k < p.Members.length) (h : p.Members.getD k 0 ≠ p.Id) : cnt p (k + 1) = cnt p k + 1 := by
  rw [cnt_step hk, if_neg (by simp only [ieq, h, decide_false]; decide)]
theorem others_split (p : PeerD) (k : Nat) : othersOf p = (p.Members.take k).filter (fun n => !ieq n p.Id) ++ (p.Members.drop k).filter (fun n => !ieq n p.Id) := by
  rw [← List.filter_append, List.take_append_drop]; rfl
theorem cnt_le (p : PeerD) (k : Nat) : cnt p k ≤ (othersOf p).length := by
  rw [others_split p k, List.length_append]; exact Nat.le_add_right _ _
theorem others_at {p : PeerD} {k : Nat} (hk : k < p.Members.length) (h : p.Members.getD k 0 ≠ p.Id) : (othersOf p).getD (cnt p k) 0 = p.Members.getD k 0 := by
  have e : p.Members.getD k 0 = p.Members[k] := by simp [List.getD_eq_getElem?_getD, List.getElem?_eq_getElem hk]
  rw [others_split p k, List.drop_eq_getElem_cons hk, List.filter_cons_of_pos (by rw [← e]; simp only [ieq, h, decide_false]; rfl), List.getD_eq_getElem?_getD]
  unfold cnt
  rw [List.getElem?_append_right (Nat.le_refl _), Nat.sub_self]
  simp [← e]
theorem cnt_all {p : PeerD} {k : Nat} (hk : p.Members.length ≤ k) : cnt p k = (othersOf p).length := by
  unfold cnt; rw [List.take_of_length_le hk]; rfl
theorem followsB_short {p : PeerD} {last : Int} {k : Nat} (hk : k < p.Members.length) (h : p.Members.getD k 0 ≠ p.Id) (hc : p.Follows.length ≤ cnt p k) : followsB p last = false := by
  have h1 := cnt_go hk h
  have h2 := cnt_le p (k + 1)
  simp only [followsB, Bool.and_eq_false_iff, decide_eq_false_iff_not]; left; omega
theorem followsB_bad {p : PeerD} {last : Int} {j : Nat} (hj : j < p.Follows.length) (h : fOkAt p last j = false) : followsB p last = false := by
  rw [followsB, allB_false hj h, Bool.and_false]
theorem followsB_end {p : PeerD} {last : Int} {k : Nat} (hk : p.Members.length ≤ k) (h : ∀ j, j < cnt p k → fOkAt p last j = true) (hc : cnt p k ≤ p.Follows.length) : followsB p last = decide ((cnt p k : Int) = (p.Follows.length : Int)) := by
  rw [followsB, ← cnt_all hk]
  by_cases he : cnt p k = p.Follows.length
  · rw [allB_true h (by omega)]; simp [he]
  · have : ¬ ((cnt p k : Int) = (p.Follows.length : Int)) := by omega
    simp [he, this]
theorem fOkAt_go {p : PeerD} {last : Int} {k : Nat} {b : Bool} (hk : k < p.Members.length) (h : p.Members.getD k 0 ≠ p.Id) (hb : (fOk last (p.Follows.getD (cnt p k) default) && ieq (p.Follows.getD (cnt p k) default).Id (p.Members.getD k 0)) = b) : fOkAt p last (cnt p k) = b := by
  rw [fOkAt, others_at hk h]; exact hb
theorem upto_succ {f : Nat → Bool} {n m : Nat} (h : ∀ j, j < n → f j = true) (hm : m = n + 1) (hn : f n = true) : ∀ j, j < m → f j = true := by
  intro j hj
  rcases Nat.lt_or_ge j n with h1 | h1
  · exact h j h1
  · have : j = n := by omega
    subst this; exact hn
def sameReadB (a b : ReadD) : Bool := decide (a.Round = b.Round) && decide (a.Index = b.Index) && eqB ieq a.Acks b.Acks
def sameEntB (a b : EntryD) : Bool := decide (a.Term = b.Term) && decide (a.Kind = b.Kind) && seqB a.Data b.Data && eqB ieq a.Members b.Members
def sameFolB (a b : FollowD) : Bool := (decide (a.Id = b.Id) && (decide (a.Next = b.Next) && (decide (a.Match = b.Match) && true)))
def sameMsgB (a b : MsgD) : Bool := decide (a.Kind = b.Kind) && decide (a.From = b.From) && decide (a.To = b.To) && decide (a.Term = b.Term) && decide (a.Index = b.Index) && decide (a.LogTerm = b.LogTerm) && decide (a.Commit = b.Commit) && decide (a.Round = b.Round) && (a.Ok == b.Ok) && eqB sameEntB a.Entries b.Entries && eqB ieq a.Members b.Members && seqB a.Snap b.Snap
def samePeerB (a b : PeerD) : Bool := decide (a.Id = b.Id) && eqB ieq a.Members b.Members && decide (a.Term = b.Term) && decide (a.Vote = b.Vote) && decide (a.Role = b.Role) && decide (a.Lead = b.Lead) && decide (a.Base = b.Base) && decide (a.BaseTerm = b.BaseTerm) && eqB ieq a.BaseMembers b.BaseMembers && seqB a.Snap b.Snap && eqB sameEntB a.Log b.Log && decide (a.Commit = b.Commit) && decide (a.Idle = b.Idle) && decide (a.Wait = b.Wait) && eqB ieq a.Votes b.Votes && eqB sameFolB a.Follows b.Follows && decide (a.Round = b.Round) && eqB sameReadB a.Reads b.Reads
def idxD (xs : List Int) (n : Int) : Int := if hasB xs n = true then ((xs.findIdx (ieq · n) : Nat) : Int) else -1
theorem idxD_none {xs : List Int} {n : Int} {k : Nat} (h : ∀ j, j < k → (fun i => !ieq (xs.getD i 0) n) j = true) (hk : xs.length ≤ k) : idxD xs n = -1 := by
  rw [idxD, hasB_false h hk]; rfl
theorem idxD_at {xs : List Int} {n : Int} {k : Nat} (hk : k < xs.length) (h : ∀ j, j < k → (fun i => !ieq (xs.getD i 0) n) j = true) (he : ieq (xs.getD k 0) n = true) : idxD xs n = (k : Int) := by
  rw [idxD, if_pos (hasB_true hk he), (List.findIdx_eq hk).2]
  constructor
  · simpa [List.getD_eq_getElem?_getD, List.getElem?_eq_getElem hk] using he
  · intro j hj
    have := h j hj
    have hj' : j < xs.length := by omega
    simpa [List.getD_eq_getElem?_getD, List.getElem?_eq_getElem hj'] using this
theorem idxD_has (xs : List Int) (n : Int) : decide (idxD xs n ≥ 0) = hasB xs n := by
  unfold idxD
  cases hasB xs n <;> simp
def cntIn (ids xs : List Int) (k : Nat) : Nat := ((xs.take k).filter (hasB ids)).length
def majB (xs ids : List Int) : Bool := decide (2 * (cntIn ids xs xs.length : Int) > (xs.length : Int))
theorem cntIn_le (ids xs : List Int) (k : Nat) : cntIn ids xs k ≤ k := filter_take_le _ _ _
theorem cntIn_go {ids xs : List Int} {k : Nat} (hk : k < xs.length) (h : hasB ids (xs.getD k 0) = true) : cntIn ids xs (k + 1) = cntIn ids xs k + 1 := by
  unfold cntIn; rw [filter_take hk]
  show (_ ++ (if hasB ids (xs.getD k 0) = true then [xs.getD k 0] else [])).length = _
  rw [h]; simp
theorem cntIn_skip {ids xs : List Int} {k : Nat} (hk : k < xs.length) (h : hasB ids (xs.getD k 0) = false) : cntIn ids xs (k + 1) = cntIn ids xs k := by
  unfold cntIn; rw [filter_take hk]
  show (_ ++ (if hasB ids (xs.getD k 0) = true then [xs.getD k 0] else [])).length = _
  rw [h]; simp
def memUpto (p : PeerD) : Nat → List Int
  | 0 => p.BaseMembers
  | k + 1 => if (p.Log.getD k default).Kind = 2 then (p.Log.getD k default).Members else memUpto p k
def membersOf (p : PeerD) (i : Int) : List Int := if termIs p i = true then memUpto p (i - p.Base).toNat else []
/-- all lists of a member are short enough to be copied -/
structure Fits (p : PeerD) : Prop where
  mem : p.Members.length ≤ 17592186044416
  base : p.BaseMembers.length ≤ 17592186044416
  votes : p.Votes.length ≤ 17592186044416
  log : p.Log.length ≤ 1099511627776
  follows : p.Follows.length ≤ 1099511627776
  reads : p.Reads.length ≤ 1099511627776
  ents : ∀ k, k < p.Log.length → (p.Log.getD k default).Members.length ≤ 17592186044416
  acks : ∀ k, k < p.Reads.length → (p.Reads.getD k default).Acks.length ≤ 17592186044416
theorem Fits.upto {p : PeerD} (h : Fits p) : ∀ k, k ≤ p.Log.length → (memUpto p k).length ≤ 17592186044416
  | 0, _ => h.base
  | k + 1, hk => by
    unfold memUpto
    split
    · exact h.ents k (by omega)
    · exact h.upto k (by omega)
theorem membersOf_in {p : PeerD} {i : Int} (h : p.Base ≤ i ∧ i ≤ lastI p) : membersOf p i = memUpto p (i - p.Base).toNat := by rw [membersOf, if_pos (termIs_in h.1 h.2)]
theorem membersOf_out {p : PeerD} {i : Int} (h : i < p.Base ∨ lastI p < i) : membersOf p i = [] := by rw [membersOf, if_neg (by rw [termIs_out h]; decide)]
theorem memUpto_hit {p : PeerD} {k : Nat} (h : (p.Log.getD k default).Kind = 2) : (p.Log.getD k default).Members = memUpto p (k + 1) := by rw [memUpto, if_pos h]
theorem memUpto_miss {p : PeerD} {k : Nat} (h : ¬ (p.Log.getD k default).Kind = 2) : memUpto p k = memUpto p (k + 1) := by rw [memUpto, if_neg h]
def hdB (m : MsgD) : Bool := idB m.From && idB m.To && decide (m.From ≠ m.To) && decide (m.Term > 0) && decide (m.Term ≤ 4611686018427387904) && decide (m.Round ≤ 4611686018427387904) && decide (m.Index ≤ 4611686018427387904) && decide (m.LogTerm ≤ m.Term)
def eqzB (m : MsgD) : Bool := decide (m.Index = 0) == decide (m.LogTerm = 0)
def layB (m : MsgD) : Bool := decide ((m.Entries.length : Int) ≤ 16) && entsB m.Entries m.LogTerm m.Term && eqzB m && sameMsgB ({ Kind := 0, From := 0, To := 0, Term := 0, Index := 0, LogTerm := 0, Commit := 0, Round := 0, Ok := m.Ok, Entries := [], Members := m.Members, Snap := m.Snap } : MsgD) ({ Kind := 0, From := 0, To := 0, Term := 0, Index := 0, LogTerm := 0, Commit := 0, Round := 0, Ok := false, Entries := [], Members := [], Snap := ByteArray.mk #[] } : MsgD)
def askB (m : MsgD) : Bool := eqzB m && sameMsgB ({ Kind := 0, From := 0, To := 0, Term := 0, Index := 0, LogTerm := 0, Commit := m.Commit, Round := m.Round, Ok := m.Ok, Entries := m.Entries, Members := m.Members, Snap := m.Snap } : MsgD) ({ Kind := 0, From := 0, To := 0, Term := 0, Index := 0, LogTerm := 0, Commit := 0, Round := 0, Ok := false, Entries := [], Members := [], Snap := ByteArray.mk #[] } : MsgD)
def heardB (m : MsgD) : Bool := sameMsgB ({ Kind := 0, From := 0, To := 0, Term := 0, Index := 0, LogTerm := m.LogTerm, Commit := m.Commit, Round := 0, Ok := false, Entries := m.Entries, Members := m.Members, Snap := m.Snap } : MsgD) ({ Kind := 0, From := 0, To := 0, Term := 0, Index := 0, LogTerm := 0, Commit := 0, Round := 0, Ok := false, Entries := [], Members := [], Snap := ByteArray.mk #[] } : MsgD)
def toldB (m : MsgD) : Bool := sameMsgB ({ Kind := 0, From := 0, To := 0, Term := 0, Index := m.Index, LogTerm := m.LogTerm, Commit := m.Commit, Round := m.Round, Ok := false, Entries := m.Entries, Members := m.Members, Snap := m.Snap } : MsgD) ({ Kind := 0, From := 0, To := 0, Term := 0, Index := 0, LogTerm := 0, Commit := 0, Round := 0, Ok := false, Entries := [], Members := [], Snap := ByteArray.mk #[] } : MsgD)
def installB (m : MsgD) : Bool := decide (m.Index > 0) && decide (m.LogTerm > 0) && membersB m.Members && sameMsgB ({ Kind := 0, From := 0, To := 0, Term := 0, Index := 0, LogTerm := 0, Commit := m.Commit, Round := 0, Ok := m.Ok, Entries := m.Entries, Members := [], Snap := ByteArray.mk #[] } : MsgD) ({ Kind := 0, From := 0, To := 0, Term := 0, Index := 0, LogTerm := 0, Commit := 0, Round := 0, Ok := false, Entries := [], Members := [], Snap := ByteArray.mk #[] } : MsgD)
def mayMsgB (m : MsgD) : Bool := hdB m && ((decide (m.Kind = 3) && layB m) || (decide (m.Kind = 1) && askB m) || (decide (m.Kind = 4) && heardB m) || (decide (m.Kind = 2) && toldB m) || (decide (m.Kind = 5) && installB m))
def tailB (m : MsgD) : Bool := decide ((m.Entries.length : Int) ≤ 16) && entsB m.Entries m.LogTerm m.Term
def refMayMsgB (m : MsgD) : Bool := hdB m && ((decide (m.Kind = 1) && sameMsgB ({ Kind := m.Kind, From := m.From, To := m.To, Term := m.Term, Index := m.Index, LogTerm := m.LogTerm, Commit := 0, Round := 0, Ok := false, Entries := [], Members := [], Snap := ByteArray.mk #[] } : MsgD) m && eqzB m && tailB m) || (decide (m.Kind = 2) && sameMsgB ({ Kind := m.Kind, From := m.From, To := m.To, Term := m.Term, Index := 0, LogTerm := 0, Commit := 0, Round := 0, Ok := m.Ok, Entries := [], Members := [], Snap := ByteArray.mk #[] } : MsgD) m && tailB m) || (decide (m.Kind = 3) && sameMsgB ({ Kind := m.Kind, From := m.From, To := m.To, Term := m.Term, Index := m.Index, LogTerm := m.LogTerm, Commit := m.Commit, Round := m.Round, Ok := false, Entries := m.Entries, Members := [], Snap := ByteArray.mk #[] } : MsgD) m && eqzB m && tailB m) || (decide (m.Kind = 4) && sameMsgB ({ Kind := m.Kind, From := m.From, To := m.To, Term := m.Term, Index := m.Index, LogTerm := 0, Commit := 0, Round := m.Round, Ok := m.Ok, Entries := [], Members := [], Snap := ByteArray.mk #[] } : MsgD) m && tailB m) || (decide (m.Kind = 5) && sameMsgB ({ Kind := m.Kind, From := m.From, To := m.To, Term := m.Term, Index := m.Index, LogTerm := m.LogTerm, Commit := 0, Round := m.Round, Ok := false, Entries := [], Members := m.Members, Snap := m.Snap } : MsgD) m && decide (m.Index > 0) && decide (m.LogTerm > 0) && membersB m.Members))
theorem seqB_comm (a b : ByteArray) : seqB a b = seqB b a := by simp only [seqB, Bool.beq_comm]
theorem seqB_refl (a : ByteArray) : seqB a a = true := by simp [seqB]
theorem eqB_nil {α : Type} [Inhabited α] (f : α → α → Bool) (xs : List α) : eqB f xs [] = decide (xs.length = 0) := by
  cases xs <;> simp [eqB, allB]
theorem nil_eqB {α : Type} [Inhabited α] (f : α → α → Bool) (xs : List α) : eqB f [] xs = decide (xs.length = 0) := by
  cases xs <;> simp [eqB, allB]
theorem eqB_refl {α : Type} [Inhabited α] {f : α → α → Bool} (h : ∀ a, f a a = true) (xs : List α) : eqB f xs xs = true := by
  simp only [eqB, decide_true, Bool.true_and]
  exact allB_iff.2 fun j _ => h _
theorem ieq_refl (a : Int) : ieq a a = true := by simp [ieq]
theorem sameEntB_refl (a : EntryD) : sameEntB a a = true := by simp [sameEntB, seqB_refl, eqB_refl ieq_refl]
theorem sameMsgB_refl (a : MsgD) : sameMsgB a a = true := by simp [sameMsgB, seqB_refl, eqB_refl ieq_refl, eqB_refl sameEntB_refl]
theorem ents_none {l : List EntryD} (h : l.length = 0) (f t : Int) : entsB l f t = true := by rw [entsB, h]; rfl
theorem refMay_eq (m : MsgD) (hm : m.InR) : refMayMsgB m = mayMsgB m := by
  have hn : 0 ≤ m.Index ∧ 0 ≤ m.LogTerm := ⟨(inK_u64 hm.2.2.2.2.1).1, (inK_u64 hm.2.2.2.2.2.1).1⟩
  have z : ∀ {a : Int}, decide (0 = a) = decide (a = 0) := fun {a} => by by_cases h : a = 0 <;> simp [h, eq_comm]
  have zb : (false == m.Ok) = (m.Ok == false) := by cases m.Ok <;> rfl
  have zs : seqB (ByteArray.mk #[]) m.Snap = seqB m.Snap (ByteArray.mk #[]) := seqB_comm _ _
  have zl : ((m.Entries.length : Int) ≤ 16) = (m.Entries.length ≤ 16) := by simp only [eq_iff_iff]; omega
  unfold refMayMsgB mayMsgB
  congr 1
  simp only [layB, askB, heardB, toldB, installB, tailB, eqzB, sameMsgB, eqB_nil, nil_eqB, eqB_refl ieq_refl, eqB_refl sameEntB_refl, seqB_refl, decide_true, Bool.true_and, Bool.and_true, BEq.rfl, z, zb, zs, zl, List.length_nil]
  by_cases h1 : m.Kind = 1
  · simp only [h1, decide_true, decide_false, Int.reduceEq, Bool.true_and, Bool.false_and, Bool.or_false, Bool.false_or]
    by_cases he : m.Entries.length = 0
    · simp only [ents_none he, he]
      ac_rfl
    · simp [he]
  by_cases h2 : m.Kind = 2
  · simp only [h2, decide_true, decide_false, Int.reduceEq, Bool.true_and, Bool.false_and, Bool.or_false, Bool.false_or]
    by_cases he : m.Entries.length = 0
    · simp [ents_none he, he]
    · simp [he]
  by_cases h3 : m.Kind = 3
  · simp only [h3, decide_true, decide_false, Int.reduceEq, Bool.true_and, Bool.false_and, Bool.or_false, Bool.false_or]
    ac_rfl
  by_cases h4 : m.Kind = 4
  · simp only [h4, decide_true, decide_false, Int.reduceEq, Bool.true_and, Bool.false_and, Bool.or_false, Bool.false_or]
    by_cases he : m.Entries.length = 0
    · simp [ents_none he, he]
    · simp [he]
  by_cases h5 : m.Kind = 5
  · simp only [h5, decide_true, decide_false, Int.reduceEq, Bool.true_and, Bool.false_and, Bool.or_false, Bool.false_or]
    ac_rfl
  simp [h1, h2, h3, h4, h5]
theorem take_step {α : Type} [Inhabited α] {l : List α} {k : Nat} (h : k < l.length) : l.take k ++ [l.getD k default] = l.take (k + 1) := by
  rw [List.take_add_one, List.getElem?_eq_getElem h]
  simp [List.getD_eq_getElem?_getD, List.getElem?_eq_getElem h]
theorem castRd {α : Type} {R : Rep α} {X : List Nat} {w : World} {cs : List Value} {x y : α} (e : x = y) (h : R.rd X w cs x) : R.rd X w cs y := e ▸ h
def smallB (p : PeerD) : Bool := decide ((p.Log.length : Int) ≤ 60) && decide ((p.Follows.length : Int) ≤ 64) && decide ((p.Reads.length : Int) ≤ 60)

theorem u22 : Try.prog.underlying 22 = some (.slice 3) := by kernel_rfl
theorem s3 : Sized Try.prog 3 1 := by unfold Sized; kernel_rfl
theorem p3 : Plain Try.prog 3 := ⟨.int .i64, by kernel_rfl, by intros; simp, by intros; simp⟩
theorem cl29 : Callable Try.prog 29 := ⟨Try.f29, Try.func29, by kernel_rfl, rfl⟩
theorem cl35 : Callable Try.prog 35 := ⟨Try.f35, Try.func35, by kernel_rfl, rfl⟩
theorem mo : Try.prog.follows .mixedOrders = true := by kernel_rfl
theorem e3 : Elem Try.prog 3 (.int .i64 (0)) 1 8 := by unfold Elem; kernel_rfl
theorem fl30_10 : FieldOf Try.prog 30 10 26 10 1 := fld (by kernel_rfl)
theorem p26 : Plain Try.prog 26 := ⟨.slice 61, by kernel_rfl, by intros; simp, by intros; simp⟩
theorem u26 : Try.prog.underlying 26 = some (.slice 61) := by kernel_rfl
theorem fl30_6 : FieldOf Try.prog 30 6 24 6 1 := fld (by kernel_rfl)
theorem p24 : Plain Try.prog 24 := ⟨.int .u64, by kernel_rfl, by intros; simp, by intros; simp⟩
theorem u3 : Try.prog.underlying 3 = some (.int .i64) := by kernel_rfl
theorem u24 : Try.prog.underlying 24 = some (.int .u64) := by kernel_rfl
theorem s61 : Sized Try.prog 61 4 := by unfold Sized; kernel_rfl
theorem fl61_0 : FieldOf Try.prog 61 0 24 0 1 := fld (by kernel_rfl)
theorem fl30_7 : FieldOf Try.prog 30 7 24 7 1 := fld (by kernel_rfl)
theorem s30 : Sized Try.prog 30 18 := by unfold Sized; kernel_rfl
theorem a30 : Aggr Try.prog 30 18 := ⟨⟨_, by kernel_rfl, .inl ⟨structFields Try.prog 30, rfl⟩⟩, s30⟩
theorem cl32 : Callable Try.prog 32 := ⟨Try.f32, Try.func32, by kernel_rfl, rfl⟩
theorem a61 : Aggr Try.prog 61 4 := ⟨⟨_, by kernel_rfl, .inl ⟨structFields Try.prog 61, rfl⟩⟩, s61⟩
theorem z61 : W.Zero Try.prog 61 (.agg #[.int .u64 (0), .int .u8 (0), .string (ByteArray.mk #[]), .slice none 0 0]) := by unfold W.Zero; kernel_rfl
theorem fl61_1 : FieldOf Try.prog 61 1 59 1 1 := fld (by kernel_rfl)
theorem p59 : Plain Try.prog 59 := ⟨.int .u8, by kernel_rfl, by intros; simp, by intros; simp⟩
theorem fl61_3 : FieldOf Try.prog 61 3 22 3 1 := fld (by kernel_rfl)
theorem p22 : Plain Try.prog 22 := ⟨.slice 3, by kernel_rfl, by intros; simp, by intros; simp⟩
theorem fl61_2 : FieldOf Try.prog 61 2 9 2 1 := fld (by kernel_rfl)
theorem p9 : Plain Try.prog 9 := ⟨.string, by kernel_rfl, by intros; simp, by intros; simp⟩
theorem cl30 : Callable Try.prog 30 := ⟨Try.f30, Try.func30, by kernel_rfl, rfl⟩
theorem fl30_17 : FieldOf Try.prog 30 17 28 17 1 := fld (by kernel_rfl)
theorem p28 : Plain Try.prog 28 := ⟨.slice 80, by kernel_rfl, by intros; simp, by intros; simp⟩
theorem u28 : Try.prog.underlying 28 = some (.slice 80) := by kernel_rfl
theorem s80 : Sized Try.prog 80 3 := by unfold Sized; kernel_rfl
theorem a80 : Aggr Try.prog 80 3 := ⟨⟨_, by kernel_rfl, .inl ⟨structFields Try.prog 80, rfl⟩⟩, s80⟩
theorem z80 : W.Zero Try.prog 80 (.agg #[.int .u64 (0), .int .u64 (0), .slice none 0 0]) := by unfold W.Zero; kernel_rfl
theorem fl80_0 : FieldOf Try.prog 80 0 24 0 1 := fld (by kernel_rfl)
theorem fl30_16 : FieldOf Try.prog 30 16 24 16 1 := fld (by kernel_rfl)
theorem fl80_1 : FieldOf Try.prog 80 1 24 1 1 := fld (by kernel_rfl)
theorem fl30_11 : FieldOf Try.prog 30 11 24 11 1 := fld (by kernel_rfl)
theorem fl80_2 : FieldOf Try.prog 80 2 22 2 1 := fld (by kernel_rfl)
theorem cl38 : Callable Try.prog 38 := ⟨Try.f38, Try.func38, by kernel_rfl, rfl⟩
theorem cl14 : Callable Try.prog 14 := ⟨Try.f14, Try.func14, by kernel_rfl, rfl⟩
theorem u27 : Try.prog.underlying 27 = some (.slice 49) := by kernel_rfl
theorem e49 : Elem Try.prog 49 (.agg #[.int .i64 (0), .int .u64 (0), .int .u64 (0)]) 3 24 := by unfold Elem; kernel_rfl
theorem e61 : Elem Try.prog 61 (.agg #[.int .u64 (0), .int .u8 (0), .string (ByteArray.mk #[]), .slice none 0 0]) 4 56 := by unfold Elem; kernel_rfl
theorem e80 : Elem Try.prog 80 (.agg #[.int .u64 (0), .int .u64 (0), .slice none 0 0]) 3 40 := by unfold Elem; kernel_rfl
theorem fl30_0 : FieldOf Try.prog 30 0 3 0 1 := fld (by kernel_rfl)
theorem cl54 : Callable Try.prog 54 := ⟨Try.f54, Try.func54, by kernel_rfl, rfl⟩
theorem cl59 : Callable Try.prog 59 := ⟨Try.f59, Try.func59, by kernel_rfl, rfl⟩
theorem fl30_1 : FieldOf Try.prog 30 1 22 1 1 := fld (by kernel_rfl)
theorem cl12 : Callable Try.prog 12 := ⟨Try.f12, Try.func12, by kernel_rfl, rfl⟩
theorem cl25 : Callable Try.prog 25 := ⟨Try.f25, Try.func25, by kernel_rfl, rfl⟩
theorem fl30_15 : FieldOf Try.prog 30 15 27 15 1 := fld (by kernel_rfl)
theorem p27 : Plain Try.prog 27 := ⟨.slice 49, by kernel_rfl, by intros; simp, by intros; simp⟩
theorem s49 : Sized Try.prog 49 3 := by unfold Sized; kernel_rfl
theorem a49 : Aggr Try.prog 49 3 := ⟨⟨_, by kernel_rfl, .inl ⟨structFields Try.prog 49, rfl⟩⟩, s49⟩
theorem z49 : W.Zero Try.prog 49 (.agg #[.int .i64 (0), .int .u64 (0), .int .u64 (0)]) := by unfold W.Zero; kernel_rfl
theorem fl49_1 : FieldOf Try.prog 49 1 24 1 1 := fld (by kernel_rfl)
theorem fl49_2 : FieldOf Try.prog 49 2 24 2 1 := fld (by kernel_rfl)
theorem fl49_0 : FieldOf Try.prog 49 0 3 0 1 := fld (by kernel_rfl)
theorem cl40 : Callable Try.prog 40 := ⟨Try.f40, Try.func40, by kernel_rfl, rfl⟩
theorem cl33 : Callable Try.prog 33 := ⟨Try.f33, Try.func33, by kernel_rfl, rfl⟩
theorem cl64 : Callable Try.prog 64 := ⟨Try.f64, Try.func64, by kernel_rfl, rfl⟩
theorem s22 : Sized Try.prog 22 1 := by unfold Sized; kernel_rfl
theorem cl44 : Callable Try.prog 44 := ⟨Try.f44, Try.func44, by kernel_rfl, rfl⟩
theorem fl30_8 : FieldOf Try.prog 30 8 22 8 1 := fld (by kernel_rfl)
theorem z22 : W.Zero Try.prog 22 (.slice none 0 0) := by unfold W.Zero; kernel_rfl
theorem cl56 : Callable Try.prog 56 := ⟨Try.f56, Try.func56, by kernel_rfl, rfl⟩
theorem cl57 : Callable Try.prog 57 := ⟨Try.f57, Try.func57, by kernel_rfl, rfl⟩
theorem fl30_13 : FieldOf Try.prog 30 13 3 13 1 := fld (by kernel_rfl)
theorem fl30_12 : FieldOf Try.prog 30 12 3 12 1 := fld (by kernel_rfl)
theorem fl30_2 : FieldOf Try.prog 30 2 24 2 1 := fld (by kernel_rfl)
theorem fl30_3 : FieldOf Try.prog 30 3 3 3 1 := fld (by kernel_rfl)
theorem fl30_5 : FieldOf Try.prog 30 5 3 5 1 := fld (by kernel_rfl)
theorem u4 : Try.prog.underlying 4 = some (.bool) := by kernel_rfl
theorem fl30_9 : FieldOf Try.prog 30 9 9 9 1 := fld (by kernel_rfl)
theorem cl31 : Callable Try.prog 31 := ⟨Try.f31, Try.func31, by kernel_rfl, rfl⟩
theorem cl34 : Callable Try.prog 34 := ⟨Try.f34, Try.func34, by kernel_rfl, rfl⟩
theorem fl30_4 : FieldOf Try.prog 30 4 25 4 1 := fld (by kernel_rfl)
theorem p25 : Plain Try.prog 25 := ⟨.int .u8, by kernel_rfl, by intros; simp, by intros; simp⟩
theorem fl30_14 : FieldOf Try.prog 30 14 22 14 1 := fld (by kernel_rfl)
theorem cl36 : Callable Try.prog 36 := ⟨Try.f36, Try.func36, by kernel_rfl, rfl⟩
theorem cl37 : Callable Try.prog 37 := ⟨Try.f37, Try.func37, by kernel_rfl, rfl⟩
theorem cl13 : Callable Try.prog 13 := ⟨Try.f13, Try.func13, by kernel_rfl, rfl⟩
theorem z30 : W.Zero Try.prog 30 (.agg #[.int .i64 (0), .slice none 0 0, .int .u64 (0), .int .i64 (0), .int .u8 (0), .int .i64 (0), .int .u64 (0), .int .u64 (0), .slice none 0 0, .string (ByteArray.mk #[]), .slice none 0 0, .int .u64 (0), .int .i64 (0), .int .i64 (0), .slice none 0 0, .slice none 0 0, .int .u64 (0), .slice none 0 0]) := by unfold W.Zero; kernel_rfl
theorem bu30_6546b8e4 (x0 : Int) (x1 : Int) (x2 : Option Addr) (x3 : Nat) (x4 : Nat) (x5 : Option Addr) (x6 : Nat) (x7 : Nat) : Try.prog.built 30 [(0, .int .i64 x0), (13, .int .i64 x1), (1, .slice x2 x3 x4), (8, .slice x5 x6 x7)] = some #[.int .i64 x0, .slice x2 x3 x4, .int .u64 (0), .int .i64 (0), .int .u8 (0), .int .i64 (0), .int .u64 (0), .int .u64 (0), .slice x5 x6 x7, .string (ByteArray.mk #[]), .slice none 0 0, .int .u64 (0), .int .i64 (0), .int .i64 x1, .slice none 0 0, .slice none 0 0, .int .u64 (0), .slice none 0 0] := by kernel_rfl
theorem bu30_d7517139  : Try.prog.built 30 [] = some #[.int .i64 (0), .slice none 0 0, .int .u64 (0), .int .i64 (0), .int .u8 (0), .int .i64 (0), .int .u64 (0), .int .u64 (0), .slice none 0 0, .string (ByteArray.mk #[]), .slice none 0 0, .int .u64 (0), .int .i64 (0), .int .i64 (0), .slice none 0 0, .slice none 0 0, .int .u64 (0), .slice none 0 0] := by kernel_rfl
theorem cl4 : Callable Try.prog 4 := ⟨Try.f4, Try.func4, by kernel_rfl, rfl⟩
theorem cl5 : Callable Try.prog 5 := ⟨Try.f5, Try.func5, by kernel_rfl, rfl⟩
theorem cl6 : Callable Try.prog 6 := ⟨Try.f6, Try.func6, by kernel_rfl, rfl⟩
theorem cl7 : Callable Try.prog 7 := ⟨Try.f7, Try.func7, by kernel_rfl, rfl⟩
end Go.Proofs.Ytkcnljgennehaaa.T
