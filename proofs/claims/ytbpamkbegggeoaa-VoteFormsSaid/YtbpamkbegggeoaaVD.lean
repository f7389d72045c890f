import Derived.Test.YtbpamkbegggeoaaW9
import Derived.Test.YtbpamkbegggeoaaProg
namespace Go.Proofs.Ytbpamkbegggeoaa.T
open W Go.RowKit
set_option maxRecDepth 100000
set_option maxHeartbeats 400000
structure EntryD where
  Term : Int
  Kind : Int
  Data : ByteArray
  Members : List Int
deriving Inhabited
def EntryD.InR (x : EntryD) : Prop := inK .u64 x.Term ∧ inK .u8 x.Kind ∧ x.Data.size ≤ maxLen
def entryR : Rep EntryD where
  sz := 4
  rd := fun X w cs x => ∃ v3, cs = [.int .u64 (x.Term), .int .u8 (x.Kind), .string (x.Data), v3] ∧ Sl (intR .i64) X w v3 x.Members ∧ x.InR
  len := by rintro _ _ _ _ ⟨v3, rfl, h3, hk⟩; rfl
  one := by
    rintro _ _ _ _ ⟨v3, rfl, h3, hk⟩ u hu
    simp only [List.mem_cons, List.not_mem_nil, or_false] at hu
    rcases hu with rfl | rfl | rfl | rfl <;> first | rfl | exact Sl.one (by assumption)
  ext := fun ⟨v3, h, h3, hk⟩ k => ⟨v3, h, h3.ext k, hk⟩
  mono := fun ⟨v3, h, h3, hk⟩ k => ⟨v3, h, h3.mono k, hk⟩
  new := fun ⟨v3, h, h3, hk⟩ k => ⟨v3, h, Sl.new (by show (1 : Nat) ≠ 0; decide) h3 k, hk⟩
structure FollowD where
  Id : Int
  Next : Int
  Match : Int
deriving Inhabited
def FollowD.InR (x : FollowD) : Prop := inK .i64 x.Id ∧ inK .u64 x.Next ∧ inK .u64 x.Match
def followR : Rep FollowD where
  sz := 3
  rd := fun X w cs x => cs = [.int .i64 (x.Id), .int .u64 (x.Next), .int .u64 (x.Match)] ∧ x.InR
  len := by rintro _ _ _ _ ⟨rfl, hk⟩; rfl
  one := by
    rintro _ _ _ _ ⟨rfl, hk⟩ u hu
    simp only [List.mem_cons, List.not_mem_nil, or_false] at hu
    rcases hu with rfl | rfl | rfl <;> first | rfl | exact Sl.one (by assumption)
  ext := fun ⟨h, hk⟩ k => ⟨h, hk⟩
  mono := fun ⟨h, hk⟩ k => ⟨h, hk⟩
  new := fun ⟨h, hk⟩ k => ⟨h, hk⟩
theorem flat_followR : Flat followR := fun _ _ _ _ _ h => h
structure ReadD where
  Round : Int
  Index : Int
  Acks : List Int
deriving Inhabited
def ReadD.InR (x : ReadD) : Prop := inK .u64 x.Round ∧ inK .u64 x.Index
def readR : Rep ReadD where
  sz := 3
  rd := fun X w cs x => ∃ v2, cs = [.int .u64 (x.Round), .int .u64 (x.Index), v2] ∧ Sl (intR .i64) X w v2 x.Acks ∧ x.InR
  len := by rintro _ _ _ _ ⟨v2, rfl, h2, hk⟩; rfl
  one := by
    rintro _ _ _ _ ⟨v2, rfl, h2, hk⟩ u hu
    simp only [List.mem_cons, List.not_mem_nil, or_false] at hu
    rcases hu with rfl | rfl | rfl <;> first | rfl | exact Sl.one (by assumption)
  ext := fun ⟨v2, h, h2, hk⟩ k => ⟨v2, h, h2.ext k, hk⟩
  mono := fun ⟨v2, h, h2, hk⟩ k => ⟨v2, h, h2.mono k, hk⟩
  new := fun ⟨v2, h, h2, hk⟩ k => ⟨v2, h, Sl.new (by show (1 : Nat) ≠ 0; decide) h2 k, hk⟩
structure PeerD where
  Id : Int
  Members : List Int
  Term : Int
  Vote : Int
  Role : Int
  Lead : Int
  Base : Int
  BaseTerm : Int
  BaseMembers : List Int
  Snap : ByteArray
  Log : List EntryD
  Commit : Int
  Idle : Int
  Wait : Int
  Votes : List Int
  Follows : List FollowD
  Round : Int
  Reads : List ReadD
deriving Inhabited
def PeerD.InR (x : PeerD) : Prop := inK .i64 x.Id ∧ inK .u64 x.Term ∧ inK .i64 x.Vote ∧ inK .u8 x.Role ∧ inK .i64 x.Lead ∧ inK .u64 x.Base ∧ inK .u64 x.BaseTerm ∧ x.Snap.size ≤ maxLen ∧ inK .u64 x.Commit ∧ inK .i64 x.Idle ∧ inK .i64 x.Wait ∧ inK .u64 x.Round
def peerR : Rep PeerD where
  sz := 18
  rd := fun X w cs x => ∃ v1 v8 v10 v14 v15 v17, cs = [.int .i64 (x.Id), v1, .int .u64 (x.Term), .int .i64 (x.Vote), .int .u8 (x.Role), .int .i64 (x.Lead), .int .u64 (x.Base), .int .u64 (x.BaseTerm), v8, .string (x.Snap), v10, .int .u64 (x.Commit), .int .i64 (x.Idle), .int .i64 (x.Wait), v14, v15, .int .u64 (x.Round), v17] ∧ Sl (intR .i64) X w v1 x.Members ∧ Sl (intR .i64) X w v8 x.BaseMembers ∧ Sl entryR X w v10 x.Log ∧ Sl (intR .i64) X w v14 x.Votes ∧ Sl followR X w v15 x.Follows ∧ Sl readR X w v17 x.Reads ∧ x.InR
  len := by rintro _ _ _ _ ⟨v1, v8, v10, v14, v15, v17, rfl, h1, h8, h10, h14, h15, h17, hk⟩; rfl
  one := by
    rintro _ _ _ _ ⟨v1, v8, v10, v14, v15, v17, rfl, h1, h8, h10, h14, h15, h17, hk⟩ u hu
    simp only [List.mem_cons, List.not_mem_nil, or_false] at hu
    rcases hu with rfl | rfl | rfl | rfl | rfl | rfl | rfl | rfl | rfl | rfl | rfl | rfl | rfl | rfl | rfl | rfl | rfl | rfl <;> first | rfl | exact Sl.one (by assumption)
  ext := fun ⟨v1, v8, v10, v14, v15, v17, h, h1, h8, h10, h14, h15, h17, hk⟩ k => ⟨v1, v8, v10, v14, v15, v17, h, h1.ext k, h8.ext k, h10.ext k, h14.ext k, h15.ext k, h17.ext k, hk⟩
  mono := fun ⟨v1, v8, v10, v14, v15, v17, h, h1, h8, h10, h14, h15, h17, hk⟩ k => ⟨v1, v8, v10, v14, v15, v17, h, h1.mono k, h8.mono k, h10.mono k, h14.mono k, h15.mono k, h17.mono k, hk⟩
  new := fun ⟨v1, v8, v10, v14, v15, v17, h, h1, h8, h10, h14, h15, h17, hk⟩ k => ⟨v1, v8, v10, v14, v15, v17, h, Sl.new (by show (1 : Nat) ≠ 0; decide) h1 k, Sl.new (by show (1 : Nat) ≠ 0; decide) h8 k, Sl.new (by show (4 : Nat) ≠ 0; decide) h10 k, Sl.new (by show (1 : Nat) ≠ 0; decide) h14 k, Sl.new (by show (3 : Nat) ≠ 0; decide) h15 k, Sl.new (by show (3 : Nat) ≠ 0; decide) h17 k, hk⟩
structure MsgD where
  Kind : Int
  From : Int
  To : Int
  Term : Int
  Index : Int
  LogTerm : Int
  Commit : Int
  Round : Int
  Ok : Bool
  Entries : List EntryD
  Members : List Int
  Snap : ByteArray
deriving Inhabited
def MsgD.InR (x : MsgD) : Prop := inK .u8 x.Kind ∧ inK .i64 x.From ∧ inK .i64 x.To ∧ inK .u64 x.Term ∧ inK .u64 x.Index ∧ inK .u64 x.LogTerm ∧ inK .u64 x.Commit ∧ inK .u64 x.Round ∧ x.Snap.size ≤ maxLen
def msgR : Rep MsgD where
  sz := 12
  rd := fun X w cs x => ∃ v9 v10, cs = [.int .u8 (x.Kind), .int .i64 (x.From), .int .i64 (x.To), .int .u64 (x.Term), .int .u64 (x.Index), .int .u64 (x.LogTerm), .int .u64 (x.Commit), .int .u64 (x.Round), .bool (x.Ok), v9, v10, .string (x.Snap)] ∧ Sl entryR X w v9 x.Entries ∧ Sl (intR .i64) X w v10 x.Members ∧ x.InR
  len := by rintro _ _ _ _ ⟨v9, v10, rfl, h9, h10, hk⟩; rfl
  one := by
    rintro _ _ _ _ ⟨v9, v10, rfl, h9, h10, hk⟩ u hu
    simp only [List.mem_cons, List.not_mem_nil, or_false] at hu
    rcases hu with rfl | rfl | rfl | rfl | rfl | rfl | rfl | rfl | rfl | rfl | rfl | rfl <;> first | rfl | exact Sl.one (by assumption)
  ext := fun ⟨v9, v10, h, h9, h10, hk⟩ k => ⟨v9, v10, h, h9.ext k, h10.ext k, hk⟩
  mono := fun ⟨v9, v10, h, h9, h10, hk⟩ k => ⟨v9, v10, h, h9.mono k, h10.mono k, hk⟩
  new := fun ⟨v9, v10, h, h9, h10, hk⟩ k => ⟨v9, v10, h, Sl.new (by show (4 : Nat) ≠ 0; decide) h9 k, Sl.new (by show (1 : Nat) ≠ 0; decide) h10 k, hk⟩
def idB (n : Int) : Bool := decide (n ≥ 1) && decide (n ≤ 64)
def okAt (xs : List Int) (i : Nat) : Bool := idB (xs.getD i 0) && (decide (i = 0) || decide (xs.getD (i - 1) 0 < xs.getD i 0))
def idsB (xs : List Int) : Bool := allB xs.length (okAt xs)
def membersB (xs : List Int) : Bool := decide ((xs.length : Int) > 0) && idsB xs
def ieq (a b : Int) : Bool := decide (a = b)
/-- two lists, element by element -/
def eqB {α : Type} [Inhabited α] (f : α → α → Bool) (xs ys : List α) : Bool := decide (xs.length = ys.length) && allB xs.length fun i => f (xs.getD i default) (ys.getD i default)
theorem eqB_len {α : Type} [Inhabited α] {f : α → α → Bool} {xs ys : List α} (h : xs.length ≠ ys.length) : eqB f xs ys = false := by simp [eqB, h]
theorem eqB_true {α : Type} [Inhabited α] {f : α → α → Bool} {xs ys : List α} {k : Nat} (h : xs.length = ys.length) (hk : ∀ j, j < k → (fun i => f (xs.getD i default) (ys.getD i default)) j = true) (hn : xs.length ≤ k) : eqB f xs ys = true := by
  simp only [eqB, h, decide_true, Bool.true_and]; rw [← h]; exact allB_true hk hn
theorem eqB_false {α : Type} [Inhabited α] {f : α → α → Bool} {xs ys : List α} {k : Nat} (h : xs.length = ys.length) (hk : k < xs.length) (hf : f (xs.getD k default) (ys.getD k default) = false) : eqB f xs ys = false := by
  simp only [eqB, h, decide_true, Bool.true_and]; rw [← h]; exact allB_false hk hf
def hasB (xs : List Int) (n : Int) : Bool := xs.any (ieq · n)
theorem hasB_false {xs : List Int} {n : Int} {k : Nat} (h : ∀ j, j < k → (fun i => !ieq (xs.getD i 0) n) j = true) (hk : xs.length ≤ k) : hasB xs n = false := by
  simp only [hasB, List.any_eq_false]
  intro x hx
  obtain ⟨i, hi, rfl⟩ := List.mem_iff_getElem.1 hx
  have := h i (by omega)
  simpa [List.getD_eq_getElem?_getD, List.getElem?_eq_getElem hi] using this
theorem hasB_true {xs : List Int} {n : Int} {k : Nat} (hk : k < xs.length) (h : ieq (xs.getD k 0) n = true) : hasB xs n = true := by
  simp only [hasB, List.any_eq_true]
  exact ⟨xs[k], List.getElem_mem hk, by simpa [List.getD_eq_getElem?_getD, List.getElem?_eq_getElem hk] using h⟩
def othersOf (p : PeerD) : List Int := p.Members.filter (fun n => !ieq n p.Id)
theorem filter_take {α : Type} [Inhabited α] {f : α → Bool} {xs : List α} {k : Nat} (h : k < xs.length) : (xs.take (k + 1)).filter f = (xs.take k).filter f ++ (if f (xs.getD k default) then [xs.getD k default] else []) := by
  rw [List.take_add_one, List.filter_append, List.getElem?_eq_getElem h]
  simp [List.getD_eq_getElem?_getD, List.getElem?_eq_getElem h, List.filter_cons]
theorem filter_take_le {α : Type} (f : α → Bool) (xs : List α) (k : Nat) : ((xs.take k).filter f).length ≤ k := by
  have := List.length_filter_le f (xs.take k)
  rw [List.length_take] at this; omega
def lastI (p : PeerD) : Int := p.Base + (p.Log.length : Int)
def lastT (p : PeerD) : Int := if p.Log.length = 0 then p.BaseTerm else (p.Log.getD (p.Log.length - 1) default).Term
def termIs (p : PeerD) (i : Int) : Bool := decide (p.Base ≤ i) && decide (i ≤ lastI p)
def termOf (p : PeerD) (i : Int) : Int := if i = p.Base then p.BaseTerm else if termIs p i = true then (p.Log.getD (i - p.Base - 1).toNat default).Term else 0
theorem termIs_in {p : PeerD} {i : Int} (h1 : p.Base ≤ i) (h2 : i ≤ lastI p) : termIs p i = true := by simp [termIs, h1, h2]
theorem termIs_out {p : PeerD} {i : Int} (h : i < p.Base ∨ lastI p < i) : termIs p i = false := by
  simp only [termIs, Bool.and_eq_false_iff, decide_eq_false_iff_not]; omega
theorem termOf_at {p : PeerD} {i : Int} (h : i = p.Base) : termOf p i = p.BaseTerm := by simp [termOf, h]
theorem termOf_in {p : PeerD} {i : Int} (h1 : p.Base < i) (h2 : i ≤ lastI p) : termOf p i = (p.Log.getD (i - p.Base - 1).toNat default).Term := by
  rw [termOf, if_neg (by omega), if_pos (termIs_in (by omega) h2)]
theorem termOf_out {p : PeerD} {i : Int} (h : i < p.Base ∨ lastI p < i) : termOf p i = 0 := by
  have hl : lastI p = p.Base + (p.Log.length : Int) := rfl
  rw [termOf, if_neg (by omega), if_neg (by rw [termIs_out h]; decide)]
def emptyB (s : ByteArray) : Bool := seqB s (ByteArray.mk #[])
def kindOk (e : EntryD) : Bool := (decide (e.Kind = 0) && decide (e.Members.length = 0)) || (decide (e.Kind = 1) && seqB e.Data (ByteArray.mk #[]) && decide (e.Members.length = 0)) || (decide (e.Kind = 2) && seqB e.Data (ByteArray.mk #[]) && membersB e.Members)
def entOk (f : Int) (e : EntryD) (t : Int) : Bool := decide (1 ≤ e.Term) && decide (f ≤ e.Term) && decide (e.Term ≤ t) && kindOk e
def prevT (l : List EntryD) (f : Int) (k : Nat) : Int := if k = 0 then f else (l.getD (k - 1) default).Term
def vprevT (l : List EntryD) (f : Int) (k : Nat) : Int := if k = 0 then max f 1 else (l.getD (k - 1) default).Term
def entsB (l : List EntryD) (f t : Int) : Bool := allB l.length fun i => entOk (prevT l f i) (l.getD i default) t
def ventsB (l : List EntryD) (f t : Int) : Bool := allB l.length fun i => entOk (vprevT l f i) (l.getD i default) t
theorem vprevT_pos {l : List EntryD} {f t : Int} {k : Nat} (h : ∀ j, j < k → (fun i => entOk (vprevT l f i) (l.getD i default) t) j = true) : 1 ≤ vprevT l f k := by
  unfold vprevT
  split
  · omega
  · have := h (k - 1) (by omega)
    simp only [entOk, Bool.and_eq_true, decide_eq_true_eq] at this
    exact this.1.1.1
theorem vents_eq (l : List EntryD) (f t : Int) : ventsB l f t = entsB l f t := by
  have h : ∀ i, entOk (vprevT l f i) (l.getD i default) t = entOk (prevT l f i) (l.getD i default) t := by
    intro i
    unfold vprevT prevT
    split
    · simp only [entOk]
      cases hk : kindOk (l.getD i default)
      · simp
      · rw [Bool.eq_iff_iff]; simp only [Bool.and_true, Bool.and_eq_true, decide_eq_true_eq]; omega
    · rfl
  simp only [ventsB, entsB, h]
def readOk (p : PeerD) (i : Nat) : Bool := decide ((p.Reads.getD i default).Round ≤ p.Round) && decide ((p.Reads.getD i default).Index ≤ p.Commit) && idsB (p.Reads.getD i default).Acks && (decide (i = 0) || decide ((p.Reads.getD (i - 1) default).Round < (p.Reads.getD i default).Round))
def readsB (p : PeerD) : Bool := allB p.Reads.length (readOk p)
/-- how many of the first k members are others -/
def cnt (p : PeerD) (k : Nat) : Nat := ((p.Members.take k).filter (fun n => !ieq n p.Id)).length
def fOk (last : Int) (f : FollowD) : Bool := decide (1 ≤ f.Next) && decide (f.Next ≤ last + 1) && decide (f.Match < f.Next)
def fOkAt (p : PeerD) (last : Int) (j : Nat) : Bool := fOk last (p.Follows.getD j default) && ieq (p.Follows.getD j default).Id ((othersOf p).getD j 0)
def followsB (p : PeerD) (last : Int) : Bool := decide ((othersOf p).length = p.Follows.length) && allB p.Follows.length (fOkAt p last)
theorem cnt_step {p : PeerD} {k : Nat} (hk : k < p.Members.length) : cnt p (k + 1) = cnt p k + (if ieq (p.Members.getD k 0) p.Id then 0 else 1) := by
  unfold cnt
  rw [filter_take hk, List.length_append]
  show _ + (if (!ieq (p.Members.getD k 0) p.Id) = true then [p.Members.getD k 0] else []).length = _
  cases ieq (p.Members.getD k 0) p.Id <;> simp
theorem cnt_skip {p : PeerD} {k : Nat} (hk : k < p.Members.length) (h : p.Members.getD k 0 = p.Id) : cnt p (k + 1) = cnt p k := by
  rw [cnt_step hk, if_pos (by simp only [ieq, h, decide_true])]; rfl
theorem cnt_go {p : PeerD} {k : Nat} (hk : k < p.Members.length) (h : p.Members.getD k 0 ≠ p.Id) : cnt p (k + 1) = cnt p k + 1 := by
  rw [cnt_step hk, if_neg (by simp only [ieq, h, decide_false]; decide)]
theorem others_split (p : PeerD) (k : Nat) : othersOf p = (p.Members.take k).filter (fun n => !ieq n p.Id) ++ (p.Members.drop k).filter (fun n => !ieq n p.Id) := by
  rw [← List.filter_append, List.take_append_drop]; rfl
theorem cnt_le (p : PeerD) (k : Nat) : cnt p k ≤ (othersOf p).length := by
  rw [others_split p k, List.length_append]; exact Nat.le_add_right _ _
theorem others_at {p : PeerD} {k : Nat} (hk : k < p.Members.length) (h : p.Members.getD k 0 ≠ p.Id) : (othersOf p).getD (cnt p k) 0 = p.Members.getD k 0 := by
  have e : p.Members.getD k 0 = p.Members[k] := by simp [List.getD_eq_getElem?_getD, List.getElem?_eq_getElem hk]
  rw [others_split p k, List.drop_eq_getElem_cons hk, List.filter_cons_of_pos (by rw [← e]; simp only [ieq, h, decide_false]; rfl), List.getD_eq_getElem?_getD]
  unfold cnt
  rw [List.getElem?_append_right (Nat.le_refl _), Nat.sub_self]
  simp [← e]
theorem cnt_all {p : PeerD} {k : Nat} (hk : p.Members.length ≤ k) : cnt p k = (othersOf p).length := by
  unfold cnt; rw [List.take_of_length_le hk]; rfl
theorem followsB_short {p : PeerD} {last : Int} {k : Nat} (hk : k < p.Members.length) (h : p.Members.getD k 0 ≠ p.Id) (hc : p.Follows.length ≤ cnt p k) : followsB p last = false := by
  have h1 := cnt_go hk h
  have h2 := cnt_le p (k + 1)
  simp only [followsB, Bool.and_eq_false_iff, decide_eq_false_iff_not]; left; omega
theorem followsB_bad {p : PeerD} {last : Int} {j : Nat} (hj : j < p.Follows.length) (h : fOkAt p last j = false) : followsB p last = false := by
  rw [followsB, allB_false hj h, Bool.and_false]
theorem followsB_end {p : PeerD} {last : Int} {k : Nat} (hk : p.Members.length ≤ k) (h : ∀ j, j < cnt p k → fOkAt p last j = true) (hc : cnt p k ≤ p.Follows.length) : followsB p last = decide ((cnt p k : Int) = (p.Follows.length : Int)) := by
  rw [followsB, ← cnt_all hk]
  by_cases he : cnt p k = p.Follows.length
  · rw [allB_true h (by omega)]; simp [he]
  · have : ¬ ((cnt p k : Int) = (p.Follows.length : Int)) := by omega
    simp [he, this]
theorem fOkAt_go {p : PeerD} {last : Int} {k : Nat} {b : Bool} (hk : k < p.Members.length) (h : p.Members.getD k 0 ≠ p.Id) (hb : (fOk last (p.Follows.getD (cnt p k) default) && ieq (p.Follows.getD (cnt p k) default).Id (p.Members.getD k 0)) = b) : fOkAt p last (cnt p k) = b := by
  rw [fOkAt, others_at hk h]; exact hb
theorem upto_succ {f : Nat → Bool} {n m : Nat} (h : ∀ j, j < n → f j = true) (hm : m = n + 1) (hn : f n = true) : ∀ j, j < m → f j = true := by
  intro j hj
  rcases Nat.lt_or_ge j n with h1 | h1
  · exact h j h1
  · have : j = n := by omega
    subst this; exact hn
def sameReadB (a b : ReadD) : Bool := decide (a.Round = b.Round) && decide (a.Index = b.Index) && eqB ieq a.Acks b.Acks
def sameEntB (a b : EntryD) : Bool := decide (a.Term = b.Term) && decide (a.Kind = b.Kind) && seqB a.Data b.Data && eqB ieq a.Members b.Members
def sameFolB (a b : FollowD) : Bool := (decide (a.Id = b.Id) && (decide (a.Next = b.Next) && (decide (a.Match = b.Match) && true)))
def sameMsgB (a b : MsgD) : Bool := decide (a.Kind = b.Kind) && decide (a.From = b.From) && decide (a.To = b.To) && decide (a.Term = b.Term) && decide (a.Index = b.Index) && decide (a.LogTerm = b.LogTerm) && decide (a.Commit = b.Commit) && decide (a.Round = b.Round) && (a.Ok == b.Ok) && eqB sameEntB a.Entries b.Entries && eqB ieq a.Members b.Members && seqB a.Snap b.Snap
def samePeerB (a b : PeerD) : Bool := decide (a.Id = b.Id) && eqB ieq a.Members b.Members && decide (a.Term = b.Term) && decide (a.Vote = b.Vote) && decide (a.Role = b.Role) && decide (a.Lead = b.Lead) && decide (a.Base = b.Base) && decide (a.BaseTerm = b.BaseTerm) && eqB ieq a.BaseMembers b.BaseMembers && seqB a.Snap b.Snap && eqB sameEntB a.Log b.Log && decide (a.Commit = b.Commit) && decide (a.Idle = b.Idle) && decide (a.Wait = b.Wait) && eqB ieq a.Votes b.Votes && eqB sameFolB a.Follows b.Follows && decide (a.Round = b.Round) && eqB sameReadB a.Reads b.Reads
def idxD (xs : List Int) (n : Int) : Int := if hasB xs n = true then ((xs.findIdx (ieq · n) : Nat) : Int) else -1
theorem idxD_none {xs : List Int} {n : Int} {k : Nat} (h : ∀ j, j < k → (fun i => !ieq (xs.getD i 0) n) j = true) (hk : xs.length ≤ k) : idxD xs n = -1 := by
  rw [idxD, hasB_false h hk]; rfl
theorem idxD_at {xs : List Int} {n : Int} {k : Nat} (hk : k < xs.length) (h : ∀ j, j < k → (fun i => !ieq (xs.getD i 0) n) j = true) (he : ieq (xs.getD k 0) n = true) : idxD xs n = (k : Int) := by
  rw [idxD, if_pos (hasB_true hk he), (List.findIdx_eq hk).2]
  constructor
  · simpa [List.getD_eq_getElem?_getD, List.getElem?_eq_getElem hk] using he
  · intro j hj
    have := h j hj
    have hj' : j < xs.length := by omega
    simpa [List.getD_eq_getElem?_getD, List.getElem?_eq_getElem hj'] using this
theorem idxD_has (xs : List Int) (n : Int) : decide (idxD xs n ≥ 0) = hasB xs n := by
  unfold idxD
  cases hasB xs n <;> simp
def cntIn (ids xs : List Int) (k : Nat) : Nat := ((xs.take k).filter (hasB ids)).length
def majB (xs ids : List Int) : Bool := decide (2 * (cntIn ids xs xs.length : Int) > (xs.length : Int))
theorem cntIn_le (ids xs : List Int) (k : Nat) : cntIn ids xs k ≤ k := filter_take_le _ _ _
theorem cntIn_go {ids xs : List Int} {k : Nat} (hk : k < xs.length) (h : hasB ids (xs.getD k 0) = true) : cntIn ids xs (k + 1) = cntIn ids xs k + 1 := by
  unfold cntIn; rw [filter_take hk]
  show (_ ++ (if hasB ids (xs.getD k 0) = true then [xs.getD k 0] else [])).length = _
  rw [h]; simp
theorem cntIn_skip {ids xs : List Int} {k : Nat} (hk : k < xs.length) (h : hasB ids (xs.getD k 0) = false) : cntIn ids xs (k + 1) = cntIn ids xs k := by
  unfold cntIn; rw [filter_take hk]
  show (_ ++ (if hasB ids (xs.getD k 0) = true then [xs.getD k 0] else [])).length = _
  rw [h]; simp
def memUpto (p : PeerD) : Nat → List Int
  | 0 => p.BaseMembers
  | k + 1 => if (p.Log.getD k default).Kind = 2 then (p.Log.getD k default).Members else memUpto p k
def membersOf (p : PeerD) (i : Int) : List Int := if termIs p i = true then memUpto p (i - p.Base).toNat else []
/-- all lists of a member are short enough to be copied -/
structure Fits (p : PeerD) : Prop where
  mem : p.Members.length ≤ 17592186044416
  base : p.BaseMembers.length ≤ 17592186044416
  votes : p.Votes.length ≤ 17592186044416
  log : p.Log.length ≤ 1099511627776
  follows : p.Follows.length ≤ 1099511627776
  reads : p.Reads.length ≤ 1099511627776
  ents : ∀ k, k < p.Log.length → (p.Log.getD k default).Members.length ≤ 17592186044416
  acks : ∀ k, k < p.Reads.length → (p.Reads.getD k default).Acks.length ≤ 17592186044416
theorem Fits.upto {p : PeerD} (h : Fits p) : ∀ k, k ≤ p.Log.length → (memUpto p k).length ≤ 17592186044416
  | 0, _ => h.base
  | k + 1, hk => by
    unfold memUpto
    split
    · exact h.ents k (by omega)
    · exact h.upto k (by omega)
theorem membersOf_in {p : PeerD} {i : Int} (h : p.Base ≤ i ∧ i ≤ lastI p) : membersOf p i = memUpto p (i - p.Base).toNat := by rw [membersOf, if_pos (termIs_in h.1 h.2)]
theorem membersOf_out {p : PeerD} {i : Int} (h : i < p.Base ∨ lastI p < i) : membersOf p i = [] := by rw [membersOf, if_neg (by rw [termIs_out h]; decide)]
theorem memUpto_hit {p : PeerD} {k : Nat} (h : (p.Log.getD k default).Kind = 2) : (p.Log.getD k default).Members = memUpto p (k + 1) := by rw [memUpto, if_pos h]
theorem memUpto_miss {p : PeerD} {k : Nat} (h : ¬ (p.Log.getD k default).Kind = 2) : memUpto p k = memUpto p (k + 1) := by rw [memUpto, if_neg h]
def hdB (m : MsgD) : Bool := idB m.From && idB m.To && decide (m.From ≠ m.To) && decide (m.Term > 0) && decide (m.Term ≤ 4611686018427387904) && decide (m.Round ≤ 4611686018427387904) && decide (m.Index ≤ 4611686018427387904) && decide (m.LogTerm ≤ m.Term)
def eqzB (m : MsgD) : Bool := decide (m.Index = 0) == decide (m.LogTerm = 0)
def layB (m : MsgD) : Bool := decide ((m.Entries.length : Int) ≤ 16) && entsB m.Entries m.LogTerm m.Term && eqzB m && sameMsgB ({ Kind := 0, From := 0, To := 0, Term := 0, Index := 0, LogTerm := 0, Commit := 0, Round := 0, Ok := m.Ok, Entries := [], Members := m.Members, Snap := m.Snap } : MsgD) ({ Kind := 0, From := 0, To := 0, Term := 0, Index := 0, LogTerm := 0, Commit := 0, Round := 0, Ok := false, Entries := [], Members := [], Snap := ByteArray.mk #[] } : MsgD)
def askB (m : MsgD) : Bool := eqzB m && sameMsgB ({ Kind := 0, From := 0, To := 0, Term := 0, Index := 0, LogTerm := 0, Commit := m.Commit, Round := m.Round, Ok := m.Ok, Entries := m.Entries, Members := m.Members, Snap := m.Snap } : MsgD) ({ Kind := 0, From := 0, To := 0, Term := 0, Index := 0, LogTerm := 0, Commit := 0, Round := 0, Ok := false, Entries := [], Members := [], Snap := ByteArray.mk #[] } : MsgD)
def heardB (m : MsgD) : Bool := sameMsgB ({ Kind := 0, From := 0, To := 0, Term := 0, Index := 0, LogTerm := m.LogTerm, Commit := m.Commit, Round := 0, Ok := false, Entries := m.Entries, Members := m.Members, Snap := m.Snap } : MsgD) ({ Kind := 0, From := 0, To := 0, Term := 0, Index := 0, LogTerm := 0, Commit := 0, Round := 0, Ok := false, Entries := [], Members := [], Snap := ByteArray.mk #[] } : MsgD)
def toldB (m : MsgD) : Bool := sameMsgB ({ Kind := 0, From := 0, To := 0, Term := 0, Index := m.Index, LogTerm := m.LogTerm, Commit := m.Commit, Round := m.Round, Ok := false, Entries := m.Entries, Members := m.Members, Snap := m.Snap } : MsgD) ({ Kind := 0, From := 0, To := 0, Term := 0, Index := 0, LogTerm := 0, Commit := 0, Round := 0, Ok := false, Entries := [], Members := [], Snap := ByteArray.mk #[] } : MsgD)
def installB (m : MsgD) : Bool := decide (m.Index > 0) && decide (m.LogTerm > 0) && membersB m.Members && sameMsgB ({ Kind := 0, From := 0, To := 0, Term := 0, Index := 0, LogTerm := 0, Commit := m.Commit, Round := 0, Ok := m.Ok, Entries := m.Entries, Members := [], Snap := ByteArray.mk #[] } : MsgD) ({ Kind := 0, From := 0, To := 0, Term := 0, Index := 0, LogTerm := 0, Commit := 0, Round := 0, Ok := false, Entries := [], Members := [], Snap := ByteArray.mk #[] } : MsgD)
def mayMsgB (m : MsgD) : Bool := hdB m && ((decide (m.Kind = 3) && layB m) || (decide (m.Kind = 1) && askB m) || (decide (m.Kind = 4) && heardB m) || (decide (m.Kind = 2) && toldB m) || (decide (m.Kind = 5) && installB m))
def tailB (m : MsgD) : Bool := decide ((m.Entries.length : Int) ≤ 16) && entsB m.Entries m.LogTerm m.Term
def refMayMsgB (m : MsgD) : Bool := hdB m && ((decide (m.Kind = 1) && sameMsgB ({ Kind := m.Kind, From := m.From, To := m.To, Term := m.Term, Index := m.Index, LogTerm := m.LogTerm, Commit := 0, Round := 0, Ok := false, Entries := [], Members := [], Snap := ByteArray.mk #[] } : MsgD) m && eqzB m && tailB m) || (decide (m.Kind = 2) && sameMsgB ({ Kind := m.Kind, From := m.From, To := m.To, Term := m.Term, Index := 0, LogTerm := 0, Commit := 0, Round := 0, Ok := m.Ok, Entries := [], Members := [], Snap := ByteArray.mk #[] } : MsgD) m && tailB m) || (decide (m.Kind = 3) && sameMsgB ({ Kind := m.Kind, From := m.From, To := m.To, Term := m.Term, Index := m.Index, LogTerm := m.LogTerm, Commit := m.Commit, Round := m.Round, Ok := false, Entries := m.Entries, Members := [], Snap := ByteArray.mk #[] } : MsgD) m && eqzB m && tailB m) || (decide (m.Kind = 4) && sameMsgB ({ Kind := m.Kind, From := m.From, To := m.To, Term := m.Term, Index := m.Index, LogTerm := 0, Commit := 0, Round := m.Round, Ok := m.Ok, Entries := [], Members := [], Snap := ByteArray.mk #[] } : MsgD) m && tailB m) || (decide (m.Kind = 5) && sameMsgB ({ Kind := m.Kind, From := m.From, To := m.To, Term := m.Term, Index := m.Index, LogTerm := m.LogTerm, Commit := 0, Round := m.Round, Ok := false, Entries := [], Members := m.Members, Snap := m.Snap } : MsgD) m && decide (m.Index > 0) && decide (m.LogTerm > 0) && membersB m.Members))
theorem seqB_comm (a b : ByteArray) : seqB a b = seqB b a := by simp only [seqB, Bool.beq_comm]
theorem seqB_refl (a : ByteArray) : seqB a a = true := by simp [seqB]
theorem eqB_nil {α : Type} [Inhabited α] (f : α → α → Bool) (xs : List α) : eqB f xs [] = decide (xs.length = 0) := by
  cases xs <;> simp [eqB, allB]
theorem nil_eqB {α : Type} [Inhabited α] (f : α → α → Bool) (xs : List α) : eqB f [] xs = decide (xs.length = 0) := by
  cases xs <;> simp [eqB, allB]
theorem eqB_refl {α : Type} [Inhabited α] {f : α → α → Bool} (h : ∀ a, f a a = true) (xs : List α) : eqB f xs xs = true := by
  simp only [eqB, decide_true, Bool.true_and]
  exact allB_iff.2 fun j _ => h _
theorem ieq_refl (a : Int) : ieq a a = true := by simp [ieq]
theorem sameEntB_refl (a : EntryD) : sameEntB a a = true := by simp [sameEntB, seqB_refl, eqB_refl ieq_refl]
theorem sameMsgB_refl (a : MsgD) : sameMsgB a a = true := by simp [sameMsgB, seqB_refl, eqB_refl ieq_refl, eqB_refl sameEntB_refl]
theorem ents_none {l : List EntryD} (h : l.length = 0) (f t : Int) : entsB l f t = true := by rw [entsB, h]; rfl
theorem refMay_eq (m : MsgD) (hm : m.InR) : refMayMsgB m = mayMsgB m := by
  have hn : 0 ≤ m.Index ∧ 0 ≤ m.LogTerm := ⟨(inK_u64 hm.2.2.2.2.1).1, (inK_u64 hm.2.2.2.2.2.1).1⟩
  have z : ∀ {a : Int}, decide (0 = a) = decide (a = 0) := fun {a} => by by_cases h : a = 0 <;> simp [h, eq_comm]
  have zb : (false == m.Ok) = (m.Ok == false) := by cases m.Ok <;> rfl
  have zs : seqB (ByteArray.mk #[]) m.Snap = seqB m.Snap (ByteArray.mk #[]) := seqB_comm _ _
  have zl : ((m.Entries.length : Int) ≤ 16) = (m.Entries.length ≤ 16) := by simp only [eq_iff_iff]; omega
  unfold refMayMsgB mayMsgB
  congr 1
  simp only [layB, askB, heardB, toldB, installB, tailB, eqzB, sameMsgB, eqB_nil, nil_eqB, eqB_refl ieq_refl, eqB_refl sameEntB_refl, seqB_refl, decide_true, Bool.true_and, Bool.and_true, BEq.rfl, z, zb, zs, zl, List.length_nil]
  by_cases h1 : m.Kind = 1
  · simp only [h1, decide_true, decide_false, Int.reduceEq, Bool.true_and, Bool.false_and, Bool.or_false, Bool.false_or]
    by_cases he : m.Entries.length = 0
    · simp only [ents_none he, he]
      ac_rfl
    · simp [he]
  by_cases h2 : m.Kind = 2
  · simp only [h2, decide_true, decide_false, Int.reduceEq, Bool.true_and, Bool.false_and, Bool.or_false, Bool.false_or]
    by_cases he : m.Entries.length = 0
    · simp [ents_none he, he]
    · simp [he]
  by_cases h3 : m.Kind = 3
  · simp only [h3, decide_true, decide_false, Int.reduceEq, Bool.true_and, Bool.false_and, Bool.or_false, Bool.false_or]
    ac_rfl
  by_cases h4 : m.Kind = 4
  · simp only [h4, decide_true, decide_false, Int.reduceEq, Bool.true_and, Bool.false_and, Bool.or_false, Bool.false_or]
    by_cases he : m.Entries.length = 0
    · simp [ents_none he, he]
    · simp [he]
  by_cases h5 : m.Kind = 5
  · simp only [h5, decide_true, decide_false, Int.reduceEq, Bool.true_and, Bool.false_and, Bool.or_false, Bool.false_or]
    ac_rfl
  simp [h1, h2, h3, h4, h5]
theorem take_step {α : Type} [Inhabited α] {l : List α} {k : Nat} (h : k < l.length) : l.take k ++ [l.getD k default] = l.take (k + 1) := by
  rw [List.take_add_one, List.getElem?_eq_getElem h]
  simp [List.getD_eq_getElem?_getD, List.getElem?_eq_getElem h]
theorem castRd {α : Type} {R : Rep α} {X : List Nat} {w : World} {cs : List Value} {x y : α} (e : x = y) (h : R.rd X w cs x) : R.rd X w cs y := e ▸ h
def smallB (p : PeerD) : Bool := decide ((p.Log.length : Int) ≤ 60) && decide ((p.Follows.length : Int) ≤ 64) && decide ((p.Reads.length : Int) ≤ 60)

theorem u22 : Try.prog.underlying 22 = some (.slice 3) := by kernel_rfl
theorem mo : Try.prog.follows .mixedOrders = true := by kernel_rfl
theorem s3 : Sized Try.prog 3 1 := by unfold Sized; kernel_rfl
theorem p3 : Plain Try.prog 3 := ⟨.int .i64, by kernel_rfl, by intros; simp, by intros; simp⟩
theorem cl37 : Callable Try.prog 37 := ⟨Try.f37, Try.func37, by kernel_rfl, rfl⟩
theorem cl45 : Callable Try.prog 45 := ⟨Try.f45, Try.func45, by kernel_rfl, rfl⟩
theorem cl92 : Callable Try.prog 92 := ⟨Try.f92, Try.func92, by kernel_rfl, rfl⟩
theorem e3 : Elem Try.prog 3 (.int .i64 (0)) 1 8 := by unfold Elem; kernel_rfl
theorem fl29_1 : FieldOf Try.prog 29 1 22 1 1 := fld (by kernel_rfl)
theorem p22 : Plain Try.prog 22 := ⟨.slice 3, by kernel_rfl, by intros; simp, by intros; simp⟩
theorem fl29_0 : FieldOf Try.prog 29 0 3 0 1 := fld (by kernel_rfl)
theorem fl29_10 : FieldOf Try.prog 29 10 25 10 1 := fld (by kernel_rfl)
theorem p25 : Plain Try.prog 25 := ⟨.slice 90, by kernel_rfl, by intros; simp, by intros; simp⟩
theorem u25 : Try.prog.underlying 25 = some (.slice 90) := by kernel_rfl
theorem fl29_6 : FieldOf Try.prog 29 6 23 6 1 := fld (by kernel_rfl)
theorem p23 : Plain Try.prog 23 := ⟨.int .u64, by kernel_rfl, by intros; simp, by intros; simp⟩
theorem u3 : Try.prog.underlying 3 = some (.int .i64) := by kernel_rfl
theorem u23 : Try.prog.underlying 23 = some (.int .u64) := by kernel_rfl
theorem s90 : Sized Try.prog 90 4 := by unfold Sized; kernel_rfl
theorem fl90_0 : FieldOf Try.prog 90 0 23 0 1 := fld (by kernel_rfl)
theorem fl29_7 : FieldOf Try.prog 29 7 23 7 1 := fld (by kernel_rfl)
theorem s29 : Sized Try.prog 29 18 := by unfold Sized; kernel_rfl
theorem a29 : Aggr Try.prog 29 18 := ⟨⟨_, by kernel_rfl, .inl ⟨structFields Try.prog 29, rfl⟩⟩, s29⟩
theorem cl16 : Callable Try.prog 16 := ⟨Try.f16, Try.func16, by kernel_rfl, rfl⟩
theorem cl17 : Callable Try.prog 17 := ⟨Try.f17, Try.func17, by kernel_rfl, rfl⟩
theorem a90 : Aggr Try.prog 90 4 := ⟨⟨_, by kernel_rfl, .inl ⟨structFields Try.prog 90, rfl⟩⟩, s90⟩
theorem z90 : W.Zero Try.prog 90 (.agg #[.int .u64 (0), .int .u8 (0), .string (ByteArray.mk #[]), .slice none 0 0]) := by unfold W.Zero; kernel_rfl
theorem fl90_1 : FieldOf Try.prog 90 1 88 1 1 := fld (by kernel_rfl)
theorem p88 : Plain Try.prog 88 := ⟨.int .u8, by kernel_rfl, by intros; simp, by intros; simp⟩
theorem fl90_2 : FieldOf Try.prog 90 2 9 2 1 := fld (by kernel_rfl)
theorem p9 : Plain Try.prog 9 := ⟨.string, by kernel_rfl, by intros; simp, by intros; simp⟩
theorem fl90_3 : FieldOf Try.prog 90 3 22 3 1 := fld (by kernel_rfl)
theorem cl38 : Callable Try.prog 38 := ⟨Try.f38, Try.func38, by kernel_rfl, rfl⟩
theorem cl47 : Callable Try.prog 47 := ⟨Try.f47, Try.func47, by kernel_rfl, rfl⟩
theorem fl29_17 : FieldOf Try.prog 29 17 27 17 1 := fld (by kernel_rfl)
theorem p27 : Plain Try.prog 27 := ⟨.slice 95, by kernel_rfl, by intros; simp, by intros; simp⟩
theorem u27 : Try.prog.underlying 27 = some (.slice 95) := by kernel_rfl
theorem s95 : Sized Try.prog 95 3 := by unfold Sized; kernel_rfl
theorem a95 : Aggr Try.prog 95 3 := ⟨⟨_, by kernel_rfl, .inl ⟨structFields Try.prog 95, rfl⟩⟩, s95⟩
theorem z95 : W.Zero Try.prog 95 (.agg #[.int .u64 (0), .int .u64 (0), .slice none 0 0]) := by unfold W.Zero; kernel_rfl
theorem fl95_0 : FieldOf Try.prog 95 0 23 0 1 := fld (by kernel_rfl)
theorem fl29_16 : FieldOf Try.prog 29 16 23 16 1 := fld (by kernel_rfl)
theorem fl95_1 : FieldOf Try.prog 95 1 23 1 1 := fld (by kernel_rfl)
theorem fl29_11 : FieldOf Try.prog 29 11 23 11 1 := fld (by kernel_rfl)
theorem fl95_2 : FieldOf Try.prog 95 2 22 2 1 := fld (by kernel_rfl)
theorem fl29_15 : FieldOf Try.prog 29 15 26 15 1 := fld (by kernel_rfl)
theorem p26 : Plain Try.prog 26 := ⟨.slice 85, by kernel_rfl, by intros; simp, by intros; simp⟩
theorem u26 : Try.prog.underlying 26 = some (.slice 85) := by kernel_rfl
theorem s85 : Sized Try.prog 85 3 := by unfold Sized; kernel_rfl
theorem a85 : Aggr Try.prog 85 3 := ⟨⟨_, by kernel_rfl, .inl ⟨structFields Try.prog 85, rfl⟩⟩, s85⟩
theorem z85 : W.Zero Try.prog 85 (.agg #[.int .i64 (0), .int .u64 (0), .int .u64 (0)]) := by unfold W.Zero; kernel_rfl
theorem fl85_0 : FieldOf Try.prog 85 0 3 0 1 := fld (by kernel_rfl)
theorem fl85_1 : FieldOf Try.prog 85 1 23 1 1 := fld (by kernel_rfl)
theorem fl85_2 : FieldOf Try.prog 85 2 23 2 1 := fld (by kernel_rfl)
theorem cl40 : Callable Try.prog 40 := ⟨Try.f40, Try.func40, by kernel_rfl, rfl⟩
theorem cl51 : Callable Try.prog 51 := ⟨Try.f51, Try.func51, by kernel_rfl, rfl⟩
theorem fs85 : (Try.prog.fieldsOf 85).toList.map (fun f => (f.type, f.offset, f.name == "_")) = [(3, 0, false), (23, 1, false), (23, 2, false)] := by kernel_rfl
theorem us85 : Try.prog.underlying 85 = some (.struct (Try.prog.fieldsOf 85)) := by kernel_rfl
theorem eg85 : Try.prog.eqGuardType Try.prog.depth 85 = false := by kernel_rfl
theorem sh85 : Try.prog.stoodInHeld 85 = false := by kernel_rfl
theorem cl53 : Callable Try.prog 53 := ⟨Try.f53, Try.func53, by kernel_rfl, rfl⟩
theorem cl56 : Callable Try.prog 56 := ⟨Try.f56, Try.func56, by kernel_rfl, rfl⟩
theorem fl32_0 : FieldOf Try.prog 32 0 30 0 1 := fld (by kernel_rfl)
theorem p30 : Plain Try.prog 30 := ⟨.int .u8, by kernel_rfl, by intros; simp, by intros; simp⟩
theorem fl32_1 : FieldOf Try.prog 32 1 3 1 1 := fld (by kernel_rfl)
theorem fl32_2 : FieldOf Try.prog 32 2 3 2 1 := fld (by kernel_rfl)
theorem fl32_3 : FieldOf Try.prog 32 3 23 3 1 := fld (by kernel_rfl)
theorem fl32_4 : FieldOf Try.prog 32 4 23 4 1 := fld (by kernel_rfl)
theorem fl32_5 : FieldOf Try.prog 32 5 23 5 1 := fld (by kernel_rfl)
theorem fl32_6 : FieldOf Try.prog 32 6 23 6 1 := fld (by kernel_rfl)
theorem fl32_7 : FieldOf Try.prog 32 7 23 7 1 := fld (by kernel_rfl)
theorem fl32_8 : FieldOf Try.prog 32 8 4 8 1 := fld (by kernel_rfl)
theorem p4 : Plain Try.prog 4 := ⟨.bool, by kernel_rfl, by intros; simp, by intros; simp⟩
theorem u4 : Try.prog.underlying 4 = some (.bool) := by kernel_rfl
theorem fl32_9 : FieldOf Try.prog 32 9 25 9 1 := fld (by kernel_rfl)
theorem cl52 : Callable Try.prog 52 := ⟨Try.f52, Try.func52, by kernel_rfl, rfl⟩
theorem fl32_10 : FieldOf Try.prog 32 10 22 10 1 := fld (by kernel_rfl)
theorem fl32_11 : FieldOf Try.prog 32 11 9 11 1 := fld (by kernel_rfl)
theorem fl29_2 : FieldOf Try.prog 29 2 23 2 1 := fld (by kernel_rfl)
theorem fl29_3 : FieldOf Try.prog 29 3 3 3 1 := fld (by kernel_rfl)
theorem fl29_4 : FieldOf Try.prog 29 4 24 4 1 := fld (by kernel_rfl)
theorem p24 : Plain Try.prog 24 := ⟨.int .u8, by kernel_rfl, by intros; simp, by intros; simp⟩
theorem fl29_5 : FieldOf Try.prog 29 5 3 5 1 := fld (by kernel_rfl)
theorem fl29_8 : FieldOf Try.prog 29 8 22 8 1 := fld (by kernel_rfl)
theorem fl29_9 : FieldOf Try.prog 29 9 9 9 1 := fld (by kernel_rfl)
theorem fl29_12 : FieldOf Try.prog 29 12 3 12 1 := fld (by kernel_rfl)
theorem fl29_13 : FieldOf Try.prog 29 13 3 13 1 := fld (by kernel_rfl)
theorem fl29_14 : FieldOf Try.prog 29 14 22 14 1 := fld (by kernel_rfl)
theorem cl54 : Callable Try.prog 54 := ⟨Try.f54, Try.func54, by kernel_rfl, rfl⟩
theorem cl55 : Callable Try.prog 55 := ⟨Try.f55, Try.func55, by kernel_rfl, rfl⟩
theorem cl50 : Callable Try.prog 50 := ⟨Try.f50, Try.func50, by kernel_rfl, rfl⟩
theorem cl49 : Callable Try.prog 49 := ⟨Try.f49, Try.func49, by kernel_rfl, rfl⟩
theorem cl105 : Callable Try.prog 105 := ⟨Try.f105, Try.func105, by kernel_rfl, rfl⟩
theorem cl41 : Callable Try.prog 41 := ⟨Try.f41, Try.func41, by kernel_rfl, rfl⟩
theorem cl81 : Callable Try.prog 81 := ⟨Try.f81, Try.func81, by kernel_rfl, rfl⟩
theorem s32 : Sized Try.prog 32 12 := by unfold Sized; kernel_rfl
theorem a32 : Aggr Try.prog 32 12 := ⟨⟨_, by kernel_rfl, .inl ⟨structFields Try.prog 32, rfl⟩⟩, s32⟩
theorem z32 : W.Zero Try.prog 32 (.agg #[.int .u8 (0), .int .i64 (0), .int .i64 (0), .int .u64 (0), .int .u64 (0), .int .u64 (0), .int .u64 (0), .int .u64 (0), .bool (false), .slice none 0 0, .slice none 0 0, .string (ByteArray.mk #[])]) := by unfold W.Zero; kernel_rfl
theorem s30 : Sized Try.prog 30 1 := by unfold Sized; kernel_rfl
theorem s23 : Sized Try.prog 23 1 := by unfold Sized; kernel_rfl
theorem cl46 : Callable Try.prog 46 := ⟨Try.f46, Try.func46, by kernel_rfl, rfl⟩
theorem s25 : Sized Try.prog 25 1 := by unfold Sized; kernel_rfl
theorem bu32_d7517139  : Try.prog.built 32 [] = some #[.int .u8 (0), .int .i64 (0), .int .i64 (0), .int .u64 (0), .int .u64 (0), .int .u64 (0), .int .u64 (0), .int .u64 (0), .bool (false), .slice none 0 0, .slice none 0 0, .string (ByteArray.mk #[])] := by kernel_rfl
theorem cl48 : Callable Try.prog 48 := ⟨Try.f48, Try.func48, by kernel_rfl, rfl⟩
theorem s4 : Sized Try.prog 4 1 := by unfold Sized; kernel_rfl
theorem s22 : Sized Try.prog 22 1 := by unfold Sized; kernel_rfl
theorem s9 : Sized Try.prog 9 1 := by unfold Sized; kernel_rfl
theorem bu32_03453412 (x0 : Int) (x1 : Int) (x2 : Int) (x3 : Int) : Try.prog.built 32 [(0, .int .u8 x0), (1, .int .i64 x1), (2, .int .i64 x2), (3, .int .u64 x3)] = some #[.int .u8 x0, .int .i64 x1, .int .i64 x2, .int .u64 x3, .int .u64 (0), .int .u64 (0), .int .u64 (0), .int .u64 (0), .bool (false), .slice none 0 0, .slice none 0 0, .string (ByteArray.mk #[])] := by kernel_rfl
theorem cl25 : Callable Try.prog 25 := ⟨Try.f25, Try.func25, by kernel_rfl, rfl⟩
theorem cl39 : Callable Try.prog 39 := ⟨Try.f39, Try.func39, by kernel_rfl, rfl⟩
theorem e90 : Elem Try.prog 90 (.agg #[.int .u64 (0), .int .u8 (0), .string (ByteArray.mk #[]), .slice none 0 0]) 4 56 := by unfold Elem; kernel_rfl
theorem z29 : W.Zero Try.prog 29 (.agg #[.int .i64 (0), .slice none 0 0, .int .u64 (0), .int .i64 (0), .int .u8 (0), .int .i64 (0), .int .u64 (0), .int .u64 (0), .slice none 0 0, .string (ByteArray.mk #[]), .slice none 0 0, .int .u64 (0), .int .i64 (0), .int .i64 (0), .slice none 0 0, .slice none 0 0, .int .u64 (0), .slice none 0 0]) := by unfold W.Zero; kernel_rfl
theorem cl91 : Callable Try.prog 91 := ⟨Try.f91, Try.func91, by kernel_rfl, rfl⟩
theorem e85 : Elem Try.prog 85 (.agg #[.int .i64 (0), .int .u64 (0), .int .u64 (0)]) 3 24 := by unfold Elem; kernel_rfl
theorem s26 : Sized Try.prog 26 1 := by unfold Sized; kernel_rfl
theorem e95 : Elem Try.prog 95 (.agg #[.int .u64 (0), .int .u64 (0), .slice none 0 0]) 3 40 := by unfold Elem; kernel_rfl
theorem s27 : Sized Try.prog 27 1 := by unfold Sized; kernel_rfl
theorem cl36 : Callable Try.prog 36 := ⟨Try.f36, Try.func36, by kernel_rfl, rfl⟩
theorem cl21 : Callable Try.prog 21 := ⟨Try.f21, Try.func21, by kernel_rfl, rfl⟩
theorem cl42 : Callable Try.prog 42 := ⟨Try.f42, Try.func42, by kernel_rfl, rfl⟩
theorem cl43 : Callable Try.prog 43 := ⟨Try.f43, Try.func43, by kernel_rfl, rfl⟩
theorem cl113 : Callable Try.prog 113 := ⟨Try.f113, Try.func113, by kernel_rfl, rfl⟩
theorem cl107 : Callable Try.prog 107 := ⟨Try.f107, Try.func107, by kernel_rfl, rfl⟩
theorem cl59 : Callable Try.prog 59 := ⟨Try.f59, Try.func59, by kernel_rfl, rfl⟩
theorem cl106 : Callable Try.prog 106 := ⟨Try.f106, Try.func106, by kernel_rfl, rfl⟩
theorem cl82 : Callable Try.prog 82 := ⟨Try.f82, Try.func82, by kernel_rfl, rfl⟩
theorem cl95 : Callable Try.prog 95 := ⟨Try.f95, Try.func95, by kernel_rfl, rfl⟩
theorem cl18 : Callable Try.prog 18 := ⟨Try.f18, Try.func18, by kernel_rfl, rfl⟩
theorem z22 : W.Zero Try.prog 22 (.slice none 0 0) := by unfold W.Zero; kernel_rfl
theorem cl57 : Callable Try.prog 57 := ⟨Try.f57, Try.func57, by kernel_rfl, rfl⟩
theorem cl58 : Callable Try.prog 58 := ⟨Try.f58, Try.func58, by kernel_rfl, rfl⟩
theorem cl20 : Callable Try.prog 20 := ⟨Try.f20, Try.func20, by kernel_rfl, rfl⟩
theorem cl93 : Callable Try.prog 93 := ⟨Try.f93, Try.func93, by kernel_rfl, rfl⟩
theorem cl94 : Callable Try.prog 94 := ⟨Try.f94, Try.func94, by kernel_rfl, rfl⟩
theorem cl44 : Callable Try.prog 44 := ⟨Try.f44, Try.func44, by kernel_rfl, rfl⟩
theorem cl7 : Callable Try.prog 7 := ⟨Try.f7, Try.func7, by kernel_rfl, rfl⟩
theorem cl8 : Callable Try.prog 8 := ⟨Try.f8, Try.func8, by kernel_rfl, rfl⟩
theorem cl9 : Callable Try.prog 9 := ⟨Try.f9, Try.func9, by kernel_rfl, rfl⟩
theorem cl10 : Callable Try.prog 10 := ⟨Try.f10, Try.func10, by kernel_rfl, rfl⟩
theorem cl11 : Callable Try.prog 11 := ⟨Try.f11, Try.func11, by kernel_rfl, rfl⟩
theorem cl12 : Callable Try.prog 12 := ⟨Try.f12, Try.func12, by kernel_rfl, rfl⟩
theorem cl13 : Callable Try.prog 13 := ⟨Try.f13, Try.func13, by kernel_rfl, rfl⟩
theorem cl14 : Callable Try.prog 14 := ⟨Try.f14, Try.func14, by kernel_rfl, rfl⟩
theorem cl15 : Callable Try.prog 15 := ⟨Try.f15, Try.func15, by kernel_rfl, rfl⟩
theorem cl19 : Callable Try.prog 19 := ⟨Try.f19, Try.func19, by kernel_rfl, rfl⟩
theorem u24 : Try.prog.underlying 24 = some (.int .u8) := by kernel_rfl
theorem u9 : Try.prog.underlying 9 = some (.string) := by kernel_rfl
theorem u88 : Try.prog.underlying 88 = some (.int .u8) := by kernel_rfl
theorem u30 : Try.prog.underlying 30 = some (.int .u8) := by kernel_rfl
end Go.Proofs.Ytbpamkbegggeoaa.T
