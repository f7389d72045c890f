/- My texts, cut to what this claim needs and merged. -/
import Derived.Test.YtbpamkbegggeoaaB1
import Derived.Test.YtbpamkbegggeoaaProg
namespace Go.Proofs.Ytbpamkbegggeoaa.T
open W Go.RowKit
set_option maxRecDepth 100000
set_option maxHeartbeats 400000
structure EntryD where
  Term : Int
  Kind : Int
  Data : ByteArray
  Members : List Int
deriving Inhabited
def EntryD.InR (x : EntryD) : Prop := inK .u64 x.Term ∧ inK .u8 x.Kind ∧ x.Data.size ≤ maxLen
def entryR : Rep EntryD where
  sz := 4
  rd := fun X w cs x => ∃ v3, cs = [.int .u64 (x.Term), .int .u8 (x.Kind), .string (x.Data), v3] ∧ Sl (intR .i64) X w v3 x.Members ∧ x.InR
  len := by rintro _ _ _ _ ⟨v3, rfl, h3, hk⟩; rfl
  one := by
    rintro _ _ _ _ ⟨v3, rfl, h3, hk⟩ u hu
    simp only [List.mem_cons, List.not_mem_nil, or_false] at hu
    rcases hu with rfl | rfl | rfl | rfl <;> first | rfl | exact Sl.one (by assumption)
  ext := fun ⟨v3, h, h3, hk⟩ k => ⟨v3, h, h3.ext k, hk⟩
  mono := fun ⟨v3, h, h3, hk⟩ k => ⟨v3, h, h3.mono k, hk⟩
  new := fun ⟨v3, h, h3, hk⟩ k => ⟨v3, h, Sl.new (by show (1 : Nat) ≠ 0; decide) h3 k, hk⟩
structure FollowD where
  Id : Int
  Next : Int
  Match : Int
deriving Inhabited
def FollowD.InR (x : FollowD) : Prop := inK .i64 x.Id ∧ inK .u64 x.Next ∧ inK .u64 x.Match
structure ReadD where
  Round : Int
  Index : Int
  Acks : List Int
deriving Inhabited
def ReadD.InR (x : ReadD) : Prop := inK .u64 x.Round ∧ inK .u64 x.Index
structure PeerD where
  Id : Int
  Members : List Int
  Term : Int
  Vote : Int
  Role : Int
  Lead : Int
  Base : Int
  BaseTerm : Int
  BaseMembers : List Int
  Snap : ByteArray
  Log : List EntryD
  Commit : Int
  Idle : Int
  Wait : Int
  Votes : List Int
  Follows : List FollowD
  Round : Int
  Reads : List ReadD
deriving Inhabited
def PeerD.InR (x : PeerD) : Prop := inK .i64 x.Id ∧ inK .u64 x.Term ∧ inK .i64 x.Vote ∧ inK .u8 x.Role ∧ inK .i64 x.Lead ∧ inK .u64 x.Base ∧ inK .u64 x.BaseTerm ∧ x.Snap.size ≤ maxLen ∧ inK .u64 x.Commit ∧ inK .i64 x.Idle ∧ inK .i64 x.Wait ∧ inK .u64 x.Round
structure MsgD where
  Kind : Int
  From : Int
  To : Int
  Term : Int
  Index : Int
  LogTerm : Int
  Commit : Int
  Round : Int
  Ok : Bool
  Entries : List EntryD
  Members : List Int
  Snap : ByteArray
deriving Inhabited
def MsgD.InR (x : MsgD) : Prop := inK .u8 x.Kind ∧ inK .i64 x.From ∧ inK .i64 x.To ∧ inK .u64 x.Term ∧ inK .u64 x.Index ∧ inK .u64 x.LogTerm ∧ inK .u64 x.Commit ∧ inK .u64 x.Round ∧ x.Snap.size ≤ maxLen
def msgR : Rep MsgD where
  sz := 12
  rd := fun X w cs x => ∃ v9 v10, cs = [.int .u8 (x.Kind), .int .i64 (x.From), .int .i64 (x.To), .int .u64 (x.Term), .int .u64 (x.Index), .int .u64 (x.LogTerm), .int .u64 (x.Commit), .int .u64 (x.Round), .bool (x.Ok), v9, v10, .string (x.Snap)] ∧ Sl entryR X w v9 x.Entries ∧ Sl (intR .i64) X w v10 x.Members ∧ x.InR
  len := by rintro _ _ _ _ ⟨v9, v10, rfl, h9, h10, hk⟩; rfl
  one := by
    rintro _ _ _ _ ⟨v9, v10, rfl, h9, h10, hk⟩ u hu
    simp only [List.mem_cons, List.not_mem_nil, or_false] at hu
    rcases hu with rfl | rfl | rfl | rfl | rfl | rfl | rfl | rfl | rfl | rfl | rfl | rfl <;> first | rfl | exact Sl.one (by assumption)
  ext := fun ⟨v9, v10, h, h9, h10, hk⟩ k => ⟨v9, v10, h, h9.ext k, h10.ext k, hk⟩
  mono := fun ⟨v9, v10, h, h9, h10, hk⟩ k => ⟨v9, v10, h, h9.mono k, h10.mono k, hk⟩
  new := fun ⟨v9, v10, h, h9, h10, hk⟩ k => ⟨v9, v10, h, Sl.new (by show (4 : Nat) ≠ 0; decide) h9 k, Sl.new (by show (1 : Nat) ≠ 0; decide) h10 k, hk⟩
def idB (n : Int) : Bool := decide (n ≥ 1) && decide (n ≤ 64)
def okAt (xs : List Int) (i : Nat) : Bool := idB (xs.getD i 0) && (decide (i = 0) || decide (xs.getD (i - 1) 0 < xs.getD i 0))
def idsB (xs : List Int) : Bool := allB xs.length (okAt xs)
def membersB (xs : List Int) : Bool := decide ((xs.length : Int) > 0) && idsB xs
def ieq (a b : Int) : Bool := decide (a = b)
def eqB {α : Type} [Inhabited α] (f : α → α → Bool) (xs ys : List α) : Bool := decide (xs.length = ys.length) && allB xs.length fun i => f (xs.getD i default) (ys.getD i default)
theorem eqB_len {α : Type} [Inhabited α] {f : α → α → Bool} {xs ys : List α} (h : xs.length ≠ ys.length) : eqB f xs ys = false := by simp [eqB, h]
theorem eqB_true {α : Type} [Inhabited α] {f : α → α → Bool} {xs ys : List α} {k : Nat} (h : xs.length = ys.length) (hk : ∀ j, j < k → (fun i => f (xs.getD i default) (ys.getD i default)) j = true) (hn : xs.length ≤ k) : eqB f xs ys = true := by
  simp only [eqB, h, decide_true, Bool.true_and]; rw [← h]; exact allB_true hk hn
theorem eqB_false {α : Type} [Inhabited α] {f : α → α → Bool} {xs ys : List α} {k : Nat} (h : xs.length = ys.length) (hk : k < xs.length) (hf : f (xs.getD k default) (ys.getD k default) = false) : eqB f xs ys = false := by
  simp only [eqB, h, decide_true, Bool.true_and]; rw [← h]; exact allB_false hk hf
def kindOk (e : EntryD) : Bool := (decide (e.Kind = 0) && decide (e.Members.length = 0)) || (decide (e.Kind = 1) && seqB e.Data (ByteArray.mk #[]) && decide (e.Members.length = 0)) || (decide (e.Kind = 2) && seqB e.Data (ByteArray.mk #[]) && membersB e.Members)
def entOk (f : Int) (e : EntryD) (t : Int) : Bool := decide (1 ≤ e.Term) && decide (f ≤ e.Term) && decide (e.Term ≤ t) && kindOk e
def prevT (l : List EntryD) (f : Int) (k : Nat) : Int := if k = 0 then f else (l.getD (k - 1) default).Term
def vprevT (l : List EntryD) (f : Int) (k : Nat) : Int := if k = 0 then max f 1 else (l.getD (k - 1) default).Term
def entsB (l : List EntryD) (f t : Int) : Bool := allB l.length fun i => entOk (prevT l f i) (l.getD i default) t
def ventsB (l : List EntryD) (f t : Int) : Bool := allB l.length fun i => entOk (vprevT l f i) (l.getD i default) t
theorem vprevT_pos {l : List EntryD} {f t : Int} {k : Nat} (h : ∀ j, j < k → (fun i => entOk (vprevT l f i) (l.getD i default) t) j = true) : 1 ≤ vprevT l f k := by
  unfold vprevT
  split
  · omega
  · have := h (k - 1) (by omega)
    simp only [entOk, Bool.and_eq_true, decide_eq_true_eq] at this
    exact this.1.1.1
theorem vents_eq (l : List EntryD) (f t : Int) : ventsB l f t = entsB l f t := by
  have h : ∀ i, entOk (vprevT l f i) (l.getD i default) t = entOk (prevT l f i) (l.getD i default) t := by
    intro i
    unfold vprevT prevT
    split
    · simp only [entOk]
      cases hk : kindOk (l.getD i default)
      · simp
      · rw [Bool.eq_iff_iff]; simp only [Bool.and_true, Bool.and_eq_true, decide_eq_true_eq]; omega
    · rfl
  simp only [ventsB, entsB, h]
def cnt (p : PeerD) (k : Nat) : Nat := ((p.Members.take k).filter (fun n => !ieq n p.Id)).length
def sameEntB (a b : EntryD) : Bool := decide (a.Term = b.Term) && decide (a.Kind = b.Kind) && seqB a.Data b.Data && eqB ieq a.Members b.Members
def sameMsgB (a b : MsgD) : Bool := decide (a.Kind = b.Kind) && decide (a.From = b.From) && decide (a.To = b.To) && decide (a.Term = b.Term) && decide (a.Index = b.Index) && decide (a.LogTerm = b.LogTerm) && decide (a.Commit = b.Commit) && decide (a.Round = b.Round) && (a.Ok == b.Ok) && eqB sameEntB a.Entries b.Entries && eqB ieq a.Members b.Members && seqB a.Snap b.Snap
def memUpto (p : PeerD) : Nat → List Int
  | 0 => p.BaseMembers
  | k + 1 => if (p.Log.getD k default).Kind = 2 then (p.Log.getD k default).Members else memUpto p k
structure Fits (p : PeerD) : Prop where
  mem : p.Members.length ≤ 17592186044416
  base : p.BaseMembers.length ≤ 17592186044416
  votes : p.Votes.length ≤ 17592186044416
  log : p.Log.length ≤ 1099511627776
  follows : p.Follows.length ≤ 1099511627776
  reads : p.Reads.length ≤ 1099511627776
  ents : ∀ k, k < p.Log.length → (p.Log.getD k default).Members.length ≤ 17592186044416
  acks : ∀ k, k < p.Reads.length → (p.Reads.getD k default).Acks.length ≤ 17592186044416
theorem Fits.upto {p : PeerD} (h : Fits p) : ∀ k, k ≤ p.Log.length → (memUpto p k).length ≤ 17592186044416
  | 0, _ => h.base
  | k + 1, hk => by
    unfold memUpto
    split
    · exact h.ents k (by omega)
    · exact h.upto k (by omega)
def hdB (m : MsgD) : Bool := idB m.From && idB m.To && decide (m.From ≠ m.To) && decide (m.Term > 0) && decide (m.Term ≤ 4611686018427387904) && decide (m.Round ≤ 4611686018427387904) && decide (m.Index ≤ 4611686018427387904) && decide (m.LogTerm ≤ m.Term)
def eqzB (m : MsgD) : Bool := decide (m.Index = 0) == decide (m.LogTerm = 0)
def layB (m : MsgD) : Bool := decide ((m.Entries.length : Int) ≤ 16) && entsB m.Entries m.LogTerm m.Term && eqzB m && sameMsgB ({ Kind := 0, From := 0, To := 0, Term := 0, Index := 0, LogTerm := 0, Commit := 0, Round := 0, Ok := m.Ok, Entries := [], Members := m.Members, Snap := m.Snap } : MsgD) ({ Kind := 0, From := 0, To := 0, Term := 0, Index := 0, LogTerm := 0, Commit := 0, Round := 0, Ok := false, Entries := [], Members := [], Snap := ByteArray.mk #[] } : MsgD)
def askB (m : MsgD) : Bool := eqzB m && sameMsgB ({ Kind := 0, From := 0, To := 0, Term := 0, Index := 0, LogTerm := 0, Commit := m.Commit, Round := m.Round, Ok := m.Ok, Entries := m.Entries, Members := m.Members, Snap := m.Snap } : MsgD) ({ Kind := 0, From := 0, To := 0, Term := 0, Index := 0, LogTerm := 0, Commit := 0, Round := 0, Ok := false, Entries := [], Members := [], Snap := ByteArray.mk #[] } : MsgD)
def heardB (m : MsgD) : Bool := sameMsgB ({ Kind := 0, From := 0, To := 0, Term := 0, Index := 0, LogTerm := m.LogTerm, Commit := m.Commit, Round := 0, Ok := false, Entries := m.Entries, Members := m.Members, Snap := m.Snap } : MsgD) ({ Kind := 0, From := 0, To := 0, Term := 0, Index := 0, LogTerm := 0, Commit := 0, Round := 0, Ok := false, Entries := [], Members := [], Snap := ByteArray.mk #[] } : MsgD)
def toldB (m : MsgD) : Bool := sameMsgB ({ Kind := 0, From := 0, To := 0, Term := 0, Index := m.Index, LogTerm := m.LogTerm, Commit := m.Commit, Round := m.Round, Ok := false, Entries := m.Entries, Members := m.Members, Snap := m.Snap } : MsgD) ({ Kind := 0, From := 0, To := 0, Term := 0, Index := 0, LogTerm := 0, Commit := 0, Round := 0, Ok := false, Entries := [], Members := [], Snap := ByteArray.mk #[] } : MsgD)
def installB (m : MsgD) : Bool := decide (m.Index > 0) && decide (m.LogTerm > 0) && membersB m.Members && sameMsgB ({ Kind := 0, From := 0, To := 0, Term := 0, Index := 0, LogTerm := 0, Commit := m.Commit, Round := 0, Ok := m.Ok, Entries := m.Entries, Members := [], Snap := ByteArray.mk #[] } : MsgD) ({ Kind := 0, From := 0, To := 0, Term := 0, Index := 0, LogTerm := 0, Commit := 0, Round := 0, Ok := false, Entries := [], Members := [], Snap := ByteArray.mk #[] } : MsgD)
def mayMsgB (m : MsgD) : Bool := hdB m && ((decide (m.Kind = 3) && layB m) || (decide (m.Kind = 1) && askB m) || (decide (m.Kind = 4) && heardB m) || (decide (m.Kind = 2) && toldB m) || (decide (m.Kind = 5) && installB m))
def tailB (m : MsgD) : Bool := decide ((m.Entries.length : Int) ≤ 16) && entsB m.Entries m.LogTerm m.Term
def refMayMsgB (m : MsgD) : Bool := hdB m && ((decide (m.Kind = 1) && sameMsgB ({ Kind := m.Kind, From := m.From, To := m.To, Term := m.Term, Index := m.Index, LogTerm := m.LogTerm, Commit := 0, Round := 0, Ok := false, Entries := [], Members := [], Snap := ByteArray.mk #[] } : MsgD) m && eqzB m && tailB m) || (decide (m.Kind = 2) && sameMsgB ({ Kind := m.Kind, From := m.From, To := m.To, Term := m.Term, Index := 0, LogTerm := 0, Commit := 0, Round := 0, Ok := m.Ok, Entries := [], Members := [], Snap := ByteArray.mk #[] } : MsgD) m && tailB m) || (decide (m.Kind = 3) && sameMsgB ({ Kind := m.Kind, From := m.From, To := m.To, Term := m.Term, Index := m.Index, LogTerm := m.LogTerm, Commit := m.Commit, Round := m.Round, Ok := false, Entries := m.Entries, Members := [], Snap := ByteArray.mk #[] } : MsgD) m && eqzB m && tailB m) || (decide (m.Kind = 4) && sameMsgB ({ Kind := m.Kind, From := m.From, To := m.To, Term := m.Term, Index := m.Index, LogTerm := 0, Commit := 0, Round := m.Round, Ok := m.Ok, Entries := [], Members := [], Snap := ByteArray.mk #[] } : MsgD) m && tailB m) || (decide (m.Kind = 5) && sameMsgB ({ Kind := m.Kind, From := m.From, To := m.To, Term := m.Term, Index := m.Index, LogTerm := m.LogTerm, Commit := 0, Round := m.Round, Ok := false, Entries := [], Members := m.Members, Snap := m.Snap } : MsgD) m && decide (m.Index > 0) && decide (m.LogTerm > 0) && membersB m.Members))
theorem seqB_comm (a b : ByteArray) : seqB a b = seqB b a := by simp only [seqB, Bool.beq_comm]
theorem seqB_refl (a : ByteArray) : seqB a a = true := by simp [seqB]
theorem eqB_nil {α : Type} [Inhabited α] (f : α → α → Bool) (xs : List α) : eqB f xs [] = decide (xs.length = 0) := by
  cases xs <;> simp [eqB, allB]
theorem nil_eqB {α : Type} [Inhabited α] (f : α → α → Bool) (xs : List α) : eqB f [] xs = decide (xs.length = 0) := by
  cases xs <;> simp [eqB, allB]
theorem eqB_refl {α : Type} [Inhabited α] {f : α → α → Bool} (h : ∀ a, f a a = true) (xs : List α) : eqB f xs xs = true := by
  simp only [eqB, decide_true, Bool.true_and]
  exact allB_iff.2 fun j _ => h _
theorem ieq_refl (a : Int) : ieq a a = true := by simp [ieq]
theorem sameEntB_refl (a : EntryD) : sameEntB a a = true := by simp [sameEntB, seqB_refl, eqB_refl ieq_refl]
theorem sameMsgB_refl (a : MsgD) : sameMsgB a a = true := by simp [sameMsgB, seqB_refl, eqB_refl ieq_refl, eqB_refl sameEntB_refl]
theorem ents_none {l : List EntryD} (h : l.length = 0) (f t : Int) : entsB l f t = true := by rw [entsB, h]; rfl
theorem refMay_eq (m : MsgD) (hm : m.InR) : refMayMsgB m = mayMsgB m := by
  have hn : 0 ≤ m.Index ∧ 0 ≤ m.LogTerm := ⟨(inK_u64 hm.2.2.2.2.1).1, (inK_u64 hm.2.2.2.2.2.1).1⟩
  have z : ∀ {a : Int}, decide (0 = a) = decide (a = 0) := fun {a} => by by_cases h : a = 0 <;> simp [h, eq_comm]
  have zb : (false == m.Ok) = (m.Ok == false) := by cases m.Ok <;> rfl
  have zs : seqB (ByteArray.mk #[]) m.Snap = seqB m.Snap (ByteArray.mk #[]) := seqB_comm _ _
  have zl : ((m.Entries.length : Int) ≤ 16) = (m.Entries.length ≤ 16) := by simp only [eq_iff_iff]; omega
  unfold refMayMsgB mayMsgB
  congr 1
  simp only [layB, askB, heardB, toldB, installB, tailB, eqzB, sameMsgB, eqB_nil, nil_eqB, eqB_refl ieq_refl, eqB_refl sameEntB_refl, seqB_refl, decide_true, Bool.true_and, Bool.and_true, BEq.rfl, z, zb, zs, zl, List.length_nil]
  by_cases h1 : m.Kind = 1
  · simp only [h1, decide_true, decide_false, Int.reduceEq, Bool.true_and, Bool.false_and, Bool.or_false, Bool.false_or]
    by_cases he : m.Entries.length = 0
    · simp only [ents_none he, he]
      ac_rfl
    · simp [he]
  by_cases h2 : m.Kind = 2
  · simp only [h2, decide_true, decide_false, Int.reduceEq, Bool.true_and, Bool.false_and, Bool.or_false, Bool.false_or]
    by_cases he : m.Entries.length = 0
    · simp [ents_none he, he]
    · simp [he]
  by_cases h3 : m.Kind = 3
  · simp only [h3, decide_true, decide_false, Int.reduceEq, Bool.true_and, Bool.false_and, Bool.or_false, Bool.false_or]
    ac_rfl
  by_cases h4 : m.Kind = 4
  · simp only [h4, decide_true, decide_false, Int.reduceEq, Bool.true_and, Bool.false_and, Bool.or_false, Bool.false_or]
    by_cases he : m.Entries.length = 0
    · simp [ents_none he, he]
    · simp [he]
  by_cases h5 : m.Kind = 5
  · simp only [h5, decide_true, decide_false, Int.reduceEq, Bool.true_and, Bool.false_and, Bool.or_false, Bool.false_or]
    ac_rfl
  simp [h1, h2, h3, h4, h5]
theorem castRd {α : Type} {R : Rep α} {X : List Nat} {w : World} {cs : List Value} {x y : α} (e : x = y) (h : R.rd X w cs x) : R.rd X w cs y := e ▸ h
theorem u22 : Try.prog.underlying 22 = some (.slice 3) := by kernel_rfl
theorem mo : Try.prog.follows .mixedOrders = true := by kernel_rfl
theorem s3 : Sized Try.prog 3 1 := by unfold Sized; kernel_rfl
theorem p3 : Plain Try.prog 3 := ⟨.int .i64, by kernel_rfl, by intros; simp, by intros; simp⟩
theorem cl37 : Callable Try.prog 37 := ⟨Try.f37, Try.func37, by kernel_rfl, rfl⟩
theorem cl45 : Callable Try.prog 45 := ⟨Try.f45, Try.func45, by kernel_rfl, rfl⟩
theorem cl92 : Callable Try.prog 92 := ⟨Try.f92, Try.func92, by kernel_rfl, rfl⟩
theorem e3 : Elem Try.prog 3 (.int .i64 (0)) 1 8 := by unfold Elem; kernel_rfl
theorem p22 : Plain Try.prog 22 := ⟨.slice 3, by kernel_rfl, by intros; simp, by intros; simp⟩
theorem p25 : Plain Try.prog 25 := ⟨.slice 90, by kernel_rfl, by intros; simp, by intros; simp⟩
theorem u25 : Try.prog.underlying 25 = some (.slice 90) := by kernel_rfl
theorem p23 : Plain Try.prog 23 := ⟨.int .u64, by kernel_rfl, by intros; simp, by intros; simp⟩
theorem u3 : Try.prog.underlying 3 = some (.int .i64) := by kernel_rfl
theorem u23 : Try.prog.underlying 23 = some (.int .u64) := by kernel_rfl
theorem s90 : Sized Try.prog 90 4 := by unfold Sized; kernel_rfl
theorem fl90_0 : FieldOf Try.prog 90 0 23 0 1 := fld (by kernel_rfl)
theorem a90 : Aggr Try.prog 90 4 := ⟨⟨_, by kernel_rfl, .inl ⟨structFields Try.prog 90, rfl⟩⟩, s90⟩
theorem z90 : W.Zero Try.prog 90 (.agg #[.int .u64 (0), .int .u8 (0), .string (ByteArray.mk #[]), .slice none 0 0]) := by unfold W.Zero; kernel_rfl
theorem fl90_1 : FieldOf Try.prog 90 1 88 1 1 := fld (by kernel_rfl)
theorem p88 : Plain Try.prog 88 := ⟨.int .u8, by kernel_rfl, by intros; simp, by intros; simp⟩
theorem fl90_2 : FieldOf Try.prog 90 2 9 2 1 := fld (by kernel_rfl)
theorem p9 : Plain Try.prog 9 := ⟨.string, by kernel_rfl, by intros; simp, by intros; simp⟩
theorem fl90_3 : FieldOf Try.prog 90 3 22 3 1 := fld (by kernel_rfl)
theorem cl38 : Callable Try.prog 38 := ⟨Try.f38, Try.func38, by kernel_rfl, rfl⟩
theorem cl47 : Callable Try.prog 47 := ⟨Try.f47, Try.func47, by kernel_rfl, rfl⟩
theorem s85 : Sized Try.prog 85 3 := by unfold Sized; kernel_rfl
theorem a85 : Aggr Try.prog 85 3 := ⟨⟨_, by kernel_rfl, .inl ⟨structFields Try.prog 85, rfl⟩⟩, s85⟩
theorem cl40 : Callable Try.prog 40 := ⟨Try.f40, Try.func40, by kernel_rfl, rfl⟩
theorem cl51 : Callable Try.prog 51 := ⟨Try.f51, Try.func51, by kernel_rfl, rfl⟩
theorem cl53 : Callable Try.prog 53 := ⟨Try.f53, Try.func53, by kernel_rfl, rfl⟩
theorem fl32_0 : FieldOf Try.prog 32 0 30 0 1 := fld (by kernel_rfl)
theorem p30 : Plain Try.prog 30 := ⟨.int .u8, by kernel_rfl, by intros; simp, by intros; simp⟩
theorem fl32_1 : FieldOf Try.prog 32 1 3 1 1 := fld (by kernel_rfl)
theorem fl32_2 : FieldOf Try.prog 32 2 3 2 1 := fld (by kernel_rfl)
theorem fl32_3 : FieldOf Try.prog 32 3 23 3 1 := fld (by kernel_rfl)
theorem fl32_4 : FieldOf Try.prog 32 4 23 4 1 := fld (by kernel_rfl)
theorem fl32_5 : FieldOf Try.prog 32 5 23 5 1 := fld (by kernel_rfl)
theorem fl32_6 : FieldOf Try.prog 32 6 23 6 1 := fld (by kernel_rfl)
theorem fl32_7 : FieldOf Try.prog 32 7 23 7 1 := fld (by kernel_rfl)
theorem fl32_8 : FieldOf Try.prog 32 8 4 8 1 := fld (by kernel_rfl)
theorem p4 : Plain Try.prog 4 := ⟨.bool, by kernel_rfl, by intros; simp, by intros; simp⟩
theorem u4 : Try.prog.underlying 4 = some (.bool) := by kernel_rfl
theorem fl32_9 : FieldOf Try.prog 32 9 25 9 1 := fld (by kernel_rfl)
theorem cl52 : Callable Try.prog 52 := ⟨Try.f52, Try.func52, by kernel_rfl, rfl⟩
theorem fl32_10 : FieldOf Try.prog 32 10 22 10 1 := fld (by kernel_rfl)
theorem fl32_11 : FieldOf Try.prog 32 11 9 11 1 := fld (by kernel_rfl)
theorem cl50 : Callable Try.prog 50 := ⟨Try.f50, Try.func50, by kernel_rfl, rfl⟩
theorem s32 : Sized Try.prog 32 12 := by unfold Sized; kernel_rfl
theorem a32 : Aggr Try.prog 32 12 := ⟨⟨_, by kernel_rfl, .inl ⟨structFields Try.prog 32, rfl⟩⟩, s32⟩
theorem z32 : W.Zero Try.prog 32 (.agg #[.int .u8 (0), .int .i64 (0), .int .i64 (0), .int .u64 (0), .int .u64 (0), .int .u64 (0), .int .u64 (0), .int .u64 (0), .bool (false), .slice none 0 0, .slice none 0 0, .string (ByteArray.mk #[])]) := by unfold W.Zero; kernel_rfl
theorem s30 : Sized Try.prog 30 1 := by unfold Sized; kernel_rfl
theorem s23 : Sized Try.prog 23 1 := by unfold Sized; kernel_rfl
theorem cl46 : Callable Try.prog 46 := ⟨Try.f46, Try.func46, by kernel_rfl, rfl⟩
theorem s25 : Sized Try.prog 25 1 := by unfold Sized; kernel_rfl
theorem bu32_d7517139  : Try.prog.built 32 [] = some #[.int .u8 (0), .int .i64 (0), .int .i64 (0), .int .u64 (0), .int .u64 (0), .int .u64 (0), .int .u64 (0), .int .u64 (0), .bool (false), .slice none 0 0, .slice none 0 0, .string (ByteArray.mk #[])] := by kernel_rfl
theorem cl48 : Callable Try.prog 48 := ⟨Try.f48, Try.func48, by kernel_rfl, rfl⟩
theorem s4 : Sized Try.prog 4 1 := by unfold Sized; kernel_rfl
theorem s22 : Sized Try.prog 22 1 := by unfold Sized; kernel_rfl
theorem s9 : Sized Try.prog 9 1 := by unfold Sized; kernel_rfl
theorem bu32_03453412 (x0 : Int) (x1 : Int) (x2 : Int) (x3 : Int) : Try.prog.built 32 [(0, .int .u8 x0), (1, .int .i64 x1), (2, .int .i64 x2), (3, .int .u64 x3)] = some #[.int .u8 x0, .int .i64 x1, .int .i64 x2, .int .u64 x3, .int .u64 (0), .int .u64 (0), .int .u64 (0), .int .u64 (0), .bool (false), .slice none 0 0, .slice none 0 0, .string (ByteArray.mk #[])] := by kernel_rfl
theorem cl25 : Callable Try.prog 25 := ⟨Try.f25, Try.func25, by kernel_rfl, rfl⟩
theorem cl39 : Callable Try.prog 39 := ⟨Try.f39, Try.func39, by kernel_rfl, rfl⟩
theorem e90 : Elem Try.prog 90 (.agg #[.int .u64 (0), .int .u8 (0), .string (ByteArray.mk #[]), .slice none 0 0]) 4 56 := by unfold Elem; kernel_rfl
theorem cl8 : Callable Try.prog 8 := ⟨Try.f8, Try.func8, by kernel_rfl, rfl⟩
theorem cl12 : Callable Try.prog 12 := ⟨Try.f12, Try.func12, by kernel_rfl, rfl⟩
theorem cl13 : Callable Try.prog 13 := ⟨Try.f13, Try.func13, by kernel_rfl, rfl⟩
theorem u9 : Try.prog.underlying 9 = some (.string) := by kernel_rfl
theorem u88 : Try.prog.underlying 88 = some (.int .u8) := by kernel_rfl
theorem u30 : Try.prog.underlying 30 = some (.int .u8) := by kernel_rfl
end Go.Proofs.Ytbpamkbegggeoaa.T
namespace Go.Proofs.Ytbpamkbegggeoaa.T
open W Go.RowKit
set_option maxRecDepth 100000
set_option maxHeartbeats 400000
theorem ref_id {w : World} (n : Int) : Fnc Try.prog 37 #[.int .i64 (n)] w (fun v w' => v = .bool (idB n) ∧ Ext [] w w') := by
  refine Fnc.of_WP (n := 9) Try.func37 rfl Try.ntmps37 (by simp) ?_
  intro E hE
  have h0 : E 0 = .int .i64 (n) := hE 0 (by simp)
  clear hE
  refine WP.sr ?_
  refine WL.m rfl ?_
  refine WL.nil ?_
  refine WP.sr ?_
  refine WL.m rfl ?_
  refine WL.z (.bool (decide (n ≥ 1))) (V.cmp (x := .tmp 3) rfl h0 rfl rfl) ?_
  refine WL.vbp (c := n ≥ 1) (Sure.none rfl) rfl (V.move rfl rfl) (fun hc1 => ?_) (fun hc1 => ?_)
  rotate_left
  · refine WL.skips [(5, some false)] [(2, some false)] (kc (some false) rfl kn) (by kernel_rfl) (fun E2 hK3 hE4 => ?_)
    refine WP.ret ?_
    refine resOf.c1 rfl (v := .bool (false)) (hK3 2 (some false) rfl) ?_
    exact ⟨(bool_eq (by grind [idB])), Ext.refl _ _⟩
  refine WL.my rfl rfl ?_
  refine WL.y (.bool (decide (n ≤ 64))) rfl (V.cmp (x := .tmp 6) rfl h0 rfl rfl) ?_
  refine WL.k (a := true) rfl rfl ?_
  refine WL.m rfl ?_
  refine WL.nil ?_
  refine WP.ret ?_
  refine resOf.c1 rfl (v := .bool (decide (n ≤ 64))) rfl ?_
  exact ⟨(bool_eq (by grind [idB])), Ext.refl _ _⟩
theorem vote_id {w : World} (n : Int) : Fnc Try.prog 45 #[.int .i64 (n)] w (fun v w' => v = .bool (idB n) ∧ Ext [] w w') := by
  refine Fnc.of_WP (n := 9) Try.func45 rfl Try.ntmps45 (by simp) ?_
  intro E hE
  have h0 : E 0 = .int .i64 (n) := hE 0 (by simp)
  clear hE
  refine WP.sr ?_
  refine WL.m rfl ?_
  refine WL.nil ?_
  refine WP.sr ?_
  refine WL.m rfl ?_
  refine WL.z (.bool (decide (n ≥ 1))) (V.cmp (x := .tmp 3) rfl h0 rfl rfl) ?_
  refine WL.vbp (c := n ≥ 1) (Sure.none rfl) rfl (V.move rfl rfl) (fun hc1 => ?_) (fun hc1 => ?_)
  rotate_left
  · refine WL.skips [(5, some false)] [(2, some false)] (kc (some false) rfl kn) (by kernel_rfl) (fun E2 hK3 hE4 => ?_)
    refine WP.ret ?_
    refine resOf.c1 rfl (v := .bool (false)) (hK3 2 (some false) rfl) ?_
    exact ⟨(bool_eq (by grind [idB])), Ext.refl _ _⟩
  refine WL.my rfl rfl ?_
  refine WL.y (.bool (decide (n ≤ 64))) rfl (V.cmp (x := .tmp 6) rfl h0 rfl rfl) ?_
  refine WL.k (a := true) rfl rfl ?_
  refine WL.m rfl ?_
  refine WL.nil ?_
  refine WP.ret ?_
  refine resOf.c1 rfl (v := .bool (decide (n ≤ 64))) rfl ?_
  exact ⟨(bool_eq (by grind [idB])), Ext.refl _ _⟩
theorem ref_ids {w : World} {X : List Nat} {v_xs : Value} {xs : List Int} (h_xs : Sl (intR .i64) X w v_xs xs) : Fnc Try.prog 38 #[v_xs] w (fun v w' => v = .bool (idsB xs) ∧ Ext [] w w') := by
  have hle_xs := h_xs.le'
  refine Fnc.of_WP (n := 32) Try.func38 rfl Try.ntmps38 (by simp) ?_
  intro E hE
  have h0 : E 0 = v_xs := hE 0 (by simp)
  clear hE
  refine WP.sr ?_
  refine WL.m rfl ?_
  refine WL.nil ?_
  refine WP.seq ?_
  refine WP.sr ?_
  refine WL.m rfl ?_
  refine WL.nil ?_
  refine WP.block ?_
  refine WP.loop (σ := Nat) (fun k E1 w2 => E1 0 = v_xs ∧ E1 3 = .int .i64 ((k : Int)) ∧ Ext [] w w2 ∧ k ≤ xs.length ∧ ∀ j, j < k → (okAt xs) j = true) (fun k => xs.length - k) (0) ?_ ?_
  · exact ⟨h0, (int_eq (by omega)), Ext.refl _ _, (by omega), (all_zero _)⟩
  rintro k E1 w2 ⟨h0_3, h3_3, hx3, hi0_3, hi1_3⟩
  have hx4 : Ext [] w w2 := hx3
  refine WP.seq ?_
  refine WP.sr ?_
  refine WL.m rfl ?_
  refine WL.m rfl ?_
  obtain ⟨a5, c6, hv7⟩ := h_xs.shape
  refine WL.z (.int .i64 (((xs).length : Int))) (V.lenSlice (x := .tmp 5) rfl rfl u22 (Eq.trans (b := v_xs) h0_3 hv7)) ?_
  refine WL.z (.bool (decide ((k : Int) < ((xs).length : Int)))) (V.cmp (x := .tmp 4) rfl h3_3 rfl rfl) ?_
  refine WL.nil ?_
  refine WP.condp (t := (k : Int) < ((xs).length : Int)) rfl (fun hc8 => ?_) (fun hc8 => ?_)
  rotate_left
  · refine WP.exit ?_
    refine WP.sr ?_
    refine WL.m rfl ?_
    refine WL.nil ?_
    refine WP.ret ?_
    refine resOf.c1 rfl (v := .bool (true)) rfl ?_
    exact ⟨(bool_eq (by first | (exact (allB_true (by assumption) (by omega)).symm) | (exact (allB_false (k := k) (by omega) (by grind [okAt])).symm))), hx4⟩
  refine WP.skip ?_
  refine WP.seq ?_
  refine WP.block ?_
  refine WP.seq ?_
  refine WP.quiet mo (by kernel_rfl) ?_
  refine WQ.m rfl ?_
  refine WQ.m rfl ?_
  have hlt17 : k < (xs).length := by first | omega | (simp at *; omega)
  obtain ⟨b9, k10, c11, cs12, hv13, hnb14, hr15, hat16⟩ := (h_xs.ext (Ext.pre hx4)).get (i := k) (x := (xs.getD k 0)) (getD_some hlt17 _)
  obtain ⟨rfl, hin18⟩ := hr15
  have hin18 := inK_i64 hin18
  refine WQ.z (.pointer (some ⟨b9, k10 + k * 1, none⟩)) (fun w' hw => V.indexAddr (x := .tmp 10) (i := .tmp 11) (m := k) (j := (k : Int)) rfl u22 s3 (Eq.trans (b := v_xs) h0_3 hv13) h3_3 rfl hlt17) ?_
  refine WQ.z (.int .i64 ((xs.getD k 0))) (fun w' hw => V.load rfl p3 rfl ((hat16.ext hw (by simp)).cell (j := 0) rfl)) ?_
  refine WQ.c (u := .bool (idB (xs.getD k 0))) (Sure.none rfl) rfl (fun w' hw => C.call1 rfl cl37 rfl) (fun w' hw => (ref_id (xs.getD k 0))) ?_
  refine WQ.z (.bool (!(idB (xs.getD k 0)))) (fun w' hw => V.not rfl rfl) ?_
  refine WQ.vbn (c := idB (xs.getD k 0)) (Sure.none rfl) rfl (fun w' hw => V.move rfl rfl) (fun hc19 => ?_) (fun hc19 => ?_)
  · refine WQ.skips [(16, some true)] [(31, some true)] (kc (some true) rfl kn) (by kernel_rfl) (fun E20 hK21 hE22 w23 hq24 => ?_)
    have hx25 : Ext [] w w23 := hx4.trans hq24
    refine WP.cond_true (hK21 31 (some true) rfl) ?_
    refine WP.sr ?_
    refine WL.m rfl ?_
    refine WL.nil ?_
    refine WP.ret ?_
    refine resOf.c1 rfl (v := .bool (false)) rfl ?_
    exact ⟨(bool_eq (by first | (exact (allB_true (by assumption) (by omega)).symm) | (exact (allB_false (k := k) (by omega) (by grind [okAt])).symm))), hx25⟩
  refine WQ.my rfl rfl ?_
  refine WQ.y (.bool (decide ((k : Int) > 0))) rfl (fun w' hw => V.cmp (x := .tmp 17) rfl h3_3 rfl rfl) ?_
  refine WQ.vbp (c := (k : Int) > 0) (Sure.yes rfl rfl rfl) rfl (fun w' hw => V.move rfl rfl) (fun hc27 => ?_) (fun hc27 => ?_)
  rotate_left
  · refine WQ.skips [(19, some false), (16, some false)] [(31, some false)] (kc (some false) rfl (kc (some false) rfl kn)) (by kernel_rfl) (fun E43 hK44 hE45 w46 hq47 => ?_)
    have hx48 : Ext [] w w46 := hx4.trans hq47
    refine WP.cond_false (hK44 31 (some false) rfl) ?_
    refine WP.skip ?_
    refine WP.region ?_
    refine WL.m rfl ?_
    refine WL.z (.int .i64 ((k : Int) + 1)) (V.arith (x := .tmp 8) rfl ((hE45 3 rfl).trans h3_3) rfl rfl (wrap_i64 (by omega) (by omega))) ?_
    refine WL.m rfl ?_
    refine WL.nil ?_
    exact ⟨k + 1, ⟨((hE45 0 rfl).trans h0_3), (int_eq (by omega)), hx48, (by omega), (all_step (by assumption) (by grind [okAt]))⟩, (by omega)⟩
  refine WQ.my rfl rfl ?_
  refine WQ.my rfl rfl ?_
  refine WQ.y (.int .i64 ((k : Int) - 1)) rfl (fun w' hw => V.arith (x := .tmp 21) rfl h3_3 rfl rfl (wrap_i64 (by omega) (by omega))) ?_
  have hlt36 : k - 1 < (xs).length := by first | omega | (simp at *; omega)
  obtain ⟨b28, k29, c30, cs31, hv32, hnb33, hr34, hat35⟩ := (h_xs.ext (Ext.pre hx4)).get (i := k - 1) (x := (xs.getD (k - 1) 0)) (getD_some hlt36 _)
  obtain ⟨rfl, hin37⟩ := hr34
  have hin37 := inK_i64 hin37
  refine WQ.y (.pointer (some ⟨b28, k29 + (k - 1) * 1, none⟩)) rfl (fun w' hw => V.indexAddr (x := .tmp 20) (m := k - 1) (j := (k : Int) - 1) rfl u22 s3 (Eq.trans (b := v_xs) h0_3 hv32) rfl (by omega) hlt36) ?_
  refine WQ.y (.int .i64 ((xs.getD (k - 1) 0))) rfl (fun w' hw => V.load rfl p3 rfl ((hat35.ext hw (by simp)).cell (j := 0) rfl)) ?_
  refine WQ.my rfl rfl ?_
  refine WQ.my rfl rfl ?_
  refine WQ.y (.pointer (some ⟨b9, k10 + k * 1, none⟩)) rfl (fun w' hw => V.indexAddr (x := .tmp 25) (i := .tmp 26) (m := k) (j := (k : Int)) rfl u22 s3 (Eq.trans (b := v_xs) h0_3 hv13) h3_3 rfl hlt17) ?_
  refine WQ.y (.int .i64 ((xs.getD k 0))) rfl (fun w' hw => V.load rfl p3 rfl ((hat16.ext hw (by simp)).cell (j := 0) rfl)) ?_
  refine WQ.y (.bool (decide ((xs.getD (k - 1) 0) ≥ (xs.getD k 0)))) rfl (fun w' hw => V.cmp rfl rfl rfl rfl) ?_
  refine WQ.ky (a := true) rfl rfl rfl ?_
  refine WQ.k (a := false) rfl rfl ?_
  refine WQ.nil (fun w38 hq39 => ?_)
  have hx40 : Ext [] w w38 := hx4.trans hq39
  refine WP.condp (t := (xs.getD (k - 1) 0) ≥ (xs.getD k 0)) rfl (fun hc42 => ?_) (fun hc42 => ?_)
  · refine WP.sr ?_
    refine WL.m rfl ?_
    refine WL.nil ?_
    refine WP.ret ?_
    refine resOf.c1 rfl (v := .bool (false)) rfl ?_
    exact ⟨(bool_eq (by first | (exact (allB_true (by assumption) (by omega)).symm) | (exact (allB_false (k := k) (by omega) (by grind [okAt])).symm))), hx40⟩
  refine WP.skip ?_
  refine WP.region ?_
  refine WL.m rfl ?_
  refine WL.z (.int .i64 ((k : Int) + 1)) (V.arith (x := .tmp 8) rfl h3_3 rfl rfl (wrap_i64 (by omega) (by omega))) ?_
  refine WL.m rfl ?_
  refine WL.nil ?_
  exact ⟨k + 1, ⟨h0_3, (int_eq (by omega)), hx40, (by omega), (all_step (by assumption) (by grind [okAt]))⟩, (by omega)⟩
theorem vote_rising {w : World} {X : List Nat} {v_xs : Value} {xs : List Int} (h_xs : Sl (intR .i64) X w v_xs xs) : Fnc Try.prog 92 #[v_xs] w (fun v w' => v = .bool (idsB xs) ∧ Ext [] w w') := by
  have hle_xs := h_xs.le'
  refine Fnc.of_WP (n := 29) Try.func92 rfl Try.ntmps92 (by simp) ?_
  intro E hE
  have h0 : E 0 = v_xs := hE 0 (by simp)
  clear hE
  refine WP.sr ?_
  refine WL.m rfl ?_
  refine WL.nil ?_
  refine WP.seq ?_
  refine WP.sr ?_
  refine WL.m rfl ?_
  obtain ⟨a1, c2, hv3⟩ := h_xs.shape
  refine WL.z (.int .i64 (((xs).length : Int))) (V.lenSlice (x := .tmp 5) rfl rfl u22 (Eq.trans (b := v_xs) h0 hv3)) ?_
  refine WL.m rfl ?_
  refine WL.nil ?_
  refine WP.block ?_
  refine WP.loop (σ := Nat) (fun k E4 w5 => E4 0 = v_xs ∧ E4 5 = v_xs ∧ E4 6 = .int .i64 (((xs).length : Int)) ∧ E4 7 = .int .i64 ((k : Int)) ∧ Ext [] w w5 ∧ k ≤ xs.length ∧ ∀ j, j < k → (okAt xs) j = true) (fun k => xs.length - k) (0) ?_ ?_
  · exact ⟨h0, h0, rfl, (int_eq (by omega)), Ext.refl _ _, (by omega), (all_zero _)⟩
  rintro k E4 w5 ⟨h0_6, h5_6, h6_6, h7_6, hx6, hi0_6, hi1_6⟩
  have hx7 : Ext [] w w5 := hx6
  refine WP.sr ?_
  refine WL.z (.bool (decide ((k : Int) < ((xs).length : Int)))) (V.cmp (x := .tmp 7) (y := .tmp 6) rfl h7_6 h6_6 rfl) ?_
  refine WL.nil ?_
  refine WP.seq ?_
  refine WP.condp (t := (k : Int) < ((xs).length : Int)) rfl (fun hc8 => ?_) (fun hc8 => ?_)
  rotate_left
  · refine WP.exit ?_
    refine WP.sr ?_
    refine WL.m rfl ?_
    refine WL.nil ?_
    refine WP.ret ?_
    refine resOf.c1 rfl (v := .bool (true)) rfl ?_
    exact ⟨(bool_eq (by first | (exact (allB_true (by assumption) (by omega)).symm) | (exact (allB_false (k := k) (by omega) (by grind [okAt])).symm))), hx7⟩
  refine WP.skip ?_
  refine WP.seq ?_
  refine WP.block ?_
  refine WP.sr ?_
  refine WL.m rfl ?_
  have hlt17 : k < (xs).length := by first | omega | (simp at *; omega)
  obtain ⟨b9, k10, c11, cs12, hv13, hnb14, hr15, hat16⟩ := (h_xs.ext (Ext.pre hx7)).get (i := k) (x := (xs.getD k 0)) (getD_some hlt17 _)
  obtain ⟨rfl, hin18⟩ := hr15
  have hin18 := inK_i64 hin18
  refine WL.z (.pointer (some ⟨b9, k10 + k * 1, none⟩)) (V.indexAddr (x := .tmp 5) (i := .tmp 7) (m := k) (j := (k : Int)) rfl u22 s3 (Eq.trans (b := v_xs) h5_6 hv13) h7_6 rfl hlt17) ?_
  refine WL.z (.int .i64 ((xs.getD k 0))) (V.load rfl p3 rfl (hat16.cell (j := 0) rfl)) ?_
  refine WL.m rfl ?_
  refine WL.m rfl ?_
  refine WL.nil ?_
  refine WP.sr ?_
  refine WL.m rfl ?_
  refine WL.c (Sure.none rfl) rfl (C.call1 rfl cl45 rfl) (Fnc.mono (vote_id (xs.getD k 0)) ?_)
  rintro _ w19 ⟨rfl, hx20⟩
  have hx21 : Ext [] w w19 := hx7.trans hx20
  refine WL.z (.bool (!(idB (xs.getD k 0)))) (V.not rfl rfl) ?_
  refine WL.vbn (c := idB (xs.getD k 0)) (Sure.none rfl) rfl (V.move rfl rfl) (fun hc23 => ?_) (fun hc23 => ?_)
  · refine WL.skips [(15, some true)] [(27, some true)] (kc (some true) rfl kn) (by kernel_rfl) (fun E24 hK25 hE26 => ?_)
    refine WP.cond_true (hK25 27 (some true) rfl) ?_
    refine WP.sr ?_
    refine WL.m rfl ?_
    refine WL.nil ?_
    refine WP.ret ?_
    refine resOf.c1 rfl (v := .bool (false)) rfl ?_
    exact ⟨(bool_eq (by first | (exact (allB_true (by assumption) (by omega)).symm) | (exact (allB_false (k := k) (by omega) (by grind [okAt])).symm))), hx21⟩
  refine WL.my rfl rfl ?_
  refine WL.y (.bool (decide ((k : Int) > 0))) rfl (V.cmp (x := .tmp 16) rfl h7_6 rfl rfl) ?_
  refine WL.vbp (c := (k : Int) > 0) (Sure.yes rfl rfl rfl) rfl (V.move rfl rfl) (fun hc27 => ?_) (fun hc27 => ?_)
  rotate_left
  · refine WL.skips [(18, some false), (15, some false)] [(27, some false)] (kc (some false) rfl (kc (some false) rfl kn)) (by kernel_rfl) (fun E39 hK40 hE41 => ?_)
    refine WP.cond_false (hK40 27 (some false) rfl) ?_
    refine WP.skip ?_
    refine WP.region ?_
    refine WL.z (.int .i64 ((k : Int) + 1)) (V.arith (x := .tmp 7) rfl ((hE41 7 rfl).trans h7_6) rfl rfl (wrap_i64 (by omega) (by omega))) ?_
    refine WL.m rfl ?_
    refine WL.nil ?_
    exact ⟨k + 1, ⟨((hE41 0 rfl).trans h0_6), ((hE41 5 rfl).trans h5_6), ((hE41 6 rfl).trans h6_6), (int_eq (by omega)), hx21, (by omega), (all_step (by assumption) (by grind [okAt]))⟩, (by omega)⟩
  refine WL.my rfl rfl ?_
  refine WL.my rfl rfl ?_
  refine WL.y (.int .i64 ((k : Int) - 1)) rfl (V.arith (x := .tmp 20) rfl h7_6 rfl rfl (wrap_i64 (by omega) (by omega))) ?_
  have hlt36 : k - 1 < (xs).length := by first | omega | (simp at *; omega)
  obtain ⟨b28, k29, c30, cs31, hv32, hnb33, hr34, hat35⟩ := (h_xs.ext (Ext.pre hx21)).get (i := k - 1) (x := (xs.getD (k - 1) 0)) (getD_some hlt36 _)
  obtain ⟨rfl, hin37⟩ := hr34
  have hin37 := inK_i64 hin37
  refine WL.y (.pointer (some ⟨b28, k29 + (k - 1) * 1, none⟩)) rfl (V.indexAddr (x := .tmp 19) (m := k - 1) (j := (k : Int) - 1) rfl u22 s3 (Eq.trans (b := v_xs) h0_6 hv32) rfl (by omega) hlt36) ?_
  refine WL.y (.int .i64 ((xs.getD (k - 1) 0))) rfl (V.load rfl p3 rfl (hat35.cell (j := 0) rfl)) ?_
  refine WL.my rfl rfl ?_
  refine WL.y (.bool (decide ((xs.getD (k - 1) 0) ≥ (xs.getD k 0)))) rfl (V.cmp rfl rfl rfl rfl) ?_
  refine WL.ky (a := true) rfl rfl rfl ?_
  refine WL.k (a := false) rfl rfl ?_
  refine WL.nil ?_
  refine WP.condp (t := (xs.getD (k - 1) 0) ≥ (xs.getD k 0)) rfl (fun hc38 => ?_) (fun hc38 => ?_)
  · refine WP.sr ?_
    refine WL.m rfl ?_
    refine WL.nil ?_
    refine WP.ret ?_
    refine resOf.c1 rfl (v := .bool (false)) rfl ?_
    exact ⟨(bool_eq (by first | (exact (allB_true (by assumption) (by omega)).symm) | (exact (allB_false (k := k) (by omega) (by grind [okAt])).symm))), hx21⟩
  refine WP.skip ?_
  refine WP.region ?_
  refine WL.z (.int .i64 ((k : Int) + 1)) (V.arith (x := .tmp 7) rfl h7_6 rfl rfl (wrap_i64 (by omega) (by omega))) ?_
  refine WL.m rfl ?_
  refine WL.nil ?_
  exact ⟨k + 1, ⟨h0_6, h5_6, h6_6, (int_eq (by omega)), hx21, (by omega), (all_step (by assumption) (by grind [okAt]))⟩, (by omega)⟩
theorem vote_members {w : World} {X : List Nat} {v_xs : Value} {xs : List Int} (h_xs : Sl (intR .i64) X w v_xs xs) : Fnc Try.prog 47 #[v_xs] w (fun v w' => v = .bool (membersB xs) ∧ Ext [] w w') := by
  have hle_xs := h_xs.le'
  refine Fnc.of_WP (n := 10) Try.func47 rfl Try.ntmps47 (by simp) ?_
  intro E hE
  have h0 : E 0 = v_xs := hE 0 (by simp)
  clear hE
  refine WP.sr ?_
  refine WL.m rfl ?_
  refine WL.nil ?_
  refine WP.sr ?_
  refine WL.m rfl ?_
  obtain ⟨a1, c2, hv3⟩ := h_xs.shape
  refine WL.z (.int .i64 (((xs).length : Int))) (V.lenSlice (x := .tmp 3) rfl rfl u22 (Eq.trans (b := v_xs) h0 hv3)) ?_
  refine WL.z (.bool (decide (((xs).length : Int) > 0))) (V.cmp rfl rfl rfl rfl) ?_
  refine WL.vbp (c := ((xs).length : Int) > 0) (Sure.none rfl) rfl (V.move rfl rfl) (fun hc4 => ?_) (fun hc4 => ?_)
  rotate_left
  · refine WL.skips [(6, some false)] [(2, some false)] (kc (some false) rfl kn) (by kernel_rfl) (fun E8 hK9 hE10 => ?_)
    refine WP.ret ?_
    refine resOf.c1 rfl (v := .bool (false)) (hK9 2 (some false) rfl) ?_
    exact ⟨(bool_eq (by grind [membersB])), Ext.refl _ _⟩
  refine WL.my rfl rfl ?_
  refine WL.c (Sure.yes rfl rfl rfl) rfl (C.call1 (x := .tmp 7) rfl cl92 h0) (Fnc.mono (vote_rising h_xs) ?_)
  rintro _ w5 ⟨rfl, hx6⟩
  have hx7 : Ext [] w w5 := hx6
  refine WL.k (a := true) rfl rfl ?_
  refine WL.m rfl ?_
  refine WL.nil ?_
  refine WP.ret ?_
  refine resOf.c1 rfl (v := .bool (idsB xs)) rfl ?_
  exact ⟨(bool_eq (by grind [membersB])), hx7⟩
theorem ref_sameInts {w : World} {X : List Nat} {v_xs : Value} {xs : List Int} (h_xs : Sl (intR .i64) X w v_xs xs) {v_ys : Value} {ys : List Int} (h_ys : Sl (intR .i64) X w v_ys ys) : Fnc Try.prog 40 #[v_xs, v_ys] w (fun v w' => v = .bool (eqB ieq xs ys) ∧ Ext [] w w') := by
  have hle_xs := h_xs.le'
  have hle_ys := h_ys.le'
  refine Fnc.of_WP (n := 26) Try.func40 rfl Try.ntmps40 (by simp) ?_
  intro E hE
  have h0 : E 0 = v_xs := hE 0 (by simp)
  have h1 : E 1 = v_ys := hE 1 (by simp)
  clear hE
  refine WP.sr ?_
  refine WL.m rfl ?_
  refine WL.nil ?_
  refine WP.seq ?_
  refine WP.sr ?_
  refine WL.m rfl ?_
  obtain ⟨a1, c2, hv3⟩ := h_xs.shape
  refine WL.z (.int .i64 (((xs).length : Int))) (V.lenSlice (x := .tmp 6) rfl rfl u22 (Eq.trans (b := v_xs) h0 hv3)) ?_
  refine WL.m rfl ?_
  obtain ⟨a4, c5, hv6⟩ := h_ys.shape
  refine WL.z (.int .i64 (((ys).length : Int))) (V.lenSlice (x := .tmp 8) rfl rfl u22 (Eq.trans (b := v_ys) h1 hv6)) ?_
  refine WL.z (.bool (decide (((xs).length : Int) ≠ ((ys).length : Int)))) (V.cmp rfl rfl rfl rfl) ?_
  refine WL.nil ?_
  refine WP.condp (t := ((xs).length : Int) ≠ ((ys).length : Int)) rfl (fun hc7 => ?_) (fun hc7 => ?_)
  · refine WP.sr ?_
    refine WL.m rfl ?_
    refine WL.nil ?_
    refine WP.ret ?_
    refine resOf.c1 rfl (v := .bool (false)) rfl ?_
    exact ⟨(bool_eq (by first | (exact (eqB_len (by omega)).symm) | (exact (eqB_true (by omega) (by assumption) (by omega)).symm) | (exact (eqB_false (by omega) (by omega) (by grind [ieq])).symm))), Ext.refl _ _⟩
  refine WP.skip ?_
  refine WP.seq ?_
  refine WP.sr ?_
  refine WL.m rfl ?_
  refine WL.nil ?_
  refine WP.block ?_
  refine WP.loop (σ := Nat) (fun k E8 w9 => E8 0 = v_xs ∧ E8 1 = v_ys ∧ E8 5 = .int .i64 ((k : Int)) ∧ E8 10 = .bool (decide (((xs).length : Int) ≠ ((ys).length : Int))) ∧ Ext [] w w9 ∧ k ≤ xs.length ∧ ∀ j, j < k → (fun i => ieq (xs.getD i 0) (ys.getD i 0)) j = true) (fun k => xs.length - k) (0) ?_ ?_
  · exact ⟨h0, h1, (int_eq (by omega)), rfl, Ext.refl _ _, (by omega), (all_zero _)⟩
  rintro k E8 w9 ⟨h0_10, h1_10, h5_10, h10_10, hx10, hi0_10, hi1_10⟩
  have hx11 : Ext [] w w9 := hx10
  refine WP.seq ?_
  refine WP.sr ?_
  refine WL.m rfl ?_
  refine WL.m rfl ?_
  refine WL.z (.int .i64 (((xs).length : Int))) (V.lenSlice (x := .tmp 12) rfl rfl u22 (Eq.trans (b := v_xs) h0_10 hv3)) ?_
  refine WL.z (.bool (decide ((k : Int) < ((xs).length : Int)))) (V.cmp (x := .tmp 11) rfl h5_10 rfl rfl) ?_
  refine WL.nil ?_
  refine WP.condp (t := (k : Int) < ((xs).length : Int)) rfl (fun hc12 => ?_) (fun hc12 => ?_)
  rotate_left
  · refine WP.exit ?_
    refine WP.sr ?_
    refine WL.m rfl ?_
    refine WL.nil ?_
    refine WP.ret ?_
    refine resOf.c1 rfl (v := .bool (true)) rfl ?_
    exact ⟨(bool_eq (by first | (exact (eqB_len (by omega)).symm) | (exact (eqB_true (by omega) (by assumption) (by omega)).symm) | (exact (eqB_false (by omega) (by omega) (by grind [ieq])).symm))), hx11⟩
  refine WP.skip ?_
  refine WP.seq ?_
  refine WP.block ?_
  refine WP.seq ?_
  refine WP.quiet mo (by kernel_rfl) ?_
  refine WQ.m rfl ?_
  refine WQ.m rfl ?_
  have hlt21 : k < (xs).length := by first | omega | (simp at *; omega)
  obtain ⟨b13, k14, c15, cs16, hv17, hnb18, hr19, hat20⟩ := (h_xs.ext (Ext.pre hx11)).get (i := k) (x := (xs.getD k 0)) (getD_some hlt21 _)
  obtain ⟨rfl, hin22⟩ := hr19
  have hin22 := inK_i64 hin22
  refine WQ.z (.pointer (some ⟨b13, k14 + k * 1, none⟩)) (fun w' hw => V.indexAddr (x := .tmp 17) (i := .tmp 18) (m := k) (j := (k : Int)) rfl u22 s3 (Eq.trans (b := v_xs) h0_10 hv17) h5_10 rfl hlt21) ?_
  refine WQ.z (.int .i64 ((xs.getD k 0))) (fun w' hw => V.load rfl p3 rfl ((hat20.ext hw (by simp)).cell (j := 0) rfl)) ?_
  refine WQ.m rfl ?_
  refine WQ.m rfl ?_
  have hlt31 : k < (ys).length := by first | omega | (simp at *; omega)
  obtain ⟨b23, k24, c25, cs26, hv27, hnb28, hr29, hat30⟩ := (h_ys.ext (Ext.pre hx11)).get (i := k) (x := (ys.getD k 0)) (getD_some hlt31 _)
  obtain ⟨rfl, hin32⟩ := hr29
  have hin32 := inK_i64 hin32
  refine WQ.z (.pointer (some ⟨b23, k24 + k * 1, none⟩)) (fun w' hw => V.indexAddr (x := .tmp 21) (i := .tmp 22) (m := k) (j := (k : Int)) rfl u22 s3 (Eq.trans (b := v_ys) h1_10 hv27) h5_10 rfl hlt31) ?_
  refine WQ.z (.int .i64 ((ys.getD k 0))) (fun w' hw => V.load rfl p3 rfl ((hat30.ext hw (by simp)).cell (j := 0) rfl)) ?_
  refine WQ.z (.bool (decide ((xs.getD k 0) ≠ (ys.getD k 0)))) (fun w' hw => V.cmp rfl rfl rfl rfl) ?_
  refine WQ.nil (fun w33 hq34 => ?_)
  have hx35 : Ext [] w w33 := hx11.trans hq34
  refine WP.condp (t := (xs.getD k 0) ≠ (ys.getD k 0)) rfl (fun hc37 => ?_) (fun hc37 => ?_)
  · refine WP.sr ?_
    refine WL.m rfl ?_
    refine WL.nil ?_
    refine WP.ret ?_
    refine resOf.c1 rfl (v := .bool (false)) rfl ?_
    exact ⟨(bool_eq (by first | (exact (eqB_len (by omega)).symm) | (exact (eqB_true (by omega) (by assumption) (by omega)).symm) | (exact (eqB_false (by omega) (by omega) (by grind [ieq])).symm))), hx35⟩
  refine WP.skip ?_
  refine WP.region ?_
  refine WL.m rfl ?_
  refine WL.z (.int .i64 ((k : Int) + 1)) (V.arith (x := .tmp 15) rfl h5_10 rfl rfl (wrap_i64 (by omega) (by omega))) ?_
  refine WL.m rfl ?_
  refine WL.nil ?_
  exact ⟨k + 1, ⟨h0_10, h1_10, (int_eq (by omega)), h10_10, hx35, (by omega), (all_step (by assumption) (by grind [ieq]))⟩, (by omega)⟩
theorem sl_equal_int {w : World} {X : List Nat} {v_xs : Value} {xs : List Int} (h_xs : Sl (intR .i64) X w v_xs xs) {v_ys : Value} {ys : List Int} (h_ys : Sl (intR .i64) X w v_ys ys) : Fnc Try.prog 51 #[v_xs, v_ys] w (fun v w' => v = .bool (eqB ieq xs ys) ∧ Ext [] w w') := by
  have hle_xs := h_xs.le'
  have hle_ys := h_ys.le'
  refine Fnc.of_WP (n := 26) Try.func51 rfl Try.ntmps51 (by simp) ?_
  intro E hE
  have h0 : E 0 = v_xs := hE 0 (by simp)
  have h1 : E 1 = v_ys := hE 1 (by simp)
  clear hE
  refine WP.sr ?_
  refine WL.m rfl ?_
  refine WL.nil ?_
  refine WP.seq ?_
  refine WP.sr ?_
  refine WL.m rfl ?_
  obtain ⟨a1, c2, hv3⟩ := h_xs.shape
  refine WL.z (.int .i64 (((xs).length : Int))) (V.lenSlice (x := .tmp 6) rfl rfl u22 (Eq.trans (b := v_xs) h0 hv3)) ?_
  refine WL.m rfl ?_
  obtain ⟨a4, c5, hv6⟩ := h_ys.shape
  refine WL.z (.int .i64 (((ys).length : Int))) (V.lenSlice (x := .tmp 8) rfl rfl u22 (Eq.trans (b := v_ys) h1 hv6)) ?_
  refine WL.z (.bool (decide (((xs).length : Int) ≠ ((ys).length : Int)))) (V.cmp rfl rfl rfl rfl) ?_
  refine WL.nil ?_
  refine WP.condp (t := ((xs).length : Int) ≠ ((ys).length : Int)) rfl (fun hc7 => ?_) (fun hc7 => ?_)
  · refine WP.sr ?_
    refine WL.m rfl ?_
    refine WL.nil ?_
    refine WP.ret ?_
    refine resOf.c1 rfl (v := .bool (false)) rfl ?_
    exact ⟨(bool_eq (by first | (exact (eqB_len (by omega)).symm) | (exact (eqB_true (by omega) (by assumption) (by omega)).symm) | (exact (eqB_false (by omega) (by omega) (by grind [ieq])).symm))), Ext.refl _ _⟩
  refine WP.skip ?_
  refine WP.seq ?_
  refine WP.sr ?_
  refine WL.m rfl ?_
  refine WL.z (.int .i64 (((xs).length : Int))) (V.lenSlice (x := .tmp 11) rfl rfl u22 (Eq.trans (b := v_xs) h0 hv3)) ?_
  refine WL.m rfl ?_
  refine WL.nil ?_
  refine WP.block ?_
  refine WP.loop (σ := Nat) (fun k E8 w9 => E8 0 = v_xs ∧ E8 1 = v_ys ∧ E8 10 = .bool (decide (((xs).length : Int) ≠ ((ys).length : Int))) ∧ E8 12 = .int .i64 (((xs).length : Int)) ∧ E8 13 = .int .i64 ((k : Int)) ∧ Ext [] w w9 ∧ k ≤ xs.length ∧ ∀ j, j < k → (fun i => ieq (xs.getD i 0) (ys.getD i 0)) j = true) (fun k => xs.length - k) (0) ?_ ?_
  · exact ⟨h0, h1, rfl, rfl, (int_eq (by omega)), Ext.refl _ _, (by omega), (all_zero _)⟩
  rintro k E8 w9 ⟨h0_10, h1_10, h10_10, h12_10, h13_10, hx10, hi0_10, hi1_10⟩
  have hx11 : Ext [] w w9 := hx10
  refine WP.sr ?_
  refine WL.z (.bool (decide ((k : Int) < ((xs).length : Int)))) (V.cmp (x := .tmp 13) (y := .tmp 12) rfl h13_10 h12_10 rfl) ?_
  refine WL.nil ?_
  refine WP.seq ?_
  refine WP.condp (t := (k : Int) < ((xs).length : Int)) rfl (fun hc12 => ?_) (fun hc12 => ?_)
  rotate_left
  · refine WP.exit ?_
    refine WP.sr ?_
    refine WL.m rfl ?_
    refine WL.nil ?_
    refine WP.ret ?_
    refine resOf.c1 rfl (v := .bool (true)) rfl ?_
    exact ⟨(bool_eq (by first | (exact (eqB_len (by omega)).symm) | (exact (eqB_true (by omega) (by assumption) (by omega)).symm) | (exact (eqB_false (by omega) (by omega) (by grind [ieq])).symm))), hx11⟩
  refine WP.skip ?_
  refine WP.seq ?_
  refine WP.block ?_
  refine WP.sr ?_
  refine WL.m rfl ?_
  refine WL.m rfl ?_
  refine WL.nil ?_
  refine WP.seq ?_
  refine WP.quiet mo (by kernel_rfl) ?_
  refine WQ.m rfl ?_
  refine WQ.m rfl ?_
  have hlt21 : k < (xs).length := by first | omega | (simp at *; omega)
  obtain ⟨b13, k14, c15, cs16, hv17, hnb18, hr19, hat20⟩ := (h_xs.ext (Ext.pre hx11)).get (i := k) (x := (xs.getD k 0)) (getD_some hlt21 _)
  obtain ⟨rfl, hin22⟩ := hr19
  have hin22 := inK_i64 hin22
  refine WQ.z (.pointer (some ⟨b13, k14 + k * 1, none⟩)) (fun w' hw => V.indexAddr (x := .tmp 16) (i := .tmp 17) (m := k) (j := (k : Int)) rfl u22 s3 (Eq.trans (b := v_xs) h0_10 hv17) h13_10 rfl hlt21) ?_
  refine WQ.z (.int .i64 ((xs.getD k 0))) (fun w' hw => V.load rfl p3 rfl ((hat20.ext hw (by simp)).cell (j := 0) rfl)) ?_
  refine WQ.m rfl ?_
  refine WQ.m rfl ?_
  have hlt31 : k < (ys).length := by first | omega | (simp at *; omega)
  obtain ⟨b23, k24, c25, cs26, hv27, hnb28, hr29, hat30⟩ := (h_ys.ext (Ext.pre hx11)).get (i := k) (x := (ys.getD k 0)) (getD_some hlt31 _)
  obtain ⟨rfl, hin32⟩ := hr29
  have hin32 := inK_i64 hin32
  refine WQ.z (.pointer (some ⟨b23, k24 + k * 1, none⟩)) (fun w' hw => V.indexAddr (x := .tmp 20) (i := .tmp 21) (m := k) (j := (k : Int)) rfl u22 s3 (Eq.trans (b := v_ys) h1_10 hv27) h13_10 rfl hlt31) ?_
  refine WQ.z (.int .i64 ((ys.getD k 0))) (fun w' hw => V.load rfl p3 rfl ((hat30.ext hw (by simp)).cell (j := 0) rfl)) ?_
  refine WQ.z (.bool (decide ((xs.getD k 0) ≠ (ys.getD k 0)))) (fun w' hw => V.cmp rfl rfl rfl rfl) ?_
  refine WQ.nil (fun w33 hq34 => ?_)
  have hx35 : Ext [] w w33 := hx11.trans hq34
  refine WP.condp (t := (xs.getD k 0) ≠ (ys.getD k 0)) rfl (fun hc37 => ?_) (fun hc37 => ?_)
  · refine WP.sr ?_
    refine WL.m rfl ?_
    refine WL.nil ?_
    refine WP.ret ?_
    refine resOf.c1 rfl (v := .bool (false)) rfl ?_
    exact ⟨(bool_eq (by first | (exact (eqB_len (by omega)).symm) | (exact (eqB_true (by omega) (by assumption) (by omega)).symm) | (exact (eqB_false (by omega) (by omega) (by grind [ieq])).symm))), hx35⟩
  refine WP.skip ?_
  refine WP.region ?_
  refine WL.z (.int .i64 ((k : Int) + 1)) (V.arith (x := .tmp 13) rfl h13_10 rfl rfl (wrap_i64 (by omega) (by omega))) ?_
  refine WL.m rfl ?_
  refine WL.nil ?_
  exact ⟨k + 1, ⟨h0_10, h1_10, h10_10, h12_10, (int_eq (by omega)), hx35, (by omega), (all_step (by assumption) (by grind [ieq]))⟩, (by omega)⟩
end Go.Proofs.Ytbpamkbegggeoaa.T
namespace Go.Proofs.Ytbpamkbegggeoaa.T
open W Go.RowKit
set_option maxRecDepth 100000
set_option maxHeartbeats 400000
theorem ref_entries {w : World} {X : List Nat} {v_l : Value} {l : List EntryD} (h_l : Sl entryR X w v_l l) (fr : Int) (to' : Int) (hfr : 0 ≤ fr ∧ fr < 18446744073709551616) : Fnc Try.prog 39 #[v_l, .int .u64 (fr), .int .u64 (to')] w (fun v w' => v = .bool (entsB l fr to') ∧ Ext [] w w') := by
  have hle_l := h_l.le'
  refine Fnc.of_WP (n := 77) Try.func39 rfl Try.ntmps39 (by simp) ?_
  intro E hE
  have h0 : E 0 = v_l := hE 0 (by simp)
  have h1 : E 1 = .int .u64 (fr) := hE 1 (by simp)
  have h2 : E 2 = .int .u64 (to') := hE 2 (by simp)
  clear hE
  refine WP.sr ?_
  refine WL.m rfl ?_
  refine WL.nil ?_
  refine WP.seq ?_
  refine WP.sr ?_
  refine WL.m rfl ?_
  refine WL.nil ?_
  refine WP.block ?_
  refine WP.loop (σ := Nat) (fun k E1 w2 => E1 0 = v_l ∧ E1 1 = .int .u64 (prevT l fr k) ∧ E1 2 = .int .u64 (to') ∧ E1 7 = .int .i64 ((k : Int)) ∧ Ext [] w w2 ∧ k ≤ l.length ∧ ∀ j, j < k → (fun i => entOk (prevT l fr i) (l.getD i default) to') j = true) (fun k => l.length - k) (0) ?_ ?_
  · exact ⟨h0, (Eq.trans h1 (int_eq (by simp [prevT, vprevT]))), h2, (int_eq (by omega)), Ext.refl _ _, (by omega), (all_zero _)⟩
  rintro k E1 w2 ⟨h0_3, h1_3, h2_3, h7_3, hx3, hi0_3, hi1_3⟩
  have hx4 : Ext [] w w2 := hx3
  refine WP.seq ?_
  refine WP.sr ?_
  refine WL.m rfl ?_
  refine WL.m rfl ?_
  obtain ⟨a5, c6, hv7⟩ := h_l.shape
  refine WL.z (.int .i64 (((l).length : Int))) (V.lenSlice (x := .tmp 10) rfl rfl u25 (Eq.trans (b := v_l) h0_3 hv7)) ?_
  refine WL.z (.bool (decide ((k : Int) < ((l).length : Int)))) (V.cmp (x := .tmp 9) rfl h7_3 rfl rfl) ?_
  refine WL.nil ?_
  refine WP.condp (t := (k : Int) < ((l).length : Int)) rfl (fun hc8 => ?_) (fun hc8 => ?_)
  rotate_left
  · refine WP.exit ?_
    refine WP.sr ?_
    refine WL.m rfl ?_
    refine WL.nil ?_
    refine WP.ret ?_
    refine resOf.c1 rfl (v := .bool (true)) rfl ?_
    exact ⟨(bool_eq (by first | (exact (allB_true (by assumption) (by omega)).symm) | (exact (allB_false (k := k) (by omega) (by first | assumption | grind [entOk, kindOk, membersB])).symm))), hx4⟩
  refine WP.skip ?_
  refine WP.seq ?_
  refine WP.block ?_
  refine WP.sr ?_
  refine WL.m rfl ?_
  refine WL.m rfl ?_
  have hlt17 : k < (l).length := by first | omega | (simp at *; omega)
  obtain ⟨b9, k10, c11, cs12, hv13, hnb14, hr15, hat16⟩ := (h_l.ext (Ext.pre hx4)).get (i := k) (x := (l.getD k default)) (getD_some hlt17 _)
  obtain ⟨v18, rfl, hl19, hk20⟩ := hr15
  obtain ⟨hin21, hin22, hin23⟩ := (show EntryD.InR (l.getD k default) from hk20)
  have hin21 := inK_u64 hin21
  have hin22 := inK_u8 hin22
  have hle24 := hl19.le'
  refine WL.z (.pointer (some ⟨b9, k10 + k * 4, none⟩)) (V.indexAddr (x := .tmp 15) (i := .tmp 16) (m := k) (j := (k : Int)) rfl u25 s90 (Eq.trans (b := v_l) h0_3 hv13) h7_3 rfl hlt17) ?_
  refine WL.z (.agg #[.int .u64 ((l.getD k default).Term), .int .u8 ((l.getD k default).Kind), .string ((l.getD k default).Data), v18]) (V.loadAgg (cs := [.int .u64 ((l.getD k default).Term), .int .u8 ((l.getD k default).Kind), .string ((l.getD k default).Data), v18]) rfl a90 rfl hat16 rfl) ?_
  refine WL.alloc (cs := [.int .u64 (0), .int .u8 (0), .string (ByteArray.mk #[]), .slice none 0 0]) (Sure.none rfl) rfl rfl z90 rfl (fun b25 w26 hx27 he28 hb29 => ?_)
  have hl31 := (Sl.new (b := b25) (by show (1 : Nat) ≠ 0; decide) hl19 (by omega)).ext (Ext.any hx27)
  have hx32 : Ext [b25] _ _ := (Ext.cons hx4).trans (Ext.any hx27)
  have hge_b25_w : w.heap.size ≤ b25 := by have := hx4.size; omega
  refine WL.storeAgg (vs := [.int .u64 ((l.getD k default).Term), .int .u8 ((l.getD k default).Kind), .string ((l.getD k default).Data), v18]) (Sure.none rfl) rfl rfl s90 rfl rfl rfl (by intro u hu; simp only [List.mem_cons, List.not_mem_nil, or_false] at hu; rcases hu with rfl | rfl | rfl | rfl <;> first | rfl | exact Sl.one (by assumption)) hb29 (by show (0 : Nat) + 4 ≤ 4; decide) (fun w33 hs34 hb35 => ?_)
  replace hb35 : Box w33 b25 90 [.int .u64 ((l.getD k default).Term), .int .u8 ((l.getD k default).Kind), .string ((l.getD k default).Data), v18] := hb35
  have hx36 : Ext [b25] w w33 := hx32.trans (hs34.mono (by simp))
  have hx37 : Ext [b25] w26 w33 := (hs34.mono (by simp))
  refine WL.nil ?_
  refine WP.seq ?_
  refine WP.sr ?_
  refine WL.f (.int .u64 ((l.getD k default).Term)) fl90_0 rfl p23 (hb35.cell rfl) ?_
  refine WL.z (.bool (decide (((l.getD k default).Term) = 0))) (V.cmp rfl rfl rfl rfl) ?_
  refine WL.vbp (c := ((l.getD k default).Term) = 0) (Sure.none rfl) rfl (V.move rfl rfl) (fun hc38 => ?_) (fun hc38 => ?_)
  · refine WL.skips [(22, some true)] [(48, some true)] (kc (some true) rfl kn) (by kernel_rfl) (fun E39 hK40 hE41 => ?_)
    refine WP.cond_true (hK40 48 (some true) rfl) ?_
    refine WP.sr ?_
    refine WL.m rfl ?_
    refine WL.nil ?_
    refine WP.ret ?_
    refine resOf.c1 rfl (v := .bool (false)) rfl ?_
    exact ⟨(bool_eq (by first | (exact (allB_true (by assumption) (by omega)).symm) | (exact (allB_false (k := k) (by omega) (by first | assumption | grind [entOk, kindOk, membersB])).symm))), ((hx36).done (geCons hge_b25_w geNil))⟩
  refine WL.fy (.int .u64 ((l.getD k default).Term)) rfl fl90_0 rfl p23 (hb35.cell rfl) ?_
  refine WL.my rfl rfl ?_
  refine WL.y (.bool (decide (((l.getD k default).Term) < (prevT l fr k)))) rfl (V.cmp (y := .tmp 25) rfl rfl h1_3 rfl) ?_
  refine WL.k (a := false) rfl rfl ?_
  refine WL.vbp (c := ((l.getD k default).Term) < (prevT l fr k)) (Sure.none rfl) rfl (V.move rfl rfl) (fun hc42 => ?_) (fun hc42 => ?_)
  · refine WL.skips [(28, some true)] [(48, some true)] (kc (some true) rfl kn) (by kernel_rfl) (fun E43 hK44 hE45 => ?_)
    refine WP.cond_true (hK44 48 (some true) rfl) ?_
    refine WP.sr ?_
    refine WL.m rfl ?_
    refine WL.nil ?_
    refine WP.ret ?_
    refine resOf.c1 rfl (v := .bool (false)) rfl ?_
    exact ⟨(bool_eq (by first | (exact (allB_true (by assumption) (by omega)).symm) | (exact (allB_false (k := k) (by omega) (by first | assumption | grind [entOk, kindOk, membersB])).symm))), ((hx36).done (geCons hge_b25_w geNil))⟩
  refine WL.fy (.int .u64 ((l.getD k default).Term)) rfl fl90_0 rfl p23 (hb35.cell rfl) ?_
  refine WL.my rfl rfl ?_
  refine WL.y (.bool (decide (((l.getD k default).Term) > to'))) rfl (V.cmp (y := .tmp 31) rfl rfl h2_3 rfl) ?_
  refine WL.k (a := false) rfl rfl ?_
  refine WL.vbp (c := ((l.getD k default).Term) > to') (Sure.none rfl) rfl (V.move rfl rfl) (fun hc46 => ?_) (fun hc46 => ?_)
  · refine WL.skips [(34, some true)] [(48, some true)] (kc (some true) rfl kn) (by kernel_rfl) (fun E47 hK48 hE49 => ?_)
    refine WP.cond_true (hK48 48 (some true) rfl) ?_
    refine WP.sr ?_
    refine WL.m rfl ?_
    refine WL.nil ?_
    refine WP.ret ?_
    refine resOf.c1 rfl (v := .bool (false)) rfl ?_
    exact ⟨(bool_eq (by first | (exact (allB_true (by assumption) (by omega)).symm) | (exact (allB_false (k := k) (by omega) (by first | assumption | grind [entOk, kindOk, membersB])).symm))), ((hx36).done (geCons hge_b25_w geNil))⟩
  refine WL.fy (.int .u8 ((l.getD k default).Kind)) rfl fl90_1 rfl p88 (hb35.cell rfl) ?_
  refine WL.y (.bool (decide (((l.getD k default).Kind) > 2))) rfl (V.cmp rfl rfl rfl rfl) ?_
  refine WL.k (a := false) rfl rfl ?_
  refine WL.vbp (c := ((l.getD k default).Kind) > 2) (Sure.none rfl) rfl (V.move rfl rfl) (fun hc50 => ?_) (fun hc50 => ?_)
  · refine WL.skips [(39, some true)] [(48, some true)] (kc (some true) rfl kn) (by kernel_rfl) (fun E51 hK52 hE53 => ?_)
    refine WP.cond_true (hK52 48 (some true) rfl) ?_
    refine WP.sr ?_
    refine WL.m rfl ?_
    refine WL.nil ?_
    refine WP.ret ?_
    refine resOf.c1 rfl (v := .bool (false)) rfl ?_
    exact ⟨(bool_eq (by first | (exact (allB_true (by assumption) (by omega)).symm) | (exact (allB_false (k := k) (by omega) (by first | assumption | grind [entOk, kindOk, membersB])).symm))), ((hx36).done (geCons hge_b25_w geNil))⟩
  refine WL.fy (.int .u8 ((l.getD k default).Kind)) rfl fl90_1 rfl p88 (hb35.cell rfl) ?_
  refine WL.y (.bool (decide (((l.getD k default).Kind) ≠ 0))) rfl (V.cmp rfl rfl rfl rfl) ?_
  refine WL.vbp (c := ((l.getD k default).Kind) ≠ 0) (Sure.yes rfl rfl rfl) rfl (V.move rfl rfl) (fun hc54 => ?_) (fun hc54 => ?_)
  rotate_left
  · refine WL.skips [(43, some false), (39, some false)] [(48, some false)] (kc (some false) rfl (kc (some false) rfl kn)) (by kernel_rfl) (fun E87 hK88 hE89 => ?_)
    refine WP.cond_false (hK88 48 (some false) rfl) ?_
    refine WP.skip ?_
    refine WP.seq ?_
    refine WP.sr ?_
    refine WL.f (x := .tmp 8) (.int .u8 ((l.getD k default).Kind)) fl90_1 (hE89 8 rfl) p88 (hb35.cell rfl) ?_
    refine WL.z (.bool (decide (((l.getD k default).Kind) = 2))) (V.cmp rfl rfl rfl rfl) ?_
    refine WL.vbp (c := ((l.getD k default).Kind) = 2) (Sure.none rfl) rfl (V.move rfl rfl) (fun hc90 => ?_) (fun hc90 => ?_)
    rotate_left
    · refine WL.s (Shut.no rfl rfl rfl rfl) rfl ?_
      refine WL.s (Shut.no rfl rfl rfl rfl) rfl ?_
      refine WL.s (Shut.no rfl rfl rfl rfl) rfl ?_
      refine WL.s (Shut.no rfl rfl rfl rfl) rfl ?_
      refine WL.s (Shut.no rfl rfl rfl rfl) rfl ?_
      refine WL.s (Shut.undef rfl rfl rfl) rfl ?_
      refine WL.s (Shut.undef rfl rfl rfl) rfl ?_
      refine WL.s (Shut.undef rfl rfl rfl) rfl ?_
      refine WL.s (Shut.undef rfl rfl rfl) rfl ?_
      refine WL.s (Shut.no rfl rfl rfl rfl) rfl ?_
      refine WL.k (a := false) rfl rfl ?_
      refine WL.m rfl ?_
      refine WL.fy (x := .tmp 8) (.int .u8 ((l.getD k default).Kind)) rfl fl90_1 (hE89 8 rfl) p88 (hb35.cell rfl) ?_
      refine WL.y (.bool (decide (((l.getD k default).Kind) ≠ 2))) rfl (V.cmp rfl rfl rfl rfl) ?_
      refine WL.vbp (c := ((l.getD k default).Kind) ≠ 2) (Sure.yes rfl rfl rfl) rfl (V.move rfl rfl) (fun hc113 => ?_) (fun hc113 => ?_)
      rotate_left
      · refine WL.skips [(68, some false), (64, some false)] [(74, some false)] (kc (some false) rfl (kc (some false) rfl kn)) (by kernel_rfl) (fun E118 hK119 hE120 => ?_)
        refine WP.cond_false (hK119 74 (some false) rfl) ?_
        refine WP.skip ?_
        refine WP.region ?_
        refine WL.f (x := .tmp 8) (.int .u64 ((l.getD k default).Term)) fl90_0 ((hE120 8 rfl).trans (hE89 8 rfl)) p23 (hb35.cell rfl) ?_
        refine WL.m rfl ?_
        refine WL.nil ?_
        refine WP.region ?_
        refine WL.m rfl ?_
        refine WL.z (.int .i64 ((k : Int) + 1)) (V.arith (x := .tmp 13) rfl ((hE120 7 rfl).trans ((hE89 7 rfl).trans h7_3)) rfl rfl (wrap_i64 (by omega) (by omega))) ?_
        refine WL.m rfl ?_
        refine WL.nil ?_
        exact ⟨k + 1, ⟨((hE120 0 rfl).trans ((hE89 0 rfl).trans h0_3)), (int_eq (by simp [prevT, vprevT])), ((hE120 2 rfl).trans ((hE89 2 rfl).trans h2_3)), (int_eq (by omega)), (Ext.drop hx36 hge_b25_w), (by omega), (all_step (by assumption) (by first | assumption | grind [entOk, kindOk, membersB]))⟩, (by omega)⟩
      refine WL.fy (x := .tmp 8) (v18) rfl fl90_3 (hE89 8 rfl) p22 (hb35.cell rfl) ?_
      obtain ⟨a114, c115, hv116⟩ := hl31.shape
      refine WL.y (.int .i64 ((((l.getD k default).Members).length : Int))) rfl (V.lenSlice rfl rfl u22 (Eq.trans (b := v18) rfl hv116)) ?_
      refine WL.y (.bool (decide ((((l.getD k default).Members).length : Int) > 0))) rfl (V.cmp rfl rfl rfl rfl) ?_
      refine WL.ky (a := true) rfl rfl rfl ?_
      refine WL.k (a := false) rfl rfl ?_
      refine WL.nil ?_
      refine WP.condp (t := (((l.getD k default).Members).length : Int) > 0) rfl (fun hc117 => ?_) (fun hc117 => ?_)
      · refine WP.sr ?_
        refine WL.m rfl ?_
        refine WL.nil ?_
        refine WP.ret ?_
        refine resOf.c1 rfl (v := .bool (false)) rfl ?_
        exact ⟨(bool_eq (by first | (exact (allB_true (by assumption) (by omega)).symm) | (exact (allB_false (k := k) (by omega) (by first | assumption | grind [entOk, kindOk, membersB])).symm))), ((hx36).done (geCons hge_b25_w geNil))⟩
      refine WP.skip ?_
      refine WP.region ?_
      refine WL.f (x := .tmp 8) (.int .u64 ((l.getD k default).Term)) fl90_0 (hE89 8 rfl) p23 (hb35.cell rfl) ?_
      refine WL.m rfl ?_
      refine WL.nil ?_
      refine WP.region ?_
      refine WL.m rfl ?_
      refine WL.z (.int .i64 ((k : Int) + 1)) (V.arith (x := .tmp 13) rfl ((hE89 7 rfl).trans h7_3) rfl rfl (wrap_i64 (by omega) (by omega))) ?_
      refine WL.m rfl ?_
      refine WL.nil ?_
      exact ⟨k + 1, ⟨((hE89 0 rfl).trans h0_3), (int_eq (by simp [prevT, vprevT])), ((hE89 2 rfl).trans h2_3), (int_eq (by omega)), (Ext.drop hx36 hge_b25_w), (by omega), (all_step (by assumption) (by first | assumption | grind [entOk, kindOk, membersB]))⟩, (by omega)⟩
    refine WL.fy (x := .tmp 8) (v18) rfl fl90_3 (hE89 8 rfl) p22 (hb35.cell rfl) ?_
    obtain ⟨a91, c92, hv93⟩ := hl31.shape
    refine WL.y (.int .i64 ((((l.getD k default).Members).length : Int))) rfl (V.lenSlice rfl rfl u22 (Eq.trans (b := v18) rfl hv93)) ?_
    refine WL.y (.bool (decide ((((l.getD k default).Members).length : Int) = 0))) rfl (V.cmp rfl rfl rfl rfl) ?_
    refine WL.vbp (c := (((l.getD k default).Members).length : Int) = 0) (Sure.yes rfl rfl rfl) rfl (V.move rfl rfl) (fun hc94 => ?_) (fun hc94 => ?_)
    · refine WL.skips [(57, some true), (52, some true)] [(74, some true)] (kc (some true) rfl (kc (some true) rfl kn)) (by kernel_rfl) (fun E95 hK96 hE97 => ?_)
      refine WP.cond_true (hK96 74 (some true) rfl) ?_
      refine WP.sr ?_
      refine WL.m rfl ?_
      refine WL.nil ?_
      refine WP.ret ?_
      refine resOf.c1 rfl (v := .bool (false)) rfl ?_
      exact ⟨(bool_eq (by first | (exact (allB_true (by assumption) (by omega)).symm) | (exact (allB_false (k := k) (by omega) (by first | assumption | grind [entOk, kindOk, membersB])).symm))), ((hx36).done (geCons hge_b25_w geNil))⟩
    refine WL.fy (x := .tmp 8) (v18) rfl fl90_3 (hE89 8 rfl) p22 (hb35.cell rfl) ?_
    refine WL.c (Sure.yes rfl rfl rfl) rfl (C.call1 rfl cl38 rfl) (Fnc.mono (ref_ids (hl31.ext (Ext.pre hx37))) ?_)
    rintro _ w98 ⟨rfl, hx99⟩
    have hx100 : Ext [b25] w w98 := hx36.trans (Ext.any (Y := [b25]) hx99)
    have hb103 := hb35.ext hx99 (by simp)
    refine WL.y (.bool (!(idsB ((l.getD k default).Members)))) rfl (V.not rfl rfl) ?_
    refine WL.ky (a := false) rfl rfl rfl ?_
    refine WL.k (a := true) rfl rfl ?_
    refine WL.vbn (c := idsB ((l.getD k default).Members)) (Sure.none rfl) rfl (V.move rfl rfl) (fun hc104 => ?_) (fun hc104 => ?_)
    · refine WL.skips [(64, some true)] [(74, some true)] (kc (some true) rfl kn) (by kernel_rfl) (fun E105 hK106 hE107 => ?_)
      refine WP.cond_true (hK106 74 (some true) rfl) ?_
      refine WP.sr ?_
      refine WL.m rfl ?_
      refine WL.nil ?_
      refine WP.ret ?_
      refine resOf.c1 rfl (v := .bool (false)) rfl ?_
      exact ⟨(bool_eq (by first | (exact (allB_true (by assumption) (by omega)).symm) | (exact (allB_false (k := k) (by omega) (by first | assumption | grind [entOk, kindOk, membersB])).symm))), ((hx100).done (geCons hge_b25_w geNil))⟩
    refine WL.fy (x := .tmp 8) (.int .u8 ((l.getD k default).Kind)) rfl fl90_1 (hE89 8 rfl) p88 (hb103.cell rfl) ?_
    refine WL.y (.bool (decide (((l.getD k default).Kind) ≠ 2))) rfl (V.cmp rfl rfl rfl rfl) ?_
    refine WL.vbp (c := ((l.getD k default).Kind) ≠ 2) (Sure.yes rfl rfl rfl) rfl (V.move rfl rfl) (fun hc108 => ?_) (fun hc108 => ?_)
    rotate_left
    · refine WL.skips [(68, some false), (64, some false)] [(74, some false)] (kc (some false) rfl (kc (some false) rfl kn)) (by kernel_rfl) (fun E110 hK111 hE112 => ?_)
      refine WP.cond_false (hK111 74 (some false) rfl) ?_
      refine WP.skip ?_
      refine WP.region ?_
      refine WL.f (x := .tmp 8) (.int .u64 ((l.getD k default).Term)) fl90_0 ((hE112 8 rfl).trans (hE89 8 rfl)) p23 (hb103.cell rfl) ?_
      refine WL.m rfl ?_
      refine WL.nil ?_
      refine WP.region ?_
      refine WL.m rfl ?_
      refine WL.z (.int .i64 ((k : Int) + 1)) (V.arith (x := .tmp 13) rfl ((hE112 7 rfl).trans ((hE89 7 rfl).trans h7_3)) rfl rfl (wrap_i64 (by omega) (by omega))) ?_
      refine WL.m rfl ?_
      refine WL.nil ?_
      exact ⟨k + 1, ⟨((hE112 0 rfl).trans ((hE89 0 rfl).trans h0_3)), (int_eq (by simp [prevT, vprevT])), ((hE112 2 rfl).trans ((hE89 2 rfl).trans h2_3)), (int_eq (by omega)), (Ext.drop hx100 hge_b25_w), (by omega), (all_step (by assumption) (by first | assumption | grind [entOk, kindOk, membersB]))⟩, (by omega)⟩
    refine WL.fy (x := .tmp 8) (v18) rfl fl90_3 (hE89 8 rfl) p22 (hb103.cell rfl) ?_
    refine WL.y (.int .i64 ((((l.getD k default).Members).length : Int))) rfl (V.lenSlice rfl rfl u22 (Eq.trans (b := v18) rfl hv93)) ?_
    refine WL.y (.bool (decide ((((l.getD k default).Members).length : Int) > 0))) rfl (V.cmp rfl rfl rfl rfl) ?_
    refine WL.ky (a := true) rfl rfl rfl ?_
    refine WL.k (a := false) rfl rfl ?_
    refine WL.nil ?_
    refine WP.condp (t := (((l.getD k default).Members).length : Int) > 0) rfl (fun hc109 => ?_) (fun hc109 => ?_)
    · refine WP.sr ?_
      refine WL.m rfl ?_
      refine WL.nil ?_
      refine WP.ret ?_
      refine resOf.c1 rfl (v := .bool (false)) rfl ?_
      exact ⟨(bool_eq (by first | (exact (allB_true (by assumption) (by omega)).symm) | (exact (allB_false (k := k) (by omega) (by first | assumption | grind [entOk, kindOk, membersB])).symm))), ((hx100).done (geCons hge_b25_w geNil))⟩
    refine WP.skip ?_
    refine WP.region ?_
    refine WL.f (x := .tmp 8) (.int .u64 ((l.getD k default).Term)) fl90_0 (hE89 8 rfl) p23 (hb103.cell rfl) ?_
    refine WL.m rfl ?_
    refine WL.nil ?_
    refine WP.region ?_
    refine WL.m rfl ?_
    refine WL.z (.int .i64 ((k : Int) + 1)) (V.arith (x := .tmp 13) rfl ((hE89 7 rfl).trans h7_3) rfl rfl (wrap_i64 (by omega) (by omega))) ?_
    refine WL.m rfl ?_
    refine WL.nil ?_
    exact ⟨k + 1, ⟨((hE89 0 rfl).trans h0_3), (int_eq (by simp [prevT, vprevT])), ((hE89 2 rfl).trans h2_3), (int_eq (by omega)), (Ext.drop hx100 hge_b25_w), (by omega), (all_step (by assumption) (by first | assumption | grind [entOk, kindOk, membersB]))⟩, (by omega)⟩
  refine WL.fy (.string ((l.getD k default).Data)) rfl fl90_2 rfl p9 (hb35.cell rfl) ?_
  refine WL.y (.bool (!(seqB ((l.getD k default).Data) (ByteArray.mk #[])))) rfl (V.scmp rfl rfl rfl rfl) ?_
  refine WL.ky (a := true) rfl rfl rfl ?_
  refine WL.k (a := false) rfl rfl ?_
  refine WL.nil ?_
  refine WP.condn (t := seqB ((l.getD k default).Data) (ByteArray.mk #[])) rfl (fun hc55 => ?_) (fun hc55 => ?_)
  · refine WP.sr ?_
    refine WL.m rfl ?_
    refine WL.nil ?_
    refine WP.ret ?_
    refine resOf.c1 rfl (v := .bool (false)) rfl ?_
    exact ⟨(bool_eq (by first | (exact (allB_true (by assumption) (by omega)).symm) | (exact (allB_false (k := k) (by omega) (by first | assumption | grind [entOk, kindOk, membersB])).symm))), ((hx36).done (geCons hge_b25_w geNil))⟩
  refine WP.skip ?_
  refine WP.seq ?_
  refine WP.sr ?_
  refine WL.f (.int .u8 ((l.getD k default).Kind)) fl90_1 rfl p88 (hb35.cell rfl) ?_
  refine WL.z (.bool (decide (((l.getD k default).Kind) = 2))) (V.cmp rfl rfl rfl rfl) ?_
  refine WL.vbp (c := ((l.getD k default).Kind) = 2) (Sure.none rfl) rfl (V.move rfl rfl) (fun hc56 => ?_) (fun hc56 => ?_)
  rotate_left
  · refine WL.s (Shut.no rfl rfl rfl rfl) rfl ?_
    refine WL.s (Shut.no rfl rfl rfl rfl) rfl ?_
    refine WL.s (Shut.no rfl rfl rfl rfl) rfl ?_
    refine WL.s (Shut.no rfl rfl rfl rfl) rfl ?_
    refine WL.s (Shut.no rfl rfl rfl rfl) rfl ?_
    refine WL.s (Shut.undef rfl rfl rfl) rfl ?_
    refine WL.s (Shut.undef rfl rfl rfl) rfl ?_
    refine WL.s (Shut.undef rfl rfl rfl) rfl ?_
    refine WL.s (Shut.undef rfl rfl rfl) rfl ?_
    refine WL.s (Shut.no rfl rfl rfl rfl) rfl ?_
    refine WL.k (a := false) rfl rfl ?_
    refine WL.m rfl ?_
    refine WL.fy (.int .u8 ((l.getD k default).Kind)) rfl fl90_1 rfl p88 (hb35.cell rfl) ?_
    refine WL.y (.bool (decide (((l.getD k default).Kind) ≠ 2))) rfl (V.cmp rfl rfl rfl rfl) ?_
    refine WL.vbp (c := ((l.getD k default).Kind) ≠ 2) (Sure.yes rfl rfl rfl) rfl (V.move rfl rfl) (fun hc79 => ?_) (fun hc79 => ?_)
    rotate_left
    · refine WL.skips [(68, some false), (64, some false)] [(74, some false)] (kc (some false) rfl (kc (some false) rfl kn)) (by kernel_rfl) (fun E84 hK85 hE86 => ?_)
      refine WP.cond_false (hK85 74 (some false) rfl) ?_
      refine WP.skip ?_
      refine WP.region ?_
      refine WL.f (x := .tmp 8) (.int .u64 ((l.getD k default).Term)) fl90_0 (hE86 8 rfl) p23 (hb35.cell rfl) ?_
      refine WL.m rfl ?_
      refine WL.nil ?_
      refine WP.region ?_
      refine WL.m rfl ?_
      refine WL.z (.int .i64 ((k : Int) + 1)) (V.arith (x := .tmp 13) rfl ((hE86 7 rfl).trans h7_3) rfl rfl (wrap_i64 (by omega) (by omega))) ?_
      refine WL.m rfl ?_
      refine WL.nil ?_
      exact ⟨k + 1, ⟨((hE86 0 rfl).trans h0_3), (int_eq (by simp [prevT, vprevT])), ((hE86 2 rfl).trans h2_3), (int_eq (by omega)), (Ext.drop hx36 hge_b25_w), (by omega), (all_step (by assumption) (by first | assumption | grind [entOk, kindOk, membersB]))⟩, (by omega)⟩
    refine WL.fy (v18) rfl fl90_3 rfl p22 (hb35.cell rfl) ?_
    obtain ⟨a80, c81, hv82⟩ := hl31.shape
    refine WL.y (.int .i64 ((((l.getD k default).Members).length : Int))) rfl (V.lenSlice rfl rfl u22 (Eq.trans (b := v18) rfl hv82)) ?_
    refine WL.y (.bool (decide ((((l.getD k default).Members).length : Int) > 0))) rfl (V.cmp rfl rfl rfl rfl) ?_
    refine WL.ky (a := true) rfl rfl rfl ?_
    refine WL.k (a := false) rfl rfl ?_
    refine WL.nil ?_
    refine WP.condp (t := (((l.getD k default).Members).length : Int) > 0) rfl (fun hc83 => ?_) (fun hc83 => ?_)
    · refine WP.sr ?_
      refine WL.m rfl ?_
      refine WL.nil ?_
      refine WP.ret ?_
      refine resOf.c1 rfl (v := .bool (false)) rfl ?_
      exact ⟨(bool_eq (by first | (exact (allB_true (by assumption) (by omega)).symm) | (exact (allB_false (k := k) (by omega) (by first | assumption | grind [entOk, kindOk, membersB])).symm))), ((hx36).done (geCons hge_b25_w geNil))⟩
    refine WP.skip ?_
    refine WP.region ?_
    refine WL.f (.int .u64 ((l.getD k default).Term)) fl90_0 rfl p23 (hb35.cell rfl) ?_
    refine WL.m rfl ?_
    refine WL.nil ?_
    refine WP.region ?_
    refine WL.m rfl ?_
    refine WL.z (.int .i64 ((k : Int) + 1)) (V.arith (x := .tmp 13) rfl h7_3 rfl rfl (wrap_i64 (by omega) (by omega))) ?_
    refine WL.m rfl ?_
    refine WL.nil ?_
    exact ⟨k + 1, ⟨h0_3, (int_eq (by simp [prevT, vprevT])), h2_3, (int_eq (by omega)), (Ext.drop hx36 hge_b25_w), (by omega), (all_step (by assumption) (by first | assumption | grind [entOk, kindOk, membersB]))⟩, (by omega)⟩
  refine WL.fy (v18) rfl fl90_3 rfl p22 (hb35.cell rfl) ?_
  obtain ⟨a57, c58, hv59⟩ := hl31.shape
  refine WL.y (.int .i64 ((((l.getD k default).Members).length : Int))) rfl (V.lenSlice rfl rfl u22 (Eq.trans (b := v18) rfl hv59)) ?_
  refine WL.y (.bool (decide ((((l.getD k default).Members).length : Int) = 0))) rfl (V.cmp rfl rfl rfl rfl) ?_
  refine WL.vbp (c := (((l.getD k default).Members).length : Int) = 0) (Sure.yes rfl rfl rfl) rfl (V.move rfl rfl) (fun hc60 => ?_) (fun hc60 => ?_)
  · refine WL.skips [(57, some true), (52, some true)] [(74, some true)] (kc (some true) rfl (kc (some true) rfl kn)) (by kernel_rfl) (fun E61 hK62 hE63 => ?_)
    refine WP.cond_true (hK62 74 (some true) rfl) ?_
    refine WP.sr ?_
    refine WL.m rfl ?_
    refine WL.nil ?_
    refine WP.ret ?_
    refine resOf.c1 rfl (v := .bool (false)) rfl ?_
    exact ⟨(bool_eq (by first | (exact (allB_true (by assumption) (by omega)).symm) | (exact (allB_false (k := k) (by omega) (by first | assumption | grind [entOk, kindOk, membersB])).symm))), ((hx36).done (geCons hge_b25_w geNil))⟩
  refine WL.fy (v18) rfl fl90_3 rfl p22 (hb35.cell rfl) ?_
  refine WL.c (Sure.yes rfl rfl rfl) rfl (C.call1 rfl cl38 rfl) (Fnc.mono (ref_ids (hl31.ext (Ext.pre hx37))) ?_)
  rintro _ w64 ⟨rfl, hx65⟩
  have hx66 : Ext [b25] w w64 := hx36.trans (Ext.any (Y := [b25]) hx65)
  have hb69 := hb35.ext hx65 (by simp)
  refine WL.y (.bool (!(idsB ((l.getD k default).Members)))) rfl (V.not rfl rfl) ?_
  refine WL.ky (a := false) rfl rfl rfl ?_
  refine WL.k (a := true) rfl rfl ?_
  refine WL.vbn (c := idsB ((l.getD k default).Members)) (Sure.none rfl) rfl (V.move rfl rfl) (fun hc70 => ?_) (fun hc70 => ?_)
  · refine WL.skips [(64, some true)] [(74, some true)] (kc (some true) rfl kn) (by kernel_rfl) (fun E71 hK72 hE73 => ?_)
    refine WP.cond_true (hK72 74 (some true) rfl) ?_
    refine WP.sr ?_
    refine WL.m rfl ?_
    refine WL.nil ?_
    refine WP.ret ?_
    refine resOf.c1 rfl (v := .bool (false)) rfl ?_
    exact ⟨(bool_eq (by first | (exact (allB_true (by assumption) (by omega)).symm) | (exact (allB_false (k := k) (by omega) (by first | assumption | grind [entOk, kindOk, membersB])).symm))), ((hx66).done (geCons hge_b25_w geNil))⟩
  refine WL.fy (.int .u8 ((l.getD k default).Kind)) rfl fl90_1 rfl p88 (hb69.cell rfl) ?_
  refine WL.y (.bool (decide (((l.getD k default).Kind) ≠ 2))) rfl (V.cmp rfl rfl rfl rfl) ?_
  refine WL.vbp (c := ((l.getD k default).Kind) ≠ 2) (Sure.yes rfl rfl rfl) rfl (V.move rfl rfl) (fun hc74 => ?_) (fun hc74 => ?_)
  rotate_left
  · refine WL.skips [(68, some false), (64, some false)] [(74, some false)] (kc (some false) rfl (kc (some false) rfl kn)) (by kernel_rfl) (fun E76 hK77 hE78 => ?_)
    refine WP.cond_false (hK77 74 (some false) rfl) ?_
    refine WP.skip ?_
    refine WP.region ?_
    refine WL.f (x := .tmp 8) (.int .u64 ((l.getD k default).Term)) fl90_0 (hE78 8 rfl) p23 (hb69.cell rfl) ?_
    refine WL.m rfl ?_
    refine WL.nil ?_
    refine WP.region ?_
    refine WL.m rfl ?_
    refine WL.z (.int .i64 ((k : Int) + 1)) (V.arith (x := .tmp 13) rfl ((hE78 7 rfl).trans h7_3) rfl rfl (wrap_i64 (by omega) (by omega))) ?_
    refine WL.m rfl ?_
    refine WL.nil ?_
    exact ⟨k + 1, ⟨((hE78 0 rfl).trans h0_3), (int_eq (by simp [prevT, vprevT])), ((hE78 2 rfl).trans h2_3), (int_eq (by omega)), (Ext.drop hx66 hge_b25_w), (by omega), (all_step (by assumption) (by first | assumption | grind [entOk, kindOk, membersB]))⟩, (by omega)⟩
  refine WL.fy (v18) rfl fl90_3 rfl p22 (hb69.cell rfl) ?_
  refine WL.y (.int .i64 ((((l.getD k default).Members).length : Int))) rfl (V.lenSlice rfl rfl u22 (Eq.trans (b := v18) rfl hv59)) ?_
  refine WL.y (.bool (decide ((((l.getD k default).Members).length : Int) > 0))) rfl (V.cmp rfl rfl rfl rfl) ?_
  refine WL.ky (a := true) rfl rfl rfl ?_
  refine WL.k (a := false) rfl rfl ?_
  refine WL.nil ?_
  refine WP.condp (t := (((l.getD k default).Members).length : Int) > 0) rfl (fun hc75 => ?_) (fun hc75 => ?_)
  · refine WP.sr ?_
    refine WL.m rfl ?_
    refine WL.nil ?_
    refine WP.ret ?_
    refine resOf.c1 rfl (v := .bool (false)) rfl ?_
    exact ⟨(bool_eq (by first | (exact (allB_true (by assumption) (by omega)).symm) | (exact (allB_false (k := k) (by omega) (by first | assumption | grind [entOk, kindOk, membersB])).symm))), ((hx66).done (geCons hge_b25_w geNil))⟩
  refine WP.skip ?_
  refine WP.region ?_
  refine WL.f (.int .u64 ((l.getD k default).Term)) fl90_0 rfl p23 (hb69.cell rfl) ?_
  refine WL.m rfl ?_
  refine WL.nil ?_
  refine WP.region ?_
  refine WL.m rfl ?_
  refine WL.z (.int .i64 ((k : Int) + 1)) (V.arith (x := .tmp 13) rfl h7_3 rfl rfl (wrap_i64 (by omega) (by omega))) ?_
  refine WL.m rfl ?_
  refine WL.nil ?_
  exact ⟨k + 1, ⟨h0_3, (int_eq (by simp [prevT, vprevT])), h2_3, (int_eq (by omega)), (Ext.drop hx66 hge_b25_w), (by omega), (all_step (by assumption) (by first | assumption | grind [entOk, kindOk, membersB]))⟩, (by omega)⟩
theorem vote_entries {w : World} {X : List Nat} {v_l : Value} {l : List EntryD} (h_l : Sl entryR X w v_l l) (fr : Int) (to' : Int) (hfr : 0 ≤ fr ∧ fr < 18446744073709551616) : Fnc Try.prog 46 #[v_l, .int .u64 (fr), .int .u64 (to')] w (fun v w' => v = .bool (entsB l fr to') ∧ Ext [] w w') := by
  have hle_l := h_l.le'
  refine Fnc.of_WP (n := 71) Try.func46 rfl Try.ntmps46 (by simp) ?_
  intro E hE
  have h0 : E 0 = v_l := hE 0 (by simp)
  have h1 : E 1 = .int .u64 (fr) := hE 1 (by simp)
  have h2 : E 2 = .int .u64 (to') := hE 2 (by simp)
  clear hE
  refine WP.sr ?_
  refine WL.m rfl ?_
  refine WL.nil ?_
  refine WP.sr ?_
  refine WL.m rfl ?_
  refine WL.z (.int .u64 (max fr 1)) (V.max (x := .tmp 10) rfl rfl u23 h1 rfl) ?_
  refine WL.m rfl ?_
  refine WL.nil ?_
  refine WP.seq ?_
  refine WP.sr ?_
  refine WL.m rfl ?_
  obtain ⟨a1, c2, hv3⟩ := h_l.shape
  refine WL.z (.int .i64 (((l).length : Int))) (V.lenSlice (x := .tmp 12) rfl rfl u25 (Eq.trans (b := v_l) h0 hv3)) ?_
  refine WL.m rfl ?_
  refine WL.nil ?_
  refine WP.block ?_
  refine WP.loop (σ := Nat) (fun k E4 w5 => E4 0 = v_l ∧ E4 1 = .int .u64 (vprevT l fr k) ∧ E4 2 = .int .u64 (to') ∧ E4 12 = v_l ∧ E4 13 = .int .i64 (((l).length : Int)) ∧ E4 14 = .int .i64 ((k : Int)) ∧ Ext [] w w5 ∧ k ≤ l.length ∧ ∀ j, j < k → (fun i => entOk (vprevT l fr i) (l.getD i default) to') j = true) (fun k => l.length - k) (0) ?_ ?_
  · exact ⟨h0, (int_eq (by simp [prevT, vprevT])), h2, h0, rfl, (int_eq (by omega)), Ext.refl _ _, (by omega), (all_zero _)⟩
  rintro k E4 w5 ⟨h0_6, h1_6, h2_6, h12_6, h13_6, h14_6, hx6, hi0_6, hi1_6⟩
  have hx7 : Ext [] w w5 := hx6
  have hv1 : 1 ≤ vprevT l fr k := vprevT_pos (t := to') (by assumption)
  refine WP.sr ?_
  refine WL.z (.bool (decide ((k : Int) < ((l).length : Int)))) (V.cmp (x := .tmp 14) (y := .tmp 13) rfl h14_6 h13_6 rfl) ?_
  refine WL.nil ?_
  refine WP.seq ?_
  refine WP.condp (t := (k : Int) < ((l).length : Int)) rfl (fun hc8 => ?_) (fun hc8 => ?_)
  rotate_left
  · refine WP.exit ?_
    refine WP.sr ?_
    refine WL.m rfl ?_
    refine WL.nil ?_
    refine WP.ret ?_
    refine resOf.c1 rfl (v := .bool (true)) rfl ?_
    exact ⟨(bool_eq (by rw [← vents_eq]; first | (exact (allB_true (by assumption) (by omega)).symm) | (exact (allB_false (k := k) (by omega) (by first | assumption | grind [entOk, kindOk])).symm))), hx7⟩
  refine WP.skip ?_
  refine WP.seq ?_
  refine WP.block ?_
  refine WP.sr ?_
  have hlt17 : k < (l).length := by first | omega | (simp at *; omega)
  obtain ⟨b9, k10, c11, cs12, hv13, hnb14, hr15, hat16⟩ := (h_l.ext (Ext.pre hx7)).get (i := k) (x := (l.getD k default)) (getD_some hlt17 _)
  obtain ⟨v18, rfl, hl19, hk20⟩ := hr15
  obtain ⟨hin21, hin22, hin23⟩ := (show EntryD.InR (l.getD k default) from hk20)
  have hin21 := inK_u64 hin21
  have hin22 := inK_u8 hin22
  have hle24 := hl19.le'
  refine WL.z (.pointer (some ⟨b9, k10 + k * 4, none⟩)) (V.indexAddr (x := .tmp 12) (i := .tmp 14) (m := k) (j := (k : Int)) rfl u25 s90 (Eq.trans (b := v_l) h12_6 hv13) h14_6 rfl hlt17) ?_
  refine WL.z (.agg #[.int .u64 ((l.getD k default).Term), .int .u8 ((l.getD k default).Kind), .string ((l.getD k default).Data), v18]) (V.loadAgg (cs := [.int .u64 ((l.getD k default).Term), .int .u8 ((l.getD k default).Kind), .string ((l.getD k default).Data), v18]) rfl a90 rfl hat16 rfl) ?_
  refine WL.alloc (cs := [.int .u64 (0), .int .u8 (0), .string (ByteArray.mk #[]), .slice none 0 0]) (Sure.none rfl) rfl rfl z90 rfl (fun b25 w26 hx27 he28 hb29 => ?_)
  have hl31 := (Sl.new (b := b25) (by show (1 : Nat) ≠ 0; decide) hl19 (by omega)).ext (Ext.any hx27)
  have hx32 : Ext [b25] _ _ := (Ext.cons hx7).trans (Ext.any hx27)
  have hge_b25_w : w.heap.size ≤ b25 := by have := hx7.size; omega
  refine WL.storeAgg (vs := [.int .u64 ((l.getD k default).Term), .int .u8 ((l.getD k default).Kind), .string ((l.getD k default).Data), v18]) (Sure.none rfl) rfl rfl s90 rfl rfl rfl (by intro u hu; simp only [List.mem_cons, List.not_mem_nil, or_false] at hu; rcases hu with rfl | rfl | rfl | rfl <;> first | rfl | exact Sl.one (by assumption)) hb29 (by show (0 : Nat) + 4 ≤ 4; decide) (fun w33 hs34 hb35 => ?_)
  replace hb35 : Box w33 b25 90 [.int .u64 ((l.getD k default).Term), .int .u8 ((l.getD k default).Kind), .string ((l.getD k default).Data), v18] := hb35
  have hx36 : Ext [b25] w w33 := hx32.trans (hs34.mono (by simp))
  have hx37 : Ext [b25] w26 w33 := (hs34.mono (by simp))
  refine WL.nil ?_
  refine WP.sr ?_
  refine WL.f (.int .u64 ((l.getD k default).Term)) fl90_0 rfl p23 (hb35.cell rfl) ?_
  refine WL.m rfl ?_
  refine WL.z (.bool (decide (((l.getD k default).Term) ≥ (vprevT l fr k)))) (V.cmp (y := .tmp 20) rfl rfl h1_6 rfl) ?_
  refine WL.vbp (c := ((l.getD k default).Term) ≥ (vprevT l fr k)) (Sure.none rfl) rfl (V.move rfl rfl) (fun hc38 => ?_) (fun hc38 => ?_)
  rotate_left
  · refine WL.skips [(22, some false)] [(9, some false)] (kc (some false) rfl kn) (by kernel_rfl) (fun E77 hK78 hE79 => ?_)
    refine WP.seq ?_
    refine WP.sr ?_
    refine WL.f (x := .tmp 8) (.int .u8 ((l.getD k default).Kind)) fl90_1 (hE79 8 rfl) p88 (hb35.cell rfl) ?_
    refine WL.nil ?_
    refine WP.block ?_
    refine WP.sr ?_
    refine WL.z (.bool (decide (((l.getD k default).Kind) = 0))) (V.cmp rfl rfl rfl rfl) ?_
    refine WL.m rfl ?_
    refine WL.nil ?_
    refine WP.condp (t := ((l.getD k default).Kind) = 0) rfl (fun hc80 => ?_) (fun hc80 => ?_)
    · refine WP.region ?_
      refine WL.skips [(9, some false)] [(9, some false)] (kc (some false) (hK78 9 (some false) rfl) kn) (by kernel_rfl) (fun E81 hK82 hE83 => ?_)
      refine WP.seq ?_
      refine WP.sr ?_
      refine WL.m rfl ?_
      refine WL.z (.bool (true)) (V.not (x := .tmp 66) (b := false) rfl (hK82 9 (some false) rfl)) ?_
      refine WL.nil ?_
      refine WP.cond_true rfl ?_
      refine WP.sr ?_
      refine WL.m rfl ?_
      refine WL.nil ?_
      refine WP.ret ?_
      refine resOf.c1 rfl (v := .bool (false)) rfl ?_
      exact ⟨(bool_eq (by rw [← vents_eq]; first | (exact (allB_true (by assumption) (by omega)).symm) | (exact (allB_false (k := k) (by omega) (by first | assumption | grind [entOk, kindOk])).symm))), ((hx36).done (geCons hge_b25_w geNil))⟩
    refine WP.sr ?_
    refine WL.z (.bool (decide (((l.getD k default).Kind) = 1))) (V.cmp rfl rfl rfl rfl) ?_
    refine WL.m rfl ?_
    refine WL.nil ?_
    refine WP.condp (t := ((l.getD k default).Kind) = 1) rfl (fun hc84 => ?_) (fun hc84 => ?_)
    · refine WP.region ?_
      refine WL.skips [(9, some false)] [(9, some false)] (kc (some false) (hK78 9 (some false) rfl) kn) (by kernel_rfl) (fun E85 hK86 hE87 => ?_)
      refine WP.seq ?_
      refine WP.sr ?_
      refine WL.m rfl ?_
      refine WL.z (.bool (true)) (V.not (x := .tmp 66) (b := false) rfl (hK86 9 (some false) rfl)) ?_
      refine WL.nil ?_
      refine WP.cond_true rfl ?_
      refine WP.sr ?_
      refine WL.m rfl ?_
      refine WL.nil ?_
      refine WP.ret ?_
      refine resOf.c1 rfl (v := .bool (false)) rfl ?_
      exact ⟨(bool_eq (by rw [← vents_eq]; first | (exact (allB_true (by assumption) (by omega)).symm) | (exact (allB_false (k := k) (by omega) (by first | assumption | grind [entOk, kindOk])).symm))), ((hx36).done (geCons hge_b25_w geNil))⟩
    refine WP.sr ?_
    refine WL.z (.bool (decide (((l.getD k default).Kind) = 2))) (V.cmp rfl rfl rfl rfl) ?_
    refine WL.m rfl ?_
    refine WL.nil ?_
    refine WP.condp (t := ((l.getD k default).Kind) = 2) rfl (fun hc88 => ?_) (fun hc88 => ?_)
    rotate_left
    · refine WP.region ?_
      refine WL.m rfl ?_
      refine WL.nil ?_
      refine WP.seq ?_
      refine WP.sr ?_
      refine WL.m rfl ?_
      refine WL.z (.bool (true)) (V.not (b := false) rfl rfl) ?_
      refine WL.nil ?_
      refine WP.cond_true rfl ?_
      refine WP.sr ?_
      refine WL.m rfl ?_
      refine WL.nil ?_
      refine WP.ret ?_
      refine resOf.c1 rfl (v := .bool (false)) rfl ?_
      exact ⟨(bool_eq (by rw [← vents_eq]; first | (exact (allB_true (by assumption) (by omega)).symm) | (exact (allB_false (k := k) (by omega) (by first | assumption | grind [entOk, kindOk])).symm))), ((hx36).done (geCons hge_b25_w geNil))⟩
    refine WP.region ?_
    refine WL.skips [(9, some false)] [(9, some false)] (kc (some false) (hK78 9 (some false) rfl) kn) (by kernel_rfl) (fun E89 hK90 hE91 => ?_)
    refine WP.seq ?_
    refine WP.sr ?_
    refine WL.m rfl ?_
    refine WL.z (.bool (true)) (V.not (x := .tmp 66) (b := false) rfl (hK90 9 (some false) rfl)) ?_
    refine WL.nil ?_
    refine WP.cond_true rfl ?_
    refine WP.sr ?_
    refine WL.m rfl ?_
    refine WL.nil ?_
    refine WP.ret ?_
    refine resOf.c1 rfl (v := .bool (false)) rfl ?_
    exact ⟨(bool_eq (by rw [← vents_eq]; first | (exact (allB_true (by assumption) (by omega)).symm) | (exact (allB_false (k := k) (by omega) (by first | assumption | grind [entOk, kindOk])).symm))), ((hx36).done (geCons hge_b25_w geNil))⟩
  refine WL.fy (.int .u64 ((l.getD k default).Term)) rfl fl90_0 rfl p23 (hb35.cell rfl) ?_
  refine WL.my rfl rfl ?_
  refine WL.y (.bool (decide (((l.getD k default).Term) ≤ to'))) rfl (V.cmp (y := .tmp 25) rfl rfl h2_6 rfl) ?_
  refine WL.k (a := true) rfl rfl ?_
  refine WL.m rfl ?_
  refine WL.nil ?_
  refine WP.seq ?_
  refine WP.sr ?_
  refine WL.f (.int .u8 ((l.getD k default).Kind)) fl90_1 rfl p88 (hb35.cell rfl) ?_
  refine WL.nil ?_
  refine WP.block ?_
  refine WP.sr ?_
  refine WL.z (.bool (decide (((l.getD k default).Kind) = 0))) (V.cmp rfl rfl rfl rfl) ?_
  refine WL.m rfl ?_
  refine WL.nil ?_
  refine WP.condp (t := ((l.getD k default).Kind) = 0) rfl (fun hc39 => ?_) (fun hc39 => ?_)
  · refine WP.region ?_
    refine WL.m rfl ?_
    refine WL.vbp (c := ((l.getD k default).Term) ≤ to') (Sure.none rfl) rfl (V.move rfl rfl) (fun hc40 => ?_) (fun hc40 => ?_)
    rotate_left
    · refine WL.skips [(33, some false)] [(9, some false)] (kc (some false) rfl kn) (by kernel_rfl) (fun E45 hK46 hE47 => ?_)
      refine WP.seq ?_
      refine WP.sr ?_
      refine WL.m rfl ?_
      refine WL.z (.bool (true)) (V.not (x := .tmp 66) (b := false) rfl (hK46 9 (some false) rfl)) ?_
      refine WL.nil ?_
      refine WP.cond_true rfl ?_
      refine WP.sr ?_
      refine WL.m rfl ?_
      refine WL.nil ?_
      refine WP.ret ?_
      refine resOf.c1 rfl (v := .bool (false)) rfl ?_
      exact ⟨(bool_eq (by rw [← vents_eq]; first | (exact (allB_true (by assumption) (by omega)).symm) | (exact (allB_false (k := k) (by omega) (by first | assumption | grind [entOk, kindOk])).symm))), ((hx36).done (geCons hge_b25_w geNil))⟩
    refine WL.fy (v18) rfl fl90_3 rfl p22 (hb35.cell rfl) ?_
    obtain ⟨a41, c42, hv43⟩ := hl31.shape
    refine WL.y (.int .i64 ((((l.getD k default).Members).length : Int))) rfl (V.lenSlice rfl rfl u22 (Eq.trans (b := v18) rfl hv43)) ?_
    refine WL.y (.bool (decide ((((l.getD k default).Members).length : Int) = 0))) rfl (V.cmp rfl rfl rfl rfl) ?_
    refine WL.k (a := true) rfl rfl ?_
    refine WL.m rfl ?_
    refine WL.nil ?_
    refine WP.seq ?_
    refine WP.sr ?_
    refine WL.m rfl ?_
    refine WL.z (.bool (!(decide ((((l.getD k default).Members).length : Int) = 0)))) (V.not rfl rfl) ?_
    refine WL.nil ?_
    refine WP.condnp (t := (((l.getD k default).Members).length : Int) = 0) rfl (fun hc44 => ?_) (fun hc44 => ?_)
    · refine WP.sr ?_
      refine WL.m rfl ?_
      refine WL.nil ?_
      refine WP.ret ?_
      refine resOf.c1 rfl (v := .bool (false)) rfl ?_
      exact ⟨(bool_eq (by rw [← vents_eq]; first | (exact (allB_true (by assumption) (by omega)).symm) | (exact (allB_false (k := k) (by omega) (by first | assumption | grind [entOk, kindOk])).symm))), ((hx36).done (geCons hge_b25_w geNil))⟩
    refine WP.skip ?_
    refine WP.region ?_
    refine WL.f (.int .u64 ((l.getD k default).Term)) fl90_0 rfl p23 (hb35.cell rfl) ?_
    refine WL.m rfl ?_
    refine WL.nil ?_
    refine WP.region ?_
    refine WL.z (.int .i64 ((k : Int) + 1)) (V.arith (x := .tmp 14) rfl h14_6 rfl rfl (wrap_i64 (by omega) (by omega))) ?_
    refine WL.m rfl ?_
    refine WL.nil ?_
    exact ⟨k + 1, ⟨h0_6, (int_eq (by simp [prevT, vprevT])), h2_6, h12_6, h13_6, (int_eq (by omega)), (Ext.drop hx36 hge_b25_w), (by omega), (all_step (by assumption) (by first | assumption | grind [entOk, kindOk]))⟩, (by omega)⟩
  refine WP.sr ?_
  refine WL.z (.bool (decide (((l.getD k default).Kind) = 1))) (V.cmp rfl rfl rfl rfl) ?_
  refine WL.m rfl ?_
  refine WL.nil ?_
  refine WP.condp (t := ((l.getD k default).Kind) = 1) rfl (fun hc48 => ?_) (fun hc48 => ?_)
  · refine WP.region ?_
    refine WL.m rfl ?_
    refine WL.vbp (c := ((l.getD k default).Term) ≤ to') (Sure.none rfl) rfl (V.move rfl rfl) (fun hc49 => ?_) (fun hc49 => ?_)
    rotate_left
    · refine WL.skips [(42, some false)] [(9, some false)] (kc (some false) rfl kn) (by kernel_rfl) (fun E58 hK59 hE60 => ?_)
      refine WP.seq ?_
      refine WP.sr ?_
      refine WL.m rfl ?_
      refine WL.z (.bool (true)) (V.not (x := .tmp 66) (b := false) rfl (hK59 9 (some false) rfl)) ?_
      refine WL.nil ?_
      refine WP.cond_true rfl ?_
      refine WP.sr ?_
      refine WL.m rfl ?_
      refine WL.nil ?_
      refine WP.ret ?_
      refine resOf.c1 rfl (v := .bool (false)) rfl ?_
      exact ⟨(bool_eq (by rw [← vents_eq]; first | (exact (allB_true (by assumption) (by omega)).symm) | (exact (allB_false (k := k) (by omega) (by first | assumption | grind [entOk, kindOk])).symm))), ((hx36).done (geCons hge_b25_w geNil))⟩
    refine WL.fy (.string ((l.getD k default).Data)) rfl fl90_2 rfl p9 (hb35.cell rfl) ?_
    refine WL.y (.bool (seqB ((l.getD k default).Data) (ByteArray.mk #[]))) rfl (V.scmp rfl rfl rfl rfl) ?_
    refine WL.k (a := true) rfl rfl ?_
    refine WL.vb (c := seqB ((l.getD k default).Data) (ByteArray.mk #[])) (Sure.none rfl) rfl (V.move rfl rfl) (fun hc50 => ?_) (fun hc50 => ?_)
    rotate_left
    · refine WL.skips [(47, some false)] [(9, some false)] (kc (some false) rfl kn) (by kernel_rfl) (fun E55 hK56 hE57 => ?_)
      refine WP.seq ?_
      refine WP.sr ?_
      refine WL.m rfl ?_
      refine WL.z (.bool (true)) (V.not (x := .tmp 66) (b := false) rfl (hK56 9 (some false) rfl)) ?_
      refine WL.nil ?_
      refine WP.cond_true rfl ?_
      refine WP.sr ?_
      refine WL.m rfl ?_
      refine WL.nil ?_
      refine WP.ret ?_
      refine resOf.c1 rfl (v := .bool (false)) rfl ?_
      exact ⟨(bool_eq (by rw [← vents_eq]; first | (exact (allB_true (by assumption) (by omega)).symm) | (exact (allB_false (k := k) (by omega) (by first | assumption | grind [entOk, kindOk])).symm))), ((hx36).done (geCons hge_b25_w geNil))⟩
    refine WL.fy (v18) rfl fl90_3 rfl p22 (hb35.cell rfl) ?_
    obtain ⟨a51, c52, hv53⟩ := hl31.shape
    refine WL.y (.int .i64 ((((l.getD k default).Members).length : Int))) rfl (V.lenSlice rfl rfl u22 (Eq.trans (b := v18) rfl hv53)) ?_
    refine WL.y (.bool (decide ((((l.getD k default).Members).length : Int) = 0))) rfl (V.cmp rfl rfl rfl rfl) ?_
    refine WL.k (a := true) rfl rfl ?_
    refine WL.m rfl ?_
    refine WL.nil ?_
    refine WP.seq ?_
    refine WP.sr ?_
    refine WL.m rfl ?_
    refine WL.z (.bool (!(decide ((((l.getD k default).Members).length : Int) = 0)))) (V.not rfl rfl) ?_
    refine WL.nil ?_
    refine WP.condnp (t := (((l.getD k default).Members).length : Int) = 0) rfl (fun hc54 => ?_) (fun hc54 => ?_)
    · refine WP.sr ?_
      refine WL.m rfl ?_
      refine WL.nil ?_
      refine WP.ret ?_
      refine resOf.c1 rfl (v := .bool (false)) rfl ?_
      exact ⟨(bool_eq (by rw [← vents_eq]; first | (exact (allB_true (by assumption) (by omega)).symm) | (exact (allB_false (k := k) (by omega) (by first | assumption | grind [entOk, kindOk])).symm))), ((hx36).done (geCons hge_b25_w geNil))⟩
    refine WP.skip ?_
    refine WP.region ?_
    refine WL.f (.int .u64 ((l.getD k default).Term)) fl90_0 rfl p23 (hb35.cell rfl) ?_
    refine WL.m rfl ?_
    refine WL.nil ?_
    refine WP.region ?_
    refine WL.z (.int .i64 ((k : Int) + 1)) (V.arith (x := .tmp 14) rfl h14_6 rfl rfl (wrap_i64 (by omega) (by omega))) ?_
    refine WL.m rfl ?_
    refine WL.nil ?_
    exact ⟨k + 1, ⟨h0_6, (int_eq (by simp [prevT, vprevT])), h2_6, h12_6, h13_6, (int_eq (by omega)), (Ext.drop hx36 hge_b25_w), (by omega), (all_step (by assumption) (by first | assumption | grind [entOk, kindOk]))⟩, (by omega)⟩
  refine WP.sr ?_
  refine WL.z (.bool (decide (((l.getD k default).Kind) = 2))) (V.cmp rfl rfl rfl rfl) ?_
  refine WL.m rfl ?_
  refine WL.nil ?_
  refine WP.condp (t := ((l.getD k default).Kind) = 2) rfl (fun hc61 => ?_) (fun hc61 => ?_)
  rotate_left
  · refine WP.region ?_
    refine WL.m rfl ?_
    refine WL.nil ?_
    refine WP.seq ?_
    refine WP.sr ?_
    refine WL.m rfl ?_
    refine WL.z (.bool (true)) (V.not (b := false) rfl rfl) ?_
    refine WL.nil ?_
    refine WP.cond_true rfl ?_
    refine WP.sr ?_
    refine WL.m rfl ?_
    refine WL.nil ?_
    refine WP.ret ?_
    refine resOf.c1 rfl (v := .bool (false)) rfl ?_
    exact ⟨(bool_eq (by rw [← vents_eq]; first | (exact (allB_true (by assumption) (by omega)).symm) | (exact (allB_false (k := k) (by omega) (by first | assumption | grind [entOk, kindOk])).symm))), ((hx36).done (geCons hge_b25_w geNil))⟩
  refine WP.region ?_
  refine WL.m rfl ?_
  refine WL.vbp (c := ((l.getD k default).Term) ≤ to') (Sure.none rfl) rfl (V.move rfl rfl) (fun hc62 => ?_) (fun hc62 => ?_)
  rotate_left
  · refine WL.skips [(56, some false)] [(9, some false)] (kc (some false) rfl kn) (by kernel_rfl) (fun E74 hK75 hE76 => ?_)
    refine WP.seq ?_
    refine WP.sr ?_
    refine WL.m rfl ?_
    refine WL.z (.bool (true)) (V.not (x := .tmp 66) (b := false) rfl (hK75 9 (some false) rfl)) ?_
    refine WL.nil ?_
    refine WP.cond_true rfl ?_
    refine WP.sr ?_
    refine WL.m rfl ?_
    refine WL.nil ?_
    refine WP.ret ?_
    refine resOf.c1 rfl (v := .bool (false)) rfl ?_
    exact ⟨(bool_eq (by rw [← vents_eq]; first | (exact (allB_true (by assumption) (by omega)).symm) | (exact (allB_false (k := k) (by omega) (by first | assumption | grind [entOk, kindOk])).symm))), ((hx36).done (geCons hge_b25_w geNil))⟩
  refine WL.fy (.string ((l.getD k default).Data)) rfl fl90_2 rfl p9 (hb35.cell rfl) ?_
  refine WL.y (.bool (seqB ((l.getD k default).Data) (ByteArray.mk #[]))) rfl (V.scmp rfl rfl rfl rfl) ?_
  refine WL.k (a := true) rfl rfl ?_
  refine WL.vb (c := seqB ((l.getD k default).Data) (ByteArray.mk #[])) (Sure.none rfl) rfl (V.move rfl rfl) (fun hc63 => ?_) (fun hc63 => ?_)
  rotate_left
  · refine WL.skips [(61, some false)] [(9, some false)] (kc (some false) rfl kn) (by kernel_rfl) (fun E71 hK72 hE73 => ?_)
    refine WP.seq ?_
    refine WP.sr ?_
    refine WL.m rfl ?_
    refine WL.z (.bool (true)) (V.not (x := .tmp 66) (b := false) rfl (hK72 9 (some false) rfl)) ?_
    refine WL.nil ?_
    refine WP.cond_true rfl ?_
    refine WP.sr ?_
    refine WL.m rfl ?_
    refine WL.nil ?_
    refine WP.ret ?_
    refine resOf.c1 rfl (v := .bool (false)) rfl ?_
    exact ⟨(bool_eq (by rw [← vents_eq]; first | (exact (allB_true (by assumption) (by omega)).symm) | (exact (allB_false (k := k) (by omega) (by first | assumption | grind [entOk, kindOk])).symm))), ((hx36).done (geCons hge_b25_w geNil))⟩
  refine WL.fy (v18) rfl fl90_3 rfl p22 (hb35.cell rfl) ?_
  refine WL.c (Sure.yes rfl rfl rfl) rfl (C.call1 rfl cl47 rfl) (Fnc.mono (vote_members (hl31.ext (Ext.pre hx37))) ?_)
  rintro _ w64 ⟨rfl, hx65⟩
  have hx66 : Ext [b25] w w64 := hx36.trans (Ext.any (Y := [b25]) hx65)
  have hb69 := hb35.ext hx65 (by simp)
  refine WL.k (a := true) rfl rfl ?_
  refine WL.m rfl ?_
  refine WL.nil ?_
  refine WP.seq ?_
  refine WP.sr ?_
  refine WL.m rfl ?_
  refine WL.z (.bool (!(membersB ((l.getD k default).Members)))) (V.not rfl rfl) ?_
  refine WL.nil ?_
  refine WP.condn (t := membersB ((l.getD k default).Members)) rfl (fun hc70 => ?_) (fun hc70 => ?_)
  · refine WP.sr ?_
    refine WL.m rfl ?_
    refine WL.nil ?_
    refine WP.ret ?_
    refine resOf.c1 rfl (v := .bool (false)) rfl ?_
    exact ⟨(bool_eq (by rw [← vents_eq]; first | (exact (allB_true (by assumption) (by omega)).symm) | (exact (allB_false (k := k) (by omega) (by first | assumption | grind [entOk, kindOk])).symm))), ((hx66).done (geCons hge_b25_w geNil))⟩
  refine WP.skip ?_
  refine WP.region ?_
  refine WL.f (.int .u64 ((l.getD k default).Term)) fl90_0 rfl p23 (hb69.cell rfl) ?_
  refine WL.m rfl ?_
  refine WL.nil ?_
  refine WP.region ?_
  refine WL.z (.int .i64 ((k : Int) + 1)) (V.arith (x := .tmp 14) rfl h14_6 rfl rfl (wrap_i64 (by omega) (by omega))) ?_
  refine WL.m rfl ?_
  refine WL.nil ?_
  exact ⟨k + 1, ⟨h0_6, (int_eq (by simp [prevT, vprevT])), h2_6, h12_6, h13_6, (int_eq (by omega)), (Ext.drop hx66 hge_b25_w), (by omega), (all_step (by assumption) (by first | assumption | grind [entOk, kindOk]))⟩, (by omega)⟩
end Go.Proofs.Ytbpamkbegggeoaa.T
namespace Go.Proofs.Ytbpamkbegggeoaa.T
open W Go.RowKit
set_option maxRecDepth 100000
set_option maxHeartbeats 400000
theorem ref_SameEntries {w : World} {X : List Nat} {v_xs : Value} {xs : List EntryD} (h_xs : Sl entryR X w v_xs xs) {v_ys : Value} {ys : List EntryD} (h_ys : Sl entryR X w v_ys ys) : Fnc Try.prog 50 #[v_xs, v_ys] w (fun v w' => v = .bool (eqB sameEntB xs ys) ∧ Ext [] w w') := by
  have hle_xs := h_xs.le'
  have hle_ys := h_ys.le'
  refine Fnc.of_WP (n := 68) Try.func50 rfl Try.ntmps50 (by simp) ?_
  intro E hE
  have h0 : E 0 = v_xs := hE 0 (by simp)
  have h1 : E 1 = v_ys := hE 1 (by simp)
  clear hE
  refine WP.sr ?_
  refine WL.m rfl ?_
  refine WL.nil ?_
  refine WP.seq ?_
  refine WP.sr ?_
  refine WL.m rfl ?_
  obtain ⟨a1, c2, hv3⟩ := h_xs.shape
  refine WL.z (.int .i64 (((xs).length : Int))) (V.lenSlice (x := .tmp 6) rfl rfl u25 (Eq.trans (b := v_xs) h0 hv3)) ?_
  refine WL.m rfl ?_
  obtain ⟨a4, c5, hv6⟩ := h_ys.shape
  refine WL.z (.int .i64 (((ys).length : Int))) (V.lenSlice (x := .tmp 8) rfl rfl u25 (Eq.trans (b := v_ys) h1 hv6)) ?_
  refine WL.z (.bool (decide (((xs).length : Int) ≠ ((ys).length : Int)))) (V.cmp rfl rfl rfl rfl) ?_
  refine WL.nil ?_
  refine WP.condp (t := ((xs).length : Int) ≠ ((ys).length : Int)) rfl (fun hc7 => ?_) (fun hc7 => ?_)
  · refine WP.sr ?_
    refine WL.m rfl ?_
    refine WL.nil ?_
    refine WP.ret ?_
    refine resOf.c1 rfl (v := .bool (false)) rfl ?_
    exact ⟨(bool_eq (by first | (exact (eqB_len (by omega)).symm) | (exact (eqB_true (by omega) (by assumption) (by omega)).symm) | (exact (eqB_false (by omega) (by omega) (by first | assumption | grind [sameEntB])).symm))), Ext.refl _ _⟩
  refine WP.skip ?_
  refine WP.seq ?_
  refine WP.sr ?_
  refine WL.m rfl ?_
  refine WL.nil ?_
  refine WP.block ?_
  refine WP.loop (σ := Nat) (fun k E8 w9 => E8 0 = v_xs ∧ E8 1 = v_ys ∧ E8 5 = .int .i64 ((k : Int)) ∧ E8 10 = .bool (decide (((xs).length : Int) ≠ ((ys).length : Int))) ∧ Ext [] w w9 ∧ k ≤ xs.length ∧ ∀ j, j < k → (fun i => sameEntB (xs.getD i default) (ys.getD i default)) j = true) (fun k => xs.length - k) (0) ?_ ?_
  · exact ⟨h0, h1, (int_eq (by omega)), rfl, Ext.refl _ _, (by omega), (all_zero _)⟩
  rintro k E8 w9 ⟨h0_10, h1_10, h5_10, h10_10, hx10, hi0_10, hi1_10⟩
  have hx11 : Ext [] w w9 := hx10
  refine WP.seq ?_
  refine WP.sr ?_
  refine WL.m rfl ?_
  refine WL.m rfl ?_
  refine WL.z (.int .i64 (((xs).length : Int))) (V.lenSlice (x := .tmp 12) rfl rfl u25 (Eq.trans (b := v_xs) h0_10 hv3)) ?_
  refine WL.z (.bool (decide ((k : Int) < ((xs).length : Int)))) (V.cmp (x := .tmp 11) rfl h5_10 rfl rfl) ?_
  refine WL.nil ?_
  refine WP.condp (t := (k : Int) < ((xs).length : Int)) rfl (fun hc12 => ?_) (fun hc12 => ?_)
  rotate_left
  · refine WP.exit ?_
    refine WP.sr ?_
    refine WL.m rfl ?_
    refine WL.nil ?_
    refine WP.ret ?_
    refine resOf.c1 rfl (v := .bool (true)) rfl ?_
    exact ⟨(bool_eq (by first | (exact (eqB_len (by omega)).symm) | (exact (eqB_true (by omega) (by assumption) (by omega)).symm) | (exact (eqB_false (by omega) (by omega) (by first | assumption | grind [sameEntB])).symm))), hx11⟩
  refine WP.skip ?_
  refine WP.seq ?_
  refine WP.block ?_
  refine WP.seq ?_
  refine WP.quiet mo (by kernel_rfl) ?_
  refine WQ.m rfl ?_
  refine WQ.m rfl ?_
  have hlt21 : k < (xs).length := by first | omega | (simp at *; omega)
  obtain ⟨b13, k14, c15, cs16, hv17, hnb18, hr19, hat20⟩ := (h_xs.ext (Ext.pre hx11)).get (i := k) (x := (xs.getD k default)) (getD_some hlt21 _)
  obtain ⟨v22, rfl, hl23, hk24⟩ := hr19
  obtain ⟨hin25, hin26, hin27⟩ := (show EntryD.InR (xs.getD k default) from hk24)
  have hin25 := inK_u64 hin25
  have hin26 := inK_u8 hin26
  have hle28 := hl23.le'
  refine WQ.z (.pointer (some ⟨b13, k14 + k * 4, none⟩)) (fun w' hw => V.indexAddr (x := .tmp 17) (i := .tmp 18) (m := k) (j := (k : Int)) rfl u25 s90 (Eq.trans (b := v_xs) h0_10 hv17) h5_10 rfl hlt21) ?_
  refine WQ.z (.pointer (some ⟨b13, k14 + k * 4 + 0, none⟩)) (fun w' hw => V.fieldAddr rfl fl90_0 rfl) ?_
  refine WQ.z (.int .u64 ((xs.getD k default).Term)) (fun w' hw => V.load rfl p23 rfl ((hat20.ext hw (by simp)).cell (j := 0) rfl)) ?_
  refine WQ.m rfl ?_
  refine WQ.m rfl ?_
  have hlt37 : k < (ys).length := by first | omega | (simp at *; omega)
  obtain ⟨b29, k30, c31, cs32, hv33, hnb34, hr35, hat36⟩ := (h_ys.ext (Ext.pre hx11)).get (i := k) (x := (ys.getD k default)) (getD_some hlt37 _)
  obtain ⟨v38, rfl, hl39, hk40⟩ := hr35
  obtain ⟨hin41, hin42, hin43⟩ := (show EntryD.InR (ys.getD k default) from hk40)
  have hin41 := inK_u64 hin41
  have hin42 := inK_u8 hin42
  have hle44 := hl39.le'
  refine WQ.z (.pointer (some ⟨b29, k30 + k * 4, none⟩)) (fun w' hw => V.indexAddr (x := .tmp 22) (i := .tmp 23) (m := k) (j := (k : Int)) rfl u25 s90 (Eq.trans (b := v_ys) h1_10 hv33) h5_10 rfl hlt37) ?_
  refine WQ.z (.pointer (some ⟨b29, k30 + k * 4 + 0, none⟩)) (fun w' hw => V.fieldAddr rfl fl90_0 rfl) ?_
  refine WQ.z (.int .u64 ((ys.getD k default).Term)) (fun w' hw => V.load rfl p23 rfl ((hat36.ext hw (by simp)).cell (j := 0) rfl)) ?_
  refine WQ.z (.bool (decide (((xs.getD k default).Term) ≠ ((ys.getD k default).Term)))) (fun w' hw => V.cmp rfl rfl rfl rfl) ?_
  refine WQ.vbp (c := ((xs.getD k default).Term) ≠ ((ys.getD k default).Term)) (Sure.none rfl) rfl (fun w' hw => V.move rfl rfl) (fun hc45 => ?_) (fun hc45 => ?_)
  · refine WQ.skips [(28, some true)] [(67, some true)] (kc (some true) rfl kn) (by kernel_rfl) (fun E46 hK47 hE48 w49 hq50 => ?_)
    have hx51 : Ext [] w w49 := hx11.trans hq50
    refine WP.cond_true (hK47 67 (some true) rfl) ?_
    refine WP.sr ?_
    refine WL.m rfl ?_
    refine WL.nil ?_
    refine WP.ret ?_
    refine resOf.c1 rfl (v := .bool (false)) rfl ?_
    exact ⟨(bool_eq (by first | (exact (eqB_len (by omega)).symm) | (exact (eqB_true (by omega) (by assumption) (by omega)).symm) | (exact (eqB_false (by omega) (by omega) (by first | assumption | grind [sameEntB])).symm))), hx51⟩
  refine WQ.my rfl rfl ?_
  refine WQ.my rfl rfl ?_
  refine WQ.y (.pointer (some ⟨b13, k14 + k * 4, none⟩)) rfl (fun w' hw => V.indexAddr (x := .tmp 29) (i := .tmp 30) (m := k) (j := (k : Int)) rfl u25 s90 (Eq.trans (b := v_xs) h0_10 hv17) h5_10 rfl hlt21) ?_
  refine WQ.y (.pointer (some ⟨b13, k14 + k * 4 + 1, none⟩)) rfl (fun w' hw => V.fieldAddr rfl fl90_1 rfl) ?_
  refine WQ.y (.int .u8 ((xs.getD k default).Kind)) rfl (fun w' hw => V.load rfl p88 rfl ((hat20.ext hw (by simp)).cell (j := 1) rfl)) ?_
  refine WQ.my rfl rfl ?_
  refine WQ.my rfl rfl ?_
  refine WQ.y (.pointer (some ⟨b29, k30 + k * 4, none⟩)) rfl (fun w' hw => V.indexAddr (x := .tmp 34) (i := .tmp 35) (m := k) (j := (k : Int)) rfl u25 s90 (Eq.trans (b := v_ys) h1_10 hv33) h5_10 rfl hlt37) ?_
  refine WQ.y (.pointer (some ⟨b29, k30 + k * 4 + 1, none⟩)) rfl (fun w' hw => V.fieldAddr rfl fl90_1 rfl) ?_
  refine WQ.y (.int .u8 ((ys.getD k default).Kind)) rfl (fun w' hw => V.load rfl p88 rfl ((hat36.ext hw (by simp)).cell (j := 1) rfl)) ?_
  refine WQ.y (.bool (decide (((xs.getD k default).Kind) ≠ ((ys.getD k default).Kind)))) rfl (fun w' hw => V.cmp rfl rfl rfl rfl) ?_
  refine WQ.k (a := false) rfl rfl ?_
  refine WQ.vbp (c := ((xs.getD k default).Kind) ≠ ((ys.getD k default).Kind)) (Sure.none rfl) rfl (fun w' hw => V.move rfl rfl) (fun hc53 => ?_) (fun hc53 => ?_)
  · refine WQ.skips [(41, some true)] [(67, some true)] (kc (some true) rfl kn) (by kernel_rfl) (fun E54 hK55 hE56 w57 hq58 => ?_)
    have hx59 : Ext [] w w57 := hx11.trans hq58
    refine WP.cond_true (hK55 67 (some true) rfl) ?_
    refine WP.sr ?_
    refine WL.m rfl ?_
    refine WL.nil ?_
    refine WP.ret ?_
    refine resOf.c1 rfl (v := .bool (false)) rfl ?_
    exact ⟨(bool_eq (by first | (exact (eqB_len (by omega)).symm) | (exact (eqB_true (by omega) (by assumption) (by omega)).symm) | (exact (eqB_false (by omega) (by omega) (by first | assumption | grind [sameEntB])).symm))), hx59⟩
  refine WQ.my rfl rfl ?_
  refine WQ.my rfl rfl ?_
  refine WQ.y (.pointer (some ⟨b13, k14 + k * 4, none⟩)) rfl (fun w' hw => V.indexAddr (x := .tmp 42) (i := .tmp 43) (m := k) (j := (k : Int)) rfl u25 s90 (Eq.trans (b := v_xs) h0_10 hv17) h5_10 rfl hlt21) ?_
  refine WQ.y (.pointer (some ⟨b13, k14 + k * 4 + 2, none⟩)) rfl (fun w' hw => V.fieldAddr rfl fl90_2 rfl) ?_
  refine WQ.y (.string ((xs.getD k default).Data)) rfl (fun w' hw => V.load rfl p9 rfl ((hat20.ext hw (by simp)).cell (j := 2) rfl)) ?_
  refine WQ.my rfl rfl ?_
  refine WQ.my rfl rfl ?_
  refine WQ.y (.pointer (some ⟨b29, k30 + k * 4, none⟩)) rfl (fun w' hw => V.indexAddr (x := .tmp 47) (i := .tmp 48) (m := k) (j := (k : Int)) rfl u25 s90 (Eq.trans (b := v_ys) h1_10 hv33) h5_10 rfl hlt37) ?_
  refine WQ.y (.pointer (some ⟨b29, k30 + k * 4 + 2, none⟩)) rfl (fun w' hw => V.fieldAddr rfl fl90_2 rfl) ?_
  refine WQ.y (.string ((ys.getD k default).Data)) rfl (fun w' hw => V.load rfl p9 rfl ((hat36.ext hw (by simp)).cell (j := 2) rfl)) ?_
  refine WQ.y (.bool (!(seqB ((xs.getD k default).Data) ((ys.getD k default).Data)))) rfl (fun w' hw => V.scmp rfl rfl rfl rfl) ?_
  refine WQ.k (a := false) rfl rfl ?_
  refine WQ.vbn (c := seqB ((xs.getD k default).Data) ((ys.getD k default).Data)) (Sure.none rfl) rfl (fun w' hw => V.move rfl rfl) (fun hc61 => ?_) (fun hc61 => ?_)
  · refine WQ.skips [(54, some true)] [(67, some true)] (kc (some true) rfl kn) (by kernel_rfl) (fun E62 hK63 hE64 w65 hq66 => ?_)
    have hx67 : Ext [] w w65 := hx11.trans hq66
    refine WP.cond_true (hK63 67 (some true) rfl) ?_
    refine WP.sr ?_
    refine WL.m rfl ?_
    refine WL.nil ?_
    refine WP.ret ?_
    refine resOf.c1 rfl (v := .bool (false)) rfl ?_
    exact ⟨(bool_eq (by first | (exact (eqB_len (by omega)).symm) | (exact (eqB_true (by omega) (by assumption) (by omega)).symm) | (exact (eqB_false (by omega) (by omega) (by first | assumption | grind [sameEntB])).symm))), hx67⟩
  refine WQ.my rfl rfl ?_
  refine WQ.my rfl rfl ?_
  refine WQ.y (.pointer (some ⟨b13, k14 + k * 4, none⟩)) rfl (fun w' hw => V.indexAddr (x := .tmp 55) (i := .tmp 56) (m := k) (j := (k : Int)) rfl u25 s90 (Eq.trans (b := v_xs) h0_10 hv17) h5_10 rfl hlt21) ?_
  refine WQ.y (.pointer (some ⟨b13, k14 + k * 4 + 3, none⟩)) rfl (fun w' hw => V.fieldAddr rfl fl90_3 rfl) ?_
  refine WQ.y (v22) rfl (fun w' hw => V.load rfl p22 rfl ((hat20.ext hw (by simp)).cell (j := 3) rfl)) ?_
  refine WQ.my rfl rfl ?_
  refine WQ.my rfl rfl ?_
  refine WQ.y (.pointer (some ⟨b29, k30 + k * 4, none⟩)) rfl (fun w' hw => V.indexAddr (x := .tmp 60) (i := .tmp 61) (m := k) (j := (k : Int)) rfl u25 s90 (Eq.trans (b := v_ys) h1_10 hv33) h5_10 rfl hlt37) ?_
  refine WQ.y (.pointer (some ⟨b29, k30 + k * 4 + 3, none⟩)) rfl (fun w' hw => V.fieldAddr rfl fl90_3 rfl) ?_
  refine WQ.y (v38) rfl (fun w' hw => V.load rfl p22 rfl ((hat36.ext hw (by simp)).cell (j := 3) rfl)) ?_
  refine WQ.c (u := .bool (eqB ieq ((xs.getD k default).Members) ((ys.getD k default).Members))) (Sure.yes rfl rfl rfl) rfl (fun w' hw => C.call2 rfl cl40 rfl rfl) (fun w' hw => (ref_sameInts (hl23.ext (Ext.any hw)) (hl39.ext (Ext.any hw)))) ?_
  refine WQ.y (.bool (!(eqB ieq ((xs.getD k default).Members) ((ys.getD k default).Members)))) rfl (fun w' hw => V.not rfl rfl) ?_
  refine WQ.k (a := false) rfl rfl ?_
  refine WQ.nil (fun w69 hq70 => ?_)
  have hx71 : Ext [] w w69 := hx11.trans hq70
  refine WP.condn (t := eqB ieq ((xs.getD k default).Members) ((ys.getD k default).Members)) rfl (fun hc73 => ?_) (fun hc73 => ?_)
  · refine WP.sr ?_
    refine WL.m rfl ?_
    refine WL.nil ?_
    refine WP.ret ?_
    refine resOf.c1 rfl (v := .bool (false)) rfl ?_
    exact ⟨(bool_eq (by first | (exact (eqB_len (by omega)).symm) | (exact (eqB_true (by omega) (by assumption) (by omega)).symm) | (exact (eqB_false (by omega) (by omega) (by first | assumption | grind [sameEntB])).symm))), hx71⟩
  refine WP.skip ?_
  refine WP.region ?_
  refine WL.m rfl ?_
  refine WL.z (.int .i64 ((k : Int) + 1)) (V.arith (x := .tmp 15) rfl h5_10 rfl rfl (wrap_i64 (by omega) (by omega))) ?_
  refine WL.m rfl ?_
  refine WL.nil ?_
  exact ⟨k + 1, ⟨h0_10, h1_10, (int_eq (by omega)), h10_10, hx71, (by omega), (all_step (by assumption) (by first | assumption | grind [sameEntB]))⟩, (by omega)⟩
end Go.Proofs.Ytbpamkbegggeoaa.T
