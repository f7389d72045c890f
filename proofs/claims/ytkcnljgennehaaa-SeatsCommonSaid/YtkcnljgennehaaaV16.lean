import Derived.Test.YtkcnljgennehaaaV9
import Derived.Test.YtkcnljgennehaaaW10
namespace Go.Proofs.Ytkcnljgennehaaa.T
open W Go.RowKit
set_option maxRecDepth 100000
set_option maxHeartbeats 400000

def refM1 (p : PeerD) : Bool := idB p.Id && (!decide (p.Wait ≤ 0) && (!decide (p.Idle < 0) && (!decide (p.Role > 2) && ((!decide (p.Vote ≠ 0) || idB p.Vote) && (!decide (p.Lead ≠ 0) || idB p.Lead)))))
def refM2 (p : PeerD) : Bool := !decide ((p.BaseMembers.length : Int) = 0) && (idsB p.BaseMembers && (!decide (p.BaseTerm > p.Term) && ((decide (p.Base = 0) == decide (p.BaseTerm = 0)) && (!decide (p.Base = 0) || seqB p.Snap (ByteArray.mk #[])))))
def refM3 (p : PeerD) : Bool := !decide (p.Base > 4611686018427387904) && (!decide (p.Term > 4611686018427387904) && (!decide (p.Round > 4611686018427387904) && (!decide (p.Idle > 1073741824) && (!decide (p.Wait > 1073741824) && entsB p.Log p.BaseTerm p.Term))))
def refM4 (p : PeerD) : Bool := eqB ieq p.Members (membersOf p (lastI p)) && (!decide (p.Commit < p.Base) && (!decide (p.Commit > lastI p) && idsB p.Votes))
def refM5 (p : PeerD) : Bool :=
  if decide (p.Role = 1) = true then hasB p.Members p.Id && (!decide (p.Vote ≠ p.Id) && (hasB p.Votes p.Id && (!decide (p.Lead ≠ 0) && (decide ((p.Follows.length : Int) = 0) && decide ((p.Reads.length : Int) = 0)))))
  else if decide (p.Role = 2) = true then decide ((p.Votes.length : Int) = 0) && (decide (p.Lead = p.Id) && (decide (p.Term > 0) && (decide (lastT p ≤ p.Term) && (followsB p (lastI p) && readsB p))))
  else !decide ((p.Votes.length : Int) > 0) && (decide ((p.Follows.length : Int) = 0) && decide ((p.Reads.length : Int) = 0))
def refMayB (p : PeerD) : Bool := refM1 p && (refM2 p && (refM3 p && (refM4 p && refM5 p)))
theorem refM3_base {p : PeerD} (h : refM3 p = true) : p.Base ≤ 4611686018427387904 := by
  simp only [refM3, Bool.and_eq_true, Bool.not_eq_true', decide_eq_false_iff_not] at h; omega

end Go.Proofs.Ytkcnljgennehaaa.T
