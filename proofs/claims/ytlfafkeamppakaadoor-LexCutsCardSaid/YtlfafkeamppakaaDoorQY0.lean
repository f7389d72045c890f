/- The query language's words: what the bytes are, as lists of numbers. -/
import Derived.Test.YtlfafkeamppakaaDoorQTL
set_option linter.unusedVariables false
set_option linter.unusedSimpArgs false
namespace Go.Proofs.YtlfafkeamppakaaDoor.XT
open Go Go.RowKit Go.Proofs.YtlfafkeamppakaaDoor.Sv
def tokT : DT := .t [(.i .u8), .s, (.i .i64), (.i .i64)]
def dgC (c : Int) : Bool := decide (48 ≤ c) && decide (c ≤ 57)
def hxC (c : Int) : Bool := dgC c || decide (97 ≤ c) && decide (c ≤ 102)
def bgC (c : Int) : Bool := decide (97 ≤ c) && decide (c ≤ 122) || decide (65 ≤ c) && decide (c ≤ 90) || decide (c = 95)
def ptC (c : Int) : Bool := bgC c || dgC c || decide (c = 46)
def sgC (c : Int) : Bool := [123, 125, 40, 41, 58, 44, 64, 126, 45].contains c
/-- how many at the front are so -/
def runL (p : Int → Bool) : List Int → Nat
  | [] => 0
  | c :: r => if p c = true then runL p r + 1 else 0
def aloL : List Int → Bool
  | [] => true
  | c :: _ => !ptC c
/-- what stands between tokens -/
def skL : List Int → Bool → Nat
  | [], _ => 0
  | c :: r, true => if c = 10 then skL r false + 1 else skL r true + 1
  | c :: r, false => if c = 32 ∨ c = 9 ∨ c = 10 ∨ c = 13 then skL r false + 1 else if c = 35 then skL r true + 1 else 0
def kdL (r : List Int) : Int := if bgC (r.getD 0 0) = true then 1 else if r.getD 0 0 = 48 ∧ r.getD 1 0 = 120 then 3 else if dgC (r.getD 0 0) = true ∨ r.getD 0 0 = 45 ∧ dgC (r.getD 1 0) = true then 2 else if r.getD 0 0 = 34 then 4 else if sgC (r.getD 0 0) = true then 5 else 0
/-- a uid: how far, and whether -/
def uiK (L : List Int) : Nat := if (L.getD 2 0 = 48 ∨ hxC (L.getD 2 0) = false) then 2 else 2 + min (runL hxC (L.drop 2)) 16
def uiO (L : List Int) : Bool := if (L.getD 2 0 = 48 ∨ hxC (L.getD 2 0) = false) then false else decide (runL hxC (L.drop 2) ≤ 16) && aloL (L.drop (2 + runL hxC (L.drop 2)))
/-- a number's digits: its value, how many, whether it may be -/
def nmG (lim : Int) : List Int → Int → Int × Nat × Bool
  | [], n => (n, 0, true)
  | c :: r, n => if dgC c = true then (if lim < 10 * n + (c - 48) then (0, 0, false) else ((nmG lim r (10 * n + (c - 48))).1, (nmG lim r (10 * n + (c - 48))).2.1 + 1, (nmG lim r (10 * n + (c - 48))).2.2)) else (n, 0, aloL (c :: r))
def ngL (L : List Int) : Bool := decide (L.getD 0 0 = 45)
def bdL (L : List Int) : List Int := if ngL L = true then L.drop 1 else L
def liL (L : List Int) : Int := if ngL L = true then 9223372036854775808 else 9223372036854775807
def ofL (L : List Int) : Nat := if ngL L = true then 1 else 0
def nmR (L : List Int) : Int × Nat × Bool := nmG (liL L) (bdL L) 0
def nmV (L : List Int) : Int := if (bdL L).getD 0 0 = 48 then 0 else if ngL L = true then -(nmR L).1 else (nmR L).1
def nmK (L : List Int) : Nat := if (bdL L).getD 0 0 = 48 then 1 else ofL L + (nmR L).2.1
def nmO (L : List Int) : Bool := if (bdL L).getD 0 0 = 48 then !ngL L && aloL (L.drop 1) else (nmR L).2.2
def hxV' (c : Int) : Int := if c ≤ 57 then c - 48 else c - 87
/-- a text behind its mark: what is meant, how far, whether; m: how many are had -/
def txG : List Int → Nat → List Int × Nat × Bool
  | [], _ => ([], 0, false)
  | c :: r, m => if c = 34 then ([], 1, true) else if c < 32 ∨ 126 < c ∨ m = 4096 then ([], 0, false) else if c ≠ 92 then (c :: (txG r (m + 1)).1, (txG r (m + 1)).2.1 + 1, (txG r (m + 1)).2.2) else match r with
    | [] => ([], 1, false)
    | d :: r2 => if d = 92 ∨ d = 34 then (d :: (txG r2 (m + 1)).1, (txG r2 (m + 1)).2.1 + 2, (txG r2 (m + 1)).2.2) else if d = 110 then (10 :: (txG r2 (m + 1)).1, (txG r2 (m + 1)).2.1 + 2, (txG r2 (m + 1)).2.2) else if d = 120 then (match r2 with
      | [] => ([], 2, false)
      | e :: r3 => if hxC e = false then ([], 2, false) else match r3 with
        | [] => ([], 3, false)
        | f :: r4 => if hxC f = false then ([], 3, false) else ((16 * hxV' e + hxV' f) :: (txG r4 (m + 1)).1, (txG r4 (m + 1)).2.1 + 4, (txG r4 (m + 1)).2.2)) else ([], 1, false)
def txS (L : List Int) : List Int := if (txG (L.drop 1) 0).2.2 = true then (txG (L.drop 1) 0).1 else []
def txK (L : List Int) : Nat := 1 + (txG (L.drop 1) 0).2.1
def txO (L : List Int) : Bool := (txG (L.drop 1) 0).2.2
/-- one token: how far, whether, its text, its number -/
def onK (L : List Int) : Nat := if kdL L = 1 then min (runL ptC L) 64 else if kdL L = 3 then uiK L else if kdL L = 2 then nmK L else if kdL L = 4 then txK L else if kdL L = 5 then 1 else 0
def onO (L : List Int) : Bool := if kdL L = 1 then decide (runL ptC L ≤ 64) else if kdL L = 3 then uiO L else if kdL L = 2 then nmO L else if kdL L = 4 then txO L else decide (kdL L = 5)
def onS (L : List Int) : List Int := if kdL L = 4 then txS L else L.take (onK L)
def onN (L : List Int) : Int := if kdL L = 2 then nmV L else 0
def onT (L : List Int) (at' : Nat) : D := .t [.i (kdL L), .s (sL (onS L)), .i (onN L), .i (at' : Int)]
/-- bytes cut into tokens; f: rounds at most -/
def cuG : Nat → List Int → Nat → List D → List D × Nat × Int
  | 0, _, k, l => (l, k, 0)
  | f + 1, L, k, l => let M := L.drop (skL L false); let j := k + skL L false
    if M = [] then (l, j, 0) else if l.length = 8192 ∧ kdL M ≠ 0 then ([], j, 4) else if onO M = false then ([], j + onK M, 250) else cuG f (M.drop (onK M)) (j + onK M) (l ++ [onT M j])
def cuT (s : ByteArray) : List D × Nat × Int := if 65536 < s.size then ([], 65536, 4) else cuG (s.size + 1) (bys s) 0 []
end Go.Proofs.YtlfafkeamppakaaDoor.XT
