/- Plain words: what the stamp package's functions come to, on lists of numbers. No program here. -/
import Derived.Test.YtenhghkiapkejaaIMap
namespace Go.Proofs.Ytenhghkiapkejaa

def stVal (s : I3) : Bool := inB s.1 0 1000000 && (inB s.2.1 0 39 && inB s.2.2 1 999)
def cmpI (x y : Int) : Int := if x < y then -1 else if y < x then 1 else 0
def orI : List Int → Int
  | [] => 0
  | x :: l => if x = 0 then orI l else x
def cmpS (a b : I3) : Int := orI [cmpI a.1 b.1, cmpI a.2.1 b.2.1, cmpI a.2.2 b.2.2]
def bef (a b : I3) : Bool := decide (cmpS a b < 0)
def pk (c n : Int) : Int := (if c < 0 then -(c + 1) else c) % n
/-- are these skews valid, the last person having been 'last' -/
def skOk : Int → List I3 → Bool
  | _, [] => true
  | last, s :: l => inB s.1 (last + 1) 39 && (decide (s.2.1 ≤ s.2.2) && (inB s.2.1 (-100000) 100000 && (decide (s.2.2 ≤ 100000) && skOk s.1 l)))
def bv (lo hi : Int) : Value := .agg #[.int .i64 lo, .int .i64 hi]
/-- the bounds of skews by their persons, as the map holds them -/
def bpL (l : List I3) : List (Int × Value) := l.foldl (fun L s => putL s.1 (.agg #[.int .i64 s.2.1, .int .i64 s.2.2]) L) []
def clk (i : Nat) (x : I2) : I3 := ((i : Int), pk x.1 60 - 30, pk x.1 60 - 30 + pk x.2 40)
def clocksFrom : Nat → List I2 → List I3
  | _, [] => []
  | i, x :: l => clk i x :: clocksFrom (i + 1) l
def clocks (x : List I2) : List I3 := clocksFrom 0 (x.take 6)
def stp (x : I3) : I3 := (pk x.1 1000, pk x.2.1 4, 1 + pk x.2.2 5)
def stamps (x : List I3) : List I3 := (x.take 12).map stp
/-- the time of the next stamp -/
def nextAt (seen : List I3) (c : Int) : Int := seen.foldl (fun m s => max m (s.1 + 1)) c
def nextS (seen : List I3) (p n c : Int) : Option I3 :=
  if seen.all stVal && stVal (nextAt seen c, p, n) then some (nextAt seen c, p, n) else none
end Go.Proofs.Ytenhghkiapkejaa
