/- Contracts of the small functions of package module. -/
import Derived.Test.YtncdombfhcfobaaGreatProg
import Derived.Test.YtncdombfhcfobaaGreatMBase
import Derived.Test.YtncdombfhcfobaaGreatRg
import Derived.Deep.RegionHeld3
namespace Go.Proofs.YtncdombfhcfobaaGreat
open Go.RowKit

theorem c_isIn (n lo hi : Int) (w : World) :
    Calls Tryz.prog 52 #[.int .i64 n, .int .i64 lo, .int .i64 hi] w fun e w' => e = .returned (.bool (inB n lo hi)) ∧ w = w' := by
  go_enter Tryz.func52, Tryz.ntmps52
  go_wp2
  all_goals go_ret
  all_goals exact ⟨by simp [inB]; try omega, rfl⟩
theorem c_isInv {n lo hi : Int} {b : Bool} (h : inB n lo hi = b) (w : World) :
    Calls Tryz.prog 52 #[.int .i64 n, .int .i64 lo, .int .i64 hi] w fun e w' => e = .returned (.bool b) ∧ w = w' := by
  subst h; exact c_isIn n lo hi w

def plB (x y : Int) : Bool := inB x 0 4095 && inB y 0 4095
theorem c_isPlace (x y : Int) (w : World) :
    Calls Tryz.prog 53 #[.agg #[.int .i64 x, .int .i64 y]] w fun e w' => e = .returned (.bool (plB x y)) ∧ Below w.heap.size w w' := by
  cases hx : inB x 0 4095
  · go_enter Tryz.func53, Tryz.ntmps53
    go_wp2_with (go_at_call 52; refine (c_isInv hx _).mono ?_; rintro e w' ⟨rfl, rfl⟩)
    go_ret
    exact ⟨by simp [plB, hx], balloc (Below.refl _ _) _⟩
  · have HX := hide hx
    go_enter Tryz.func53, Tryz.ntmps53
    go_wp2_with (first | (go_at_call 52; refine (c_isInv hx _).mono ?_; clear hx; rintro e w' ⟨rfl, rfl⟩) | (go_at_call 52; refine (c_isIn _ _ _ _).mono ?_; rintro e w' ⟨rfl, rfl⟩))
    go_ret
    exact ⟨by simp [plB, HX.out], balloc (Below.refl _ _) _⟩

theorem c_itemID (s : It) (w : World) : Calls Tryz.prog 77 #[itV s] w fun e w' => e = .returned (.int .i64 s.id) ∧ Below w.heap.size w w' := by
  go_enter Tryz.func77, Tryz.ntmps77
  unfold itV
  go_wp2
  go_ret
  exact ⟨rfl, balloc (Below.refl _ _) _⟩
end Go.Proofs.YtncdombfhcfobaaGreat
