/- Moments in the laws' walks. -/
import Derived.Test.YtcfbgelhggapjaaGreatDoorQ18
namespace Go.Proofs.YtcfbgelhggapjaaGreatDoor
open Go.RowKit Go.Shelf
/-- a record in a box -/
def RcCut (o : Rc) (W0 : World) (v : Value) (W : World) : Prop :=
  ∃ b, v = .pointer (some ⟨b, 0, none⟩) ∧ W0.heap.size ≤ b ∧ Blk W b 49 (cR o) ∧ Below W0.heap.size W0 W
theorem RcCut.mk (W : World) (p n t o w k : Int) (x : ByteArray) : RcCut ⟨p, n, t, o, w, k, x⟩ W (.pointer (some ⟨W.heap.size, 0, none⟩)) (W.alloc (.cells #[.int .i64 p, .int .i64 n, .int .i64 t, .int .i64 o, .int .i64 w, .int .i64 k, .string x] 49)).drew :=
  ⟨_, rfl, Nat.le_refl _, (Blk.new W 49 [.int .i64 p, .int .i64 n, .int .i64 t, .int .i64 o, .int .i64 w, .int .i64 k, .string x]).drew, bdrew (balloc (Below.refl _ _) _)⟩
/-- an answer that is a list -/
def LsCut (m : List Rc) (n : Nat) (W0 : World) (v u : Value) (W : World) : Prop :=
  ∃ A c, v = .slice A n c ∧ u = .int .i64 0 ∧ n ≤ c ∧ c ≤ 9223372036854775807 ∧ SlR W W.heap.size 7 A n (m.flatMap cR) ∧ Below W0.heap.size W0 W
end Go.Proofs.YtcfbgelhggapjaaGreatDoor
