/- Contracts: placed: it makes a function value over four boxes. -/
import Derived.Test.YtncdombfhcfobaaM29
namespace Go.Proofs.Ytncdombfhcfobaa
open Go.RowKit
theorem c_placed (A B C : Option Addr) (n c m d k e : Nat) (x y : Int) (w : World) :
    Calls Try.prog 44 #[.slice A n c, .slice B m d, .slice C k e, .agg #[.int .i64 x, .int .i64 y]] w fun en w' =>
      en = .returned (.func (.func 66) #[] #[.pointer (some ⟨w.heap.size + 1, 0, none⟩), .pointer (some ⟨w.heap.size + 1 + 1, 0, none⟩), .pointer (some ⟨w.heap.size + 1 + 1 + 1, 0, none⟩), .pointer (some ⟨w.heap.size, 0, none⟩)]) ∧
      w' = (((w.alloc (.cells #[.slice A n c] 42)).alloc (.cells #[.slice B m d] 24)).alloc (.cells #[.slice C k e] 28)).alloc (.cells #[.int .i64 x, .int .i64 y] 34) := by
  go_enter Try.func44, Try.ntmps44
  go_wp2
  go_ret
  exact ⟨rfl, rfl⟩
end Go.Proofs.Ytncdombfhcfobaa
