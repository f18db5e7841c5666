/- The contract of compare, to the block; and that its order is strict and weak. -/
import Derived.Test.YtenhghkiapkejaaW2
import Derived.Sort.Grow
import Derived.Sort.Statements
namespace Go.Proofs.Ytenhghkiapkejaa
open Go.RowKit
set_option maxHeartbeats 400000 in
theorem f39s (s t : I3) (w : World) :
    Calls Try.prog 39 #[.agg #[.int .i64 s.1, .int .i64 s.2.1, .int .i64 s.2.2], .agg #[.int .i64 t.1, .int .i64 t.2.1, .int .i64 t.2.2]] w fun e w' => e = .returned (.int .i64 (cmpS s t)) ∧ ∃ q os', w' = Go.Sort.grow (w.drewN q) os' := by
  obtain ⟨a, p, n⟩ := s
  obtain ⟨b, q, m⟩ := t
  go_enter Try.func39, Try.ntmps39
  go_wp2_with fail
  go_region_held3 (fun w' => w'.cell? ⟨w.heap.size, 0, none⟩ = some (.int .i64 a) ∧ w'.cell? ⟨w.heap.size, 1, none⟩ = some (.int .i64 p) ∧ w'.cell? ⟨w.heap.size, 2, none⟩ = some (.int .i64 n) ∧ w'.cell? ⟨w.heap.size+1, 0, none⟩ = some (.int .i64 b) ∧ w'.cell? ⟨w.heap.size+1, 1, none⟩ = some (.int .i64 q) ∧ w'.cell? ⟨w.heap.size+1, 2, none⟩ = some (.int .i64 m))
    (first | go_keep | skip)
    (first | (go_at_call 57; refine (f57 _ _ _).mono ?_; rintro e w' ⟨rfl, rfl⟩) | (go_at_call 56; refine (f56 (some ⟨w.heap.size + 2, 0, none⟩) 3 [cmpI a b, cmpI p q, cmpI n m] (w.heap.size + 3) _ (by simp) (by omega) (by exact slr3 (by go_simp) (by go_simp) (by go_simp) (by omega))).mono ?_; rintro e w' ⟨rfl, rfl⟩))
  go_wp2
  go_ret
  refine ⟨ret_int rfl, 1, #[.cells #[.int .i64 a, .int .i64 p, .int .i64 n] 24, .cells #[.int .i64 b, .int .i64 q, .int .i64 m] 24, .cells #[.int .i64 (cmpI a b), .int .i64 (cmpI p q), .int .i64 (cmpI n m)] 3], ?_⟩
  simp only [World.alloc, Go.Sort.grow, World.drew, World.drewN]
  congr 1
theorem cmpS_neg (s t : I3) : cmpS s t < 0 ↔ s.1 < t.1 ∨ s.1 = t.1 ∧ (s.2.1 < t.2.1 ∨ s.2.1 = t.2.1 ∧ s.2.2 < t.2.2) := by
  simp only [cmpS, orI, cmpI]
  (repeat' split) <;> omega
theorem swo : Go.Sort.SWO (fun s t : I3 => decide (cmpS s t < 0)) where
  irrefl x := by simp only [decide_eq_false_iff_not, cmpS_neg]; omega
  trans x y z h1 h2 := by simp only [decide_eq_true_eq, cmpS_neg] at *; omega
  ntrans x y z h1 h2 := by simp only [decide_eq_false_iff_not, cmpS_neg] at *; omega
end Go.Proofs.Ytenhghkiapkejaa
