/- Contracts of package stamp that compare stamps. -/
import Derived.Test.YtenhghkiapkejaaW1
import Derived.Deep.RegionHeld3
namespace Go.Proofs.Ytenhghkiapkejaa
open Go.RowKit

set_option maxHeartbeats 400000 in
theorem f39 (s t : I3) (w : World) :
    Calls Try.prog 39 #[.agg #[.int .i64 s.1, .int .i64 s.2.1, .int .i64 s.2.2], .agg #[.int .i64 t.1, .int .i64 t.2.1, .int .i64 t.2.2]] w fun e w' => e = .returned (.int .i64 (cmpS s t)) ∧ Below w.heap.size w w' := by
  obtain ⟨a, p, n⟩ := s
  obtain ⟨b, q, m⟩ := t
  go_enter Try.func39, Try.ntmps39
  go_wp2_with fail
  go_region_held3 (fun w' => w'.cell? ⟨w.heap.size, 0, none⟩ = some (.int .i64 a) ∧ w'.cell? ⟨w.heap.size, 1, none⟩ = some (.int .i64 p) ∧ w'.cell? ⟨w.heap.size, 2, none⟩ = some (.int .i64 n) ∧ w'.cell? ⟨w.heap.size+1, 0, none⟩ = some (.int .i64 b) ∧ w'.cell? ⟨w.heap.size+1, 1, none⟩ = some (.int .i64 q) ∧ w'.cell? ⟨w.heap.size+1, 2, none⟩ = some (.int .i64 m))
    (first | go_keep | skip)
    (first | (go_at_call 57; refine (f57 _ _ _).mono ?_; rintro e w' ⟨rfl, rfl⟩) | (go_at_call 56; refine (f56 (some ⟨w.heap.size + 2, 0, none⟩) 3 [cmpI a b, cmpI p q, cmpI n m] (w.heap.size + 3) _ (by simp) (by omega) (by exact slr3 (by go_simp) (by go_simp) (by go_simp) (by omega))).mono ?_; rintro e w' ⟨rfl, rfl⟩))
  go_wp2
  go_ret
  refine ⟨ret_int rfl, ?_⟩
  exact bdrew (balloc (balloc (balloc (Below.refl _ _) _) _) _)


set_option maxHeartbeats 400000 in
theorem f18 (s t : I3) (w : World) :
    Calls Try.prog 18 #[.agg #[.int .i64 s.1, .int .i64 s.2.1, .int .i64 s.2.2], .agg #[.int .i64 t.1, .int .i64 t.2.1, .int .i64 t.2.2]] w fun e w' => e = .returned (.bool (bef s t)) ∧ Below w.heap.size w w' := by
  go_enter Try.func18, Try.ntmps18
  go_wp2_with fail
  refine (f39 s t _).mono ?_
  rintro e w1 ⟨rfl, hb⟩
  go_wp2
  go_ret
  exact ⟨ret_bool (by simp [bef]), bthen (balloc (balloc (Below.refl _ _) _) _) hb⟩

end Go.Proofs.Ytenhghkiapkejaa
