/- Contract of the law's example. -/
import Derived.Test.YtenhghkiapkejaaW17
namespace Go.Proofs.Ytenhghkiapkejaa
open Go.RowKit
theorem Blk.slr {w : World} {g k n B : Nat} {t : TypeId} {cs : List Value} (h : Blk w g t cs) (hl : cs.length = n * k) (hB : g < B) : SlR w B k (some ⟨g, 0, none⟩) n cs :=
  ⟨hl, fun _ => ⟨g, 0, rfl, hB, fun j u hu => by rw [h.cell]; simpa using hu⟩⟩
theorem f35 (w : World) : Calls Try.prog 35 #[] w fun e w' => e = .returned (.tuple #[.slice (some ⟨w.heap.size, 0, none⟩) 2 2, .slice (some ⟨w.heap.size + 1, 0, none⟩) 2 2]) ∧
    SlR w' w'.heap.size 3 (some ⟨w.heap.size, 0, none⟩) 2 (exL.flatMap c3) ∧ SlR w' w'.heap.size 4 (some ⟨w.heap.size + 1, 0, none⟩) 2 (exM.flatMap c4) ∧ w.heap.size + 1 < w'.heap.size ∧ Below w.heap.size w w' := by
  go_enter Try.func35, Try.ntmps35
  go_wp2
  go_ret2
  have h1 := (Blk.new w 41 (exL.flatMap c3)).alloc (.cells (exM.flatMap c4).toArray 43)
  have h2 := Blk.new (w.alloc (.cells (exL.flatMap c3).toArray 41)) 43 (exM.flatMap c4)
  refine ⟨rfl, h1.slr rfl (by simp; omega), ?_, by simp, balloc (balloc (Below.refl _ _) _) _⟩
  have e : (w.alloc (.cells (exL.flatMap c3).toArray 41)).heap.size = w.heap.size + 1 := by simp
  rw [e] at h2
  exact h2.slr rfl (by simp)
end Go.Proofs.Ytenhghkiapkejaa
