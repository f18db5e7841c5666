/- Plain words on stamps in order. No program here. -/
import Derived.Test.YtenhghkiapkejaaW16
namespace Go.Proofs.Ytenhghkiapkejaa
def leS (x y : I3) : Bool := decide (¬ cmpS y x < 0)
/-- stamps in order -/
def sortS (l : List I3) : List I3 := l.mergeSort leS
theorem leS_iff (x y : I3) : leS x y = true ↔ ¬ (y.1 < x.1 ∨ y.1 = x.1 ∧ (y.2.1 < x.2.1 ∨ y.2.1 = x.2.1 ∧ y.2.2 < x.2.2)) := by
  unfold leS
  rw [decide_eq_true_eq, cmpS_neg]
theorem leS_trans (a b c : I3) (h : leS a b = true) (k : leS b c = true) : leS a c = true := by
  rw [leS_iff] at *; omega
theorem leS_total (a b : I3) : (leS a b || leS b a) = true := by
  rw [Bool.or_eq_true, leS_iff, leS_iff]; omega
theorem leS_anti (a b : I3) (h : leS a b = true) (k : leS b a = true) : a = b := by
  rw [leS_iff] at *
  obtain ⟨a1, a2, a3⟩ := a
  obtain ⟨b1, b2, b3⟩ := b
  simp only [] at h k
  have h1 : a1 = b1 := by omega
  have h2 : a2 = b2 := by omega
  have h3 : a3 = b3 := by omega
  rw [h1, h2, h3]
theorem sortS_uniq {l l' : List I3} (hp : l'.Perm l) (hs : l'.Pairwise (fun x y => leS x y = true)) : l' = sortS l :=
  List.Perm.eq_of_pairwise (le := fun x y => leS x y = true) (fun a b _ _ h k => leS_anti a b h k) hs (List.pairwise_mergeSort leS_trans leS_total l) (hp.trans (List.mergeSort_perm l leS).symm)
theorem sortS_len (l : List I3) : (sortS l).length = l.length := (List.mergeSort_perm l leS).length_eq
end Go.Proofs.Ytenhghkiapkejaa
