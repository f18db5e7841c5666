/- Contracts of slices.SortedFunc at stamps, and of Sorted. -/
import Derived.Test.YtenhghkiapkejaaW19
import Derived.Test.YtenhghkiapkejaaW11
import Derived.Test.YtenhghkiapkejaaW15
import Derived.Shelf.SlSortCmp.NoneTotal
namespace Go.Proofs.Ytenhghkiapkejaa
open Go.RowKit
theorem f54n (p : Option Addr) (cap : Nat) (fv : Value) (w : World) : Calls Try.prog 54 #[.slice p 0 cap, fv] w fun e w' => e = .returned (.tuple #[]) ∧ w' = w := AnyF.slices_SortFunc_none Try.sortSt p cap fv w
set_option maxHeartbeats 1000000 in
theorem f37 (A : Option Addr) (l : List I3) (c g : Nat) (w : World) (hn : l.length ≤ c) (hc : c ≤ 9223372036854775807) (hl : l.length ≤ 100) (hg : w.cell? ⟨g, 0, none⟩ = some (.slice A l.length c)) (hr : SlR w w.heap.size 3 A l.length (l.flatMap c3)) :
    Calls Try.prog 37 #[.func (.func 55) #[] #[.pointer (some ⟨g, 0, none⟩)], .func (.func 39) #[] #[]] w fun e w' => ∃ v, e = .returned v ∧ w'.ownsRow w.heap.size 24 3 v l.length ((sortS l).flatMap c3) ∧ Below w.heap.size w w' := by
  go_enter Try.func37, Try.ntmps37
  go_wp2_with fail
  refine (f53 A l c g _ hn hc hl hg hr).mono ?_
  rintro e w1 ⟨v, rfl, hown, hb⟩
  rcases Nat.eq_zero_or_pos l.length with h0 | h0
  · have hnil : l = [] := List.eq_nil_of_length_eq_zero h0
    subst hnil
    obtain ⟨A', cv, rfl, _, _, _⟩ := SlR.of_own hown
    have HO := hide hown
    clear hown
    go_wp2_with fail
    refine (f54n A' cv _ _).mono ?_
    rintro e w2 ⟨rfl, rfl⟩
    go_wp2
    go_ret
    have hz : sortS [] = [] := by simp [sortS]
    rw [hz]
    exact ⟨_, rfl, HO.out, hb⟩
  · obtain ⟨g', cv, rfl, hgb, hcv1, hcv2⟩ := owns_slice hown h0
    go_wp2_with fail
    refine (f54 l w.heap.size g' cv _ hl hown).mono ?_
    rintro e w2 ⟨rfl, hown2, hb2⟩
    clear hown hr
    have HO := hide hown2
    clear hown2
    go_wp2
    go_ret
    exact ⟨_, rfl, HO.out, hb.trans hb2⟩
theorem f13 (A : Option Addr) (l : List I3) (c : Nat) (w : World) (hn : l.length ≤ c) (hc : c ≤ 9223372036854775807) (hl : l.length ≤ 100) (hr : SlR w w.heap.size 3 A l.length (l.flatMap c3)) :
    Calls Try.prog 13 #[.slice A l.length c] w fun e w' => ∃ v, e = .returned v ∧ w'.ownsRow w.heap.size 24 3 v l.length ((sortS l).flatMap c3) ∧ Below w.heap.size w w' := by
  go_enter Try.func13, Try.ntmps13
  go_wp2_with fail
  refine (f38 A l.length c _).mono ?_
  rintro e w1 ⟨rfl, rfl⟩
  have hr1 := hr.to (balloc (Below.refl _ _) (.cells #[.slice A l.length c] 26))
  have hg := (Blk.new w 26 [.slice A l.length c]).all1.1
  clear hr
  go_wp2_with fail
  refine (f37 A l c _ _ hn hc hl hg hr1).mono ?_
  rintro e w2 ⟨v, rfl, hown, hb⟩
  obtain ⟨A', cv, rfl, _, _, _⟩ := SlR.of_own hown
  clear hr1 hg
  have HO := hide hown
  clear hown
  go_wp2
  go_ret
  refine ⟨_, rfl, ⟨HO.out.1, ?_⟩, bthen (balloc (Below.refl _ _) _) hb⟩
  rcases HO.out.2 with h | ⟨g, c', cur, q1, q2, q3⟩
  · exact .inl h
  · exact .inr ⟨g, c', cur, q1, by simp at q2; omega, q3⟩
end Go.Proofs.Ytenhghkiapkejaa
