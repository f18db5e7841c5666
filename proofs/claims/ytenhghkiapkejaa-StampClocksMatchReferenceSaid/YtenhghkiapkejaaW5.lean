/- Contracts: Clocks, Clone, Next, When. -/
import Derived.Test.YtenhghkiapkejaaW4
namespace Go.Proofs.Ytenhghkiapkejaa
open Go.RowKit
theorem Try.info41 : (Try.prog.info? 41).map (fun i => (i.zero, i.size, i.bytes)) = some (some (.agg #[.int .i64 0, .int .i64 0, .int .i64 0]), 3, 24) := by kernel_rfl

theorem news3 {w : World} {g : Nat} {x y z : Value} (h0 : w.cell? ⟨g, 0, none⟩ = some x) (h1 : w.cell? ⟨g, 1, none⟩ = some y) (h2 : w.cell? ⟨g, 2, none⟩ = some z) :
    ∀ j u, ([x, y, z] : List Value)[j]? = some u → w.cell? ((⟨g, 0, none⟩ : Addr).add j) = some u := by
  intro j u hu
  match j, hu with
  | 0, hu => simp at hu; subst hu; exact h0
  | 1, hu => simp at hu; subst hu; exact h1
  | 2, hu => simp at hu; subst hu; exact h2
theorem pk_range (c n : Int) (hn : 1 ≤ n) : 0 ≤ pk c n ∧ pk c n < n := by
  unfold pk
  exact ⟨Int.emod_nonneg _ (by omega), Int.emod_lt_of_pos _ (by omega)⟩
theorem clocksFrom_snoc : ∀ (i : Nat) (x : List I2) (k : Nat) (h : k < x.length), clocksFrom i (x.take (k + 1)) = clocksFrom i (x.take k) ++ [clk (i + k) x[k]]
  | i, a :: x, 0, _ => by simp [clocksFrom]
  | i, a :: x, k + 1, h => by
    have ih := clocksFrom_snoc (i + 1) x k (by simpa using h)
    simp only [List.take_succ_cons, clocksFrom, ih, List.cons_append, List.getElem_cons_succ]
    rw [Nat.add_assoc, Nat.add_comm 1 k]
theorem clocksFrom_len : ∀ (i : Nat) (x : List I2), (clocksFrom i x).length = x.length
  | _, [] => rfl
  | i, a :: x => by simp [clocksFrom, clocksFrom_len (i + 1) x]
def wf64 (x : Int) : Prop := -9223372036854775808 ≤ x ∧ x ≤ 9223372036854775807
set_option maxRecDepth 100000 in
set_option maxHeartbeats 400000 in
theorem f22 (A : Option Addr) (x : List I2) (c : Nat) (w : World) (_hn : x.length ≤ c) (_hc : c ≤ 9223372036854775807) (hw : ∀ s ∈ x, wf64 s.1 ∧ wf64 s.2) (hr : SlR w w.heap.size 2 A x.length (x.flatMap c2)) :
    Calls Try.prog 22 #[.slice A x.length c] w fun e w' => ∃ v, e = .returned v ∧ w'.ownsRow w.heap.size 41 3 v (clocks x).length ((clocks x).flatMap c3) ∧ Below w.heap.size w w' := by
  obtain ⟨i0, hi, hz0, hz1, hz2⟩ := info_parts Try.info41
  go_enter Try.func22, Try.ntmps22
  go_wp2
  go_loopw [3, 4] (fun v i wr => ∃ (k : Nat), k ≤ x.length ∧ k ≤ 6 ∧ i = .int .i64 k ∧ wr.ownsRow w.heap.size 41 3 v k ((clocksFrom 0 (x.take k)).flatMap c3) ∧ Below w.heap.size w wr) (fun _ i _ => x.length - (intOf i).toNat)
  case atStart => exact ⟨0, Nat.zero_le _, by omega, rfl, World.ownsRow_nil _ _ _ _, Below.refl _ _⟩
  case round =>
    obtain ⟨k, hk, hk6, rfl, hown, hb⟩ := hrel
    by_cases hlt : k < x.length ∧ k < 6
    · obtain ⟨hlt, hlt6⟩ := hlt
      obtain ⟨b, off, rfl, hbb, hx0, hx1⟩ := hr.at2 hb hlt
      have H := hide (clocksFrom_snoc 0 x k hlt)
      have hwk := hw x[k] (List.getElem_mem hlt)
      clear hr hw
      generalize x[k] = s at *
      obtain ⟨s0, s1⟩ := s
      obtain ⟨⟨hw1, hw2⟩, ⟨hw3, hw4⟩⟩ := hwk
      simp only [] at hx0 hx1 hw1 hw2 hw3 hw4
      have hp0 := pk_range s0 60 (by omega)
      have hp1 := pk_range s1 40 (by omega)
      obtain ⟨hp01, hp02⟩ := hp0
      obtain ⟨hp11, hp12⟩ := hp1
      have hkk : (0 : Nat) + k = k := by omega
      rw [hkk] at H
      clear hkk
      go_wp2_with (first | (go_at_call 36; refine (f36 _ _ _ (by omega) (by omega) (by omega) (by omega)).mono ?_; rintro e w' ⟨rfl, rfl⟩) |
        (at_builtin; refine wpList_append_own _ rfl _ _ 44 rfl w.heap.size 41 i0 (.agg #[.int .i64 0, .int .i64 0, .int .i64 0]) 3 24 Try.underlying44 hi hz0 hz1 hz2 rfl (by decide) _ _ _ rfl (hown.alloc _) ⟨wr.heap.size, 0, none⟩ 1 1 [.int .i64 k, .int .i64 (pk s0 60 - 30), .int .i64 (pk s0 60 - 30 + pk s1 40)] rfl rfl (news3 (by go_simp) (by go_simp) (by go_simp)) (by simp [Value.oneCell']) (by unfold maxLen; omega) (by omega) (by have := hb.size; simp; omega) ?_; intro v' w1 hown' hgrow _))
      go_roundw
      case rel =>
        refine ⟨k + 1, by omega, by omega, by go_num, ?_, bgrown (balloc hb _) hgrow (fun j e => (hown.lt j e).1)⟩
        rw [H.out, List.flatMap_append]
        simpa [clk, c3] using hown'
      case measure => simp [intOf]; omega
    · have hfin : x.take k = x.take 6 := by
        by_cases h6 : k = 6
        · rw [h6]
        · rw [List.take_of_length_le (by omega), List.take_of_length_le (by omega)]
      have hlen : (clocks x).length = k := by
        unfold clocks
        rw [clocksFrom_len, List.length_take]
        omega
      have HF := hide (And.intro hfin hlen)
      clear hfin hlen hr hw
      by_cases h1 : k < x.length
      · have h2 : ¬ k < 6 := by omega
        clear hlt
        go_wp2
        go_ret
        obtain ⟨hf, hl⟩ := HF.out
        exact ⟨_, rfl, by rw [hl]; unfold clocks; rw [← hf]; exact hown, hb⟩
      · clear hlt
        go_wp2
        go_ret
        obtain ⟨hf, hl⟩ := HF.out
        exact ⟨_, rfl, by rw [hl]; unfold clocks; rw [← hf]; exact hown, hb⟩
end Go.Proofs.Ytenhghkiapkejaa
