/- Contract of the reference's Stamps: the stamps that integers determine. -/
import Derived.Test.YtenhghkiapkejaaW15
import Derived.Deep.RegionHeld3
import Derived.Deep.AppendLies
namespace Go.Proofs.Ytenhghkiapkejaa
open Go.RowKit
theorem stampsS {w W wr : World} {b off k : Nat} {s : I3} (hb : b < w.heap.size) (hr : Below w.heap.size w wr) (h0 : wr.cell? ⟨b, off + k * 3, none⟩ = some (.int .i64 s.1)) (h1 : wr.cell? ⟨b, off + k * 3 + 1, none⟩ = some (.int .i64 s.2.1)) (h2 : wr.cell? ⟨b, off + k * 3 + 2, none⟩ = some (.int .i64 s.2.2)) (h : Below w.heap.size w W) :
    W.cell? ⟨b, off + k * 3, none⟩ = some (.int .i64 s.1) ∧ W.cell? ⟨b, off + k * 3 + 1, none⟩ = some (.int .i64 s.2.1) ∧ W.cell? ⟨b, off + k * 3 + 2, none⟩ = some (.int .i64 s.2.2) ∧ Below w.heap.size w W :=
  ⟨((h.cell (p := ⟨b, _, none⟩) hb).trans (hr.cell (p := ⟨b, _, none⟩) hb).symm).trans h0, ((h.cell (p := ⟨b, _, none⟩) hb).trans (hr.cell (p := ⟨b, _, none⟩) hb).symm).trans h1, ((h.cell (p := ⟨b, _, none⟩) hb).trans (hr.cell (p := ⟨b, _, none⟩) hb).symm).trans h2, h⟩
set_option maxRecDepth 100000 in
set_option maxHeartbeats 1000000 in
theorem f11 (A : Option Addr) (x : List I3) (c : Nat) (w : World) (_hn : x.length ≤ c) (_hc : c ≤ 9223372036854775807) (hw : ∀ s ∈ x, wf64 s.1 ∧ wf64 s.2.1 ∧ wf64 s.2.2) (hr : SlR w w.heap.size 3 A x.length (x.flatMap c3)) :
    Calls Try.prog 11 #[.slice A x.length c] w fun e w' => ∃ v, e = .returned v ∧ w'.ownsRow w.heap.size 24 3 v (stamps x).length ((stamps x).flatMap c3) ∧ Below w.heap.size w w' := by
  obtain ⟨i0, hi, hz0, hz1, hz2⟩ := info_parts Try.info24
  go_enter Try.func11, Try.ntmps11
  go_wp2
  go_loopw [3, 4] (fun v i wr => ∃ (k : Nat), k ≤ x.length ∧ k ≤ 12 ∧ i = .int .i64 k ∧ wr.ownsRow w.heap.size 24 3 v k (((x.take k).map stp).flatMap c3) ∧ Below w.heap.size w wr) (fun _ i _ => x.length - (intOf i).toNat)
  case atStart => exact ⟨0, Nat.zero_le _, by omega, rfl, World.ownsRow_nil _ _ _ _, Below.refl _ _⟩
  case round =>
    obtain ⟨k, hk, hk6, rfl, hown, hb⟩ := hrel
    by_cases hlt : k < x.length ∧ k < 12
    · obtain ⟨hlt, hlt6⟩ := hlt
      obtain ⟨b, off, rfl, hbb, hx0, hx1, hx2⟩ := hr.at3 hb hlt
      have H := hide (List.take_succ_eq_append_getElem hlt)
      have hwk := hw x[k] (List.getElem_mem hlt)
      clear hr hw
      generalize x[k] = s at *
      obtain ⟨s0, s1, s2⟩ := s
      obtain ⟨⟨hw1, hw2⟩, ⟨hw3, hw4⟩, ⟨hw5, hw6⟩⟩ := hwk
      simp only [] at hx0 hx1 hx2 hw1 hw2 hw3 hw4 hw5 hw6
      have hp0 := pk_range s0 1000 (by omega)
      have hp1 := pk_range s1 4 (by omega)
      have hp2 := pk_range s2 5 (by omega)
      obtain ⟨hp01, hp02⟩ := hp0
      obtain ⟨hp11, hp12⟩ := hp1
      obtain ⟨hp21, hp22⟩ := hp2
      have HS := hide (fun W (h : Below w.heap.size w W) => stampsS (W := W) (s := (s0, s1, s2)) hbb hb hx0 hx1 hx2 h)
      have hkl : (k : Int) < (x.length : Int) := by omega
      have hk0 : (0 : Int) ≤ (k : Int) := by omega
      have hwr : IntKind.i64.wrap (1 + pk s2 5) = 1 + pk s2 5 := by simp [IntKind.wrap, IntKind.bits, IntKind.signed]; omega
      go_wp2_with fail
      go_region_held3 (fun w' => w'.cell? ⟨b, off + k * 3, none⟩ = some (.int .i64 s0) ∧ w'.cell? ⟨b, off + k * 3 + 1, none⟩ = some (.int .i64 s1) ∧ w'.cell? ⟨b, off + k * 3 + 2, none⟩ = some (.int .i64 s2) ∧ Below w.heap.size w w')
        (first | assumption | exact HS.out _ (bdrew hb) | exact HS.out _ (by assumption) | (go_split_ands; first | exact HS.out _ (by assumption) | exact HS.out _ (balloc (by assumption) _)))
        (first | (go_at_call 36; refine (f36 _ _ _ (by omega) (by omega) (by omega) (by omega)).mono ?_; rintro e w' ⟨rfl, rfl⟩) |
          (refine step_append_lies _ (by rfl) _ _ 26 (by rfl) w.heap.size 24 i0 (.agg #[.int .i64 0, .int .i64 0, .int .i64 0]) 3 24 Try.underlying26 hi hz0 hz1 hz2 (by rfl) (by decide) _ _ _ (by rfl) (hown.drew.alloc _) ⟨wr.heap.size, 0, none⟩ 1 1 [.int .i64 (pk s0 1000), .int .i64 (pk s1 4), .int .i64 (1 + pk s2 5)] (by rfl) (by rfl) (news3 (by go_simp) (by go_simp) (by go_simp)) (by simp [Value.oneCell']) (by decide) (by unfold maxLen; omega) (by omega) (by have := hb.size; simp; omega) _ (by rfl) ?_; intro g' cap' w1 hown' hgrow hor hlt'; have hb' : Below w.heap.size w w1 := bgrown (balloc (bdrew hb) _) hgrow (fun j e => (hown.lt j e).1)))
      go_wp2
      go_roundw
      case rel =>
        refine ⟨k + 1, by omega, by omega, by go_num, ?_, by assumption⟩
        rw [H.out, List.map_append, List.flatMap_append]
        simpa [stp, c3] using hown'
      case measure => simp [intOf]; omega
    · have hfin : x.take k = x.take 12 := by
        by_cases h6 : k = 12
        · rw [h6]
        · rw [List.take_of_length_le (by omega), List.take_of_length_le (by omega)]
      have hlen : (stamps x).length = k := by
        unfold stamps
        rw [List.length_map, List.length_take]
        omega
      have HF := hide (And.intro hfin hlen)
      clear hfin hlen hr hw
      by_cases h1 : k < x.length
      · have h2 : ¬ k < 12 := by omega
        clear hlt
        go_wp2
        go_ret
        obtain ⟨hf, hl⟩ := HF.out
        exact ⟨_, rfl, by rw [hl]; unfold stamps; rw [← hf]; exact hown, hb⟩
      · clear hlt
        go_wp2
        go_ret
        obtain ⟨hf, hl⟩ := HF.out
        exact ⟨_, rfl, by rw [hl]; unfold stamps; rw [← hf]; exact hown, hb⟩
end Go.Proofs.Ytenhghkiapkejaa
