/- Contract of the reference Meets: the meetings that integers determine. -/
import Derived.Test.YtenhghkiapkejaaW23
namespace Go.Proofs.Ytenhghkiapkejaa
open Go.RowKit
theorem Try.info43 : (Try.prog.info? 43).map (fun i => (i.zero, i.size, i.bytes)) = some (some (.agg #[.int .i64 0, .int .i64 0, .int .i64 0, .int .i64 0]), 4, 32) := by kernel_rfl
def mt1 (L : List I3) (s : I3) : List I4 :=
  if pk s.1 L.length = pk s.2.1 L.length then [] else [((L.getD (pk s.1 L.length).toNat (0, 0, 0)).1, 500 + pk s.2.2 120 - 60, (L.getD (pk s.2.1 L.length).toNat (0, 0, 0)).1, 500)]
def meets (L x : List I3) : List I4 := if 1 < L.length then (x.take 8).flatMap (mt1 L) else []
theorem news4 {w : World} {g : Nat} {x y z u : Value} (h0 : w.cell? ⟨g, 0, none⟩ = some x) (h1 : w.cell? ⟨g, 1, none⟩ = some y) (h2 : w.cell? ⟨g, 2, none⟩ = some z) (h3 : w.cell? ⟨g, 3, none⟩ = some u) :
    ∀ j v, ([x, y, z, u] : List Value)[j]? = some v → w.cell? ((⟨g, 0, none⟩ : Addr).add j) = some v := by
  intro j v hu
  match j, hu with
  | 0, hu => simp at hu; subst hu; exact h0
  | 1, hu => simp at hu; subst hu; exact h1
  | 2, hu => simp at hu; subst hu; exact h2
  | 3, hu => simp at hu; subst hu; exact h3
theorem mt1_len (L : List I3) (s : I3) : (mt1 L s).length ≤ 1 := by unfold mt1; split <;> simp
set_option maxRecDepth 100000 in
set_option maxHeartbeats 1000000 in
theorem f23 (A B : Option Addr) (L x : List I3) (c d : Nat) (w : World) (_hn : L.length ≤ c) (_hc : c ≤ 9223372036854775807) (_hm : x.length ≤ d) (_hd : d ≤ 9223372036854775807) (hL6 : L.length ≤ 6) (hw : ∀ s ∈ x, wf64 s.1 ∧ wf64 s.2.1 ∧ wf64 s.2.2)
    (hr : SlR w w.heap.size 3 A L.length (L.flatMap c3)) (hs : SlR w w.heap.size 3 B x.length (x.flatMap c3)) :
    Calls Try.prog 23 #[.slice A L.length c, .slice B x.length d] w fun e w' => ∃ v, e = .returned v ∧ w'.ownsRow w.heap.size 43 4 v (meets L x).length ((meets L x).flatMap c4) ∧ Below w.heap.size w w' := by
  obtain ⟨i0, hi, hz0, hz1, hz2⟩ := info_parts Try.info43
  go_enter Try.func23, Try.ntmps23
  go_wp2
  go_loopw [5, 6] (fun v i wr => ∃ (k m : Nat) (l : List I4), k ≤ x.length ∧ k ≤ 8 ∧ i = .int .i64 k ∧ (0 < k → 1 < L.length) ∧ l = (x.take k).flatMap (mt1 L) ∧ m = l.length ∧ m ≤ k ∧ wr.ownsRow w.heap.size 43 4 v m (l.flatMap c4) ∧ Below w.heap.size w wr) (fun _ i _ => x.length - (intOf i).toNat)
  case atStart => exact ⟨0, 0, [], Nat.zero_le _, by omega, rfl, by omega, by simp, rfl, by omega, World.ownsRow_nil _ _ _ _, Below.refl _ _⟩
  case round =>
    obtain ⟨k, m, l, hk, hk8, rfl, hk1, hl, hml, hmk, hown, hb⟩ := hrel
    by_cases hlt : k < x.length ∧ k < 8 ∧ 1 < L.length
    · obtain ⟨hlt, hlt8, hL1⟩ := hlt
      obtain ⟨b, off, rfl, hbb, hx0, hx1, hx2⟩ := hs.at3 hb hlt
      have H := hide (And.intro hl (List.take_succ_eq_append_getElem hlt))
      have hwk := hw x[k] (List.getElem_mem hlt)
      clear hw hl hs
      generalize x[k] = s at *
      obtain ⟨s0, s1, s2⟩ := s
      obtain ⟨⟨hw1, hw2⟩, ⟨hw3, hw4⟩, ⟨hw5, hw6⟩⟩ := hwk
      simp only [] at hx0 hx1 hx2 hw1 hw2 hw3 hw4 hw5 hw6
      have hp0 := pk_range s0 L.length (by omega)
      have hp1 := pk_range s1 L.length (by omega)
      have hp2 := pk_range s2 120 (by omega)
      obtain ⟨hp01, hp02⟩ := hp0
      obtain ⟨hp11, hp12⟩ := hp1
      obtain ⟨hp21, hp22⟩ := hp2
      have hkl : (k : Int) < (x.length : Int) := by omega
      have hk0 : (0 : Int) ≤ (k : Int) := by omega
      have hk8' : (k : Int) < 8 := by omega
      have hLI : (1 : Int) < (L.length : Int) := by omega
      have hi0 : (pk s0 L.length).toNat < L.length := by omega
      have hi1 : (pk s1 L.length).toNat < L.length := by omega
      obtain ⟨b1, off1, rfl, hbb1, hy0, _, _⟩ := hr.at3 hb hi0
      obtain ⟨b2, off2, he2, hbb2, hz0', _, _⟩ := hr.at3 hb hi1
      simp only [Option.some.injEq, Addr.mk.injEq, and_true] at he2
      obtain ⟨rfl, rfl⟩ := he2
      have hL0 : L.getD (pk s0 L.length).toNat (0, 0, 0) = L[(pk s0 L.length).toNat] := by simp [hi0]
      have hL1' : L.getD (pk s1 L.length).toNat (0, 0, 0) = L[(pk s1 L.length).toNat] := by simp [hi1]
      generalize L[(pk s0 L.length).toNat] = pa at *
      generalize L[(pk s1 L.length).toNat] = pb at *
      obtain ⟨pa0, pa1, pa2⟩ := pa
      obtain ⟨pb0, pb1, pb2⟩ := pb
      simp only [] at hy0 hz0'
      have HL := hide (And.intro hL0 hL1')
      clear hL0 hL1' hr
      by_cases heq : pk s0 L.length = pk s1 L.length
      · have hmt : mt1 L (s0, s1, s2) = [] := by unfold mt1; rw [if_pos heq]
        have hbne : (pk s0 L.length != pk s1 L.length) = false := by simp [heq]
        have HM := hide hmt
        clear hmt heq
        go_wp2_with (go_at_call 36; refine (f36 _ _ _ (by omega) (by omega) (by omega) (by omega)).mono ?_; rintro e w' ⟨rfl, rfl⟩)
        go_roundw
        case rel => exact ⟨k + 1, m, l, by omega, by omega, by go_num, fun _ => hL1, by rw [H.out.2, List.flatMap_append, ← H.out.1]; simp [HM.out], hml, by omega, hown, hb⟩
        case measure => simp [intOf]; omega
      · have hmt : mt1 L (s0, s1, s2) = [(pa0, 500 + pk s2 120 - 60, pb0, 500)] := by
          unfold mt1
          rw [if_neg heq]
          simp only [HL.out.1, HL.out.2]
        have hbne : (pk s0 L.length != pk s1 L.length) = true := by simp [heq]
        have HM := hide hmt
        clear hmt heq
        have hwr1 : IntKind.i64.wrap (500 + pk s2 120) = 500 + pk s2 120 := by simp [IntKind.wrap, IntKind.bits, IntKind.signed]; omega
        have hwr2 : IntKind.i64.wrap (500 + pk s2 120 - 60) = 500 + pk s2 120 - 60 := by simp [IntKind.wrap, IntKind.bits, IntKind.signed]; omega
        have HS := hide (fun (W : World) (h : Below w.heap.size w W) => (show W.cell? ⟨b1, off1 + (pk s0 L.length).toNat * 3, none⟩ = some (.int .i64 pa0) ∧ W.cell? ⟨b1, off1 + (pk s1 L.length).toNat * 3, none⟩ = some (.int .i64 pb0) ∧ W.cell? ⟨b, off + k * 3 + 2, none⟩ = some (.int .i64 s2) ∧ Below w.heap.size w W from
          ⟨((h.cell (p := ⟨b1, _, none⟩) hbb1).trans (hb.cell (p := ⟨b1, _, none⟩) hbb1).symm).trans hy0, ((h.cell (p := ⟨b1, _, none⟩) hbb1).trans (hb.cell (p := ⟨b1, _, none⟩) hbb1).symm).trans hz0', ((h.cell (p := ⟨b, _, none⟩) hbb).trans (hb.cell (p := ⟨b, _, none⟩) hbb).symm).trans hx2, h⟩))
        go_wp2_with (go_at_call 36; refine (f36 _ _ _ (by omega) (by omega) (by omega) (by omega)).mono ?_; rintro e w' ⟨rfl, rfl⟩)
        go_region_held3 (fun w' => w'.cell? ⟨b1, off1 + (pk s0 L.length).toNat * 3, none⟩ = some (.int .i64 pa0) ∧ w'.cell? ⟨b1, off1 + (pk s1 L.length).toNat * 3, none⟩ = some (.int .i64 pb0) ∧ w'.cell? ⟨b, off + k * 3 + 2, none⟩ = some (.int .i64 s2) ∧ Below w.heap.size w w')
          (first | assumption | exact HS.out _ (bdrew hb) | exact HS.out _ (by assumption) | (go_split_ands; first | exact HS.out _ (by assumption) | exact HS.out _ (balloc (by assumption) _)))
          (first | (go_at_call 36; refine (f36 _ _ _ (by omega) (by omega) (by omega) (by omega)).mono ?_; rintro e w' ⟨rfl, rfl⟩) |
            (refine step_append_lies _ (by rfl) _ _ 46 (by rfl) w.heap.size 43 i0 (.agg #[.int .i64 0, .int .i64 0, .int .i64 0, .int .i64 0]) 4 32 Try.underlying46 hi hz0 hz1 hz2 (by rfl) (by decide) _ _ _ (by rfl) (hown.drew.alloc _) ⟨wr.heap.size, 0, none⟩ 1 1 [.int .i64 pa0, .int .i64 (500 + pk s2 120 - 60), .int .i64 pb0, .int .i64 500] (by rfl) (by rfl) (news4 (by go_simp) (by go_simp) (by go_simp) (by go_simp)) (by simp [Value.oneCell']) (by decide) (by unfold maxLen; omega) (by omega) (by have := hb.size; simp; omega) _ (by rfl) ?_; intro g' cap' w1 hown' hgrow hor hlt'; have hb' : Below w.heap.size w w1 := bgrown (balloc (bdrew hb) _) hgrow (fun j e => (hown.lt j e).1)))
        go_wp2
        go_roundw
        case rel =>
          refine ⟨k + 1, m + 1, l ++ [(pa0, 500 + pk s2 120 - 60, pb0, 500)], by omega, by omega, by go_num, fun _ => hL1, by rw [H.out.2, List.flatMap_append, ← H.out.1]; simp [HM.out], by simp [hml], by omega, ?_, by assumption⟩
          rw [List.flatMap_append]
          simpa [c4, hml] using hown'
        case measure => simp [intOf]; omega
    · have hfin : meets L x = l := by
        unfold meets
        rw [hl]
        by_cases h1 : 1 < L.length
        · rw [if_pos h1]
          have : x.take k = x.take 8 := by
            by_cases h8 : k = 8
            · rw [h8]
            · rw [List.take_of_length_le (by omega), List.take_of_length_le (by omega)]
          rw [this]
        · rw [if_neg h1]
          have : k = 0 := by omega
          subst this
          simp
      have HF := hide (And.intro hfin hml)
      clear hfin hr hw hl hs hml
      have key : ∀ v (W : World), W.ownsRow w.heap.size 43 4 v m (l.flatMap c4) → W.ownsRow w.heap.size 43 4 v (meets L x).length ((meets L x).flatMap c4) := fun v W h => by rw [HF.out.1, ← HF.out.2]; exact h
      by_cases h1 : (k : Int) < (x.length : Int)
      · by_cases h2 : (k : Int) < 8
        · have h3 : ¬ (1 : Int) < (L.length : Int) := by omega
          clear hlt
          go_wp2
          go_ret
          exact ⟨_, rfl, key _ _ hown, hb⟩
        · clear hlt
          go_wp2
          go_ret
          exact ⟨_, rfl, key _ _ hown, hb⟩
      · clear hlt
        go_wp2
        go_ret
        exact ⟨_, rfl, key _ _ hown, hb⟩
end Go.Proofs.Ytenhghkiapkejaa
