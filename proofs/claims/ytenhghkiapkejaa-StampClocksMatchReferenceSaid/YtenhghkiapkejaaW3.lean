/- Contracts of package stamp over lists of skews, and of the equality of lists. -/
import Derived.Test.YtenhghkiapkejaaW1
import Derived.Deep.QuietTactic
import Derived.BigQuiet
namespace Go.Proofs.Ytenhghkiapkejaa
open Go.RowKit

set_option maxHeartbeats 400000 in
theorem f44 (A : Option Addr) (l : List I3) (c : Nat) (w : World) (hn : l.length ≤ c) (hc : c ≤ 9223372036854775807) (hr : SlR w w.heap.size 3 A l.length (l.flatMap c3)) :
    Calls Try.prog 44 #[.slice A l.length c] w fun e w' => e = .returned (.bool (skOk (-1) l)) ∧ Below w.heap.size w w' := by
  go_enter Try.func44, Try.ntmps44
  go_wp2
  go_loopw [3, 8] (fun last i wr => ∃ (k : Nat) (q : Int), k ≤ l.length ∧ i = .int .i64 k ∧ last = .int .i64 q ∧ -1 ≤ q ∧ q ≤ 39 ∧ skOk q (l.drop k) = skOk (-1) l ∧ Below w.heap.size w wr) (fun _ i _ => l.length - (intOf i).toNat)
  case atStart => exact ⟨0, -1, Nat.zero_le _, rfl, rfl, by omega, by omega, rfl, Below.refl _ _⟩
  case round =>
    obtain ⟨k, q, hk, rfl, rfl, hq1, hq2, hsk, hb⟩ := hrel
    by_cases hlt : k < l.length
    · obtain ⟨b, off, rfl, hbb, hx0, hx1, hx2⟩ := hr.at3 hb hlt
      have H := hide ((List.drop_eq_getElem_cons hlt) ▸ hsk)
      clear hsk hr
      generalize l[k] = s at *
      obtain ⟨p, lo, hi⟩ := s
      simp only [] at hx0 hx1 hx2
      go_wp2_with (go_at_call 41; refine (f41 _ _ _ _).mono ?_; rintro e w' ⟨rfl, rfl⟩)
      case roundEnd =>
        go_roundw
        case rel =>
          have h := H.out
          have h1 : inB p (q + 1) 39 = true := by assumption
          have h2 := inB_iff.1 h1
          have h3 : inB lo (-100000) 100000 = true := by assumption
          refine ⟨k + 1, p, by omega, by go_num, rfl, by omega, by omega, ?_, balloc hb _⟩
          rw [← h, skOk, h1, h3]
          simp_all
        case measure => simp [intOf]; omega
      all_goals
        have h := H.out
        go_ret
        refine ⟨ret_bool ?_, balloc hb _⟩
        rw [← h, skOk]
        simp_all
        try omega
    · have H := hide hsk
      clear hsk
      go_wp2
      go_ret
      have h := H.out
      rw [List.drop_eq_nil_of_le (by omega)] at h
      exact ⟨ret_bool h, hb⟩

theorem bpL_snoc (l : List I3) (k : Nat) (h : k < l.length) : bpL (l.take (k + 1)) = putL l[k].1 (.agg #[.int .i64 l[k].2.1, .int .i64 l[k].2.2]) (bpL (l.take k)) := by
  unfold bpL
  rw [List.take_succ_eq_append_getElem h, List.foldl_append]
  rfl

set_option maxHeartbeats 400000 in
theorem f45 (A : Option Addr) (l : List I3) (c : Nat) (w : World) (hn : l.length ≤ c) (hc : c ≤ 9223372036854775807) (hr : SlR w w.heap.size 3 A l.length (l.flatMap c3)) :
    Calls Try.prog 45 #[.slice A l.length c] w fun e w' => ∃ b, e = .returned (.map (some b)) ∧ w.heap.size ≤ b ∧ IM w' b (bpL l) ∧ Below w.heap.size w w' := by
  have hmm := @run_makeMap Try.prog
  go_enter Try.func45, Try.ntmps45
  go_wp2
  go_loopw [9] (fun i wr => ∃ (k : Nat), k ≤ l.length ∧ i = .int .i64 k ∧ IM wr w.heap.size (bpL (l.take k)) ∧ Below w.heap.size w wr) (fun i _ => l.length - (intOf i).toNat)
  case atStart => exact ⟨0, Nat.zero_le _, rfl, IM.new w, balloc (Below.refl _ _) _⟩
  case round =>
    obtain ⟨k, hk, rfl, him, hb⟩ := hrel
    by_cases hlt : k < l.length
    · obtain ⟨b, off, rfl, hbb, hx0, hx1, hx2⟩ := hr.at3 hb hlt
      have H := hide (bpL_snoc l k hlt)
      clear hr hmm
      generalize l[k] = s at *
      obtain ⟨p, lo, hi⟩ := s
      simp only [] at hx0 hx1 hx2
      go_wp2_with (at_mapUpdate; refine wpList_mapUpdate_im rfl _ _ _ 84 (Or.inl rfl) 3 88 Try.underlying84 Try.underlying3 rfl (him.alloc _) _ rfl _ rfl ?_; intro w1 him1 hg1 hs1)
      go_roundw
      case rel =>
        exact ⟨k + 1, by omega, by go_num, by rw [H.out]; exact him1, bgrown (balloc hb _) hg1 (fun j e => by cases e; exact Nat.le_refl _)⟩
      case measure => simp [intOf]; omega
    · obtain rfl : k = l.length := by omega
      rw [List.take_length] at him
      go_wp2
      go_ret
      exact ⟨_, rfl, Nat.le_refl _, him, hb⟩
end Go.Proofs.Ytenhghkiapkejaa
