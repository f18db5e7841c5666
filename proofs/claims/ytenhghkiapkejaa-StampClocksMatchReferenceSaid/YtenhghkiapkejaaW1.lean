/- Contracts of the small functions of package stamp: they only compute. -/
import Derived.Test.YtenhghkiapkejaaProg
import Derived.Test.YtenhghkiapkejaaPlain
namespace Go.Proofs.Ytenhghkiapkejaa
open Go.RowKit

theorem f41 (n lo hi : Int) (w : World) :
    Calls Try.prog 41 #[.int .i64 n, .int .i64 lo, .int .i64 hi] w fun e w' => e = .returned (.bool (inB n lo hi)) ∧ w = w' := by
  go_enter Try.func41, Try.ntmps41
  go_wp2
  all_goals go_ret
  all_goals exact ⟨by simp [inB]; try omega, rfl⟩

theorem f40 (n : Int) (w : World) :
    Calls Try.prog 40 #[.int .i64 n] w fun e w' => e = .returned (.bool (inB n 0 1000000)) ∧ w = w' := by
  go_enter Try.func40, Try.ntmps40
  go_wp2_with (go_at_call 41; refine (f41 _ _ _ _).mono ?_; rintro e w' ⟨rfl, rfl⟩)
  go_ret
  exact ⟨rfl, rfl⟩

theorem f64 (n : Int) (w : World) : Calls Try.prog 64 #[.int .i64 n] w fun e w' => e = .returned (.bool false) ∧ w = w' := by
  go_enter Try.func64, Try.ntmps64
  go_wp2
  go_ret
  exact ⟨by simp, rfl⟩

theorem f57 (x y : Int) (w : World) : Calls Try.prog 57 #[.int .i64 x, .int .i64 y] w fun e w' => e = .returned (.int .i64 (cmpI x y)) ∧ w = w' := by
  go_enter Try.func57, Try.ntmps57
  go_wp2_with (go_at_call 64; refine (f64 _ _).mono ?_; rintro e w' ⟨rfl, rfl⟩)
  all_goals go_ret
  all_goals refine ⟨ret_int ?_, rfl⟩
  all_goals simp only [cmpI]
  all_goals (repeat' split)
  all_goals first | rfl | omega

theorem f15 (c n : Int) (w : World) (hc : -9223372036854775808 ≤ c) (hc' : c ≤ 9223372036854775807) (hn : 1 ≤ n) (hn' : n ≤ 9223372036854775807) :
    Calls Try.prog 15 #[.int .i64 c, .int .i64 n] w fun e w' => e = .returned (.int .i64 (pk c n)) ∧ w = w' := by
  by_cases h : c < 0
  · go_enter Try.func15, Try.ntmps15
    go_wp2
    go_ret
    exact ⟨ret_int (by unfold pk; rw [if_pos h, ← Int.neg_tmod, Int.tmod_eq_emod_of_nonneg (by omega)]), rfl⟩
  · go_enter Try.func15, Try.ntmps15
    go_wp2
    go_ret
    exact ⟨ret_int (by unfold pk; rw [if_neg (by omega)]), rfl⟩

theorem f36 (c n : Int) (w : World) (hc : -9223372036854775808 ≤ c) (hc' : c ≤ 9223372036854775807) (hn : 1 ≤ n) (hn' : n ≤ 9223372036854775807) :
    Calls Try.prog 36 #[.int .i64 c, .int .i64 n] w fun e w' => e = .returned (.int .i64 (pk c n)) ∧ w = w' := by
  by_cases h : c < 0
  · go_enter Try.func36, Try.ntmps36
    go_wp2
    go_ret
    exact ⟨ret_int (by unfold pk; rw [if_pos h, ← Int.neg_tmod, Int.tmod_eq_emod_of_nonneg (by omega)]), rfl⟩
  · go_enter Try.func36, Try.ntmps36
    go_wp2
    go_ret
    exact ⟨ret_int (by unfold pk; rw [if_neg (by omega)]), rfl⟩

set_option maxHeartbeats 400000 in
theorem f20 (s : I3) (w : World) :
    Calls Try.prog 20 #[.agg #[.int .i64 s.1, .int .i64 s.2.1, .int .i64 s.2.2]] w fun e w' => e = .returned (.bool (stVal s)) ∧ Below w.heap.size w w' := by
  obtain ⟨a, p, n⟩ := s
  go_enter Try.func20, Try.ntmps20
  go_wp2_with (first | (go_at_call 40; refine (f40 _ _).mono ?_; rintro e w' ⟨rfl, rfl⟩) | (go_at_call 41; refine (f41 _ _ _ _).mono ?_; rintro e w' ⟨rfl, rfl⟩))
  all_goals (go_ret; exact ⟨ret_bool (by simp_all [stVal]), (Below.refl _ _).alloc (Nat.le_refl _) _⟩)

/-- cmp.Or over a row of the call's own, below block B -/
theorem f56 (A : Option Addr) (c : Nat) (l : List Int) (B : Nat) (w : World) (hn : l.length ≤ c) (hc : c ≤ 9223372036854775807) (hr : SlR w B 1 A l.length (l.map (Value.int .i64))) :
    Calls Try.prog 56 #[.slice A l.length c] w fun e w' => e = .returned (.int .i64 (orI l)) ∧ w = w' := by
  go_enter Try.func56, Try.ntmps56
  go_wp2
  go_loop [8] (fun i => ∃ k : Nat, k ≤ l.length ∧ i = .int .i64 k ∧ orI (l.drop k) = orI l) (fun i => l.length - (intOf i).toNat)
  case atStart => exact ⟨0, Nat.zero_le _, rfl, rfl⟩
  case round =>
    obtain ⟨k, hk, rfl, ho⟩ := hrel
    by_cases hlt : k < l.length
    · obtain ⟨b, off, rfl, hbb, hcell⟩ := hr.2 (by omega)
      have hx : w.cell? ⟨b, off + k, none⟩ = some (.int .i64 l[k]) := hcell k _ (by simp [hlt])
      have hd : l.drop k = l[k] :: l.drop (k + 1) := List.drop_eq_getElem_cons hlt
      have H := hide (hd ▸ ho)
      clear ho hd hcell hr
      generalize l[k] = x at *
      go_wp2
      · go_ret
        have h := H.out
        exact ⟨ret_int (by rw [← h, orI, if_neg (by simp_all)]), rfl⟩
      · go_round
        case rel =>
          have h := H.out
          exact ⟨k + 1, by omega, by go_num, by rw [← h, orI, if_pos (by simp_all)]⟩
        case measure => simp [intOf]; omega
    · have H := hide ho
      clear ho
      go_wp2
      go_ret
      have h := H.out
      rw [List.drop_eq_nil_of_le (by omega)] at h
      exact ⟨ret_int h, rfl⟩
end Go.Proofs.Ytenhghkiapkejaa
