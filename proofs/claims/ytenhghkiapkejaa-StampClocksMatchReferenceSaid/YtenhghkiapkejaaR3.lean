/- Contracts of the reference's time, Find, Skews. -/
import Derived.Test.YtenhghkiapkejaaLawP
import Derived.Test.YtenhghkiapkejaaRt
namespace Go.Proofs.Ytenhghkiapkejaa
open Go.RowKit
theorem f50 (n : Int) (w : World) : Calls Try.prog 50 #[.int .i64 n] w fun e w' => e = .returned (.bool (inB n 0 1000000)) ∧ w = w' := by
  go_enter Try.func50, Try.ntmps50
  go_wp2
  all_goals
    go_ret
    exact ⟨ret_bool (by rw [Bool.eq_iff_iff, inB_iff]; first | (simp only [decide_eq_true_eq]; omega) | (simp only [Bool.false_eq_true, false_iff]; omega)), rfl⟩
/-- the index of a person's skew -/
def fnd (L : List I3) (p : Int) : Int := match L.findIdx? (fun s => s.1 == p) with | some k => (k : Int) | none => -1
theorem fnd_at {L : List I3} {p : Int} {k : Nat} (hk : k < L.length) (h1 : L[k].1 = p) (h2 : ∀ j (h : j < L.length), j < k → L[j].1 ≠ p) : fnd L p = k := by
  have : L.findIdx? (fun s => s.1 == p) = some k := by
    rw [List.findIdx?_eq_some_iff_getElem]
    exact ⟨hk, by simp [h1], fun j hj => by simpa using h2 j (by omega) hj⟩
  unfold fnd
  rw [this]
theorem fnd_no {L : List I3} {p : Int} (h : ∀ s ∈ L, s.1 ≠ p) : fnd L p = -1 := by
  have : L.findIdx? (fun s => s.1 == p) = none := by
    rw [List.findIdx?_eq_none_iff]
    intro x hx
    simpa using h x hx
  unfold fnd
  rw [this]
theorem fnd_cases (L : List I3) (p : Int) : (fnd L p = -1 ∧ ∀ s ∈ L, s.1 ≠ p) ∨ ∃ (k : Nat) (h : k < L.length), fnd L p = k ∧ L[k].1 = p := by
  unfold fnd
  cases hf : L.findIdx? (fun s => s.1 == p) with
  | none =>
    left
    rw [List.findIdx?_eq_none_iff] at hf
    exact ⟨rfl, fun s hs => by simpa using hf s hs⟩
  | some k =>
    right
    rw [List.findIdx?_eq_some_iff_getElem] at hf
    obtain ⟨hk, h1, _⟩ := hf
    exact ⟨k, hk, rfl, by simpa using h1⟩
theorem bnd_none {L : List I3} {p : Int} (h : ∀ s ∈ L, s.1 ≠ p) : bndF L p = none := by
  cases hb : bndF L p with
  | none => rfl
  | some b =>
    obtain ⟨s, hs, e, _⟩ := mem_of_bnd L p b hb
    exact absurd e (h s hs)
theorem fnd_neg (L : List I3) (p : Int) : decide (fnd L p < 0) = !(bndF L p).isSome := by
  rcases fnd_cases L p with ⟨h, hn⟩ | ⟨k, hk, h, e⟩
  · rw [h, bnd_none hn]; rfl
  · rw [h]
    have : bndF L p ≠ none := by
      rw [← e]
      have : ∀ {L : List I3} {s : I3}, s ∈ L → bndF L s.1 ≠ none := by
        intro L s
        induction L with
        | nil => simp
        | cons t L ih =>
          intro hm
          simp only [bndF]
          rcases List.mem_cons.1 hm with rfl | hm
          · cases bndF L s.1 <;> simp
          · cases hb : bndF L s.1 with
            | none => exact absurd hb (ih hm)
            | some b => simp
      exact this (List.getElem_mem hk)
    cases hb : bndF L p with
    | none => exact absurd hb this
    | some b => simp
theorem f49 (A : Option Addr) (L : List I3) (c : Nat) (p : Int) (w : World) (hn : L.length ≤ c) (hc : c ≤ 9223372036854775807) (hr : SlR w w.heap.size 3 A L.length (L.flatMap c3)) :
    Calls Try.prog 49 #[.slice A L.length c, .int .i64 p] w fun e w' => e = .returned (.int .i64 (fnd L p)) ∧ w = w' := by
  go_enter Try.func49, Try.ntmps49
  go_wp2_with fail
  go_loop [5] (fun i => ∃ k : Nat, k ≤ L.length ∧ i = .int .i64 k ∧ ∀ j (h : j < L.length), j < k → L[j].1 ≠ p) (fun i => L.length - (intOf i).toNat)
  case atStart => exact ⟨0, Nat.zero_le _, rfl, fun j _ h => absurd h (by omega)⟩
  case round =>
    obtain ⟨k, hk, rfl, hno⟩ := hrel
    by_cases hlt : k < L.length
    · obtain ⟨b, off, rfl, _, x0, _, _⟩ := hr.at3 (Below.refl _ _) hlt
      have H := hide hno
      clear hno
      cases he : (L[k].1 == p)
      · go_wp2_with fail
        go_round
        case rel => exact ⟨k + 1, by omega, by go_num, fun j h hj => by
          by_cases e : j = k
          · subst e; simpa using he
          · exact H.out j h (by omega)⟩
        case measure => simp [intOf]; omega
      · go_wp2_with fail
        go_ret
        exact ⟨ret_int (fnd_at hlt (by simpa using he) H.out).symm, rfl⟩
    · have H := hide hno
      clear hno
      go_wp2_with fail
      go_ret
      exact ⟨ret_int (fnd_no fun s hs => by
        obtain ⟨j, hj, rfl⟩ := List.getElem_of_mem hs
        exact H.out j hj (by omega)).symm, rfl⟩
theorem first5 (a b c d e : Bool) : (a = true) ∨ (a = false ∧ b = true) ∨ (a = false ∧ b = false ∧ c = true) ∨ (a = false ∧ b = false ∧ c = false ∧ d = true) ∨ (a = false ∧ b = false ∧ c = false ∧ d = false ∧ e = true) ∨ (a = false ∧ b = false ∧ c = false ∧ d = false ∧ e = false) := by
  cases a <;> cases b <;> cases c <;> cases d <;> cases e <;> simp
theorem first6 (a b c d e f : Bool) : (a = true) ∨ (a = false ∧ b = true) ∨ (a = false ∧ b = false ∧ c = true) ∨ (a = false ∧ b = false ∧ c = false ∧ d = true) ∨ (a = false ∧ b = false ∧ c = false ∧ d = false ∧ e = true) ∨ (a = false ∧ b = false ∧ c = false ∧ d = false ∧ e = false ∧ f = true) ∨ (a = false ∧ b = false ∧ c = false ∧ d = false ∧ e = false ∧ f = false) := by
  cases a <;> cases b <;> cases c <;> cases d <;> cases e <;> cases f <;> simp
set_option maxRecDepth 100000 in
set_option maxHeartbeats 1000000 in
theorem f48 (A : Option Addr) (l : List I3) (c : Nat) (w : World) (hn : l.length ≤ c) (hc : c ≤ 9223372036854775807) (hr : SlR w w.heap.size 3 A l.length (l.flatMap c3)) :
    Calls Try.prog 48 #[.slice A l.length c] w fun e w' => e = .returned (.bool (skOk (-1) l)) ∧ Below w.heap.size w w' := by
  go_enter Try.func48, Try.ntmps48
  go_wp2_with fail
  go_loopw [3] (fun i wr => ∃ (k : Nat) (q : Int), k ≤ l.length ∧ i = .int .i64 k ∧ (k = 0 ∧ q = -1 ∨ ∃ h : 0 < k ∧ k ≤ l.length, q = (l[k - 1]'(by omega)).1) ∧ -1 ≤ q ∧ q ≤ 39 ∧ skOk q (l.drop k) = skOk (-1) l ∧ Below w.heap.size w wr) (fun i _ => l.length - (intOf i).toNat)
  case atStart => exact ⟨0, -1, Nat.zero_le _, rfl, .inl ⟨rfl, rfl⟩, by omega, by omega, rfl, Below.refl _ _⟩
  case round =>
    obtain ⟨k, q, hk, rfl, hkq, hq1, hq2, hsk, hb⟩ := hrel
    by_cases hlt : k < l.length
    · obtain ⟨b, off, rfl, hbb, hx0, hx1, hx2⟩ := hr.at3 hb hlt
      have H := hide ((List.drop_eq_getElem_cons hlt) ▸ hsk)
      have hki : (k : Int) < (l.length : Int) := by omega
      have hk0 : (0 : Int) ≤ (k : Int) := by omega
      clear hsk
      rcases hkq with ⟨h0, hqe⟩ | ⟨hk1, hqe⟩
      · have g1 : decide ((0 : Int) < (k : Int)) = false := decide_eq_false (by omega)
        have g2 : decide (0 < k) = false := decide_eq_false (by omega)
        have H0 := hide (And.intro h0 hqe)
        clear h0 hqe hr
        rcases first5 (decide (l[k].1 < 0)) (decide (40 ≤ l[k].1)) (decide (l[k].2.1 < -100000)) (decide (l[k].2.2 < l[k].2.1)) (decide (100000 < l[k].2.2)) with c1 | ⟨c1, c2⟩ | ⟨c1, c2, c3⟩ | ⟨c1, c2, c3, c4⟩ | ⟨c1, c2, c3, c4, c5⟩ | ⟨c1, c2, c3, c4, c5⟩
        · go_wp2_with fail
          go_quiet (fail)
          go_wp2_with fail
          go_ret
          refine ⟨ret_bool ?_, below_drewN (balloc hb _) _⟩
          rw [← H.out, skOk]
          symm
          rw [Bool.and_eq_false_iff, Bool.and_eq_false_iff, Bool.and_eq_false_iff, Bool.and_eq_false_iff, ← Bool.not_eq_true, ← Bool.not_eq_true (decide _), ← Bool.not_eq_true (inB l[k].2.1 _ _), ← Bool.not_eq_true (decide (l[k].2.2 ≤ _)), inB_iff, inB_iff, decide_eq_true_eq, decide_eq_true_eq]
          have d1 := of_decide_eq_true c1
          obtain ⟨h0, hqe⟩ := H0.out
          omega
        · go_wp2_with fail
          go_quiet (fail)
          go_wp2_with fail
          go_ret
          refine ⟨ret_bool ?_, below_drewN (balloc hb _) _⟩
          rw [← H.out, skOk]
          symm
          rw [Bool.and_eq_false_iff, Bool.and_eq_false_iff, Bool.and_eq_false_iff, Bool.and_eq_false_iff, ← Bool.not_eq_true, ← Bool.not_eq_true (decide _), ← Bool.not_eq_true (inB l[k].2.1 _ _), ← Bool.not_eq_true (decide (l[k].2.2 ≤ _)), inB_iff, inB_iff, decide_eq_true_eq, decide_eq_true_eq]
          have d1 := of_decide_eq_false c1
          have d2 := of_decide_eq_true c2
          obtain ⟨h0, hqe⟩ := H0.out
          omega
        · go_wp2_with fail
          go_quiet (fail)
          go_wp2_with fail
          go_ret
          refine ⟨ret_bool ?_, below_drewN (balloc hb _) _⟩
          rw [← H.out, skOk]
          symm
          rw [Bool.and_eq_false_iff, Bool.and_eq_false_iff, Bool.and_eq_false_iff, Bool.and_eq_false_iff, ← Bool.not_eq_true, ← Bool.not_eq_true (decide _), ← Bool.not_eq_true (inB l[k].2.1 _ _), ← Bool.not_eq_true (decide (l[k].2.2 ≤ _)), inB_iff, inB_iff, decide_eq_true_eq, decide_eq_true_eq]
          have d1 := of_decide_eq_false c1
          have d2 := of_decide_eq_false c2
          have d3 := of_decide_eq_true c3
          obtain ⟨h0, hqe⟩ := H0.out
          omega
        · go_wp2_with fail
          go_quiet (fail)
          go_wp2_with fail
          go_ret
          refine ⟨ret_bool ?_, below_drewN (balloc hb _) _⟩
          rw [← H.out, skOk]
          symm
          rw [Bool.and_eq_false_iff, Bool.and_eq_false_iff, Bool.and_eq_false_iff, Bool.and_eq_false_iff, ← Bool.not_eq_true, ← Bool.not_eq_true (decide _), ← Bool.not_eq_true (inB l[k].2.1 _ _), ← Bool.not_eq_true (decide (l[k].2.2 ≤ _)), inB_iff, inB_iff, decide_eq_true_eq, decide_eq_true_eq]
          have d1 := of_decide_eq_false c1
          have d2 := of_decide_eq_false c2
          have d3 := of_decide_eq_false c3
          have d4 := of_decide_eq_true c4
          obtain ⟨h0, hqe⟩ := H0.out
          omega
        · go_wp2_with fail
          go_quiet (fail)
          go_wp2_with fail
          go_ret
          refine ⟨ret_bool ?_, below_drewN (balloc hb _) _⟩
          rw [← H.out, skOk]
          symm
          rw [Bool.and_eq_false_iff, Bool.and_eq_false_iff, Bool.and_eq_false_iff, Bool.and_eq_false_iff, ← Bool.not_eq_true, ← Bool.not_eq_true (decide _), ← Bool.not_eq_true (inB l[k].2.1 _ _), ← Bool.not_eq_true (decide (l[k].2.2 ≤ _)), inB_iff, inB_iff, decide_eq_true_eq, decide_eq_true_eq]
          have d1 := of_decide_eq_false c1
          have d2 := of_decide_eq_false c2
          have d3 := of_decide_eq_false c3
          have d4 := of_decide_eq_false c4
          have d5 := of_decide_eq_true c5
          obtain ⟨h0, hqe⟩ := H0.out
          omega
        · go_wp2_with fail
          go_quiet (fail)
          go_wp2_with fail
          go_roundw
          case rel =>
            have d1 := of_decide_eq_false c1
            have d2 := of_decide_eq_false c2
            have d3 := of_decide_eq_false c3
            have d4 := of_decide_eq_false c4
            have d5 := of_decide_eq_false c5
            obtain ⟨h0, hqe⟩ := H0.out
            refine ⟨k + 1, l[k].1, by omega, by go_num, .inr ⟨⟨by omega, by omega⟩, by simp⟩, by omega, by omega, ?_, below_drewN (balloc hb _) _⟩
            rw [← H.out, skOk]
            have e1 : inB l[k].1 (q + 1) 39 = true := inB_iff.2 ⟨by omega, by omega⟩
            have e2 : inB l[k].2.1 (-100000) 100000 = true := inB_iff.2 ⟨by omega, by omega⟩
            have e3 : decide (l[k].2.1 ≤ l[k].2.2) = true := decide_eq_true (by omega)
            have e4 : decide (l[k].2.2 ≤ 100000) = true := decide_eq_true (by omega)
            rw [e1, e2, e3, e4]
            rfl
          case measure => simp [intOf]; omega
      · have g1 : decide ((0 : Int) < (k : Int)) = true := decide_eq_true (by omega)
        have g2 : decide (0 < k) = true := decide_eq_true (by omega)
        have hk2 : k - 1 < l.length := by omega
        have hk3 : (1 : Int) ≤ (k : Int) := by omega
        obtain ⟨b', off', e, _, y0, _, _⟩ := hr.at3 hb hk2
        simp only [Option.some.injEq, Addr.mk.injEq, and_true] at e
        obtain ⟨rfl, rfl⟩ := e
        have hbl : b < wr.heap.size := by have := hb.size; omega
        have H0 := hide hqe
        clear hqe hr
        rcases first6 (decide (l[k].1 < 0)) (decide (40 ≤ l[k].1)) (decide (l[k].1 ≤ l[k - 1].1)) (decide (l[k].2.1 < -100000)) (decide (l[k].2.2 < l[k].2.1)) (decide (100000 < l[k].2.2)) with c1 | ⟨c1, c2⟩ | ⟨c1, c2, c3⟩ | ⟨c1, c2, c3, c4⟩ | ⟨c1, c2, c3, c4, c5⟩ | ⟨c1, c2, c3, c4, c5, c6⟩ | ⟨c1, c2, c3, c4, c5, c6⟩
        · go_wp2_with fail
          go_quiet (fail)
          go_wp2_with fail
          go_ret
          refine ⟨ret_bool ?_, below_drewN (balloc hb _) _⟩
          rw [← H.out, skOk]
          symm
          rw [Bool.and_eq_false_iff, Bool.and_eq_false_iff, Bool.and_eq_false_iff, Bool.and_eq_false_iff, ← Bool.not_eq_true, ← Bool.not_eq_true (decide _), ← Bool.not_eq_true (inB l[k].2.1 _ _), ← Bool.not_eq_true (decide (l[k].2.2 ≤ _)), inB_iff, inB_iff, decide_eq_true_eq, decide_eq_true_eq]
          have d1 := of_decide_eq_true c1
          have hqe := H0.out
          omega
        · go_wp2_with fail
          go_quiet (fail)
          go_wp2_with fail
          go_ret
          refine ⟨ret_bool ?_, below_drewN (balloc hb _) _⟩
          rw [← H.out, skOk]
          symm
          rw [Bool.and_eq_false_iff, Bool.and_eq_false_iff, Bool.and_eq_false_iff, Bool.and_eq_false_iff, ← Bool.not_eq_true, ← Bool.not_eq_true (decide _), ← Bool.not_eq_true (inB l[k].2.1 _ _), ← Bool.not_eq_true (decide (l[k].2.2 ≤ _)), inB_iff, inB_iff, decide_eq_true_eq, decide_eq_true_eq]
          have d1 := of_decide_eq_false c1
          have d2 := of_decide_eq_true c2
          have hqe := H0.out
          omega
        · go_wp2_with fail
          go_quiet (fail)
          go_wp2_with fail
          go_ret
          refine ⟨ret_bool ?_, below_drewN (balloc hb _) _⟩
          rw [← H.out, skOk]
          symm
          rw [Bool.and_eq_false_iff, Bool.and_eq_false_iff, Bool.and_eq_false_iff, Bool.and_eq_false_iff, ← Bool.not_eq_true, ← Bool.not_eq_true (decide _), ← Bool.not_eq_true (inB l[k].2.1 _ _), ← Bool.not_eq_true (decide (l[k].2.2 ≤ _)), inB_iff, inB_iff, decide_eq_true_eq, decide_eq_true_eq]
          have d1 := of_decide_eq_false c1
          have d2 := of_decide_eq_false c2
          have d3 := of_decide_eq_true c3
          have hqe := H0.out
          omega
        · go_wp2_with fail
          go_quiet (fail)
          go_wp2_with fail
          go_ret
          refine ⟨ret_bool ?_, below_drewN (balloc hb _) _⟩
          rw [← H.out, skOk]
          symm
          rw [Bool.and_eq_false_iff, Bool.and_eq_false_iff, Bool.and_eq_false_iff, Bool.and_eq_false_iff, ← Bool.not_eq_true, ← Bool.not_eq_true (decide _), ← Bool.not_eq_true (inB l[k].2.1 _ _), ← Bool.not_eq_true (decide (l[k].2.2 ≤ _)), inB_iff, inB_iff, decide_eq_true_eq, decide_eq_true_eq]
          have d1 := of_decide_eq_false c1
          have d2 := of_decide_eq_false c2
          have d3 := of_decide_eq_false c3
          have d4 := of_decide_eq_true c4
          have hqe := H0.out
          omega
        · go_wp2_with fail
          go_quiet (fail)
          go_wp2_with fail
          go_ret
          refine ⟨ret_bool ?_, below_drewN (balloc hb _) _⟩
          rw [← H.out, skOk]
          symm
          rw [Bool.and_eq_false_iff, Bool.and_eq_false_iff, Bool.and_eq_false_iff, Bool.and_eq_false_iff, ← Bool.not_eq_true, ← Bool.not_eq_true (decide _), ← Bool.not_eq_true (inB l[k].2.1 _ _), ← Bool.not_eq_true (decide (l[k].2.2 ≤ _)), inB_iff, inB_iff, decide_eq_true_eq, decide_eq_true_eq]
          have d1 := of_decide_eq_false c1
          have d2 := of_decide_eq_false c2
          have d3 := of_decide_eq_false c3
          have d4 := of_decide_eq_false c4
          have d5 := of_decide_eq_true c5
          have hqe := H0.out
          omega
        · go_wp2_with fail
          go_quiet (fail)
          go_wp2_with fail
          go_ret
          refine ⟨ret_bool ?_, below_drewN (balloc hb _) _⟩
          rw [← H.out, skOk]
          symm
          rw [Bool.and_eq_false_iff, Bool.and_eq_false_iff, Bool.and_eq_false_iff, Bool.and_eq_false_iff, ← Bool.not_eq_true, ← Bool.not_eq_true (decide _), ← Bool.not_eq_true (inB l[k].2.1 _ _), ← Bool.not_eq_true (decide (l[k].2.2 ≤ _)), inB_iff, inB_iff, decide_eq_true_eq, decide_eq_true_eq]
          have d1 := of_decide_eq_false c1
          have d2 := of_decide_eq_false c2
          have d3 := of_decide_eq_false c3
          have d4 := of_decide_eq_false c4
          have d5 := of_decide_eq_false c5
          have d6 := of_decide_eq_true c6
          have hqe := H0.out
          omega
        · go_wp2_with fail
          go_quiet (fail)
          go_wp2_with fail
          go_roundw
          case rel =>
            have d1 := of_decide_eq_false c1
            have d2 := of_decide_eq_false c2
            have d3 := of_decide_eq_false c3
            have d4 := of_decide_eq_false c4
            have d5 := of_decide_eq_false c5
            have d6 := of_decide_eq_false c6
            have hqe := H0.out
            refine ⟨k + 1, l[k].1, by omega, by go_num, .inr ⟨⟨by omega, by omega⟩, by simp⟩, by omega, by omega, ?_, below_drewN (balloc hb _) _⟩
            rw [← H.out, skOk]
            have e1 : inB l[k].1 (q + 1) 39 = true := inB_iff.2 ⟨by omega, by omega⟩
            have e2 : inB l[k].2.1 (-100000) 100000 = true := inB_iff.2 ⟨by omega, by omega⟩
            have e3 : decide (l[k].2.1 ≤ l[k].2.2) = true := decide_eq_true (by omega)
            have e4 : decide (l[k].2.2 ≤ 100000) = true := decide_eq_true (by omega)
            rw [e1, e2, e3, e4]
            rfl
          case measure => simp [intOf]; omega
    · have H := hide hsk
      clear hsk hkq
      go_wp2_with fail
      go_ret
      have h := H.out
      rw [List.drop_eq_nil_of_le (by omega)] at h
      exact ⟨ret_bool h, hb⟩
end Go.Proofs.Ytenhghkiapkejaa
