/- Contract of possible: whether an advance is possible. -/
import Derived.Test.YtenhghkiapkejaaW26
namespace Go.Proofs.Ytenhghkiapkejaa
open Go.RowKit
def Poss (L : List I3) (l : List I4) (p adv : Int) : Prop := ¬ FromBad l p ∧ ∀ s ∈ L, ∀ n, Path l p s.1 n → s.2.1 ≤ adv + n ∧ adv + n ≤ s.2.2
def fits (os : List Int) (ks : List Bool) (s : I3) : Prop := kn ks s.1 = true → s.2.1 ≤ vl os s.1 ∧ vl os s.1 ≤ s.2.2
def PossPost (L : List I3) (l : List I4) (p adv : Int) (w : World) (e : Ending) (w' : World) : Prop := ∃ b, e = .returned (.bool b) ∧ (b = true ↔ Poss L l p adv) ∧ Below w.heap.size w w'
theorem poss_yes {L : List I3} {l : List I4} {p adv : Int} {os : List Int} {ks : List Bool} (h : SpreadOk l p adv os ks) (hf : ∀ s ∈ L, fits os ks s) : Poss L l p adv := by
  refine ⟨h.not_bad, fun s hs n hn => ?_⟩
  obtain ⟨k1, k2⟩ := h.2.2.2.1 _ _ hn
  have := hf s hs k1
  omega
theorem poss_no {L : List I3} {l : List I4} {p adv : Int} {os : List Int} {ks : List Bool} (h : SpreadOk l p adv os ks) {s : I3} (hs : s ∈ L) (hp : inP s.1) (hk : kn ks s.1 = true) (hf : vl os s.1 < s.2.1 ∨ s.2.2 < vl os s.1) : ¬ Poss L l p adv := by
  rintro ⟨_, h2⟩
  have := h2 s hs _ (h.2.2.1 _ hp hk)
  omega
set_option maxRecDepth 100000 in
set_option maxHeartbeats 1000000 in
theorem f33 (A B : Option Addr) (L : List I3) (l : List I4) (c d : Nat) (p adv : Int) (w : World) (hn : L.length ≤ c) (hc : c ≤ 9223372036854775807) (hL : ∀ s ∈ L, inP s.1) (hl : plOk l) (h60 : l.length ≤ 60) (hp : inP p) (ha : -1000000 ≤ adv ∧ adv ≤ 1000000)
    (hr : SlR w w.heap.size 3 A L.length (L.flatMap c3)) (hs : SlR w w.heap.size 4 B l.length (l.flatMap c4)) :
    Calls Try.prog 33 #[.slice A L.length c, .slice B l.length d, .int .i64 p, .int .i64 adv] w (PossPost L l p adv w) := by
  go_enter Try.func33, Try.ntmps33
  go_wp2_with fail
  refine (f34 A B l L.length c d p adv w hl h60 hp ha hs).mono ?_
  rintro e w1 ⟨os, ks, b, rfl, hres, hb1, hb2, hbw⟩
  rcases hres with ⟨rfl, hok⟩ | ⟨rfl, hbad⟩
  · have hos := hok.1
    have hks := hok.2.1
    have HO := hide hok
    have hr1 := hr.below hbw
    clear hok
    go_wp2_with fail
    go_loopw [12] (fun i wr => ∃ k : Nat, k ≤ L.length ∧ i = .int .i64 k ∧ (∀ s ∈ L.take k, fits os ks s) ∧ Below w1.heap.size w1 wr) (fun i _ => L.length - (intOf i).toNat)
    case atStart => exact ⟨0, Nat.zero_le _, rfl, by simp, Below.refl _ _⟩
    case round =>
      obtain ⟨k, hk, rfl, hfit, hbr⟩ := hrel
      by_cases hlt : k < L.length
      · have hmem := List.getElem_mem hlt
        have hin := hL _ hmem
        obtain ⟨bb, off, rfl, hbb, x0, x1, x2⟩ := hr.at3 (bthen hbw hbr) hlt
        have c1 := hb1.below hbr hb1.lt
        have c2 := hb2.below hbr hb2.lt
        have y := blkB c2 hks hin
        have z := blkI c1 hos hin
        have q1 := c1.lt
        have q2 := c2.lt
        have hki : (k : Int) < (L.length : Int) := by omega
        have hk0 : (0 : Int) ≤ (k : Int) := by omega
        obtain ⟨hin1, hin2⟩ := hin
        have HM := hide (And.intro hmem (And.intro hfit (List.take_succ_eq_append_getElem hlt)))
        have HB := hide (And.intro hbw hbr)
        clear hmem hfit c1 c2 hbw hr hs
        have hbl : bb < wr.heap.size := by have := hbr.size; omega
        clear hb1 hb2
        have key : fits os ks L[k] → ∀ s ∈ L.take (k + 1), fits os ks s := fun hf s hs => by
          rw [HM.out.2.2] at hs
          rcases List.mem_append.1 hs with hs | hs
          · exact HM.out.2.1 s hs
          · rw [List.mem_singleton.1 hs]; exact hf
        have HK := hide key
        clear key
        cases hk1 : kn ks L[k].1
        · go_wp2_with fail
          go_quiet (fail)
          go_wp2_with fail
          go_roundw
          case rel => exact ⟨k + 1, by omega, by go_num, HK.out (fun h => by rw [hk1] at h; cases h), below_drewN (balloc HB.out.2 _) _⟩
          case measure => simp [intOf]; omega
        · cases h1 : decide (vl os L[k].1 < L[k].2.1)
          · cases h2 : decide (L[k].2.2 < vl os L[k].1)
            · go_wp2_with fail
              go_quiet (fail)
              go_wp2_with fail
              go_roundw
              case rel => exact ⟨k + 1, by omega, by go_num, HK.out (fun _ => by have := of_decide_eq_false h1; have := of_decide_eq_false h2; omega), below_drewN (balloc HB.out.2 _) _⟩
              case measure => simp [intOf]; omega
            · go_wp2_with fail
              go_quiet (fail)
              go_wp2_with fail
              go_ret
              exact ⟨false, rfl, ⟨fun h => (by cases h), fun h => absurd h (poss_no HO.out HM.out.1 ⟨hin1, hin2⟩ hk1 (.inr (of_decide_eq_true h2)))⟩, below_drewN (balloc (bthen HB.out.1 HB.out.2) _) _⟩
          · go_wp2_with fail
            go_quiet (fail)
            go_wp2_with fail
            go_ret
            exact ⟨false, rfl, ⟨fun h => (by cases h), fun h => absurd h (poss_no HO.out HM.out.1 ⟨hin1, hin2⟩ hk1 (.inl (of_decide_eq_true h1)))⟩, below_drewN (balloc (bthen HB.out.1 HB.out.2) _) _⟩
      · have hkl : L.take k = L := List.take_of_length_le (by omega)
        rw [hkl] at hfit
        have HF := hide hfit
        clear hfit hkl
        go_wp2_with fail
        go_ret
        exact ⟨true, rfl, ⟨fun _ => poss_yes HO.out HF.out, fun _ => rfl⟩, bthen hbw hbr⟩
  · have HO := hide hbad
    clear hbad
    go_wp2_with fail
    go_loopw [12] (fun i wr => i = .int .i64 0 ∧ w1 = wr) (fun _ _ => 0)
    case atStart => exact ⟨rfl, rfl⟩
    case round =>
      obtain ⟨rfl, rfl⟩ := hrel
      rcases Nat.eq_zero_or_pos L.length with h0 | h0
      · have h0' : decide ((0 : Int) < (L.length : Int)) = false := decide_eq_false (by omega)
        have h0n : decide (0 < L.length) = false := decide_eq_false (by omega)
        have HZ := hide h0
        clear h0
        go_wp2_with fail
        go_ret
        exact ⟨false, rfl, ⟨fun h => (by cases h), fun h => absurd HO.out h.1⟩, hbw⟩
      · have h0' : decide ((0 : Int) < (L.length : Int)) = true := decide_eq_true (by omega)
        have h0n : decide (0 < L.length) = true := decide_eq_true (by omega)
        go_wp2_with fail
        go_ret
        exact ⟨false, rfl, ⟨fun h => (by cases h), fun h => absurd HO.out h.1⟩, hbw⟩
end Go.Proofs.Ytenhghkiapkejaa
