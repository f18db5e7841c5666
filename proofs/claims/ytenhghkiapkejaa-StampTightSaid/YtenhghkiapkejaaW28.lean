/- The walk of StampTight, over the contract of sane. -/
import Derived.Test.YtenhghkiapkejaaLawP
namespace Go.Proofs.Ytenhghkiapkejaa
open Go.RowKit
theorem f33v {b : Bool} {L : List I3} {l : List I4} {p adv : Int} (hb : b = true ↔ Poss L l p adv) (A B : Option Addr) (c d : Nat) (w : World) (hn : L.length ≤ c) (hc : c ≤ 9223372036854775807) (hL : ∀ s ∈ L, inP s.1) (hl : plOk l) (h60 : l.length ≤ 60) (hp : inP p) (ha : -1000000 ≤ adv ∧ adv ≤ 1000000)
    (hr : SlR w w.heap.size 3 A L.length (L.flatMap c3)) (hs : SlR w w.heap.size 4 B l.length (l.flatMap c4)) :
    Calls Try.prog 33 #[.slice A L.length c, .slice B l.length d, .int .i64 p, .int .i64 adv] w fun e w' => e = .returned (.bool b) ∧ Below w.heap.size w w' := by
  refine (f33 A B L l c d p adv w hn hc hL hl h60 hp ha hr hs).mono ?_
  rintro e w' ⟨b', rfl, hb', hw⟩
  refine ⟨?_, hw⟩
  cases b <;> cases b' <;> simp_all
theorem t_yes {P : Prop} (h : P) : ((true : Bool) = true ↔ P) := ⟨fun _ => h, fun _ => rfl⟩
theorem t_no {P : Prop} (h : ¬ P) : ((false : Bool) = true ↔ P) := ⟨fun x => (by cases x), fun x => absurd x h⟩
set_option maxRecDepth 100000 in
set_option maxHeartbeats 1000000 in
theorem f6 (h10 : H10) (A B : Option Addr) (x : List I2) (y : List I3) (c d : Nat) (t : Int) (w : World) (hn : x.length ≤ c) (hc : c ≤ 9223372036854775807) (hm : y.length ≤ d) (hd : d ≤ 9223372036854775807)
    (hw : ∀ s ∈ x, wf64 s.1 ∧ wf64 s.2) (hw2 : ∀ s ∈ y, wf64 s.1 ∧ wf64 s.2.1 ∧ wf64 s.2.2) (ht : wf64 t)
    (hr : SlR w w.heap.size 2 A x.length (x.flatMap c2)) (hr2 : SlR w w.heap.size 3 B y.length (y.flatMap c3)) :
    Calls Try.prog 6 #[.slice A x.length c, .slice B y.length d, .int .i64 t] w fun e w' => e = .returned (.bool true) ∧ Below w.heap.size w w' := by
  obtain ⟨ht1, ht2⟩ := ht
  go_enter Try.func6, Try.ntmps6
  go_wp2_with fail
  refine (h10 _).mono ?_
  rintro e w1 ⟨rfl, hb1⟩
  go_wp2_with fail
  refine (f22 A x c _ hn hc hw (hr.to hb1)).mono ?_
  rintro e w2 ⟨v, rfl, hown, hb2⟩
  obtain ⟨A', cv, rfl, hcv1, hcv2, hL⟩ := SlR.of_own hown
  have hb12 := bthen hb1 hb2
  have hsk := clocks_sk x
  have hle := clocks_le x
  have hr3 := (hr2.to hb12)
  clear hown hr hw hb1 hb2 hn hr2
  generalize clocks x = L at *
  go_wp2_with fail
  refine (f23 A' B L y cv d _ hcv1 (by simpa [maxLen] using hcv2) hm hd hle hw2 hL hr3).mono ?_
  rintro e w3 ⟨v, rfl, hown, hb3⟩
  obtain ⟨B', dv, rfl, hdv1, hdv2, hM⟩ := SlR.of_own hown
  have hb13 := bthen hb12 hb3
  have hL3 := hL.to hb3
  have hpr := meets_proper (y := y) hsk
  clear hown hr3 hw2 hb3 hL hm hb12
  generalize meets L y = l at *
  have HP := hide (And.intro hpr hsk)
  clear hpr hsk
  go_wp2_with fail
  refine (f24 A' B' L l cv dv _ hcv1 (by simpa [maxLen] using hcv2) hdv1 (by simpa [maxLen] using hdv2) hL3 hM).mono ?_
  rintro e w4 hT
  rcases hT with ⟨h, _⟩ | ⟨_, v, out, rfl, hown, hok, hb4⟩ | ⟨_, k, rfl, _, _, _, hb4⟩
  · rw [HP.out.1] at h; cases h
  · obtain ⟨C, cc, rfl, hcc1, hcc2, hO⟩ := SlR.of_own hown
    have hlen := hok.1
    have hL4 := hL3.to hb4
    have hM4 := hM.to hb4
    have hb14 := bthen hb13 hb4
    have HO := hide hok
    clear hown hok hL3 hM hb4 hb13
    rcases Nat.eq_zero_or_pos L.length with h0 | h0
    · have h01 : ((out.length : Int) == 0) = true := by rw [hlen, h0]; rfl
      have h02 : ((L.length : Int) == 0) = true := by rw [h0]; rfl
      have HZ := hide (And.intro hlen h0)
      clear hlen h0
      go_wp2_with fail
      go_ret
      exact ⟨rfl, hb14⟩
    · have h01 : ((L.length : Int) == 0) = false := beq_eq_false_iff_ne.2 (by omega)
      have h02 : ((out.length : Int) != (L.length : Int)) = false := by rw [hlen]; simp
      have Hlen := hide hlen
      clear hlen
      go_wp2_with fail
      go_loopw [12] (fun i wr => ∃ k : Nat, k ≤ out.length ∧ i = .int .i64 k ∧ Below w4.heap.size w4 wr) (fun i _ => out.length - (intOf i).toNat)
      case atStart => exact ⟨0, Nat.zero_le _, rfl, Below.refl _ _⟩
      case round =>
        obtain ⟨k, hk, rfl, hbr⟩ := hrel
        by_cases hlt : k < out.length
        · have hltL : k < L.length := by have := Hlen.out; omega
          obtain ⟨b, off, rfl, _, x0, x1, x2⟩ := hL4.at3 hbr hltL
          obtain ⟨b', off', rfl, _, y0, y1, y2⟩ := hO.at3 hbr hlt
          obtain ⟨e1, _, e2, e3, e4⟩ := HO.out.2 k hltL hlt
          have e2 := e2.1
          have e3 := e3.1
          have t1 : (out[k].1 != L[k].1) = false := by rw [e1]; simp
          have t2 : decide (out[k].2.1 < L[k].2.1) = false := decide_eq_false (by omega)
          have t3 : decide (L[k].2.2 < out[k].2.2) = false := decide_eq_false (by omega)
          have t4 : decide (out[k].2.2 < out[k].2.1) = false := decide_eq_false (by omega)
          have hki : (k : Int) < (out.length : Int) := by omega
          have hkL : (k : Int) < (L.length : Int) := by omega
          have hk0 : (0 : Int) ≤ (k : Int) := by omega
          clear e1 e2 e3 e4
          go_wp2_with fail
          go_quiet (fail)
          go_wp2_with fail
          go_roundw
          case rel => exact ⟨k + 1, by omega, by go_num, below_drewN hbr _⟩
          case measure => simp [intOf]; omega
        · have hpk := pk_range t out.length (by have := Hlen.out; omega)
          obtain ⟨hk1, hk2⟩ := hpk
          have hol : out.length ≤ 6 := by have := Hlen.out; omega
          have ho1 : 1 ≤ out.length := by have := Hlen.out; omega
          obtain ⟨q, hq⟩ : ∃ q : Nat, pk t (out.length : Int) = q := ⟨(pk t (out.length : Int)).toNat, by omega⟩
          have hqo : q < out.length := by omega
          have hqL : q < L.length := by have := Hlen.out; omega
          have HQ := hide hq
          clear hq hk1 hk2
          obtain ⟨b', off', rfl, _, y0, y1, y2⟩ := hO.at3 hbr hqo
          obtain ⟨z0, z1, z2⟩ := hO.bw3 hqo
          have hone := HO.out.2 q hqL hqo
          have hbd := skOk_get HP.out.2 q hqL
          have hyes := fun n h1 h2 => tight_poss (n := n) HP.out.2 hone h1 h2
          have hnot := fun n h => tight_not (n := n) HP.out.2 (proper_sk HP.out.1).2.2 (List.getElem_mem hqL) hone h
          have hpl := proper_pl HP.out.1
          have h60 := (proper_sk HP.out.1).2.1
          have hin := skOk_inP HP.out.2
          have hinq : inP out[q].1 := by rw [hone.1]; exact hin _ (List.getElem_mem hqL)
          have o1 := hone.2.2.1.1
          have o2 := hone.2.2.2.1.1
          have o3 := hone.2.2.2.2
          have ob1 : -100000 ≤ out[q].2.1 := by omega
          have ob2 : out[q].2.2 ≤ 100000 := by omega
          clear hone hbd o1 o2
          generalize out[q] = s at *
          have HY := hide (And.intro hyes hnot)
          have HI := hide (And.intro hpl (And.intro hin hinq))
          clear hyes hnot hpl hin hinq
          have hqi : (q : Int) < (out.length : Int) := by omega
          have hq0 : (0 : Int) ≤ (q : Int) := by omega
          go_wp2_with (first | (go_at_call 15; refine (f15 _ _ _ (by omega) (by omega) (by omega) (by omega)).mono ?_; rintro e w' ⟨rfl, rfl⟩; rw [HQ.out]))
          go_loopw [14] (fun i wr => ∃ n : Int, s.2.1 ≤ n ∧ n ≤ s.2.2 + 1 ∧ i = .int .i64 n ∧ Below w4.heap.size w4 wr) (fun i _ => (s.2.2 + 1 - intOf i).toNat)
          case atStart => exact ⟨_, Int.le_refl _, by omega, rfl, hbr⟩
          case round =>
            clear y0 y1 y2 hbr
            obtain ⟨n, hn1, hn2, rfl, hbr⟩ := hrel
            have y0 := z0 ⟨_, hbr⟩
            have y1 := z1 ⟨_, hbr⟩
            have y2 := z2 ⟨_, hbr⟩
            simp only [] at y0 y1 y2
            by_cases hle2 : n ≤ s.2.2
            · go_wp2_with fail
              refine (f33v (t_yes (HY.out.1 n hn1 hle2)) A' B' cv dv _ hcv1 (by simpa [maxLen] using hcv2) HI.out.2.1 HI.out.1 h60 HI.out.2.2 ⟨by omega, by omega⟩ (hL4.to hbr) (hM4.to hbr)).mono ?_
              rintro e w5 ⟨rfl, hb5⟩
              go_wp2_with fail
              go_roundw
              case rel => exact ⟨n + 1, by omega, by omega, rfl, bthen hbr hb5⟩
              case measure => simp [intOf]; omega
            · go_wp2_with fail
              refine wp_region_bw w4 (by assumption) (by kernel_rfl) (by kernel_rfl) ?_
              repeat (go_big_quiet_step ((go_at_call 33; refine bw_call (f33v (b := false) ?_ A' B' cv dv _ hcv1 (by simpa [maxLen] using hcv2) HI.out.2.1 HI.out.1 h60 HI.out.2.2 ⟨by omega, by omega⟩ (hL4.to (BW.ok _)) (hM4.to (BW.ok _))); exact t_no (HY.out.2 _ (by omega)))))
              refine wpQuiet_nil ?_
              intro w5 hb5
              go_wp2_with fail
              go_ret
              exact ⟨rfl, bthen hb14 hb5⟩
  · have hb14 := bthen hb13 hb4
    go_wp2_with fail
    go_ret
    exact ⟨rfl, hb14⟩
end Go.Proofs.Ytenhghkiapkejaa
