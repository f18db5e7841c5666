/- The walk of StampContradicts, over the contract of sane. -/
import Derived.Test.YtenhghkiapkejaaContraP
namespace Go.Proofs.Ytenhghkiapkejaa
open Go.RowKit
theorem f33v {b : Bool} {L : List I3} {l : List I4} {p adv : Int} (hb : b = true ↔ Poss L l p adv) (A B : Option Addr) (c d : Nat) (w : World) (hn : L.length ≤ c) (hc : c ≤ 9223372036854775807) (hL : ∀ s ∈ L, inP s.1) (hl : plOk l) (h60 : l.length ≤ 60) (hp : inP p) (ha : -1000000 ≤ adv ∧ adv ≤ 1000000)
    (hr : SlR w w.heap.size 3 A L.length (L.flatMap c3)) (hs : SlR w w.heap.size 4 B l.length (l.flatMap c4)) :
    Calls Try.prog 33 #[.slice A L.length c, .slice B l.length d, .int .i64 p, .int .i64 adv] w fun e w' => e = .returned (.bool b) ∧ Below w.heap.size w w' := by
  refine (f33 A B L l c d p adv w hn hc hL hl h60 hp ha hr hs).mono ?_
  rintro e w' ⟨b', rfl, hb', hw⟩
  refine ⟨?_, hw⟩
  cases b <;> cases b' <;> simp_all
theorem f33n {b : Bool} {L : List I3} {l : List I4} {n : Nat} (hln : l.length = n) {p adv : Int} (hb : b = true ↔ Poss L l p adv) (A B : Option Addr) (c d : Nat) (w : World) (hn : L.length ≤ c) (hc : c ≤ 9223372036854775807) (hL : ∀ s ∈ L, inP s.1) (hl : plOk l) (h60 : l.length ≤ 60) (hp : inP p) (ha : -1000000 ≤ adv ∧ adv ≤ 1000000)
    (hr : SlR w w.heap.size 3 A L.length (L.flatMap c3)) (hs : SlR w w.heap.size 4 B n (l.flatMap c4)) :
    Calls Try.prog 33 #[.slice A L.length c, .slice B n d, .int .i64 p, .int .i64 adv] w fun e w' => e = .returned (.bool b) ∧ Below w.heap.size w w' := by
  subst hln; exact f33v hb A B c d w hn hc hL hl h60 hp ha hr hs
theorem f24n {n : Nat} {l : List I4} (hl : l.length = n) (A B : Option Addr) (L : List I3) (c d : Nat) (w : World) (hn : L.length ≤ c) (hc : c ≤ 9223372036854775807) (hm : n ≤ d) (hd : d ≤ 9223372036854775807)
    (hr : SlR w w.heap.size 3 A L.length (L.flatMap c3)) (hs : SlR w w.heap.size 4 B n (l.flatMap c4)) :
    Calls Try.prog 24 #[.slice A L.length c, .slice B n d] w (TightAll L l w) := by
  subst hl; exact f24 A B L l c d w hn hc hm hd hr hs
theorem t_yes {P : Prop} (h : P) : ((true : Bool) = true ↔ P) := ⟨fun _ => h, fun _ => rfl⟩
theorem t_no {P : Prop} (h : ¬ P) : ((false : Bool) = true ↔ P) := ⟨fun x => (by cases x), fun x => absurd x h⟩
set_option maxRecDepth 100000 in
set_option maxHeartbeats 1000000 in
theorem f7 (h10 : H10) (A B : Option Addr) (x : List I2) (y : List I3) (c d : Nat) (w : World) (hn : x.length ≤ c) (hc : c ≤ 9223372036854775807) (hm : y.length ≤ d) (hd : d ≤ 9223372036854775807)
    (hw : ∀ s ∈ x, wf64 s.1 ∧ wf64 s.2) (hw2 : ∀ s ∈ y, wf64 s.1 ∧ wf64 s.2.1 ∧ wf64 s.2.2)
    (hr : SlR w w.heap.size 2 A x.length (x.flatMap c2)) (hr2 : SlR w w.heap.size 3 B y.length (y.flatMap c3)) :
    Calls Try.prog 7 #[.slice A x.length c, .slice B y.length d] w fun e w' => e = .returned (.bool true) ∧ Below w.heap.size w w' := by
  obtain ⟨i0, hi, _, _, _⟩ := info_parts Try.info43
  go_enter Try.func7, Try.ntmps7
  go_wp2_with fail
  refine (h10 _).mono ?_
  rintro e w1 ⟨rfl, hb1⟩
  go_wp2_with fail
  refine (f22 A x c _ hn hc hw (hr.to hb1)).mono ?_
  rintro e w2 ⟨v, rfl, hown, hb2⟩
  obtain ⟨A', cv, rfl, hcv1, hcv2, hL⟩ := SlR.of_own hown
  have hb12 := bthen hb1 hb2
  have hsk := clocks_sk x
  have hle := clocks_le x
  have hr3 := (hr2.to hb12)
  clear hown hr hw hb1 hb2 hn hr2
  generalize clocks x = L at *
  go_wp2_with fail
  refine (f23 A' B L y cv d _ hcv1 (by simpa [maxLen] using hcv2) hm hd hle hw2 hL hr3).mono ?_
  rintro e w3 ⟨v, rfl, hown, hb3⟩
  obtain ⟨B', dv, rfl, hdv1, hdv2, hM⟩ := SlR.of_own hown
  have hb13 := bthen hb12 hb3
  have hL3 := hL.to hb3
  have hpr := meets_proper (y := y) hsk
  clear hown hr3 hw2 hb3 hL hm hb12
  generalize meets L y = l at *
  have HP := hide (And.intro hpr hsk)
  have h60 := (proper_sk hpr).2.1
  clear hpr hsk
  go_wp2_with fail
  refine (f24 A' B' L l cv dv _ hcv1 (by simpa [maxLen] using hcv2) hdv1 (by simpa [maxLen] using hdv2) hL3 hM).mono ?_
  rintro e w4 hT
  rcases hT with ⟨h, _⟩ | ⟨_, v, out, rfl, hown, hok, hb4⟩ | ⟨_, k, rfl, hkl, hbad, ⟨out, hok⟩, hb4⟩
  · rw [HP.out.1] at h; cases h
  · have hL4 := hL3.to hb4
    have hM4 := hM.to hb4
    have hb14 := bthen hb13 hb4
    have hok' : TightOk L (l.take l.length) out := by rw [List.take_length]; exact hok
    have HO := hide hok'
    have hneg : decide ((l.length : Int) ≤ -1) = false := decide_eq_false (by omega)
    clear hown hok hok' hL3 hM hb4 hb13
    go_wp2_with fail
    go_loopw [14, 15] (fun last i wr => ∃ (j : Nat) (Al : Option Addr) (cl : Nat) (lastL : List I3), j ≤ l.length + 1 ∧ i = .int .i64 j ∧ last = .slice Al L.length cl ∧ L.length ≤ cl ∧ SlR wr wr.heap.size 3 Al L.length (lastL.flatMap c3) ∧ Wide L l j lastL ∧ Below w4.heap.size w4 wr) (fun _ i _ => l.length + 1 - (intOf i).toNat)
    case atStart => exact ⟨0, A', cv, L, by omega, rfl, rfl, hcv1, hL4, Wide.start L l, Below.refl _ _⟩
    case round =>
      obtain ⟨j, Al, cl, lastL, hj, rfl, rfl, hcl, hLa, hW, hbr⟩ := hrel
      by_cases hlt : j ≤ l.length
      · have hjl : j ≤ l.length := by omega
        obtain ⟨A2, hs2, hr2⟩ := hM4.cutHi hdv1 hjl 46 43 i0 Try.underlying46 hi
        rw [flat_take c4 4 (fun _ => rfl)] at hs2
        have hlj : (l.take j).length = j := by rw [List.length_take]; omega
        have hji : (j : Int) ≤ (l.length : Int) := by omega
        have hj0 : (0 : Int) ≤ (j : Int) := by omega
        have Hlj := hide hlj
        have HLW := hide (And.intro hLa hW)
        clear hlj hLa hW
        go_wp2_with fail
        refine (f24n Hlj.out A' A2 L cv dv _ hcv1 (by simpa [maxLen] using hcv2) (by omega) (by simpa [maxLen] using hdv2) (hL4.to hbr) (hs2.to hbr)).mono ?_
        rintro e w5 hT
        rcases hT with ⟨h, _⟩ | ⟨_, v, out', rfl, hown, hok, hb5⟩ | ⟨_, k', _, hk', hbad, _, _⟩
        · rw [proper_take HP.out.1] at h; cases h
        · obtain ⟨C, cc, rfl, hcc1, hcc2, hO⟩ := SlR.of_own hown
          have hlen := hok.1
          have h02 : ((out'.length : Int) != (L.length : Int)) = false := by rw [hlen]; simp
          have hLa5 := HLW.out.1.to hb5
          have hbr5 := bthen hbr hb5
          have HO' := hide hok
          have Hlen := hide hlen
          clear hown hok hlen hr2 hs2 hb5 hbr
          go_wp2_with fail
          go_loopw [19] (fun i wr => ∃ q : Nat, q ≤ out'.length ∧ i = .int .i64 q ∧ Below w5.heap.size w5 wr) (fun i _ => out'.length - (intOf i).toNat)
          case atStart => exact ⟨0, Nat.zero_le _, rfl, Below.refl _ _⟩
          case round =>
            obtain ⟨q, hq, rfl, hbq⟩ := hrel
            by_cases hltq : q < out'.length
            · have hqL : q < L.length := by have := Hlen.out; omega
              have hqa : q < lastL.length := by have := HLW.out.2.1; omega
              obtain ⟨b, off, rfl, _, x0, x1, x2⟩ := hO.at3 hbq hltq
              obtain ⟨b', off', rfl, _, y0, y1, y2⟩ := SlR.at3 (l := lastL) (by rw [HLW.out.2.1]; exact hLa5) hbq hqa
              have hone := HLW.out.2.2 q hqL hqa _ (HO'.out.2 q hqL hltq)
              have t1 : decide (out'[q].2.1 < lastL[q].2.1) = false := decide_eq_false (by omega)
              have t2 : decide (lastL[q].2.2 < out'[q].2.2) = false := decide_eq_false (by omega)
              have hqi : (q : Int) < (out'.length : Int) := by omega
              have hqi' : (q : Int) < (L.length : Int) := by omega
              have hq0 : (0 : Int) ≤ (q : Int) := by omega
              clear hone
              go_wp2_with fail
              go_quiet (fail)
              go_wp2_with fail
              go_roundw
              case rel => exact ⟨q + 1, by omega, by go_num, below_drewN hbq _⟩
              case measure => simp [intOf]; omega
            · go_wp2_with fail
              go_roundw
              case rel => exact ⟨j + 1, C, cc, out', by omega, by go_num, by rw [Hlen.out], by have := Hlen.out; omega, by have := hO.to hbq; rw [Hlen.out] at this; exact this, Wide.next HO'.out, bthen hbr5 hbq⟩
              case measure => simp [intOf]; omega
        · exact absurd hbad (ok_not_bad (fun m hm => by
            rw [List.take_take] at hm
            exact take_sub l (show min (k' + 1) j ≤ l.length by omega) m hm) HO.out)
      · go_wp2_with fail
        go_ret
        exact ⟨rfl, bthen hb14 hbr⟩
  · have hL4 := hL3.to hb4
    have hM4 := hM.to hb4
    have hb14 := bthen hb13 hb4
    have HO := hide hok
    have HB := hide hbad
    have hk0 : (0 : Int) ≤ (k : Int) := by omega
    have hkli : (k : Int) < (l.length : Int) := by omega
    clear hok hbad hL3 hM hb4 hb13
    obtain ⟨b2, off2, rfl, _, m0, m1, m2, m3⟩ := hM4.at4 (Below.refl _ _) hkl
    go_wp2_with fail
    go_loopw [12] (fun i wr => ∃ q : Nat, q ≤ L.length ∧ i = .int .i64 q ∧ Blk wr w4.heap.size 43 (c4 l[k]) ∧ Below w4.heap.size w4 wr) (fun i _ => L.length - (intOf i).toNat)
    case atStart => exact ⟨0, Nat.zero_le _, rfl, Blk.new w4 43 (c4 l[k]), balloc (Below.refl _ _) _⟩
    case round =>
      obtain ⟨q, hq, rfl, hbk, hbr⟩ := hrel
      by_cases hlt : q < L.length
      · obtain ⟨b, off, rfl, _, x0, x1, x2⟩ := hL4.at3 hbr hlt
        have hbd := skOk_get HP.out.2 q hlt
        obtain ⟨bd1, bd2, bd3, bd4, _, _⟩ := hbd
        have hqi : (q : Int) < (L.length : Int) := by omega
        have hq0 : (0 : Int) ≤ (q : Int) := by omega
        have hle3 := skOk_le (-1) L HP.out.2 _ (List.getElem_mem hlt)
        obtain ⟨A2, hs2, hr2⟩ := hM4.cutHi hdv1 (show k + 1 ≤ l.length by omega) 46 43 i0 Try.underlying46 hi
        rw [flat_take c4 4 (fun _ => rfl)] at hs2
        have hlj : (l.take (k + 1)).length = k + 1 := by rw [List.length_take]; omega
        have hr2' : ∀ w, (Instr.slice 46 (.slice (some ⟨b2, off2, none⟩) l.length dv) none (some (.int .i64 ((k : Int) + 1))) none).run Try.prog w = .ok (.slice A2 (k + 1) dv) w := fun w => by have := hr2 w; rw [show ((k + 1 : Nat) : Int) = (k : Int) + 1 from by omega] at this; exact this
        have hno : ∀ a, ¬ Poss L (l.take (k + 1)) l[k].1 a := fun a => by
          have hm' := (proper_sk HP.out.1).2.2
          have e := List.take_succ_eq_append_getElem hkl
          have hb := HB.out
          rw [e] at hb ⊢
          exact contra HP.out.2 (fun m' hm0 => hm' m' (by
            rw [← e] at hm0
            exact List.mem_of_mem_take hm0)) hb HO.out a
        have hpl := proper_pl HP.out.1
        have hpl2 : plOk (l.take (k + 1)) := fun m hm => hpl m (List.mem_of_mem_take hm)
        have hpA := (hpl l[k] (List.getElem_mem hkl)).2.1
        have hin := skOk_inP HP.out.2
        have HN := hide (And.intro hno (And.intro hpl2 (And.intro hpA (And.intro hin hlj))))
        have hl60' : (l.take (k + 1)).length ≤ 60 := by omega
        clear hno hpl2 hpA hin hpl hr2 hlj
        go_wp2_with fail
        go_loopw [13] (fun a wr => ∃ n : Int, L[q].2.1 ≤ n ∧ n ≤ L[q].2.2 + 1 ∧ a = .int .i64 n ∧ Blk wr w4.heap.size 43 (c4 l[k]) ∧ Below w4.heap.size w4 wr) (fun a _ => (L[q].2.2 + 1 - intOf a).toNat)
        case atStart => exact ⟨_, Int.le_refl _, by omega, rfl, hbk, hbr⟩
        case round =>
          clear x0 x1 x2 hbk hbr
          obtain ⟨n, hn1, hn2, rfl, hbk, hbr⟩ := hrel
          obtain ⟨hx0, hx1, hx2⟩ := (hL4.to hbr).bw3 hlt
          have z0 : ∀ x : BW wr, x.val.cell? ⟨w4.heap.size, 0, none⟩ = some (.int .i64 l[k].1) := fun x => (hbk.below x.ok hbk.lt).all4.1
          by_cases hle2 : n ≤ L[q].2.2
          · have d1 : decide (n ≤ L[q].2.2) = true := decide_eq_true hle2
            cases d2 : (L[q].1 == l[k].1)
            · go_wp2_with fail
              refine wp_region_bw wr (Below.refl _ _) (by kernel_rfl) (by kernel_rfl) ?_
              repeat (go_big_quiet_step (fail))
              refine wpQuiet_nil ?_
              intro w5 hb5
              go_wp2_with fail
              go_roundw
              case rel => exact ⟨q + 1, by omega, by go_num, hbk.below hb5 hbk.lt, bthen hbr hb5⟩
              case measure => simp [intOf]; omega
            · go_wp2_with fail
              refine wp_region_bw wr (Below.refl _ _) (by kernel_rfl) (by kernel_rfl) ?_
              repeat (go_big_quiet_step (fail))
              refine wpQuiet_nil ?_
              intro w5 hb5
              go_wp2_with fail
              refine wp_region_bw wr (by assumption) (by kernel_rfl) (by kernel_rfl) ?_
              repeat (go_big_quiet_step ((go_at_call 33; exact bw_call (f33n HN.out.2.2.2.2 (t_no (HN.out.1 n)) _ A2 cv dv _ hcv1 (by simpa [maxLen] using hcv2) HN.out.2.2.2.1 HN.out.2.1 hl60' HN.out.2.2.1 ⟨by omega, by omega⟩ (hL4.to (bthen hbr (BW.ok _))) (hs2.to (bthen hbr (BW.ok _)))))))
              refine wpQuiet_nil ?_
              intro w6 hb6
              go_wp2_with fail
              go_roundw
              case rel => exact ⟨n + 1, by omega, by omega, rfl, hbk.below hb6 hbk.lt, bthen hbr hb6⟩
              case measure => simp [intOf]; omega
          · have d1 : decide (n ≤ L[q].2.2) = false := decide_eq_false hle2
            go_wp2_with fail
            refine wp_region_bw wr (Below.refl _ _) (by kernel_rfl) (by kernel_rfl) ?_
            repeat (go_big_quiet_step (fail))
            refine wpQuiet_nil ?_
            intro w5 hb5
            go_wp2_with fail
            go_roundw
            case rel => exact ⟨q + 1, by omega, by go_num, hbk.below hb5 hbk.lt, bthen hbr hb5⟩
            case measure => simp [intOf]; omega
      · go_wp2_with fail
        go_loopw [14, 15] (fun last i wr => ∃ (j : Nat) (Al : Option Addr) (cl : Nat) (lastL : List I3), j ≤ k + 1 ∧ i = .int .i64 j ∧ last = .slice Al L.length cl ∧ L.length ≤ cl ∧ SlR wr wr.heap.size 3 Al L.length (lastL.flatMap c3) ∧ Wide L l j lastL ∧ Below w4.heap.size w4 wr) (fun _ i _ => k + 1 - (intOf i).toNat)
        case atStart => exact ⟨0, A', cv, L, by omega, rfl, rfl, hcv1, hL4.to hbr, Wide.start L l, hbr⟩
        case round =>
          obtain ⟨j, Al, cl, lastL, hj, rfl, rfl, hcl, hLa, hW, hbr⟩ := hrel
          by_cases hlt : j ≤ k
          · have hjl : j ≤ l.length := by omega
            obtain ⟨A2, hs2, hr2⟩ := hM4.cutHi hdv1 hjl 46 43 i0 Try.underlying46 hi
            rw [flat_take c4 4 (fun _ => rfl)] at hs2
            have hlj : (l.take j).length = j := by rw [List.length_take]; omega
            have hji : (j : Int) ≤ (k : Int) := by omega
            have hj0 : (0 : Int) ≤ (j : Int) := by omega
            have Hlj := hide hlj
            have HLW := hide (And.intro hLa hW)
            clear hlj hLa hW
            go_wp2_with fail
            refine (f24n Hlj.out A' A2 L cv dv _ hcv1 (by simpa [maxLen] using hcv2) (by omega) (by simpa [maxLen] using hdv2) (hL4.to hbr) (hs2.to hbr)).mono ?_
            rintro e w5 hT
            rcases hT with ⟨h, _⟩ | ⟨_, v, out', rfl, hown, hok, hb5⟩ | ⟨_, k', _, hk', hbad, _, _⟩
            · rw [proper_take HP.out.1] at h; cases h
            · obtain ⟨C, cc, rfl, hcc1, hcc2, hO⟩ := SlR.of_own hown
              have hlen := hok.1
              have h02 : ((out'.length : Int) != (L.length : Int)) = false := by rw [hlen]; simp
              have hLa5 := HLW.out.1.to hb5
              have hbr5 := bthen hbr hb5
              have HO' := hide hok
              have Hlen := hide hlen
              clear hown hok hlen hr2 hs2 hb5 hbr
              go_wp2_with fail
              go_loopw [19] (fun i wr => ∃ q : Nat, q ≤ out'.length ∧ i = .int .i64 q ∧ Below w5.heap.size w5 wr) (fun i _ => out'.length - (intOf i).toNat)
              case atStart => exact ⟨0, Nat.zero_le _, rfl, Below.refl _ _⟩
              case round =>
                obtain ⟨q, hq, rfl, hbq⟩ := hrel
                by_cases hltq : q < out'.length
                · have hqL : q < L.length := by have := Hlen.out; omega
                  have hqa : q < lastL.length := by have := HLW.out.2.1; omega
                  obtain ⟨b, off, rfl, _, x0, x1, x2⟩ := hO.at3 hbq hltq
                  obtain ⟨b', off', rfl, _, y0, y1, y2⟩ := SlR.at3 (l := lastL) (by rw [HLW.out.2.1]; exact hLa5) hbq hqa
                  have hone := HLW.out.2.2 q hqL hqa _ (HO'.out.2 q hqL hltq)
                  have t1 : decide (out'[q].2.1 < lastL[q].2.1) = false := decide_eq_false (by omega)
                  have t2 : decide (lastL[q].2.2 < out'[q].2.2) = false := decide_eq_false (by omega)
                  have hqi : (q : Int) < (out'.length : Int) := by omega
                  have hqi' : (q : Int) < (L.length : Int) := by omega
                  have hq0 : (0 : Int) ≤ (q : Int) := by omega
                  clear hone
                  go_wp2_with fail
                  go_quiet (fail)
                  go_wp2_with fail
                  go_roundw
                  case rel => exact ⟨q + 1, by omega, by go_num, below_drewN hbq _⟩
                  case measure => simp [intOf]; omega
                · go_wp2_with fail
                  go_roundw
                  case rel => exact ⟨j + 1, C, cc, out', by omega, by go_num, by rw [Hlen.out], by have := Hlen.out; omega, by have := hO.to hbq; rw [Hlen.out] at this; exact this, Wide.next HO'.out, bthen hbr5 hbq⟩
                  case measure => simp [intOf]; omega
            · exact absurd hbad (ok_not_bad (fun m hm => by
                rw [List.take_take] at hm
                exact take_sub l (show min (k' + 1) j ≤ k by omega) m hm) HO.out)
          · go_wp2_with fail
            go_ret
            exact ⟨rfl, bthen hb14 hbr⟩
end Go.Proofs.Ytenhghkiapkejaa
