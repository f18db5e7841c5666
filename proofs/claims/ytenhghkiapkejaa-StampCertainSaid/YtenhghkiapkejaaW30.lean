/- The walk of StampCertain, over the contract of sane. -/
import Derived.Test.YtenhghkiapkejaaCertP
import Derived.Test.YtenhghkiapkejaaRt
import Derived.Deep.DeepCutAuto
namespace Go.Proofs.Ytenhghkiapkejaa
open Go.RowKit
theorem f31v {n : Nat} {l : List I4} (hl : l.length = n) (A B : Option Addr) (L : List I3) (a b : I3) (c d : Nat) (w : World) (hn : L.length ≤ c) (hc : c ≤ 9223372036854775807) (hm : n ≤ d) (hd : d ≤ 9223372036854775807)
    (hr : SlR w w.heap.size 3 A L.length (L.flatMap c3)) (hs : SlR w w.heap.size 4 B n (l.flatMap c4)) (hok : ¬ OrdBad L l a b) :
    Calls Try.prog 31 #[.slice A L.length c, .slice B n d, .agg #[.int .i64 a.1, .int .i64 a.2.1, .int .i64 a.2.2], .agg #[.int .i64 b.1, .int .i64 b.2.1, .int .i64 b.2.2]] w fun e w' => ∃ r, OrdOk L l a b r ∧ e = .returned (.tuple #[.int .i64 r, .int .i64 0]) ∧ Below w.heap.size w w' := by
  subst hl
  refine (f31 A B L l a b c d w hn hc hm hd hr hs).mono ?_
  rintro e w' ⟨hb, ⟨h, _⟩ | ⟨r, h, rfl⟩⟩
  · exact absurd h hok
  · exact ⟨r, h, rfl, hb⟩
theorem tight_bnd {L : List I3} {l : List I4} {out : List I3} (hs : skOk (-1) L = true) (hok : TightOk L l out) {i : Nat} (hi : i < out.length) : -100000 ≤ out[i].2.1 ∧ out[i].2.2 ≤ 100000 ∧ inP out[i].1 := by
  have hiL : i < L.length := by rw [← hok.1]; exact hi
  have h1 := hok.2 i hiL hi
  have h2 := skOk_get hs i hiL
  have a := h1.2.2.1.1
  have b := h1.2.2.2.1.1
  have e := h1.1
  unfold inP
  omega
theorem st_ok {L : List I3} {l : List I4} {out : List I3} (hs : skOk (-1) L = true) (hok : TightOk L l out) {i : Nat} (hi : i < out.length) {t n : Int} (h1 : 0 ≤ t) (h2 : t < 120) (h3 : 1 ≤ n) (h4 : n ≤ 999) : stVal (t, out[i].1, n) = true := by
  have := (tight_bnd hs hok hi).2.2
  unfold inP at this
  unfold stVal
  simp only [Bool.and_eq_true, inB_iff]
  omega
set_option maxRecDepth 100000 in
set_option maxHeartbeats 2000000 in
theorem f8 (h10 : H10) (A B : Option Addr) (x : List I2) (y : List I3) (c d : Nat) (a b : I3) (w : World) (hn : x.length ≤ c) (hc : c ≤ 9223372036854775807) (hm : y.length ≤ d) (hd : d ≤ 9223372036854775807)
    (hw : ∀ s ∈ x, wf64 s.1 ∧ wf64 s.2) (hw2 : ∀ s ∈ y, wf64 s.1 ∧ wf64 s.2.1 ∧ wf64 s.2.2) (ha : wf64 a.1 ∧ wf64 a.2.1 ∧ wf64 a.2.2) (hb : wf64 b.1 ∧ wf64 b.2.1 ∧ wf64 b.2.2)
    (hr : SlR w w.heap.size 2 A x.length (x.flatMap c2)) (hr2 : SlR w w.heap.size 3 B y.length (y.flatMap c3)) :
    Calls Try.prog 8 #[.slice A x.length c, .slice B y.length d, .agg #[.int .i64 a.1, .int .i64 a.2.1, .int .i64 a.2.2], .agg #[.int .i64 b.1, .int .i64 b.2.1, .int .i64 b.2.2]] w fun e w' => e = .returned (.bool true) ∧ Below w.heap.size w w' := by
  obtain ⟨a0, a1, a2⟩ := a
  obtain ⟨b0, b1, b2⟩ := b
  obtain ⟨⟨ha01, ha02⟩, ⟨ha11, ha12⟩, _⟩ := ha
  obtain ⟨⟨hb01, hb02⟩, ⟨hb11, hb12⟩, _⟩ := hb
  simp only [] at ha01 ha02 ha11 ha12 hb01 hb02 hb11 hb12
  obtain ⟨i0, hi, _, _, _⟩ := info_parts Try.info43
  go_enter Try.func8, Try.ntmps8
  go_wp2_with fail
  have hq1 := (Blk.new w 31 [.int .i64 a0, .int .i64 a1, .int .i64 a2]).alloc (.cells #[.int .i64 b0, .int .i64 b1, .int .i64 b2] 31)
  have hq2 := Blk.new (w.alloc (.cells #[.int .i64 a0, .int .i64 a1, .int .i64 a2] 31)) 31 [.int .i64 b0, .int .i64 b1, .int .i64 b2]
  have hb0 := balloc (balloc (Below.refl w.heap.size w) (.cells #[.int .i64 a0, .int .i64 a1, .int .i64 a2] 31)) (.cells #[.int .i64 b0, .int .i64 b1, .int .i64 b2] 31)
  have hsz : (w.alloc (.cells #[.int .i64 a0, .int .i64 a1, .int .i64 a2] 31)).heap.size = w.heap.size + 1 := by simp
  rw [hsz] at hq2
  generalize ((w.alloc (.cells #[.int .i64 a0, .int .i64 a1, .int .i64 a2] 31)).alloc (.cells #[.int .i64 b0, .int .i64 b1, .int .i64 b2] 31)) = w0 at *
  clear hsz
  refine (h10 _).mono ?_
  rintro e w1 ⟨rfl, hb1⟩
  have hq1 := hq1.below hb1 hq1.lt
  have hq2 := hq2.below hb1 hq2.lt
  have hb1 := bthen hb0 hb1
  go_wp2_with fail
  refine (f22 A x c _ hn hc hw (hr.to hb1)).mono ?_
  rintro e w2 ⟨v, rfl, hown, hb2⟩
  obtain ⟨A', cv, rfl, hcv1, hcv2, hL⟩ := SlR.of_own hown
  have hq1 := hq1.below hb2 hq1.lt
  have hq2 := hq2.below hb2 hq2.lt
  have hb12 := bthen hb1 hb2
  have hsk := clocks_sk x
  have hle := clocks_le x
  have hr3 := (hr2.to hb12)
  clear hown hr hw hb1 hb2 hn hr2 hb0
  generalize clocks x = L at *
  go_wp2_with fail
  refine (f23 A' B L y cv d _ hcv1 (by simpa [maxLen] using hcv2) hm hd hle hw2 hL hr3).mono ?_
  rintro e w3 ⟨v, rfl, hown, hb3⟩
  obtain ⟨B', dv, rfl, hdv1, hdv2, hM⟩ := SlR.of_own hown
  have hq1 := hq1.below hb3 hq1.lt
  have hq2 := hq2.below hb3 hq2.lt
  have hb13 := bthen hb12 hb3
  have hL3 := hL.to hb3
  have hpr := meets_proper (y := y) hsk
  clear hown hr3 hw2 hb3 hL hm hb12
  generalize meets L y = l at *
  have HP := hide (And.intro hpr hsk)
  have h60 := (proper_sk hpr).2.1
  clear hpr hsk
  go_wp2_with fail
  refine (f24 A' B' L l cv dv _ hcv1 (by simpa [maxLen] using hcv2) hdv1 (by simpa [maxLen] using hdv2) hL3 hM).mono ?_
  rintro e w4 hT
  rcases hT with ⟨h, _⟩ | ⟨_, v, out, rfl, hown, hok, hb4⟩ | ⟨_, k, rfl, hkl, hbad, _, hb4⟩
  · rw [HP.out.1] at h; cases h
  · obtain ⟨C, cc, rfl, hcc1, hcc2, hO⟩ := SlR.of_own hown
    have hq1 := hq1.below hb4 hq1.lt
    have hq2 := hq2.below hb4 hq2.lt
    have hL4 := hL3.to hb4
    have hM4 := hM.to hb4
    have hb14 := bthen hb13 hb4
    have hlen := hok.1
    have HO := hide hok
    clear hown hok hL3 hM hb4 hb13
    rcases Nat.eq_zero_or_pos out.length with h0 | h0
    · have h01 : ((out.length : Int) == 0) = true := by rw [h0]; rfl
      have h02 : ((L.length : Int) == 0) = true := by rw [← hlen, h0]; rfl
      clear h0 hlen
      go_wp2_with fail
      go_ret
      exact ⟨rfl, hb14⟩
    · have h01 : ((out.length : Int) == 0) = false := beq_eq_false_iff_ne.2 (by omega)
      have h02 : ((out.length : Int) != (L.length : Int)) = false := by rw [hlen]; simp
      have Hlen := hide hlen
      have hol : out.length ≤ 6 := by omega
      have hp1 := pk_range a1 out.length (by omega)
      have hp2 := pk_range b1 out.length (by omega)
      obtain ⟨i, hie⟩ : ∃ q : Nat, pk a1 (out.length : Int) = q := ⟨(pk a1 (out.length : Int)).toNat, by omega⟩
      obtain ⟨k, hke⟩ : ∃ q : Nat, pk b1 (out.length : Int) = q := ⟨(pk b1 (out.length : Int)).toNat, by omega⟩
      have hio : i < out.length := by omega
      have hko : k < out.length := by omega
      have Hi := hide (And.intro hie hke)
      clear hie hke hp1 hp2 hlen
      obtain ⟨x0, x1, x2, _⟩ := hq1.all3
      obtain ⟨y0, y1, y2, _⟩ := hq2.all3
      go_upto_region 12 with (first | (go_at_call 15; refine (f15 _ _ _ (by omega) (by omega) (by omega) (by omega)).mono ?_; rintro e w' ⟨rfl, rfl⟩; first | rw [Hi.out.1] | rw [Hi.out.2]))
      obtain ⟨bo, oo, rfl, _, _⟩ := hO.2 (by omega)
      obtain ⟨X0, X1, X2⟩ := hO.bw3 hio
      obtain ⟨Y0, Y1, Y2⟩ := hO.bw3 hko
      have P0 : ∀ x : BW w4, x.val.cell? ⟨w.heap.size, 0, none⟩ = some (.int .i64 a0) := fun x => (hq1.below x.ok hq1.lt).all3.1
      have R0 : ∀ x : BW w4, x.val.cell? ⟨w.heap.size + 1, 0, none⟩ = some (.int .i64 b0) := fun x => (hq2.below x.ok hq2.lt).all3.1
      have hii : (i : Int) < (out.length : Int) := by omega
      have hki : (k : Int) < (out.length : Int) := by omega
      have hi0 : (0 : Int) ≤ (i : Int) := by omega
      have hk0 : (0 : Int) ≤ (k : Int) := by omega
      have hda := pk_range a0 120 (by omega)
      have hdb := pk_range b0 120 (by omega)
      obtain ⟨hda1, hda2⟩ := hda
      obtain ⟨hdb1, hdb2⟩ := hdb
      go_cut [16] (fun s wx => s = .pointer (some ⟨w4.heap.size, 0, none⟩) ∧ Blk wx w4.heap.size 24 [.int .i64 (pk a0 120), .int .i64 out[i].1, .int .i64 1] ∧ Below w4.heap.size w4 wx)
      case first =>
        have HS := hide (fun (W : World) (h : Below w4.heap.size w4 W) => (show W.cell? ⟨w.heap.size, 0, none⟩ = some (.int .i64 a0) ∧ W.cell? ⟨bo, oo + i * 3, none⟩ = some (.int .i64 out[i].1) ∧ Below w4.heap.size w4 W from ⟨P0 ⟨W, id h⟩, X0 ⟨W, id h⟩, h⟩))
        go_region_held3 (fun w' => w'.cell? ⟨w.heap.size, 0, none⟩ = some (.int .i64 a0) ∧ w'.cell? ⟨bo, oo + i * 3, none⟩ = some (.int .i64 out[i].1) ∧ Below w4.heap.size w4 w')
          (first | assumption | exact HS.out _ (bdrew (Below.refl _ _)) | exact HS.out _ (bdrew (balloc (Below.refl _ _) _)) | exact HS.out _ (balloc (bdrew (Below.refl _ _)) _) | (go_split_ands; first | exact HS.out _ (by assumption) | exact HS.out _ (balloc (by assumption) _) | exact HS.out _ (bset (by assumption) (Below.size (by assumption)) _)))
          ((go_at_call 15; refine (f15 _ _ _ (by omega) (by omega) (by omega) (by omega)).mono ?_; rintro e w' ⟨rfl, rfl⟩))
        all_goals
          go_wp2_with fail
          go_meet
          exact ⟨rfl, (Blk.new _ 24 [.int .i64 (pk a0 120), .int .i64 out[i].1, .int .i64 1]).drew, bdrew (balloc (Below.refl _ _) _)⟩
      case rest =>
        obtain ⟨rfl, hs1, hb5⟩ := hcut
        obtain ⟨w5, rfl⟩ : ∃ W : World, W = wc := ⟨_, rfl⟩
        go_upto_region 13 with (fail)
        go_cut [17] (fun s wx => s = .pointer (some ⟨w5.heap.size, 0, none⟩) ∧ Blk wx w5.heap.size 24 [.int .i64 (pk b0 120), .int .i64 out[k].1, .int .i64 2] ∧ Below w5.heap.size w5 wx)
        case first =>
          have HS := hide (fun (W : World) (h : Below w5.heap.size w5 W) => (show W.cell? ⟨w.heap.size + 1, 0, none⟩ = some (.int .i64 b0) ∧ W.cell? ⟨bo, oo + k * 3, none⟩ = some (.int .i64 out[k].1) ∧ Below w5.heap.size w5 W from ⟨R0 ⟨W, bthen hb5  h⟩, Y0 ⟨W, bthen hb5  h⟩, h⟩))
          go_region_held3 (fun w' => w'.cell? ⟨w.heap.size + 1, 0, none⟩ = some (.int .i64 b0) ∧ w'.cell? ⟨bo, oo + k * 3, none⟩ = some (.int .i64 out[k].1) ∧ Below w5.heap.size w5 w')
            (first | assumption | exact HS.out _ (bdrew (Below.refl _ _)) | exact HS.out _ (bdrew (balloc (Below.refl _ _) _)) | exact HS.out _ (balloc (bdrew (Below.refl _ _)) _) | (go_split_ands; first | exact HS.out _ (by assumption) | exact HS.out _ (balloc (by assumption) _) | exact HS.out _ (bset (by assumption) (Below.size (by assumption)) _)))
            ((go_at_call 15; refine (f15 _ _ _ (by omega) (by omega) (by omega) (by omega)).mono ?_; rintro e w' ⟨rfl, rfl⟩))
          all_goals
            go_wp2_with fail
            go_meet
            exact ⟨rfl, (Blk.new _ 24 [.int .i64 (pk b0 120), .int .i64 out[k].1, .int .i64 2]).drew, bdrew (balloc (Below.refl _ _) _)⟩
        case rest =>
          obtain ⟨rfl, hs2, hb6⟩ := hcut
          obtain ⟨w6, rfl⟩ : ∃ W : World, W = wc := ⟨_, rfl⟩
          have hs1 := hs1.below hb6 hs1.lt
          have hb46 := bthen hb5 hb6
          have hb16 := bthen hb14 hb46
          have hL6 := hL4.to hb46
          have hM6 := hM4.to hb46
          have hO6 := hO.to hb46
          have hsk := HP.out.2
          have hok := HO.out
          have hva : stVal (pk a0 120, out[i].1, 1) = true := st_ok hsk hok hio hda1 hda2 (by omega) (by omega)
          have hvb : stVal (pk b0 120, out[k].1, 2) = true := st_ok hsk hok hko hdb1 hdb2 (by omega) (by omega)
          have hnb1 : ∀ l', (∀ m ∈ l', m ∈ l) → proper L l' = true → ¬ OrdBad L l' (pk a0 120, out[i].1, 1) (pk b0 120, out[k].1, 2) := fun l' hsub hpr => ord_not_bad hsub hok hpr hio hko rfl rfl hva hvb
          have hnb2 := ord_not_bad (fun _ h => h) hok HP.out.1 hko hio (a := (pk b0 120, out[k].1, 2)) (b := (pk a0 120, out[i].1, 1)) rfl rfl hvb hva
          have hfi := (hok.2 i (by rw [← hok.1]; exact hio) hio)
          have hfk := (hok.2 k (by rw [← hok.1]; exact hko) hko)
          have hnf : ¬ FromBad l out[i].1 := by
            rw [hfi.1]
            obtain ⟨D, hD⟩ := hfi.2.1
            exact hD.not_bad
          have hX := hfi.2.2.2.2
          have hY := hfk.2.2.2.2
          have bX := tight_bnd hsk hok hio
          have bY := tight_bnd hsk hok hko
          obtain ⟨bX1, bX2, bX3⟩ := bX
          obtain ⟨bY1, bY2, bY3⟩ := bY
          have hpl := proper_pl HP.out.1
          have HN := hide (And.intro hnb1 (And.intro hnb2 (And.intro hnf (And.intro bX3 (And.intro bY3 hpl)))))
          clear hsk hok hva hvb hnb1 hnb2 hfi hfk hnf bX3 bY3 hpl hb5 hb6 hL4 hM4 hO hb14 hq1 hq2 P0 R0 X0 X1 X2 Y0 Y1 Y2 x0 x1 x2 y0 y1 y2
          have hsl1 := hs1.lt
          have hsl2 := hs2.lt
          obtain ⟨s0, s1, s2, _⟩ := hs1.all3
          obtain ⟨t0, t1, t2, _⟩ := hs2.all3
          go_wp2_with fail
          refine (f31v rfl A' B' L (pk a0 120, out[i].1, 1) (pk b0 120, out[k].1, 2) cv dv _ hcv1 (by simpa [maxLen] using hcv2) hdv1 (by simpa [maxLen] using hdv2) hL6 hM6 (HN.out.1 l (fun _ h => h) HP.out.1)).mono ?_
          rintro e w7 ⟨r, hr, rfl, hb7⟩
          have hc1 := ord_cert HP.out.2 HO.out hio hko rfl rfl hr
          have hs1 := hs1.below hb7 hs1.lt
          have hs2 := hs2.below hb7 hs2.lt
          clear s0 s1 s2 t0 t1 t2 hr
          have hsl1 := hs1.lt
          have hsl2 := hs2.lt
          obtain ⟨s0, s1, s2, _⟩ := hs1.all3
          obtain ⟨t0, t1, t2, _⟩ := hs2.all3
          go_wp2_with fail
          refine (f31v rfl A' B' L (pk b0 120, out[k].1, 2) (pk a0 120, out[i].1, 1) cv dv _ hcv1 (by simpa [maxLen] using hcv2) hdv1 (by simpa [maxLen] using hdv2) (hL6.to hb7) (hM6.to hb7) HN.out.2.1).mono ?_
          rintro e w8 ⟨r', hr', rfl, hb8⟩
          have hc2 := ord_cert HP.out.2 HO.out hko hio rfl rfl hr'
          have hs1 := hs1.below hb8 hs1.lt
          have hs2 := hs2.below hb8 hs2.lt
          have hb68 := bthen hb7 hb8
          have hL8 := hL6.to hb68
          have hM8 := hM6.to hb68
          have hO8 := hO6.to hb68
          have hb18 := bthen hb16 hb68
          clear s0 s1 s2 t0 t1 t2 hr' hL6 hM6 hO6 hb7 hb8 hb16
          have hneg := cert_neg HN.out.2.2.1 hX hY hc1 (by have e : -(pk a0 120 - pk b0 120) = pk b0 120 - pk a0 120 := by omega
                                                           simp only [] at hc2 ⊢
                                                           rw [e]; exact hc2)
          obtain ⟨hn1, hn2, hn3⟩ := hneg
          have hr'1 : -1 ≤ r' := by omega
          have hr'2 : r' ≤ 1 := by omega
          have q1 : (r != -r') = false := by rw [hn1]; simp
          have q2 : decide (r < -1) = false := decide_eq_false (by omega)
          have q3 : decide (1 < r) = false := decide_eq_false (by omega)
          have HC := hide hc1
          clear hc1 hc2 hn1
          obtain ⟨z0, z1, z2⟩ := hO8.bw3 hio
          obtain ⟨u0, u1, u2⟩ := hO8.bw3 hko
          have z1' := z1 ⟨_, Below.refl _ _⟩
          simp only [] at z1'
          go_wp2_with fail
          go_loopw [22, 23, 24] (fun le mo v wr => ∃ v' least most : Int, out[i].2.1 ≤ v' ∧ v' ≤ out[i].2.2 + 1 ∧ v = .int .i64 v' ∧ le = .int .i64 least ∧ mo = .int .i64 most ∧ Lm l out[i] out[k] (pk a0 120 - pk b0 120) v' least most ∧ Below w8.heap.size w8 wr) (fun _ _ v _ => (out[i].2.2 + 1 - intOf v).toNat)
          case atStart => exact ⟨_, _, _, Int.le_refl _, by omega, rfl, rfl, rfl, .inl ⟨rfl, rfl, rfl⟩, Below.refl _ _⟩
          case round =>
            obtain ⟨v, least, most, hv1, hv2, rfl, rfl, rfl, hLm, hbr⟩ := hrel
            have hs1r := hs1.below hbr hs1.lt
            have hs2r := hs2.below hbr hs2.lt
            have z0' := z0 ⟨_, hbr⟩
            have z1' := z1 ⟨_, hbr⟩
            have z2' := z2 ⟨_, hbr⟩
            simp only [] at z0' z1' z2'
            by_cases hle2 : v ≤ out[i].2.2
            · go_wp2_with fail
              refine (f34 A' B' l L.length cv dv out[i].1 v _ HN.out.2.2.2.2.2 h60 HN.out.2.2.2.1 ⟨by omega, by omega⟩ (hM8.to hbr)).mono ?_
              rintro e w9 ⟨os, ks, b, rfl, hres, g1, g2, hb9⟩
              rcases hres with ⟨rfl, hsp⟩ | ⟨_, hbad⟩
              · have hb89 := bthen hbr hb9
                have y0 := u0 ⟨_, hb89⟩
                have y1 := u1 ⟨_, hb89⟩
                have y2 := u2 ⟨_, hb89⟩
                simp only [] at y0 y1 y2
                have hinY := HN.out.2.2.2.2.1
                have c1 := blkB g2 hsp.2.1 hinY
                have c2 := blkI g1 hsp.1 hinY
                have hs1n := hs1r.below hb9 hs1r.lt
                have hs2n := hs2r.below hb9 hs2r.lt
                have hfol := spread_fol (Y := out[k]) hsp hinY
                have hsb := fun n hn => spread_path hsp hinY (n := n) hn
                have hvb := fun (h : kn ks out[k].1 = true) => hsp.2.2.2.2 out[k].1 hinY h
                have hbd := Lm.bnd hsb (show -1000 ≤ pk a0 120 - pk b0 120 ∧ pk a0 120 - pk b0 120 ≤ 1000 by omega) ⟨by omega, by omega⟩ ⟨by omega, by omega⟩ ⟨by omega, by omega⟩ hY hLm
                obtain ⟨bd1, bd2, bd3, bd4⟩ := hbd
                have hst := fun lo hi u t h1 h2 h3 h4 h5 => Lm.step' (lo := lo) (hi := hi) (u := u) (t := t) HN.out.2.2.1 hv1 h1 hY h2 hLm h3 h4 h5
                have HS := hide (And.intro hst hfol)
                obtain ⟨iy1, iy2⟩ := hinY
                have lt1 := hs1n.lt
                have lt2 := hs2n.lt
                have lt3 := g1.lt
                have lt4 := g2.lt
                obtain ⟨s0, s1, s2, _⟩ := hs1n.all3
                obtain ⟨t0, t1, t2, _⟩ := hs2n.all3
                clear hsp hLm hfol hst hsb g1 g2 hs1n hs2n hs1r hs2r z0' z1' z2'
                cases hk1 : kn ks out[k].1
                · rw [hk1] at HS
                  simp only [Bool.false_eq_true, if_false] at HS
                  clear hvb
                  go_wp2_with fail
                  go_roundw
                  case rel =>
                    refine ⟨v + 1, _, _, by omega, by omega, rfl, rfl, rfl, ?_, hb89⟩
                    exact HS.out.1 _ _ _ _ ⟨by omega, by omega⟩ hY HS.out.2 (by omega) (by omega)
                  case measure => simp [intOf]; omega
                · rw [hk1] at HS
                  simp only [if_true] at HS
                  obtain ⟨hvb1, hvb2⟩ := hvb hk1
                  clear hvb
                  go_wp2_with fail
                  go_roundw
                  case rel =>
                    refine ⟨v + 1, _, _, by omega, by omega, rfl, rfl, rfl, ?_, hb89⟩
                    exact HS.out.1 _ _ _ _ ⟨by omega, by omega⟩ (Int.le_refl _) HS.out.2 (by omega) (by omega)
                  case measure => simp [intOf]; omega
              · exact absurd hbad HN.out.2.2.1
            · have hve : v = out[i].2.2 + 1 := by omega
              rw [hve] at hLm
              have hd := Lm.done HN.out.2.2.1 hX hY hLm HC.out
              have q5 := hd.1
              have q6 := hd.2
              clear hd hLm hve
              go_wp2_with fail
              go_loopw [30] (fun i wr => ∃ q : Nat, q ≤ l.length ∧ i = .int .i64 q ∧ Below w8.heap.size w8 wr) (fun i _ => l.length - (intOf i).toNat)
              case atStart => exact ⟨0, Nat.zero_le _, rfl, hbr⟩
              case round =>
                clear hs1r hs2r z0' z1' z2' hbr
                obtain ⟨q, hq, rfl, hbr⟩ := hrel
                by_cases hlt : q < l.length
                · obtain ⟨A2, hsl2', hr2'⟩ := hM8.cutHi hdv1 hq 46 43 i0 Try.underlying46 hi
                  rw [flat_take c4 4 (fun _ => rfl)] at hsl2'
                  have hlj : (l.take q).length = q := by rw [List.length_take]; omega
                  have hqi : (q : Int) < (l.length : Int) := by omega
                  have hq0 : (0 : Int) ≤ (q : Int) := by omega
                  have HW := hide (fun (W : World) (h : Below w8.heap.size w8 W) => (show (W.cell? ⟨w4.heap.size, 0, none⟩ = some (.int .i64 (pk a0 120)) ∧ W.cell? ⟨w4.heap.size, 1, none⟩ = some (.int .i64 out[i].1) ∧ W.cell? ⟨w4.heap.size, 2, none⟩ = some (.int .i64 1)) ∧ (W.cell? ⟨w5.heap.size, 0, none⟩ = some (.int .i64 (pk b0 120)) ∧ W.cell? ⟨w5.heap.size, 1, none⟩ = some (.int .i64 out[k].1) ∧ W.cell? ⟨w5.heap.size, 2, none⟩ = some (.int .i64 2)) ∧ Below w8.heap.size w8 W from
                    ⟨⟨(hs1.below h hs1.lt).all3.1, (hs1.below h hs1.lt).all3.2.1, (hs1.below h hs1.lt).all3.2.2.1⟩, ⟨(hs2.below h hs2.lt).all3.1, (hs2.below h hs2.lt).all3.2.1, (hs2.below h hs2.lt).all3.2.2.1⟩, h⟩))
                  have HJ := hide hlj
                  clear hlj
                  go_wp2_with fail
                  go_region_held3 (fun W => (W.cell? ⟨w4.heap.size, 0, none⟩ = some (.int .i64 (pk a0 120)) ∧ W.cell? ⟨w4.heap.size, 1, none⟩ = some (.int .i64 out[i].1) ∧ W.cell? ⟨w4.heap.size, 2, none⟩ = some (.int .i64 1)) ∧ (W.cell? ⟨w5.heap.size, 0, none⟩ = some (.int .i64 (pk b0 120)) ∧ W.cell? ⟨w5.heap.size, 1, none⟩ = some (.int .i64 out[k].1) ∧ W.cell? ⟨w5.heap.size, 2, none⟩ = some (.int .i64 2)) ∧ Below w8.heap.size w8 W)
                    (first | assumption | exact HW.out _ (bdrew hbr) | exact HW.out _ (by assumption) | (go_split_ands; first | exact HW.out _ (by assumption) | exact HW.out _ (bthen (by assumption) (by assumption))))
                    ((go_at_call 31; go_split_ands; refine (f31v HJ.out A' A2 L (pk a0 120, out[i].1, 1) (pk b0 120, out[k].1, 2) cv dv _ hcv1 (by simpa [maxLen] using hcv2) (by omega) (by simpa [maxLen] using hdv2) (hL8.to (by assumption)) (hsl2'.to (by assumption)) (HN.out.1 _ (fun m hm => List.mem_of_mem_take hm) (proper_take HP.out.1 q))).mono ?_; rintro e w' ⟨r2, hr2, rfl, hbz⟩))
                  have hst := ord_prefix HP.out.2 (fun m hm => List.mem_of_mem_take hm) HO.out hio hko rfl rfl HC.out hr2
                  have hbz2 : Below w8.heap.size w8 w' := by (go_split_ands; assumption)
                  clear hr2
                  rcases hst with rfl | rfl
                  · go_wp2_with fail
                    go_roundw
                    case rel => exact ⟨q + 1, by omega, by go_num, hbz2⟩
                    case measure => simp [intOf]; omega
                  · cases q7 : (r2 != 0)
                    all_goals
                      go_wp2_with fail
                      go_roundw
                      case rel => exact ⟨q + 1, by omega, by go_num, hbz2⟩
                      case measure => simp [intOf]; omega
                · go_wp2_with fail
                  go_ret
                  exact ⟨rfl, bthen hb18 hbr⟩
  · have hb14 := bthen hb13 hb4
    have hk0 : (0 : Int) ≤ (k : Int) := by omega
    clear hbad
    go_wp2_with fail
    go_ret
    exact ⟨rfl, hb14⟩
end Go.Proofs.Ytenhghkiapkejaa
