/- Replica: the law of histories. -/
import Derived.Test.YtcfbgelhggapjaaGreatDoorQ18
import Derived.Test.YtcfbgelhggapjaaGreatDoorQ17
namespace Go.Proofs.YtcfbgelhggapjaaGreatDoor
open Go.RowKit Go.Shelf
set_option linter.unusedSimpArgs false in
set_option maxRecDepth 100000 in
set_option maxHeartbeats 16000000 in
theorem c_Histories (A : Option Addr) (N c : Nat) (xs : List I4) (w : World) (hR : RL w) (hN : N ≤ 9223372036854775807) (hx : ∀ x ∈ xs, ok4 x) (hl : xs.length = N) (hr : SlR w w.heap.size 4 A xs.length (xs.flatMap c4)) :
    Calls Tryz.prog 7 #[.slice A N c] w fun e w' => e = .returned (.bool true) ∧ Below w.heap.size w w' := by
  have hw0 := hR.lt
  have HRw := hide hR
  have HX := hide (And.intro hx (And.intro hl hr))
  clear hx hl hr
  go_enter Tryz.func7, Tryz.ntmps7
  go_upto_region 2 with (go_at_call 10; refine (c_lsane w HRw.out).mono ?_; rintro e w1 ⟨rfl, hb1⟩; have HB1 := hide hb1; clear hb1)
  go_upto_region 5 with (go_at_call 11; refine (c_Made A N c xs w1 hN HX.out.1 HX.out.2.1 (HX.out.2.2.to' HB1.out)).mono ?_; rintro e w2 ⟨rfl, hT, hb2⟩; have HT := hide hT; have HB2 := hide (And.intro hb2 (And.intro (bthen HB1.out hb2) (HRw.out.to' (bthen HB1.out hb2)))); clear hb2 hT)
  obtain ⟨l0, hl0⟩ : ∃ l0, (madL xs)[0]! = l0 := ⟨_, rfl⟩
  obtain ⟨l1, hl1⟩ : ∃ l1, (madL xs)[1]! = l1 := ⟨_, rfl⟩
  obtain ⟨r, hm, hv, hrl, hvr, hq0, hq1⟩ := hist_mad xs
  rw [hl0, hl1] at hm
  rw [hl0] at hq0
  rw [hl1] at hq1
  obtain ⟨n0, hn0⟩ : ∃ n, l0.length = n := ⟨_, rfl⟩
  obtain ⟨n1, hn1⟩ : ∃ n, l1.length = n := ⟨_, rfl⟩
  obtain ⟨n, hn⟩ : ∃ n, r.length = n := ⟨_, rfl⟩
  obtain ⟨A0, c0, k0, k0', h0⟩ := HT.out.bx (k := 0) (by omega) hl0 hn0
  obtain ⟨A1, c1, k1, k1', h1⟩ := HT.out.bx (k := 1) (by omega) hl1 hn1
  rw [hn0] at hq0
  rw [hn1] at hq1
  rw [hn] at hrl
  have HM := hide (And.intro hm (And.intro hv (And.intro hvr hn)))
  have H01 : Hid (∀ W, Below w2.heap.size w2 W → (W.cell? ⟨w1.heap.size, 0, none⟩ = some (.int .i64 0) ∧ W.cell? ⟨w1.heap.size, 1, none⟩ = some (.slice A0 n0 c0) ∧ w1.heap.size < W.heap.size ∧ SlR W W.heap.size 7 A0 n0 (l0.flatMap cR)) ∧ (W.cell? ⟨w1.heap.size, 2, none⟩ = some (.int .i64 1) ∧ W.cell? ⟨w1.heap.size, 3, none⟩ = some (.slice A1 n1 c1) ∧ w1.heap.size < W.heap.size ∧ SlR W W.heap.size 7 A1 n1 (l1.flatMap cR)) ∧ RL W) := hide (fun W h => ⟨h0 W h, h1 W h, HB2.out.2.2.to' h⟩)
  clear h0 h1 hl0 hl1 hn0 hn1 hm hv hvr hn
  have hg2 : w1.heap.size < w2.heap.size := (H01.out w2 (Below.refl _ _)).1.2.2.1
  have HS : Hid (∀ W, Below w2.heap.size w2 W → W.cell? ⟨w1.heap.size, 0, none⟩ = some (.int .i64 0) ∧ W.cell? ⟨w1.heap.size, 1, none⟩ = some (.slice A0 n0 c0) ∧ W.cell? ⟨w1.heap.size, 2, none⟩ = some (.int .i64 1) ∧ W.cell? ⟨w1.heap.size, 3, none⟩ = some (.slice A1 n1 c1) ∧ Below w2.heap.size w2 W) := hide (fun W h => by
    obtain ⟨g1, g2, -⟩ := H01.out W h
    exact ⟨g1.1, g1.2.1, g2.1, g2.2.1, h⟩)
  have HGv : Hid (∀ W, Below w2.heap.size w2 W → Calls Tryz.prog 26 #[.agg #[.int .i64 0, .slice A0 n0 c0], .agg #[.int .i64 1, .slice A1 n1 c1]] W (RepPost 0 (some r) W)) := hide (fun W h => by
    obtain ⟨g1, g2, g3⟩ := H01.out W h
    have := c_pMerge 0 A0 n0 c0 l0 1 A1 n1 c1 l1 W g3 (by omega) (by omega) g1.2.2.2 g2.2.2.2
    rw [HM.out.1] at this
    exact this)
  go_cut [5, 6] from 22 to 31 (fun v u wx => BxCut 0 r n w2 v u wx)
  case first =>
    go_region_held3 (fun W => W.cell? ⟨w1.heap.size, 0, none⟩ = some (.int .i64 0) ∧ W.cell? ⟨w1.heap.size, 1, none⟩ = some (.slice A0 n0 c0) ∧ W.cell? ⟨w1.heap.size, 2, none⟩ = some (.int .i64 1) ∧ W.cell? ⟨w1.heap.size, 3, none⟩ = some (.slice A1 n1 c1) ∧ Below w2.heap.size w2 W)
      (first | exact HS.out _ (by assumption) | exact HS.out _ (bdrew (Below.refl _ _)) | exact HS.out _ h8 | exact HS.out _ (balloc h8 _) | exact HS.out _ (bset (bset h8 (Nat.le_refl _) _) (Nat.le_refl _) _) | (go_split_ands; first | exact HS.out _ (by assumption) | exact HS.out _ (bthen (by assumption) (by assumption)) | exact HS.out _ (balloc (by assumption) _) | exact HS.out _ (bdrew (balloc (Below.refl _ _) _)) | exact HS.out _ (balloc (bthen (by assumption) (by assumption)) _)))
      ((go_split_ands; go_at_call 26; refine (HGv.out _ (by assumption)).mono ?_; rintro e w8 hp; obtain ⟨hb8, A8, c8, rfl, hk1, hk2, hsn⟩ := RepPost.some' HM.out.2.2.2 hp; clear hp; have h8 : Below w2.heap.size w2 w8 := bthen (by assumption) hb8; (try (obtain ⟨q0, q1, q2, q3⟩ := (((Blk.new w2 25 [.int .i64 0, .slice none 0 0]).drew).below hb8 (by simp)).all2; have q4 : w2.heap.size < w8.heap.size := (((Blk.new w2 25 [.int .i64 0, .slice none 0 0]).drew).below hb8 (by simp)).lt))))
    all_goals
      go_wp2_with fail
      go_meet
      first | exact BxCut.late h8 hsn hk1 hk2 | exact BxCut.early hb8 (by simpa using hsn) hk1 hk2
  case rest =>
    obtain ⟨w5, rfl⟩ : ∃ w5, w5 = wc := ⟨_, rfl⟩
    obtain ⟨b5, A5, c5, rfl, rfl, hle5, hB5, hb25⟩ := hcut
    clear HS HGv
    have H5 := hide hB5
    have HB5 := hide hb25
    clear hB5 hb25
    have hk5 := H5.out.hnc
    have hk5' := H5.out.hc
    obtain ⟨x0, x1, x2⟩ := H5.out.cells
    obtain ⟨nf, hnf⟩ : ∃ n, (foldL r).length = n := ⟨_, rfl⟩
    have HNf := hide hnf
    clear hnf
    go_wp2_with (go_at_call 13; refine (c_pFold 0 A5 n c5 r w5 (H01.out w5 HB5.out).2.2 (by omega) H5.out.slr).mono ?_; rintro e w6 hp; rw [HM.out.2.2.1, if_pos rfl] at hp; obtain ⟨hb, A7, c7, rfl, hk7, hk7', hsn⟩ := BehPost.some' HNf.out hp; clear hp x0 x1 x2; have HB6 := hide hb; have H6 : Hid (∀ W, Below w6.heap.size w6 W → Bx W b5 0 A5 n c5 r ∧ SlR W W.heap.size 7 A7 nf ((foldL r).flatMap cR) ∧ RL W) := hide (fun W h => ⟨H5.out.to (bthen hb h), hsn.1.to' h, (H01.out W (bthen HB5.out (bthen hb h))).2.2⟩); clear hb hsn; obtain ⟨x0, x1, x2⟩ := (H6.out w6 (Below.refl _ _)).1.cells)
    go_loopw [9, 10, 11] (fun mm hh i W => ∃ k m h : Nat, k ≤ n ∧ i = .int .i64 k ∧ mm = .int .i64 m ∧ hh = .int .i64 h ∧ m ≤ k * 24 ∧ h ≤ k ∧ Hid (manyF r (r.take k) = m ∧ holdF r (r.take k) = h) ∧ Below w6.heap.size w6 W) (fun _ _ i _ => n - (intOf i).toNat)
    case atStart => exact ⟨0, 0, 0, Nat.zero_le _, rfl, rfl, rfl, Nat.zero_le _, Nat.zero_le _, hide ⟨rfl, rfl⟩, Below.refl _ _⟩
    case round =>
      clear x0 x1 x2
      obtain ⟨k, m, hh, hk, rfl, rfl, rfl, hm24, hh24, hmh, hbW⟩ := hrel
      obtain ⟨wo, rfl⟩ : ∃ wo, wo = wr := ⟨_, rfl⟩
      obtain ⟨g5, g7, gR⟩ := H6.out wo hbW
      obtain ⟨x0, x1, x2⟩ := g5.cells
      by_cases hlt : k < n
      · have hki : (k : Int) < (n : Int) := by omega
        have hkl : k < r.length := by have := HM.out.2.2.2; omega
        obtain ⟨b, off, rfl, hbb⟩ := g5.slr.some_of (by omega)
        have hslr := g5.slr
        obtain ⟨-, v0, v1, v2, v3, v4, v5, v6⟩ := hslr.cellsR (Below.refl _ _) hkl
        have HO := hide (hist_ok HM.out.2.1 (List.getElem_mem hkl))
        have HT1 := hide (And.intro (show manyF r (r.take (k + 1)) = manyF r (r.take k) + _ by rw [List.take_succ_eq_append_getElem hkl, manyF_snoc]) (show holdF r (r.take (k + 1)) = holdF r (r.take k) + _ by rw [List.take_succ_eq_append_getElem hkl, holdF_snoc]))
        have HC1 : Hid (∃ A', SlR wo wo.heap.size 7 A' 1 ([r[k]'hkl].flatMap cR) ∧ ∀ w, (Instr.slice 23 (.slice (some ⟨b, off, none⟩) n c5) (some (.int .i64 (k : Int))) (some (.int .i64 ((k : Int) + 1))) none).run Tryz.prog w = .ok (.slice A' 1 (c5 - k)) w) := hide (cut_one g5.slr hk5 hkl)
        generalize r[k]'hkl = x at *
        obtain ⟨rp, rn, rt, ro, rw', rk, rx⟩ := x
        dsimp only at v0 v1 v2 v3 v4 v5 v6
        obtain ⟨h, hfam⟩ : ∃ h, famL r (keyR (rootR r ⟨rp, rn, rt, ro, rw', rk, rx⟩)) = h := ⟨_, rfl⟩
        rw [hfam] at HO
        clear hfam
        obtain ⟨nh, hnh⟩ : ∃ n, h.length = n := ⟨_, rfl⟩
        have hpos : 0 < nh := by rw [← hnh]; exact HO.out.pos
        have hfew : nh ≤ n := by rw [← hnh, ← HM.out.2.2.2]; exact HO.out.few
        have hist : histL r (rp, rn) = some h := HO.out.hist
        have HHi := hide hist
        have HNh := hide hnh
        have HB := hide hbW
        obtain ⟨A', hA', hcut⟩ := HC1.out
        have HA' := hide hA'
        clear hist hnh hbW g5 g7 gR hslr hA' HC1
        go_upto_region 15 with (fail)
        have g12 := Blk.new wo 49 [.int .i64 rp, .int .i64 rn, .int .i64 rt, .int .i64 ro, .int .i64 rw', .int .i64 rk, .string rx]
        have hb7 := balloc (Below.refl wo.heap.size wo) (.cells #[.int .i64 rp, .int .i64 rn, .int .i64 rt, .int .i64 ro, .int .i64 rw', .int .i64 rk, .string rx] 49)
        generalize wo.alloc (.cells #[.int .i64 rp, .int .i64 rn, .int .i64 rt, .int .i64 ro, .int .i64 rw', .int .i64 rk, .string rx] 49) = w7 at *
        have H12 := hide g12
        have HB7 := hide hb7
        obtain ⟨z0, z1, z2, z3, z4, z5, z6⟩ := g12.all7
        have hz := g12.lt
        clear g12 hb7 v0 v1 v2 v3 v4 v5 v6 x0 x1 x2 z4 z5 z6
        have HW7 := hide (bthen HB.out HB7.out)
        obtain ⟨x0, x1, x2⟩ := (H6.out w7 HW7.out).1.cells
        go_upto_region 16 with (go_at_call 24; refine (c_pHistory 0 (some ⟨b, off, none⟩) n c5 r rp rn w7 (H6.out w7 HW7.out).2.2 (by omega) (H6.out w7 HW7.out).1.slr).mono ?_; rintro e w8 hp; rw [HM.out.2.2.1, if_pos rfl, HHi.out] at hp; obtain ⟨hb, A8, c8, rfl, hk8, hk8', hsn⟩ := BehPost.some' HNh.out hp; clear hp x0 x1 x2 z0 z1 z2 z3 hz; have HB8 := hide (bthen HB7.out hb); have H8 : Hid (∀ W, Below w8.heap.size w8 W → (Bx W b5 0 (some ⟨b, off, none⟩) n c5 r ∧ SlR W W.heap.size 7 A7 nf ((foldL r).flatMap cR)) ∧ SlR W W.heap.size 7 A8 nh (h.flatMap cR) ∧ SlR W W.heap.size 7 A' 1 ([(⟨rp, rn, rt, ro, rw', rk, rx⟩ : Rc)].flatMap cR) ∧ Blk W wo.heap.size 49 [.int .i64 rp, .int .i64 rn, .int .i64 rt, .int .i64 ro, .int .i64 rw', .int .i64 rk, .string rx]) := hide (fun W h => ⟨⟨(H6.out W (bthen HW7.out (bthen hb h))).1, (H6.out W (bthen HW7.out (bthen hb h))).2.1⟩, hsn.1.to' h, HA'.out.to' (bthen HB7.out (bthen hb h)), H12.out.below (bthen hb h) H12.out.lt⟩); clear hb hsn)
        have HKa : Hid (∀ W, Below w8.heap.size w8 W → Calls Tryz.prog 37 #[.slice A8 nh c8, .slice A' 1 (c5 - k)] W fun e w' => e = .returned (.bool true) ∧ Below W.heap.size W w') := hide (fun W hW => by
          obtain ⟨g1, g2, g3, g4⟩ := H8.out W hW
          have := c_lkeeps A8 nh c8 h A' 1 (c5 - k) [(⟨rp, rn, rt, ro, rw', rk, rx⟩ : Rc)] W (by omega) (by omega) g2 g3
          rw [HO.out.k1] at this
          exact this)
        have HKb : Hid (∀ W, Below w8.heap.size w8 W → Calls Tryz.prog 37 #[.slice (some ⟨b, off, none⟩) n c5, .slice A8 nh c8] W fun e w' => e = .returned (.bool true) ∧ Below W.heap.size W w') := hide (fun W hW => by
          obtain ⟨g1, g2, g3, g4⟩ := H8.out W hW
          have := c_lkeeps (some ⟨b, off, none⟩) n c5 r A8 nh c8 h W (by omega) (by omega) g1.1.slr g2
          rw [HO.out.k2] at this
          exact this)
        obtain ⟨b8, off8, rfl, hbb8⟩ := (H8.out w8 (Below.refl _ _)).2.1.some_of hpos
        have HC8 : Hid (∀ W, Below w8.heap.size w8 W → W.cell? ⟨b8, off8 + 3, none⟩ = some (.int .i64 (-1)) ∧ b8 < W.heap.size) := hide (fun W hW => by
          have h1 : 0 < h.length := by have := HNh.out; omega
          have := (H8.out W hW).2.1.cellsR (Below.refl _ _) h1
          have h3 := this.2.2.2.2.1
          rw [HO.out.head h1, Nat.zero_mul, Nat.add_zero] at h3
          exact ⟨h3, Nat.lt_of_lt_of_le hbb8 hW.size⟩)
        obtain ⟨x0, x1, x2⟩ := (H8.out w8 (Below.refl _ _)).1.1.cells
        have hnz : ¬ ((nh : Int) = 0) := by omega
        go_upto_region 18 with (go_at_call 37; first | (with_reducible refine (HKa.out _ (Below.refl _ _)).mono ?_; rintro e w9 ⟨rfl, hb⟩; have HB9 := hide hb; clear hb x0 x1 x2; obtain ⟨x0, x1, x2⟩ := (H8.out w9 HB9.out).1.1.cells) | (with_reducible refine (HKb.out _ HB9.out).mono ?_; rintro e w10 ⟨rfl, hb⟩; have HB10 := hide (bthen HB9.out hb); clear hb x0 x1 x2; obtain ⟨y0, y1⟩ := HC8.out w10 HB10.out))
        clear y0 y1 hcut HKa HKb
        go_wp2_with fail
        go_loopw [15] (fun j W => ∃ jj : Nat, 1 ≤ jj ∧ jj ≤ nh ∧ j = .int .i64 jj ∧ Below w10.heap.size w10 W) (fun j _ => nh - (intOf j).toNat)
        case atStart => exact ⟨1, Nat.le_refl _, hpos, rfl, Below.refl _ _⟩
        case round =>
          obtain ⟨j, hj1, hjn, rfl, hbX⟩ := hrel
          obtain ⟨wx, rfl⟩ : ∃ wx, wx = wr := ⟨_, rfl⟩
          by_cases hjl : j < nh
          · have hji : (j : Int) < (nh : Int) := by omega
            have hjh : j < h.length := by have := HNh.out; omega
            have HNx := hide (HO.out.next j (by omega) hjh)
            have HY : Hid (∀ W, Below wx.heap.size wx W → SlR W W.heap.size 7 (some ⟨b8, off8, none⟩) nh (h.flatMap cR)) := hide (fun W hW => (H8.out W (bthen (bthen HB10.out hbX) hW)).2.1)
            have HCy : Hid (∀ W, Below wx.heap.size wx W → _) := hide (fun W hW => ((HY.out W hW).cellsR (Below.refl _ _) hjh).2)
            have HCz : Hid (∀ W, Below wx.heap.size wx W → _) := hide (fun W hW => ((HY.out W hW).cellsR (Below.refl _ _) (show j - 1 < h.length by omega)).2)
            have hb8x : b8 < wx.heap.size := Nat.lt_of_lt_of_le hbb8 (bthen HB10.out hbX).size
            generalize h[j]'hjh = y at *
            generalize h[j - 1]'(by omega) = z at *
            obtain ⟨yp, yn, yt, yo, yw, yk, yx⟩ := y
            obtain ⟨zp, zn, zt, zo, zw, zk, zx⟩ := z
            dsimp only at HCy HCz HNx
            obtain ⟨o, ho⟩ : ∃ o, ofR h ⟨yp, yn, yt, yo, yw, yk, yx⟩ = o := ⟨_, rfl⟩
            rw [ho] at HNx
            have HOf := hide ho
            clear ho
            obtain ⟨op, on, ot, oo, ow, ok, ox⟩ := o
            have hyo : 0 ≤ yo := HNx.out.1
            have hyo' : ¬ yo < 0 := by omega
            have eaj : ((j : Int) - 1).toNat = j - 1 := by omega
            have paj : (1 : Int) ≤ (j : Int) := by omega
            have baj : (j : Int) ≤ (nh : Int) := by omega
            have caj : (j : Int) ≤ (c8 : Int) := by omega
            have qaj : (0 : Int) ≤ (j : Int) - 1 := by omega
            have daj : (j : Int) - 1 < (nh : Int) := by omega
            have raj : IntKind.i64.wrap ((j : Int) - 1) = (j : Int) - 1 := i64w (by omega) (by omega)
            have hdy : decide (yo < 0) = false := decide_eq_false hyo'
            have hBf : ∀ W : World, Calls Tryz.prog 39 #[.agg #[.int .i64 yp, .int .i64 yn, .int .i64 yt, .int .i64 yo, .int .i64 yw, .int .i64 yk, .string yx], .agg #[.int .i64 zp, .int .i64 zn, .int .i64 zt, .int .i64 zo, .int .i64 zw, .int .i64 zk, .string zx]] W fun e w' => e = .returned (.bool false) ∧ Below W.heap.size W w' := fun W => by
              have := c_rBefore ⟨yp, yn, yt, yo, yw, yk, yx⟩ ⟨zp, zn, zt, zo, zw, zk, zx⟩ W
              rw [HNx.out.2.1] at this
              exact this
            have hOf : Hid (∀ W, Below wx.heap.size wx W → Calls Tryz.prog 40 #[.slice (some ⟨b8, off8, none⟩) nh c8, .agg #[.int .i64 yp, .int .i64 yn, .int .i64 yt, .int .i64 yo, .int .i64 yw, .int .i64 yk, .string yx]] W fun e w' => e = .returned (.agg #[.int .i64 op, .int .i64 on, .int .i64 ot, .int .i64 oo, .int .i64 ow, .int .i64 ok, .string ox]) ∧ Below W.heap.size W w') := hide (fun W hW => by
              have := c_lof (some ⟨b8, off8, none⟩) nh c8 h ⟨yp, yn, yt, yo, yw, yk, yx⟩ W (by omega) (HY.out W hW)
              rw [HOf.out] at this
              exact this)
            have hKp : Hid (∀ u, Below wx.heap.size wx u → Calls Tryz.prog 37 #[.slice (some ⟨b8, off8, none⟩) j c8, .slice (some ⟨u.heap.size, 0, none⟩) 1 1] (u.alloc (.cells #[.int .i64 op, .int .i64 on, .int .i64 ot, .int .i64 oo, .int .i64 ow, .int .i64 ok, .string ox] 49)) fun e w' => e = .returned (.bool true) ∧ Below u.heap.size u w') := hide (fun u hu => by
              have hb := balloc (Below.refl u.heap.size u) (.cells #[.int .i64 op, .int .i64 on, .int .i64 ot, .int .i64 oo, .int .i64 ow, .int .i64 ok, .string ox] 49)
              have hsw := (Blk.new u 49 [.int .i64 op, .int .i64 on, .int .i64 ot, .int .i64 oo, .int .i64 ow, .int .i64 ok, .string ox]).slr (k := 7) (n := 1) rfl
              have h2 := (HY.out _ (bthen hu hb)).upto (m := j) (by omega)
              rw [flatR_take] at h2
              have := c_lkeeps (some ⟨b8, off8, none⟩) j c8 (h.take j) (some ⟨u.heap.size, 0, none⟩) 1 1 [⟨op, on, ot, oo, ow, ok, ox⟩] _ (by omega) (by omega) h2 hsw
              rw [HNx.out.2.2] at this
              exact this.mono fun e w' hh => ⟨hh.1, bthen hb hh.2⟩)
            have HX2 := hide hbX
            clear hbX
            go_wp2_with fail
            have HS : Hid (∀ W, Below wx.heap.size wx W → W.cell? ⟨b8, off8 + j * 7, none⟩ = some (.int .i64 yp) ∧ W.cell? ⟨b8, off8 + j * 7 + 1, none⟩ = some (.int .i64 yn) ∧ W.cell? ⟨b8, off8 + j * 7 + 2, none⟩ = some (.int .i64 yt) ∧ W.cell? ⟨b8, off8 + j * 7 + 3, none⟩ = some (.int .i64 yo) ∧ W.cell? ⟨b8, off8 + j * 7 + 4, none⟩ = some (.int .i64 yw) ∧ W.cell? ⟨b8, off8 + j * 7 + 5, none⟩ = some (.int .i64 yk) ∧ W.cell? ⟨b8, off8 + j * 7 + 6, none⟩ = some (.string yx) ∧ W.cell? ⟨b8, off8 + (j - 1) * 7, none⟩ = some (.int .i64 zp) ∧ W.cell? ⟨b8, off8 + (j - 1) * 7 + 1, none⟩ = some (.int .i64 zn) ∧ W.cell? ⟨b8, off8 + (j - 1) * 7 + 2, none⟩ = some (.int .i64 zt) ∧ W.cell? ⟨b8, off8 + (j - 1) * 7 + 3, none⟩ = some (.int .i64 zo) ∧ W.cell? ⟨b8, off8 + (j - 1) * 7 + 4, none⟩ = some (.int .i64 zw) ∧ W.cell? ⟨b8, off8 + (j - 1) * 7 + 5, none⟩ = some (.int .i64 zk) ∧ W.cell? ⟨b8, off8 + (j - 1) * 7 + 6, none⟩ = some (.string zx) ∧ Below wx.heap.size wx W) := hide (fun W hW => by
              obtain ⟨y0, y1, y2, y3, y4, y5, y6⟩ := HCy.out W hW
              obtain ⟨z0, z1, z2, z3, z4, z5, z6⟩ := HCz.out W hW
              exact ⟨y0, y1, y2, y3, y4, y5, y6, z0, z1, z2, z3, z4, z5, z6, hW⟩)
            go_cut [133] from 102 to 133 (fun v wc => v = .bool false ∧ Below wx.heap.size wx wc)
            case first =>
              go_region_held3 (fun W => W.cell? ⟨b8, off8 + j * 7, none⟩ = some (.int .i64 yp) ∧ W.cell? ⟨b8, off8 + j * 7 + 1, none⟩ = some (.int .i64 yn) ∧ W.cell? ⟨b8, off8 + j * 7 + 2, none⟩ = some (.int .i64 yt) ∧ W.cell? ⟨b8, off8 + j * 7 + 3, none⟩ = some (.int .i64 yo) ∧ W.cell? ⟨b8, off8 + j * 7 + 4, none⟩ = some (.int .i64 yw) ∧ W.cell? ⟨b8, off8 + j * 7 + 5, none⟩ = some (.int .i64 yk) ∧ W.cell? ⟨b8, off8 + j * 7 + 6, none⟩ = some (.string yx) ∧ W.cell? ⟨b8, off8 + (j - 1) * 7, none⟩ = some (.int .i64 zp) ∧ W.cell? ⟨b8, off8 + (j - 1) * 7 + 1, none⟩ = some (.int .i64 zn) ∧ W.cell? ⟨b8, off8 + (j - 1) * 7 + 2, none⟩ = some (.int .i64 zt) ∧ W.cell? ⟨b8, off8 + (j - 1) * 7 + 3, none⟩ = some (.int .i64 zo) ∧ W.cell? ⟨b8, off8 + (j - 1) * 7 + 4, none⟩ = some (.int .i64 zw) ∧ W.cell? ⟨b8, off8 + (j - 1) * 7 + 5, none⟩ = some (.int .i64 zk) ∧ W.cell? ⟨b8, off8 + (j - 1) * 7 + 6, none⟩ = some (.string zx) ∧ Below wx.heap.size wx W)
                (first | exact HS.out _ (by assumption) | exact HS.out _ (bdrew (Below.refl _ _)) | (go_split_ands; first | exact HS.out _ (by assumption) | exact HS.out _ (bthen (by assumption) (by assumption)) | exact HS.out _ (balloc (by assumption) _) | exact HS.out _ (balloc (bthen (by assumption) (by assumption)) _)))
                (first | (go_split_ands; go_at_call 39; with_reducible refine (hBf _).mono ?_; rintro e w12 ⟨rfl, hb12⟩; have HD12 : Below wx.heap.size wx w12 := bthen (by assumption) hb12; clear hb12) | (go_split_ands; go_at_call 40; with_reducible refine (hOf.out _ (by assumption)).mono ?_; rintro e w13 ⟨rfl, hb13⟩; have HD13 : Below wx.heap.size wx w13 := bthen (by assumption) hb13; clear hb13) | (go_split_ands; go_at_call 37; refine (hKp.out w13 HD13).mono ?_; rintro e w14 ⟨rfl, hb14⟩; have HD14 : Below wx.heap.size wx w14 := bthen HD13 hb14; clear hb14))
              all_goals
                go_wp2_with fail
                go_meet
                exact ⟨rfl, HD14⟩
            case rest =>
              obtain ⟨rfl, hb14⟩ := hcut
              clear eaj paj baj raj caj qaj daj
              go_wp2_with fail
              have hw1 : wrap64 ((j : Int) + 1) = ((j + 1 : Nat) : Int) := (Go.IntWalk.wrap64_in _ (by omega)).trans rfl
              try rw [hw1]
              clear hw1
              refine ⟨⟨j + 1, by omega, by omega, rfl, bthen HX2.out hb14⟩, ?_⟩
              show nh - ((j : Int) + 1).toNat < nh - ((j : Nat) : Int).toNat
              omega
          · obtain rfl : j = nh := by omega
            have HW11 := hide (bthen HB10.out hbX)
            obtain ⟨g1, g2, g3, g4⟩ := H8.out wx HW11.out
            obtain ⟨⟨z0, z1, z2, z3, z4, z5, z6⟩, -⟩ := g4.all7
            have hzl := g4.lt
            clear z0 z1 z2 z4 z5 z6 hbX g1 g3 g4
            by_cases hro : 0 ≤ ro
            · have hrob : rootB ⟨rp, rn, rt, ro, rw', rk, rx⟩ = false := by rw [HO.out.of]; exact decide_eq_false (by dsimp only; omega)
              have HN1 : Hid (manyF r (r.take (k + 1)) = m ∧ holdF r (r.take (k + 1)) = hh) := hide (by rw [HT1.out.1, HT1.out.2, hrob]; simpa using hmh.out)
              clear g2
              go_wp2_with fail
              have hw1 : wrap64 ((k : Int) + 1) = ((k + 1 : Nat) : Int) := (Go.IntWalk.wrap64_in _ (by omega)).trans rfl
              try rw [hw1]
              clear hw1
              refine ⟨⟨k + 1, m, hh, hlt, rfl, rfl, rfl, by omega, by omega, HN1, bthen HB.out (bthen HB8.out HW11.out)⟩, ?_⟩
              show n - ((k : Int) + 1).toNat < n - ((k : Nat) : Int).toNat
              omega
            · have hrob : rootB ⟨rp, rn, rt, ro, rw', rk, rx⟩ = true := by rw [HO.out.of]; exact decide_eq_true (by dsimp only; omega)
              obtain ⟨k1, hk1⟩ : ∃ k1, k1 + 1 = j := ⟨j - 1, by omega⟩
              have hk1h : k1 < h.length := by have := HNh.out; omega
              obtain ⟨eh, hlast⟩ := HO.out.root hrob
              have hl2 := hlast (by omega)
              have e9 : h.length - 1 = k1 := by have := HNh.out; omega
              simp only [e9] at hl2
              obtain ⟨A2, hA2, hcut2⟩ := cut_last g2 hk8 hk1h hk1
              have hcl := (g2.cellsR (Below.refl _ _) hk1h).2
              have HL1 := hide (And.intro hl2.1 (And.intro hl2.2 (congrArg List.length eh)))
              generalize h[k1]'hk1h = lst at *
              obtain ⟨lp, ln, lt, lo, lw, lk, lx⟩ := lst
              obtain ⟨y0, y1, y2, y3, y4, y5, y6⟩ := hcl
              dsimp only at y0 y1 y2 y3 y4 y5 y6 HL1
              have HA2 := hide hA2
              have hb8x : b8 < wx.heap.size := Nat.lt_of_lt_of_le hbb8 HW11.out.size
              have rwa : IntKind.i64.wrap ((j : Int) - 1) = (k1 : Int) := (i64w (by omega) (by omega)).trans (by omega)
              have rwb : wrap64 ((j : Int) - 1) = (k1 : Int) := (Go.IntWalk.wrap64_in _ (by omega)).trans (by omega)
              have rk1 : (k1 : Int) < (j : Int) := by omega
              have rk0 : (0 : Int) ≤ (k1 : Int) := by omega
              clear g2 hl2 hlast eh hA2 e9
              go_upto_region 26 with (fail)
              have g16 := Blk.new wx 49 [.int .i64 lp, .int .i64 ln, .int .i64 lt, .int .i64 lo, .int .i64 lw, .int .i64 lk, .string lx]
              have hb12 := balloc (Below.refl wx.heap.size wx) (.cells #[.int .i64 lp, .int .i64 ln, .int .i64 lt, .int .i64 lo, .int .i64 lw, .int .i64 lk, .string lx] 49)
              generalize wx.alloc (.cells #[.int .i64 lp, .int .i64 ln, .int .i64 lt, .int .i64 lo, .int .i64 lw, .int .i64 lk, .string lx] 49) = w12 at *
              have hl12 := g16.lt
              have hc6 := fun x : BW w12 => (g16.below x.ok g16.lt).all7.1.2.2.2.2.2.2
              have HB12 := hide hb12
              have HW12 := hide (bthen HW11.out hb12)
              clear g16 hb12 y0 y1 y2 y3 y4 y5 y6 z3 hzl
              have hE := isE lx
              by_cases hz : lx.size = 0
              · rw [decide_eq_true hz] at hE
                have hvk : kpB (foldL r) [⟨lp, ln, lt, lo, lw, lk, lx⟩] = false := by rw [HL1.out.1]; simp [hz]
                have HKf : Hid (∀ W, Below w12.heap.size w12 W → Calls Tryz.prog 37 #[.slice A7 nf c7, .slice A2 1 (c8 - k1)] W fun e w' => e = .returned (.bool false) ∧ Below W.heap.size W w') := hide (fun W hW => by
                  have := c_lkeeps A7 nf c7 (foldL r) A2 1 (c8 - k1) [(⟨lp, ln, lt, lo, lw, lk, lx⟩ : Rc)] W (by omega) (by omega) (H8.out W (bthen HW12.out hW)).1.2 ((HA2.out.to' HB12.out).to' hW)
                  rw [hvk] at this
                  exact this)
                have HN1 : Hid (manyF r (r.take (k + 1)) = m + j ∧ holdF r (r.take (k + 1)) = hh) := hide (by
                  refine ⟨?_, ?_⟩
                  · rw [HT1.out.1, hmh.out.1, hrob, if_pos rfl, ← HL1.out.2.2, HNh.out]
                  · rw [HT1.out.2, hmh.out.2, hrob, HL1.out.2.1]; simp [hz])
                clear hz hvk
                go_wp2_with fail
                refine wp_region_bw w12 (Below.refl _ _) (by kernel_rfl) (by kernel_rfl) ?_
                repeat (go_big_quiet_step ((go_at_call 37; exact bw_call (HKf.out _ (BW.ok _)))))
                refine wpQuiet_nil ?_
                intro W4 hb4
                have hc64 := (hc6 ⟨W4, hb4⟩)
                dsimp only at hc64
                have hl64 := Nat.lt_of_lt_of_le hl12 hb4.size
                go_wp2_with fail


                refine ⟨⟨k + 1, m + j, hh, hlt, rfl, rfl, rfl, by omega, by omega, HN1, bthen HB.out (bthen HB8.out (bthen HW12.out hb4))⟩, ?_⟩
                show n - ((k : Int) + 1).toNat < n - ((k : Nat) : Int).toNat
                omega
              · rw [decide_eq_false hz] at hE
                have hvk : kpB (foldL r) [⟨lp, ln, lt, lo, lw, lk, lx⟩] = true := by rw [HL1.out.1]; simp [hz]
                have HKf : Hid (∀ W, Below w12.heap.size w12 W → Calls Tryz.prog 37 #[.slice A7 nf c7, .slice A2 1 (c8 - k1)] W fun e w' => e = .returned (.bool true) ∧ Below W.heap.size W w') := hide (fun W hW => by
                  have := c_lkeeps A7 nf c7 (foldL r) A2 1 (c8 - k1) [(⟨lp, ln, lt, lo, lw, lk, lx⟩ : Rc)] W (by omega) (by omega) (H8.out W (bthen HW12.out hW)).1.2 ((HA2.out.to' HB12.out).to' hW)
                  rw [hvk] at this
                  exact this)
                have HN1 : Hid (manyF r (r.take (k + 1)) = m + j ∧ holdF r (r.take (k + 1)) = hh + 1) := hide (by
                  refine ⟨?_, ?_⟩
                  · rw [HT1.out.1, hmh.out.1, hrob, if_pos rfl, ← HL1.out.2.2, HNh.out]
                  · rw [HT1.out.2, hmh.out.2, hrob, HL1.out.2.1]; simp [hz])
                clear hz hvk
                go_wp2_with fail
                refine wp_region_bw w12 (Below.refl _ _) (by kernel_rfl) (by kernel_rfl) ?_
                repeat (go_big_quiet_step ((go_at_call 37; exact bw_call (HKf.out _ (BW.ok _)))))
                refine wpQuiet_nil ?_
                intro W4 hb4
                have hc64 := (hc6 ⟨W4, hb4⟩)
                dsimp only at hc64
                have hl64 := Nat.lt_of_lt_of_le hl12 hb4.size
                go_wp2_with fail
                refine ⟨⟨k + 1, m + j, hh + 1, hlt, rfl, rfl, rfl, by omega, by omega, HN1, bthen HB.out (bthen HB8.out (bthen HW12.out hb4))⟩, ?_⟩
                show n - ((k : Int) + 1).toNat < n - ((k : Nat) : Int).toNat
                omega
      · obtain rfl : k = n := by omega
        have hrk : r.take k = r := by rw [← HM.out.2.2.2, List.take_length]
        rw [hrk] at hmh
        obtain rfl : m = k := by rw [← hmh.out.1, many_all HM.out.2.1]; exact HM.out.2.2.2
        obtain rfl : hh = nf := by rw [← hmh.out.2, hold_all]; exact HNf.out
        have HE := hide (bthen HB2.out.2.1 (bthen HB5.out (bthen HB6.out hbW)))
        clear hbW g5 g7 gR hmh hrk
        go_wp2_with fail
        go_ret
        exact ⟨rfl, HE.out⟩
end Go.Proofs.YtcfbgelhggapjaaGreatDoor
/- ReplicaHistories returns true for every input, and each argument reads afterwards as it read before. No condition but the row's own: the variable holds what the program's text lays. -/
namespace Go.Proofs.YtcfbgelhggapjaaGreatDoor
open Go.ChangeShapes Go.WideShapes Go.ChangeAt Go.RowKit
theorem histories_reads (os : Os) {H : Type} (enc : TypeId × Value → H) : ∃ places, DataW.whole enc Tryz.prog ((laidWorld os).forCall (fun _ _ => 0) ⟨#[], #[.slice none 0 0], []⟩).memory Tryz.f7.params.toList Rows.replicaHistoriesSpec.vars false ((#[.slice none 0 0] : Array Value)).toList 8 = some ([.nil], [], places) :=
  ⟨[], by kernel_rfl⟩
set_option maxHeartbeats 1600000 in
set_option maxRecDepth 100000 in
theorem histories_contract (H : Type) (enc : TypeId × Value → H) (W : World) (base : Nat) (args : Array Value) (ds gs : List (DataW H)) (before : List MemPlace)
    (hval0 : ∀ (j : Nat) t v, Tryz.f7.params[j]? = some t → args[j]? = some v → Value.okWide Tryz.prog W .any base t v)
    (hW : DataW.Whole enc Tryz.prog Tryz.f7.params.toList Rows.replicaHistoriesSpec.vars false W args.toList ds gs before) (hL : laidMetH Tryz.prog Rows.replicaHistoriesRow.laid W) :
    Calls Tryz.prog 7 args W fun e W' => ∃ v, e = .returned v ∧ Rows.replicaHistoriesSpec.post enc Tryz.prog Tryz.f7 false true false false W args v W' := by
  have hR : RL W := rl_of hL
  have hval : ∀ (j : Nat) t v, Tryz.f7.params[j]? = some t → args[j]? = some v → Value.okWide Tryz.prog W .any base t v := hval0
  have hW' := hW
  obtain ⟨p, q, hA0, hV, rfl, hfz, hnd⟩ := hW
  have hA : DataW.TrodAll enc Tryz.prog W 0 (fun _ => true) true Tryz.f7.params.toList args.toList ds p := hA0
  have hA1 := hA
  rw [Tryz.params7] at hA hval
  obtain ⟨v0, d0, rfl, rfl, h0⟩ := trodAll_one hA
  obtain ⟨rfl, rfl⟩ := trodVars_none hV
  obtain ⟨A0, x0, c0, rfl, hn0, hc0, hw0, hr0⟩ := open_sl4 (hval 0 22 v0 rfl rfl) h0
  refine (c_Histories A0 x0.length c0 x0 W hR (by omega) hw0 rfl hr0).mono fun e W' ⟨he, hB⟩ => ?_
  subst he
  refine ⟨_, rfl, _, _, _, [], _, [], hW', ?_, below_all hB ?_ hA1, rfl, hB.frame _, fun h => by cases h⟩
  · exact trodAll_mk1 (shut_bool Tryz.underlying4 true)
  · rw [Tryz.params7]
    intro t ht
    simp only [List.mem_cons, List.not_mem_nil, or_false] at ht
    rcases ht with rfl <;> exact ⟨by kernel_rfl, of_decide_eq_true (by kernel_rfl)⟩
set_option maxRecDepth 100000 in
theorem histories_lifted (os : Os) (started : os.Started) (H : Type) (enc : TypeId × Value → H) (F : Stop.Interp) :
    ReturnsInHanded {} Tryz.checked os 7 .any ((OpenSpec.ofChange Rows.replicaHistoriesSpec).preRow enc Tryz.prog Tryz.f7 Rows.replicaHistoriesRow.domain false Rows.replicaHistoriesRow.laid) (((OpenSpec.ofChange Rows.replicaHistoriesSpec).at F).post enc Tryz.prog Tryz.f7 false true false false) := by
  obtain ⟨places, hx⟩ := histories_reads os enc
  refine returnsInHanded_of_row (C := Tryz.checked) (s := OpenSpec.ofChange Rows.replicaHistoriesSpec) Tryz.own started (by kernel_rfl) Tryz.func7
    (witness_row_at (enc := enc) (C := Tryz.checked) false (laidWorld os) #[.slice none 0 0] rfl (by kernel_rfl) (by kernel_rfl) (by kernel_rfl)
      (OpenSpec.preRow_of_cond 8 hx (by kernel_rfl) (fun k hk => by cases hk) (by kernel_rfl) (laid_met os _))) ?_
  intro W base args ds gs before hval hW _ _ _ hL _ _
  exact histories_contract H enc W base args ds gs before hval hW hL
/-- ReplicaHistories: whatever the input, true; the input reads as it did. -/
theorem histories_said : Rows.ReplicaHistoriesSaid :=
  OpenClaim.holds_of_cond 7 Tryz.f7 rfl rfl rfl rfl rfl rfl rfl ⟨rfl, rfl, rfl, rfl, rfl⟩ rfl rfl rfl rfl rfl (by kernel_rfl) Tryz.func7 (by kernel_rfl)
    (of_decide_eq_true (by kernel_rfl)) (by unfold Func.isWrapper; first | (rw [if_pos (by decide +kernel)]; kernel_rfl) | (rw [if_neg (by decide +kernel)]; exact ⟨rfl, rfl⟩))
    (fun os started H enc _ F => by rw [OpenClaim.pre_eq_preRow]; exact histories_lifted os started H enc F)
/-- no parameter wants a stand-in; the program's own looks are off -/
theorem histories_plain (f : FuncId) (fn : Func) (hf : Tryz.pinned.checked.prog.funcNamed "slatewall/slatewalllaw35.ReplicaHistories" = some f) (hfn : Tryz.pinned.checked.prog.funcs[f]? = some fn) :
    false = Tryz.pinned.checked.prog.looks [] ∧ ∀ (j : Nat) t, fn.params[j]? = some t → Tryz.pinned.checked.prog.wantsStandIn t = false := by
  obtain rfl : f = 7 := Option.some.inj ((show Tryz.prog.funcNamed "slatewall/slatewalllaw35.ReplicaHistories" = some 7 by kernel_rfl).symm.trans hf) |>.symm
  obtain rfl : fn = Tryz.f7 := (Option.some.inj (Tryz.func7.symm.trans hfn)).symm
  refine ⟨by kernel_rfl, fun j t ht => ?_⟩
  rw [Tryz.params7] at ht
  have hm : t ∈ [22] := by simpa using Array.mem_of_getElem? ht
  have hall : ([22].all fun u => !Tryz.prog.wantsStandIn u) = true := by kernel_rfl
  exact (show Tryz.prog.wantsStandIn t = false by simpa using List.all_eq_true.1 hall t hm)
/-- THE CARD of ReplicaHistories. -/
theorem histories_holds : Rows.ReplicaHistoriesCardSaid :=
  Claim7.holds_tied_plain_at .later [] _ _ _ _ histories_said (fun _ h => by cases h) (by kernel_rfl) (fun _ h => by cases h) replicaHistories_row_tie rfl ⟨rfl, rfl⟩ (by kernel_rfl) rfl histories_plain (by kernel_rfl)
end Go.Proofs.YtcfbgelhggapjaaGreatDoor
#print axioms Go.Proofs.YtcfbgelhggapjaaGreatDoor.histories_holds
